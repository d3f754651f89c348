/- ShaResets: the walk. -/
import Derived.Test.YtaipgkbnmfjpfaaDoorShaSums
namespace Go.Proofs.YtaipgkbnmfjpfaaDoor
open Go.RowKit HP

set_option maxRecDepth 100000 in
set_option maxHeartbeats 1000000 in
theorem shaResets_walk (A : Option Addr) (n c : Nat) (xs : List UInt8) (A' : Option Addr) (n' c' : Nat) (ys : List UInt8) (w : World) (hr : RD w A xs) (hn : Hid (n = xs.length)) (hc : n ≤ c) (hb : n ≤ 140737488355200)
    (hr' : RD w A' ys) (hn' : Hid (n' = ys.length)) (hc' : n' ≤ c') (hb' : n' ≤ 140737488355200) (hk : KF w) :
    Calls Tryd.prog 8 #[.slice A n c, .slice A' n' c'] w fun e w' => e = .returned (.bool true) ∧ Kept w w' No := by
  have hks : ∀ R, Ent (since w :: R) KF := fun R => Ent.sinceK hk
  have hk1 : Ent [since w] KF := hks []
  have hr1 : Ent [since w] fun w => RD w A xs := Ent.since hr
  have hr2 : Ent [since w] fun w => RD w A' ys := Ent.since hr'
  have HAW := Lib.hid (shaawake_ok w _ (Holds.start w) hk1)
  have HNEW := Lib.hid (fun w' (R : List HP) (h : Holds w' R) => new_ok w' R h)
  have HW1 := Lib.hid (fun b w' (h : Holds w' (HashH b [] :: [since w])) => write_ok b [] xs A n c w' _ h hr1 hn hc hk1 (by simp; omega))
  have HRE := Lib.hid (fun b w' (h : Holds w' (HashH b ([] ++ xs) :: [since w])) => reset_ok b _ w' _ h)
  have HLE := Lib.hid (fun b (zs : List UInt8) w' (h : Holds w' (HashH b zs :: [since w])) => len_ok b zs w' _ h)
  have HSU := Lib.hid (fun b (R : List HP) w' (h : Holds w' (HashH b [] :: R)) (hkk : Ent R KF) => hsum_ok b [] w' _ h hkk (by simp))
  have HW2 := Lib.hid (fun b w' (h : Holds w' (HashH b [] :: [since w])) => write_ok b [] ys A' n' c' w' _ h hr2 hn' hc' hk1 (by simp; omega))
  have HSY := Lib.hid (fun b w' (h : Holds w' (HashH b ([] ++ ys) :: [since w])) => hsum_ok b ([] ++ ys) w' _ h hk1 (by simp; rw [← hn'.out]; omega))
  have HRS := Lib.hid (fun b w' (h : Holds w' (HashH b ([] ++ ys) :: [since w])) => rsum_ok A' n' c' ys w' _ h (hr2.cons _) hn' hb')
  have HK1 := Lib.hid hk1
  simp only [List.nil_append] at HW1 HRE HW2 HSY HRS
  have h32 := length_shaL ([] : List UInt8)
  have h32' := length_shaL ys
  generalize shaL [] = L at HSU h32
  generalize shaL ys = L' at HSY HRS h32'
  have hny : ((ys.length : Int) == (n' : Int)) = true := by rw [hn'.out]; simp
  clear hr hr' hk hks hk1 hr1 hr2
  go_enter Tryd.func8, Tryd.ntmps8
  go_wp2_with (first
    | (go_at_call 9; (with_reducible refine HAW.out.mono ?_); rintro e w1 ⟨rfl, hh⟩; have HH0 := Lib.hid hh; clear hh)
    | (go_at_call 15; (with_reducible refine (HNEW.out _ _ HH0.out).mono ?_); rintro e w2 ⟨b, rfl, hh⟩; have HH1 := Lib.hid hh; clear hh HH0)
    | (go_at_call 16; (with_reducible refine (HW1.out _ _ HH1.out).mono ?_); rintro e w3 ⟨rfl, hh⟩; have HH2 := Lib.hid hh; clear hh HH1 HW1)
    | (go_at_call 19; (with_reducible refine (HRE.out _ _ HH2.out).mono ?_); rintro e w4 ⟨rfl, hh⟩; have HH3 := Lib.hid hh; clear hh HH2)
    | (go_at_call 18; (with_reducible refine (HLE.out _ _ _ HH3.out).mono ?_); rintro e w5 ⟨rfl, rfl⟩; have HH4 := Lib.hid HH3.out; clear HH3)
    | (go_at_call 17; (with_reducible refine (HSU.out _ _ _ HH4.out HK1.out).mono ?_); rintro e w6 ⟨rfl, hh⟩; have HH5 := Lib.hid hh; clear hh HH4)
    | (go_at_call 15; (with_reducible refine (HNEW.out _ _ HH5.out).mono ?_); rintro e w7 ⟨b2, rfl, hh⟩; have HH6 := Lib.hid hh; clear hh HH5)
    | (go_at_call 17; (with_reducible refine (HSU.out _ _ _ HH6.out (HK1.out.cons _)).mono ?_); rintro e w8 ⟨rfl, hh⟩; have HH7 := Lib.hid hh.tail; clear hh HH6)
    | (go_at_call 16; (with_reducible refine (HW2.out _ _ HH7.out).mono ?_); rintro e w9 ⟨rfl, hh⟩; have HH8 := Lib.hid hh; clear hh HH7)
    | (go_at_call 17; (with_reducible refine (HSY.out _ _ HH8.out).mono ?_); rintro e w10 ⟨rfl, hh⟩; have HH9 := Lib.hid hh; clear hh HH8)
    | (go_at_call 11; (with_reducible refine (HRS.out _ _ HH9.out).mono ?_); rintro e w11 ⟨rfl, hh⟩; have HH10 := Lib.hid hh; clear hh HH9)
    | (go_at_call 18; (with_reducible refine (HLE.out _ _ _ HH10.out).mono ?_); rintro e w12 ⟨rfl, rfl⟩; have HH11 := Lib.hid HH10.out; clear HH10))
  go_returns
  exact ⟨rfl, HH11.out.tail.since_kept⟩
end Go.Proofs.YtaipgkbnmfjpfaaDoor
