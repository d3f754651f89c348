/- ShaSums: the walk. -/
import Derived.Test.YtaipgkbnmfjpfaaDoorShaLaws
namespace Go.Proofs.YtaipgkbnmfjpfaaDoor
open Go.RowKit HP

theorem KF.kept {w w' : World} (h : KF w) (hk : Kept w w' No) : KF w' := fun i hi => by
  have := h i hi
  rw [hk.cell (block_lt_of_cell this) (fun h => h)]; exact this
theorem Ent.sinceK {w0 : World} {R : List HP} (h : KF w0) : Ent (HP.since w0 :: R) KF := fun _ hw => h.kept hw.since_kept

set_option maxRecDepth 100000 in
set_option maxHeartbeats 1000000 in
theorem shaSums_walk (A : Option Addr) (n c : Nat) (xs : List UInt8) (w : World) (hr : RD w A xs) (hn : Hid (n = xs.length)) (hc : n ≤ c) (hb : n ≤ 140737488355200) (hk : KF w) :
    Calls Tryd.prog 3 #[.slice A n c] w fun e w' => e = .returned (.bool true) ∧ Kept w w' No := by
  have hk' : Ent [since w] KF := Ent.sinceK hk
  have hr' : Ent [since w] fun w => RD w A xs := Ent.since hr
  have hl : xs.length ≤ 1152921504606846976 := by rw [← hn.out]; omega
  have HAW := Lib.hid (shaawake_ok w _ (Holds.start w) hk')
  have HSB := Lib.hid (fun w' (h : Holds w' [since w]) => sumb_ok A n c xs w' _ h hr' hn hc hk' hl)
  have HRS := Lib.hid (fun w' (h : Holds w' [since w]) => rsum_ok A n c xs w' _ h hr' hn hb)
  have HOF := Lib.hid (fun w' (h : Holds w' [since w]) => of_ok (some ⟨w'.heap.size, 0, none⟩) 1 1 [⟨A, n, c, xs⟩] (w'.alloc (.cells #[.slice A n c] 22)) _ (h.alloc 22 #[.slice A n c]) (Ent.parts1 hr' hn hc) rfl (by omega) (hk'.cons _) (by simpa [bsAll] using hl))
  rw [show bsAll [⟨A, n, c, xs⟩] = xs by simp [bsAll]] at HOF
  have h32 := length_shaL xs
  generalize shaL xs = L at HSB HRS HOF h32
  clear hr hk hk' hr' hl
  go_enter Tryd.func3, Tryd.ntmps3
  go_wp2_with (first
    | (go_at_call 9; (with_reducible refine HAW.out.mono ?_); rintro e w1 ⟨rfl, hh1⟩; have HH := Lib.hid hh1; clear hh1)
    | (go_at_call 10; (with_reducible refine (HSB.out _ HH.out).mono ?_); rintro e w2 ⟨rfl, hh2⟩; have HH2 := Lib.hid hh2; clear hh2)
    | (go_at_call 11; (with_reducible refine (HRS.out _ HH2.out).mono ?_); rintro e w3 ⟨rfl, hh3⟩; have HH3 := Lib.hid hh3; clear hh3 HH2)
    | (go_at_call 12; (with_reducible refine (HOF.out _ HH3.out).mono ?_); rintro e w4 ⟨rfl, hh4⟩; have HH4 := Lib.hid hh4.tail; clear hh4)
    | (go_at_call 11; (with_reducible refine (HRS.out _ HH4.out).mono ?_); rintro e w5 ⟨rfl, hh5⟩; have HH5 := Lib.hid hh5; clear hh5))
  go_returns
  exact ⟨rfl, HH5.out.since_kept⟩
end Go.Proofs.YtaipgkbnmfjpfaaDoor
