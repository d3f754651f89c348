/- the reference's frames: the sum, and whether bytes may begin a frame -/
import Derived.Test.YtibkngjacdggpaaDoorFrameD
namespace Go.Proofs.YtibkngjacdggpaaDoor
open Go.RowKit HP

theorem rnumb_at (n k : Nat) (K : Int) (hK : K = k) (hk : k ≤ 8) (w : World) (R : List HP) (hh : Holds w R) :
    Calls Tryd.prog 61 #[.int .u64 n, .int .i64 K] w fun e w' => ∃ v, e = .returned v ∧ Holds w' (own v (beL n k) :: R) := by
  subst hK
  exact rnumb_ok n k hk w R hh
set_option maxRecDepth 100000 in
set_option maxHeartbeats 1000000 in
theorem rsumf_ok (t : UInt8) (A : Option Addr) (n c : Nat) (xs : List UInt8) (w : World) (R : List HP) (hh : Holds w R) (hr : Ent R fun w => RD w A xs) (hn : Hid (n = xs.length)) (hc : n ≤ c) (hb : n ≤ 140737488355000) :
    Calls Tryd.prog 90 #[.int .u8 (t.toNat : Int), .slice A n c] w fun e w' => ∃ g, e = .returned (.slice (some ⟨g, 0, none⟩) 4 32) ∧ Holds w' (rb (some ⟨g, 0, none⟩) (sumF (frontF t xs) xs) :: R) := by
  have hh0 : Holds (w.alloc (.cells #[.int .u8 (t.toNat : Int)] 5)) (own (.slice (some ⟨w.heap.size, 0, none⟩) 1 1) [t] :: R) := (hh.alloc 5 (bcs [t]).toArray).own_of_blk (xs := [t]) (by simp [maxLen])
  have e2 : ∀ A1 n1 c1, bsAll [⟨some ⟨w.heap.size, 0, none⟩, 1, 1, [t]⟩, ⟨A1, n1, c1, beL n 2⟩, ⟨A, n, c, xs⟩] = frontF t xs ++ xs := fun A1 n1 c1 => by simp [bsAll, frontF, hn.out]
  have hl : (frontF t xs ++ xs).length = n + 3 := by rw [hn.out]; simp [frontF]; omega
  have HN := Lib.hid (rnumb_at n 2 2 rfl (by omega) _ _ hh0)
  have HJ := Lib.hid (fun w1 A1 n1 c1 (h : Holds w1 (own (.slice A1 n1 c1) (beL n 2) :: own (.slice (some ⟨w.heap.size, 0, none⟩) 1 1) [t] :: R)) (hn1 : Hid (n1 = (beL n 2).length)) (hc1 : n1 ≤ c1) =>
    join_ok (some ⟨w1.heap.size, 0, none⟩) 3 3 [⟨some ⟨w.heap.size, 0, none⟩, 1, 1, [t]⟩, ⟨A1, n1, c1, beL n 2⟩, ⟨A, n, c, xs⟩] _ _ (h.alloc 23 #[.slice (some ⟨w.heap.size, 0, none⟩) 1 1, .slice A1 n1 c1, .slice A n c])
      (Ent.parts rfl (Ent.oks (Ent.own.cons _) rfl (by omega) (Ent.oks Ent.own hn1 hc1 (Ent.oks ((hr.cons _).cons _) hn hc Ent.oks_nil)))) rfl (by omega) (by rw [e2, hl]; omega))
  simp only [e2] at HJ
  have HS := Lib.hid (fun w1 A1 n1 c1 R1 (h : Holds w1 (own (.slice A1 n1 c1) (frontF t xs ++ xs) :: R1)) (hn1 : Hid (n1 = (frontF t xs ++ xs).length)) => rsum_ok A1 n1 c1 (frontF t xs ++ xs) w1 _ h Ent.own hn1 (by rw [hn1.out, hl]; omega))
  have h32 : (shaL (frontF t xs ++ xs)).length = 32 := length_shaL' _
  have hs : sumF (frontF t xs) xs = (shaL (frontF t xs ++ xs)).take 4 := rfl
  generalize shaL (frontF t xs ++ xs) = L at HS h32 hs
  have HSM := Lib.hid hs
  have HQ := Lib.hid (show (Tryd.prog.info? 22).map (·.size) = some (bcs L).toArray.size by rw [Tryd.sizeHash]; simp [h32])
  have H32 := Lib.hid h32
  have H1B := Lib.hid (show ∀ v ∈ (bcs L).toArray.toList, v.oneCell' = true from bcs_one)
  clear hh hr hs h32 e2 hl hh0
  go_enter Tryd.func90, Tryd.ntmps90
  go_wp2_with (first
    | (go_at_call 61; (with_reducible refine HN.out.mono ?_); rintro e w1 ⟨v1, rfl, hh1⟩; obtain ⟨A1, n1, c1, rfl, hn1, hc1, -⟩ := hh1.own_form; have HH1 := Lib.hid hh1; clear hh1)
    | (go_at_call 53; (with_reducible refine (HJ.out _ _ _ _ HH1.out hn1 hc1).mono ?_); rintro e w2 ⟨v2, rfl, hh2⟩; obtain ⟨A2, n2, c2, rfl, hn2, hc2, -⟩ := hh2.own_form; have HH2 := Lib.hid hh2; clear hh2)
    | (go_at_call 34; (with_reducible refine (HS.out _ _ _ _ _ HH2.out hn2).mono ?_); rintro e w3 ⟨rfl, hh3⟩; have HH3 := Lib.hid hh3.tail.tail.tail.tail; clear hh3)
    | ((with_reducible refine (?_ : wpList _ _ _ [_] _ _)); refine wpList_store_blk rfl 22 (.tmp 5) (.tmp 15) rfl w3.heap.size 0 (bcs L).toArray rfl rfl 22 _ (Blk.new _ _ _) HQ.out (by rw [show (bcs L).toArray.size = 32 by simp [H32.out]]; exact Nat.le_refl _) H1B.out ?_; (
       intro w4 hb4 hk4
       rw [putA_all _ _ (by simp [H32.out])] at hb4
       have HH4 := Lib.hid ((HH3.out.alloc 22 _).reblk hb4 hk4)
       clear hb4 hk4)))
  go_returns
  refine ⟨_, rfl, ?_⟩
  refine HH4.out.rb_of_blk ?_
  rw [HSM.out]
  simp [bcs, H32.out, List.map_take]

/-- a byte of the first three is another one -/
theorem begins_no {xs : List UInt8} {k : Nat} (hk : k < xs.length) (h3 : k < 3) (h : xs.getD k 0 ≠ magB.getD k 0) : beginsF xs = false := by
  have : (xs.take 3 == magB.take (min xs.length 3)) = false := by
    rw [beq_eq_false_iff_ne]
    intro e
    have h1 := congrArg (fun l => l.getD k 0) e
    simp only [List.getD_eq_getElem?_getD, List.getElem?_take] at h1
    rw [if_pos (by omega), if_pos (by omega)] at h1
    exact h (by simpa [List.getD] using h1)
  unfold beginsF
  rw [this]
  rfl
end Go.Proofs.YtibkngjacdggpaaDoor
