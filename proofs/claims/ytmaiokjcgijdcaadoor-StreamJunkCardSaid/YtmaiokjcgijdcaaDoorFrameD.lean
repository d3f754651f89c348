/- a frame's bytes -/
import Derived.Test.YtmaiokjcgijdcaaDoorFrameC
import Derived.Test.YtmaiokjcgijdcaaDoorRefSum
import Derived.Test.YtmaiokjcgijdcaaDoorSl
namespace Go.Proofs.YtmaiokjcgijdcaaDoor
open Go.RowKit HP

/-- two operations may come up -/
theorem effH2 {P : Program} {md : Region.Mode} {l : List Oper} {Q : Exit → Act → World → Prop} {S : World → Prop} (i j : Nat) {oi oj : Oper} {fuel : Nat} {listed : Array Bool} {a : Act} {w : World} (hi : nthOp l i = some oi) (hj : nthOp l j = some oj)
    (hr : Region.ready md l.toArray listed = [i, j]) (hwi : Region.wanted oi (yielded l.toArray a.tmps) = true) (hwj : Region.wanted oj (yielded l.toArray a.tmps) = true)
    (h1 : ∀ K' : Act → World → Prop, Shut (∀ a w, S w → (S w → wpAnyH P md l.toArray Q S fuel (listed.setIfInBounds i true) a w) → K' a w) → Oper.wp P oi a w K' Q)
    (h2 : ∀ K' : Act → World → Prop, Shut (∀ a w, S w → (S w → wpAnyH P md l.toArray Q S fuel (listed.setIfInBounds j true) a w) → K' a w) → Oper.wp P oj a w K' Q) : wpAnyH P md l.toArray Q S (fuel + 1) listed a w :=
  wpAnyH_ready hr (by simp) (AllReadyH.cons (by rw [List.getElem?_toArray, ← nthOp_eq]; exact hi) (fun K hK => by rw [if_pos hwi]; exact h1 K hK)
    (AllReadyH.cons (by rw [List.getElem?_toArray, ← nthOp_eq]; exact hj) (fun K hK => by rw [if_pos hwj]; exact h2 K hK) AllReadyH.nil))
set_option maxRecDepth 100000 in
set_option maxHeartbeats 1000000 in
theorem fencode_ok (t : UInt8) (A : Option Addr) (n c : Nat) (xs : List UInt8) (w : World) (R : List HP) (hh : Holds w R) (hr : Ent R fun w => RD w A xs) (hn : Hid (n = xs.length)) (hc : n ≤ c) (hb : n ≤ 140737488355200) (hk : Ent R KF) :
    Calls Tryd.prog 13 #[.agg #[.int .u8 (t.toNat : Int), .slice A n c]] w fun e w' => ∃ v, e = .returned (.tuple #[v, .int .i64 (encF t xs).2]) ∧ Holds w' (own v (encF t xs).1 :: R) := by
  have hh0 := hh.alloc 28 #[.int .u8 (t.toNat : Int), .slice A n c]
  have c0 : (w.alloc (.cells #[.int .u8 (t.toNat : Int), .slice A n c] 28)).cell? ⟨w.heap.size, 0, none⟩ = some (.int .u8 (t.toNat : Int)) := (hh0.cells 0).trans rfl
  have c1 : (w.alloc (.cells #[.int .u8 (t.toNat : Int), .slice A n c] 28)).cell? ⟨w.heap.size, 1, none⟩ = some (.slice A n c) := (hh0.cells 1).trans rfl
  by_cases h0 : t = 0
  · have HF : Hid (encF t xs = ([], 1)) := by unfold Hid encF; rw [if_pos h0]
    have h0I : (t.toNat : Int) = 0 := by rw [h0]; rfl
    have HH : Hid (Holds (w.alloc (.cells #[.int .u8 0, .slice A n c] 28)) (own (.slice none 0 0) [] :: R)) := by
      have := hh0.tail.nil_own
      rwa [h0I] at this
    clear hh hr hk hh0 h0
    go_enter Tryd.func13, Tryd.ntmps13
    go_wp2
    go_returns
    exact ⟨.slice none 0 0, by rw [HF.out]; rfl, by rw [HF.out]; exact HH.out⟩
  · have h0I := u8_zero h0
    by_cases h1 : 1000 < n
    · have HF : Hid (encF t xs = ([], 5)) := by unfold Hid encF; rw [if_neg h0, if_pos (by rw [← hn.out]; exact h1)]
      have HH := Lib.hid hh0.tail.nil_own
      clear hh hr hk hh0 h0
      go_enter Tryd.func13, Tryd.ntmps13
      go_wp2
      go_returns
      exact ⟨.slice none 0 0, by rw [HF.out]; rfl, by rw [HF.out]; exact HH.out⟩
    · have HF : Hid (encF t xs = (encB t xs, 0)) := by unfold Hid encF; rw [if_neg h0, if_neg (by rw [← hn.out]; exact h1)]
      have ht := t.toNat_lt
      have hwn1 : wnum ([], false) t.toNat 1 = (beL t.toNat 1, false) := by
        simp [wnum, szB, fitsB]; omega
      have hwn2 : wnum (beL t.toNat 1, false) n 2 = (beL t.toNat 1 ++ beL n 2, false) := by
        simp [wnum, szB, fitsB]; omega
      have hfr : beL t.toNat 1 ++ beL n 2 = frontF t xs := by
        rw [frontF, hn.out]
        simp [beL]
      have hh1 := (hh0.alloc 60 #[.slice none 0 0, .bool false]).wr_new
      rw [heap_size_alloc] at hh1
      have hcc : ∀ w', Holds w' (WrH (w.heap.size + 1) (beL t.toNat 1, false) :: blk w.heap.size 28 #[.int .u8 (t.toNat : Int), .slice A n c] :: R) → w'.cell? ⟨w.heap.size, 0, none⟩ = some (.int .u8 (t.toNat : Int)) ∧ w'.cell? ⟨w.heap.size, 1, none⟩ = some (.slice A n c) := fun w' h => ⟨(h.tail.cells 0).trans rfl, (h.tail.cells 1).trans rfl⟩
      have HN1 := Lib.hid (number_sl t.toNat (by omega) 1 hh1 (by simp))
      have HN2 := Lib.hid (fun w' (h : Holds w' (WrH (w.heap.size + 1) (beL t.toNat 1, false) :: blk w.heap.size 28 #[.int .u8 (t.toNat : Int), .slice A n c] :: R)) => number_sl n (by omega) 2 h (by simp))
      have HBY := Lib.hid (fun w' (h : Holds w' (WrH (w.heap.size + 1) (frontF t xs, false) :: blk w.heap.size 28 #[.int .u8 (t.toNat : Int), .slice A n c] :: R)) => bytes_sl h (by simp [frontF]))
      rw [show wbytes (frontF t xs, false) = frontF t xs from rfl] at HBY
      rw [hwn1] at HN1
      rw [hwn2, hfr] at HN2
      have HCC := Lib.hid hcc
      have HR := Lib.hid hr; have HK := Lib.hid hk
      clear hh hr hk hh0 h0 hh1 hcc hwn1 hwn2 hfr
      go_enter Tryd.func13, Tryd.ntmps13
      go_wp2_with (first
        | (go_at_call 27; (with_reducible refine HN1.out.mono ?_); rintro e w1 ⟨rfl, hh1⟩; have hca := (HCC.out _ hh1).1; have hcb := (HCC.out _ hh1).2; have HH1 := Lib.hid hh1; clear hh1)
        | (go_at_call 27; (with_reducible refine (HN2.out _ HH1.out).mono ?_); rintro e w2 ⟨rfl, hh2⟩; have HH2 := Lib.hid hh2; clear hh2)
        | (go_at_call 28; (with_reducible refine (HBY.out _ HH2.out).mono ?_); rintro e w3 ⟨v3, rfl, hh3⟩; have HH3 := Lib.hid hh3; clear hh3))
      obtain ⟨A3, n3, c3, rfl, hn3, hc3, -⟩ := HH3.out.own_form
      have hk0 := HH3.out.drew
      refine wp_region_held_drew (S := fun w' => Holds w' (own (.slice A3 n3 c3) (frontF t xs) :: WrH (w.heap.size + 1) (frontF t xs, false) :: blk w.heap.size 28 #[.int .u8 (t.toNat : Int), .slice A n c] :: R)) (by kernel_rfl) ?_ (fun hHeld => ?_)
      · exact hk0
      have HCD := Lib.hid (fun w' (h : Holds w' (own (.slice A3 n3 c3) (frontF t xs) :: WrH (w.heap.size + 1) (frontF t xs, false) :: blk w.heap.size 28 #[.int .u8 (t.toNat : Int), .slice A n c] :: R)) => show w'.cell? ⟨w.heap.size, 1, none⟩ = some (.slice A n c) from (h.tail.tail.cells 1).trans rfl)
      refine takeH 2 ?_ rfl (by kernel_rfl) (by kernel_rfl) (by kernel_rfl) (fun _ _ _ h => h) (by kernel_rfl) (by assumption) (fun w hSw => ?_) ?_
      rotate_left
      · (try dsimp only at hSw); go_simp <;> (try with_reducible rfl)
      try simp only [Act.put, List.setIfInBounds_toArray, List.set_cons_zero, List.set_cons_succ]
      refine takeH 3 ?_ rfl (by kernel_rfl) (by kernel_rfl) (by kernel_rfl) (fun _ _ _ h => h) (by kernel_rfl) (by assumption) (fun w hSw => ?_) ?_
      rotate_left
      · (try dsimp only at hSw); go_simp <;> (try with_reducible rfl)
      try simp only [Act.put, List.setIfInBounds_toArray, List.set_cons_zero, List.set_cons_succ]
      refine takeH 4 ?_ rfl (by kernel_rfl) (by kernel_rfl) (by kernel_rfl) (fun _ _ _ h => h) (by kernel_rfl) (by assumption) (fun w hSw => ?_) ?_
      rotate_left
      · (try dsimp only at hSw); go_simp <;> (try with_reducible rfl)
      try simp only [Act.put, List.setIfInBounds_toArray, List.set_cons_zero, List.set_cons_succ]
      refine takeH 5 (.slice A n c) rfl (by kernel_rfl) (by kernel_rfl) (by kernel_rfl) (fun _ _ _ h => h) (by kernel_rfl) (by assumption) (fun w hSw => ?_) ?_
      · have hcb := (HCD.out _ hSw)
        go_simp
      try simp only [Act.put, List.setIfInBounds_toArray, List.set_cons_zero, List.set_cons_succ]
      refine takeH 7 ?_ rfl (by kernel_rfl) (by kernel_rfl) (by kernel_rfl) (fun _ _ _ h => h) (by kernel_rfl) (by assumption) (fun w hSw => ?_) ?_
      rotate_left
      · (try dsimp only at hSw); go_simp <;> (try with_reducible rfl)
      try simp only [Act.put, List.setIfInBounds_toArray, List.set_cons_zero, List.set_cons_succ]
      refine takeH 8 (.slice A n c) rfl (by kernel_rfl) (by kernel_rfl) (by kernel_rfl) (fun _ _ _ h => h) (by kernel_rfl) (by assumption) (fun w hSw => ?_) ?_
      · have hcb := (HCD.out _ hSw)
        go_simp
      try simp only [Act.put, List.setIfInBounds_toArray, List.set_cons_zero, List.set_cons_succ]
      refine effH2 0 6 rfl rfl (by kernel_rfl) (by kernel_rfl) (by kernel_rfl) (fun K hK => ?_) (fun K hK => ?_)
      · go_simp
        have hk1 : Holds ((w3.alloc (.cells #[.int .u8 114, .int .u8 100, .int .u8 1] 5)).drew) (blk w3.heap.size 5 #[.int .u8 114, .int .u8 100, .int .u8 1] :: _) := hk0.alloc 5 #[.int .u8 114, .int .u8 100, .int .u8 1]
        refine hK.out _ _ hk1.tail (fun hHeld => ?_)
        clear hK K
        generalize hg3 : w3.heap.size = g3 at hk1 ⊢
        generalize (w3.alloc (.cells #[.int .u8 114, .int .u8 100, .int .u8 1] 5)).drew = wa at hk1 hHeld ⊢
        refine effH2 1 6 rfl rfl (by kernel_rfl) (by kernel_rfl) (by kernel_rfl) (fun K hK => ?_) (fun K hK => ?_)
        · have hcm : (convert 22 22 (.slice (some ⟨g3, 0, none⟩) 3 3)).run Tryd.prog wa = .ok (.slice (some ⟨g3, 0, none⟩) 3 3) (wa.freeze ⟨g3, 3, none⟩ 1) := run_convert_mark wa 22 5 g3 #[.int .u8 114, .int .u8 100, .int .u8 1] 3 3 Tryd.underlying22 Tryd.underlying5 hk1.blk_heap
          have hkm : Holds (wa.freeze ⟨g3, 3, none⟩ 1) _ := hk1.mark (xs := magB) rfl
          generalize wa.freeze ⟨g3, 3, none⟩ 1 = wb at hcm hkm
          go_simp
          refine hK.out _ _ hkm.tail (fun hHeld => ?_)
          clear hK K hHeld
          refine effH 6 rfl (by kernel_rfl) (by kernel_rfl) (fun K hK => ?_)
          go_simp
          refine (fsum_ok A3 n3 c3 (frontF t xs) A n c xs _ _ hkm (Ent.own.cons _) hn3 hc3 (HR.out.cons _ |>.cons _ |>.cons _ |>.cons _) hn hc (HK.out.cons _ |>.cons _ |>.cons _ |>.cons _) (by rw [hn3.out, show (frontF t xs).length = 3 by simp [frontF]]; omega)).mono ?_
          rintro e w4 ⟨gs, rfl, hh4⟩
          refine hK.out _ _ hh4.tail.tail (fun hHeld => ?_)
          clear hK K hHeld
          have hk2 := hh4.pull 1 rfl
          clear hh4 hk1 hk0 hkm hcm
          have e4 : bsAll [⟨some ⟨g3, 0, none⟩, 3, 3, magB⟩, ⟨A3, n3, c3, frontF t xs⟩, ⟨some ⟨gs, 0, none⟩, 4, 32, sumF (frontF t xs) xs⟩, ⟨A, n, c, xs⟩] = encB t xs := by simp [bsAll, encB]
          refine effH 9 rfl (by kernel_rfl) (by kernel_rfl) (fun K hK => ?_)
          go_simp
          have hk3 := hk2.alloc 22 #[.slice (some ⟨g3, 0, none⟩) 3 3, .slice A3 n3 c3, .slice (some ⟨gs, 0, none⟩) 4 32, .slice A n c]
          refine hK.out _ _ (hk3.tail.tail.tail) (fun hHeld => ?_)
          clear hK K hHeld
          refine effH 10 rfl (by kernel_rfl) (by kernel_rfl) (fun K hK => ?_)
          go_simp
          refine (concat_ok (some ⟨w4.heap.size, 0, none⟩) 4 4 [⟨some ⟨g3, 0, none⟩, 3, 3, magB⟩, ⟨A3, n3, c3, frontF t xs⟩, ⟨some ⟨gs, 0, none⟩, 4, 32, sumF (frontF t xs) xs⟩, ⟨A, n, c, xs⟩] _ _ hk3 (Ent.parts rfl (Ent.oks Ent.rb rfl (by omega) (Ent.oks ((Ent.own.cons _).cons _) hn3 hc3 (Ent.oks (Ent.rb.cons _) (by simp [Hid]) (by omega) (Ent.oks (HR.out.cons _ |>.cons _ |>.cons _ |>.cons _ |>.cons _) hn hc Ent.oks_nil))))) rfl (by omega) (by rw [e4, length_encB, ← hn.out]; omega)).mono ?_
          rintro e w9 ⟨v9, rfl, hh9⟩
          rw [e4] at hh9
          refine hK.out _ _ (hh9.tail.tail.tail.tail) (fun hHeld => ?_)
          clear hK K
          have HH9 := Lib.hid (hh9.drop 1 rfl |>.drop 1 rfl |>.drop 1 rfl |>.drop 1 rfl |>.drop 1 rfl |>.drop 1 rfl)
          clear hh9
          refine takeH 11 ?_ rfl (by kernel_rfl) (by kernel_rfl) (by kernel_rfl) (fun _ _ _ h => h) (by kernel_rfl) (by assumption) (fun w hSw => ?_) ?_
          rotate_left
          · (try dsimp only at hSw); go_simp <;> (try with_reducible rfl)
          try simp only [Act.put, List.setIfInBounds_toArray, List.set_cons_zero, List.set_cons_succ]
          refine takeH 12 ?_ rfl (by kernel_rfl) (by kernel_rfl) (by kernel_rfl) (fun _ _ _ h => h) (by kernel_rfl) (by assumption) (fun w hSw => ?_) ?_
          rotate_left
          · (try dsimp only at hSw); go_simp <;> (try with_reducible rfl)
          try simp only [Act.put, List.setIfInBounds_toArray, List.set_cons_zero, List.set_cons_succ]
          refine wpAnyH_done (by kernel_rfl) ?_ _
          go_wp2
          go_returns
          exact ⟨v9, by rw [HF.out]; rfl, by rw [HF.out]; exact HH9.out⟩
        · go_simp
          refine (fsum_ok A3 n3 c3 (frontF t xs) A n c xs _ _ hk1 (Ent.own.cons _) hn3 hc3 (HR.out.cons _ |>.cons _ |>.cons _ |>.cons _) hn hc (HK.out.cons _ |>.cons _ |>.cons _ |>.cons _) (by rw [hn3.out, show (frontF t xs).length = 3 by simp [frontF]]; omega)).mono ?_
          rintro e w4 ⟨gs, rfl, hh4⟩
          refine hK.out _ _ hh4.tail.tail (fun hHeld => ?_)
          clear hK K hHeld
          have hk2 := hh4.pull 1 rfl
          have hcm : (convert 22 22 (.slice (some ⟨g3, 0, none⟩) 3 3)).run Tryd.prog w4 = .ok (.slice (some ⟨g3, 0, none⟩) 3 3) (w4.freeze ⟨g3, 3, none⟩ 1) := run_convert_mark w4 22 5 g3 #[.int .u8 114, .int .u8 100, .int .u8 1] 3 3 Tryd.underlying22 Tryd.underlying5 hk2.blk_heap
          have hkm : Holds (w4.freeze ⟨g3, 3, none⟩ 1) _ := hk2.mark (xs := magB) rfl
          generalize w4.freeze ⟨g3, 3, none⟩ 1 = wb at hcm hkm
          clear hk2 hh4 hk1 hk0
          refine effH 1 rfl (by kernel_rfl) (by kernel_rfl) (fun K hK => ?_)
          go_simp
          refine hK.out _ _ hkm.tail.tail (fun hHeld => ?_)
          clear hK K hHeld
          have hk2 := hkm
          clear hcm hkm
          have e4 : bsAll [⟨some ⟨g3, 0, none⟩, 3, 3, magB⟩, ⟨A3, n3, c3, frontF t xs⟩, ⟨some ⟨gs, 0, none⟩, 4, 32, sumF (frontF t xs) xs⟩, ⟨A, n, c, xs⟩] = encB t xs := by simp [bsAll, encB]
          refine effH 9 rfl (by kernel_rfl) (by kernel_rfl) (fun K hK => ?_)
          go_simp
          have hk3 := hk2.alloc 22 #[.slice (some ⟨g3, 0, none⟩) 3 3, .slice A3 n3 c3, .slice (some ⟨gs, 0, none⟩) 4 32, .slice A n c]
          refine hK.out _ _ (hk3.tail.tail.tail) (fun hHeld => ?_)
          clear hK K hHeld
          refine effH 10 rfl (by kernel_rfl) (by kernel_rfl) (fun K hK => ?_)
          go_simp
          refine (concat_ok (some ⟨wb.heap.size, 0, none⟩) 4 4 [⟨some ⟨g3, 0, none⟩, 3, 3, magB⟩, ⟨A3, n3, c3, frontF t xs⟩, ⟨some ⟨gs, 0, none⟩, 4, 32, sumF (frontF t xs) xs⟩, ⟨A, n, c, xs⟩] _ _ hk3 (Ent.parts rfl (Ent.oks Ent.rb rfl (by omega) (Ent.oks ((Ent.own.cons _).cons _) hn3 hc3 (Ent.oks (Ent.rb.cons _) (by simp [Hid]) (by omega) (Ent.oks (HR.out.cons _ |>.cons _ |>.cons _ |>.cons _ |>.cons _) hn hc Ent.oks_nil))))) rfl (by omega) (by rw [e4, length_encB, ← hn.out]; omega)).mono ?_
          rintro e w9 ⟨v9, rfl, hh9⟩
          rw [e4] at hh9
          refine hK.out _ _ (hh9.tail.tail.tail.tail) (fun hHeld => ?_)
          clear hK K
          have HH9 := Lib.hid (hh9.drop 1 rfl |>.drop 1 rfl |>.drop 1 rfl |>.drop 1 rfl |>.drop 1 rfl |>.drop 1 rfl)
          clear hh9
          refine takeH 11 ?_ rfl (by kernel_rfl) (by kernel_rfl) (by kernel_rfl) (fun _ _ _ h => h) (by kernel_rfl) (by assumption) (fun w hSw => ?_) ?_
          rotate_left
          · (try dsimp only at hSw); go_simp <;> (try with_reducible rfl)
          try simp only [Act.put, List.setIfInBounds_toArray, List.set_cons_zero, List.set_cons_succ]
          refine takeH 12 ?_ rfl (by kernel_rfl) (by kernel_rfl) (by kernel_rfl) (fun _ _ _ h => h) (by kernel_rfl) (by assumption) (fun w hSw => ?_) ?_
          rotate_left
          · (try dsimp only at hSw); go_simp <;> (try with_reducible rfl)
          try simp only [Act.put, List.setIfInBounds_toArray, List.set_cons_zero, List.set_cons_succ]
          refine wpAnyH_done (by kernel_rfl) ?_ _
          go_wp2
          go_returns
          exact ⟨v9, by rw [HF.out]; rfl, by rw [HF.out]; exact HH9.out⟩
      · go_simp
        refine (fsum_ok A3 n3 c3 (frontF t xs) A n c xs _ _ hk0 Ent.own hn3 hc3 (HR.out.cons _ |>.cons _ |>.cons _) hn hc (HK.out.cons _ |>.cons _ |>.cons _) (by rw [hn3.out, show (frontF t xs).length = 3 by simp [frontF]]; omega)).mono ?_
        rintro e w4 ⟨gs, rfl, hh4⟩
        refine hK.out _ _ hh4.tail (fun hHeld => ?_)
        clear hK K hHeld
        refine effH 0 rfl (by kernel_rfl) (by kernel_rfl) (fun K hK => ?_)
        go_simp
        have hk1 := hh4.alloc 5 #[.int .u8 114, .int .u8 100, .int .u8 1]
        refine hK.out _ _ hk1.tail.tail (fun hHeld => ?_)
        clear hK K hHeld
        generalize hg3 : w4.heap.size = g3 at hk1 ⊢
        generalize (w4.alloc (.cells #[.int .u8 114, .int .u8 100, .int .u8 1] 5)) = wa at hk1 ⊢
        have hcm : (convert 22 22 (.slice (some ⟨g3, 0, none⟩) 3 3)).run Tryd.prog wa = .ok (.slice (some ⟨g3, 0, none⟩) 3 3) (wa.freeze ⟨g3, 3, none⟩ 1) := run_convert_mark wa 22 5 g3 #[.int .u8 114, .int .u8 100, .int .u8 1] 3 3 Tryd.underlying22 Tryd.underlying5 hk1.blk_heap
        have hkm : Holds (wa.freeze ⟨g3, 3, none⟩ 1) _ := hk1.mark (xs := magB) rfl
        generalize wa.freeze ⟨g3, 3, none⟩ 1 = wb at hcm hkm
        clear hk1 hh4 hk0
        refine effH 1 rfl (by kernel_rfl) (by kernel_rfl) (fun K hK => ?_)
        go_simp
        refine hK.out _ _ hkm.tail.tail (fun hHeld => ?_)
        clear hK K hHeld
        have hk2 := hkm
        clear hcm hkm
        have e4 : bsAll [⟨some ⟨g3, 0, none⟩, 3, 3, magB⟩, ⟨A3, n3, c3, frontF t xs⟩, ⟨some ⟨gs, 0, none⟩, 4, 32, sumF (frontF t xs) xs⟩, ⟨A, n, c, xs⟩] = encB t xs := by simp [bsAll, encB]
        refine effH 9 rfl (by kernel_rfl) (by kernel_rfl) (fun K hK => ?_)
        go_simp
        have hk3 := hk2.alloc 22 #[.slice (some ⟨g3, 0, none⟩) 3 3, .slice A3 n3 c3, .slice (some ⟨gs, 0, none⟩) 4 32, .slice A n c]
        refine hK.out _ _ (hk3.tail.tail.tail) (fun hHeld => ?_)
        clear hK K hHeld
        refine effH 10 rfl (by kernel_rfl) (by kernel_rfl) (fun K hK => ?_)
        go_simp
        refine (concat_ok (some ⟨wb.heap.size, 0, none⟩) 4 4 [⟨some ⟨g3, 0, none⟩, 3, 3, magB⟩, ⟨A3, n3, c3, frontF t xs⟩, ⟨some ⟨gs, 0, none⟩, 4, 32, sumF (frontF t xs) xs⟩, ⟨A, n, c, xs⟩] _ _ hk3 (Ent.parts rfl (Ent.oks Ent.rb rfl (by omega) (Ent.oks ((Ent.own.cons _).cons _) hn3 hc3 (Ent.oks (Ent.rb.cons _) (by simp [Hid]) (by omega) (Ent.oks (HR.out.cons _ |>.cons _ |>.cons _ |>.cons _ |>.cons _) hn hc Ent.oks_nil))))) rfl (by omega) (by rw [e4, length_encB, ← hn.out]; omega)).mono ?_
        rintro e w9 ⟨v9, rfl, hh9⟩
        rw [e4] at hh9
        refine hK.out _ _ (hh9.tail.tail.tail.tail) (fun hHeld => ?_)
        clear hK K
        have HH9 := Lib.hid (hh9.drop 1 rfl |>.drop 1 rfl |>.drop 1 rfl |>.drop 1 rfl |>.drop 1 rfl |>.drop 1 rfl)
        clear hh9
        refine takeH 11 ?_ rfl (by kernel_rfl) (by kernel_rfl) (by kernel_rfl) (fun _ _ _ h => h) (by kernel_rfl) (by assumption) (fun w hSw => ?_) ?_
        rotate_left
        · (try dsimp only at hSw); go_simp <;> (try with_reducible rfl)
        try simp only [Act.put, List.setIfInBounds_toArray, List.set_cons_zero, List.set_cons_succ]
        refine takeH 12 ?_ rfl (by kernel_rfl) (by kernel_rfl) (by kernel_rfl) (fun _ _ _ h => h) (by kernel_rfl) (by assumption) (fun w hSw => ?_) ?_
        rotate_left
        · (try dsimp only at hSw); go_simp <;> (try with_reducible rfl)
        try simp only [Act.put, List.setIfInBounds_toArray, List.set_cons_zero, List.set_cons_succ]
        refine wpAnyH_done (by kernel_rfl) ?_ _
        go_wp2
        go_returns
        exact ⟨v9, by rw [HF.out]; rfl, by rw [HF.out]; exact HH9.out⟩
end Go.Proofs.YtmaiokjcgijdcaaDoor
