import Derived.Test.YtibkngjacdggpaaDoorFrameA
import Derived.Test.YtibkngjacdggpaaDoorRefSum
import Derived.Test.YtibkngjacdggpaaDoorSl
/- a frame's bytes -/
namespace Go.Proofs.YtibkngjacdggpaaDoor
open Go.RowKit HP

/-- two operations may come up -/
theorem effH2 {P : Program} {md : Region.Mode} {l : List Oper} {Q : Exit → Act → World → Prop} {S : World → Prop} (i j : Nat) {oi oj : Oper} {fuel : Nat} {listed : Array Bool} {a : Act} {w : World} (hi : nthOp l i = some oi) (hj : nthOp l j = some oj)
    (hr : Region.ready md l.toArray listed = [i, j]) (hwi : Region.wanted oi (yielded l.toArray a.tmps) = true) (hwj : Region.wanted oj (yielded l.toArray a.tmps) = true)
    (h1 : ∀ K' : Act → World → Prop, Shut (∀ a w, S w → (S w → wpAnyH P md l.toArray Q S fuel (listed.setIfInBounds i true) a w) → K' a w) → Oper.wp P oi a w K' Q)
    (h2 : ∀ K' : Act → World → Prop, Shut (∀ a w, S w → (S w → wpAnyH P md l.toArray Q S fuel (listed.setIfInBounds j true) a w) → K' a w) → Oper.wp P oj a w K' Q) : wpAnyH P md l.toArray Q S (fuel + 1) listed a w :=
  wpAnyH_ready hr (by simp) (AllReadyH.cons (by rw [List.getElem?_toArray, ← nthOp_eq]; exact hi) (fun K hK => by rw [if_pos hwi]; exact h1 K hK)
    (AllReadyH.cons (by rw [List.getElem?_toArray, ← nthOp_eq]; exact hj) (fun K hK => by rw [if_pos hwj]; exact h2 K hK) AllReadyH.nil))
set_option maxRecDepth 100000 in
set_option maxHeartbeats 1000000 in
theorem fencode_ok (t : UInt8) (A : Option Addr) (n c : Nat) (xs : List UInt8) (w : World) (R : List HP) (hh : Holds w R) (hr : Ent R fun w => RD w A xs) (hn : Hid (n = xs.length)) (hc : n ≤ c) (hb : n ≤ 140737488355200) (hk : Ent R KF) :
    Calls Tryd.prog 50 #[.agg #[.int .u8 (t.toNat : Int), .slice A n c]] w fun e w' => ∃ v, e = .returned (.tuple #[v, .int .i64 (encF t xs).2]) ∧ Holds w' (own v (encF t xs).1 :: R) := by
  have hh0 := hh.alloc 78 #[.int .u8 (t.toNat : Int), .slice A n c]
  have c0 : (w.alloc (.cells #[.int .u8 (t.toNat : Int), .slice A n c] 78)).cell? ⟨w.heap.size, 0, none⟩ = some (.int .u8 (t.toNat : Int)) := (hh0.cells 0).trans rfl
  have c1 : (w.alloc (.cells #[.int .u8 (t.toNat : Int), .slice A n c] 78)).cell? ⟨w.heap.size, 1, none⟩ = some (.slice A n c) := (hh0.cells 1).trans rfl
  by_cases h0 : t = 0
  · have HF : Hid (encF t xs = ([], 1)) := by unfold Hid encF; rw [if_pos h0]
    have h0I : (t.toNat : Int) = 0 := by rw [h0]; rfl
    have HH : Hid (Holds (w.alloc (.cells #[.int .u8 0, .slice A n c] 78)) (own (.slice none 0 0) [] :: R)) := by
      have := hh0.tail.nil_own
      rwa [h0I] at this
    clear hh hr hk hh0 h0
    go_enter Tryd.func50, Tryd.ntmps50
    go_wp2
    go_returns
    exact ⟨.slice none 0 0, by rw [HF.out]; rfl, by rw [HF.out]; exact HH.out⟩
  · have h0I := u8_zero h0
    by_cases h1 : 1000 < n
    · have HF : Hid (encF t xs = ([], 5)) := by unfold Hid encF; rw [if_neg h0, if_pos (by rw [← hn.out]; exact h1)]
      have HH := Lib.hid hh0.tail.nil_own
      clear hh hr hk hh0 h0
      go_enter Tryd.func50, Tryd.ntmps50
      go_wp2
      go_returns
      exact ⟨.slice none 0 0, by rw [HF.out]; rfl, by rw [HF.out]; exact HH.out⟩
    · have HF : Hid (encF t xs = (encB t xs, 0)) := by unfold Hid encF; rw [if_neg h0, if_neg (by rw [← hn.out]; exact h1)]
      have ht := t.toNat_lt
      have hwn1 : wnum ([], false) t.toNat 1 = (beL t.toNat 1, false) := by
        simp [wnum, szB, fitsB]; omega
      have hwn2 : wnum (beL t.toNat 1, false) n 2 = (beL t.toNat 1 ++ beL n 2, false) := by
        simp [wnum, szB, fitsB]; omega
      have hfr : beL t.toNat 1 ++ beL n 2 = frontF t xs := by
        rw [frontF, hn.out]
        simp [beL]
      have hh1 := (hh0.alloc 70 #[.slice none 0 0, .bool false]).wr_new
      rw [heap_size_alloc] at hh1
      have hcc : ∀ w', Holds w' (WrH (w.heap.size + 1) (beL t.toNat 1, false) :: blk w.heap.size 78 #[.int .u8 (t.toNat : Int), .slice A n c] :: R) → w'.cell? ⟨w.heap.size, 0, none⟩ = some (.int .u8 (t.toNat : Int)) ∧ w'.cell? ⟨w.heap.size, 1, none⟩ = some (.slice A n c) := fun w' h => ⟨(h.tail.cells 0).trans rfl, (h.tail.cells 1).trans rfl⟩
      have HN1 := Lib.hid (number_sl t.toNat (by omega) 1 hh1 (by simp))
      have HN2 := Lib.hid (fun w' (h : Holds w' (WrH (w.heap.size + 1) (beL t.toNat 1, false) :: blk w.heap.size 78 #[.int .u8 (t.toNat : Int), .slice A n c] :: R)) => number_sl n (by omega) 2 h (by simp))
      have HBY := Lib.hid (fun w' (h : Holds w' (WrH (w.heap.size + 1) (frontF t xs, false) :: blk w.heap.size 78 #[.int .u8 (t.toNat : Int), .slice A n c] :: R)) => bytes_sl h (by simp [frontF]))
      rw [show wbytes (frontF t xs, false) = frontF t xs from rfl] at HBY
      rw [hwn1] at HN1
      rw [hwn2, hfr] at HN2
      have HCC := Lib.hid hcc
      have HR := Lib.hid hr; have HK := Lib.hid hk
      clear hh hr hk hh0 h0 hh1 hcc hwn1 hwn2 hfr
      go_enter Tryd.func50, Tryd.ntmps50
      go_wp2_with (first
        | (go_at_call 46; (with_reducible refine HN1.out.mono ?_); rintro e w1 ⟨rfl, hh1⟩; have hca := (HCC.out _ hh1).1; have hcb := (HCC.out _ hh1).2; have HH1 := Lib.hid hh1; clear hh1)
        | (go_at_call 46; (with_reducible refine (HN2.out _ HH1.out).mono ?_); rintro e w2 ⟨rfl, hh2⟩; have HH2 := Lib.hid hh2; clear hh2)
        | (go_at_call 51; (with_reducible refine (HBY.out _ HH2.out).mono ?_); rintro e w3 ⟨v3, rfl, hh3⟩; have HH3 := Lib.hid hh3; clear hh3))
      obtain ⟨A3, n3, c3, rfl, hn3, hc3, -⟩ := HH3.out.own_form
      have hk0 := HH3.out.drew
      refine wp_region_held_drew (S := fun w' => Holds w' (own (.slice A3 n3 c3) (frontF t xs) :: WrH (w.heap.size + 1) (frontF t xs, false) :: blk w.heap.size 78 #[.int .u8 (t.toNat : Int), .slice A n c] :: R)) (by kernel_rfl) ?_ (fun hHeld => ?_)
      · exact hk0
      have HCD := Lib.hid (fun w' (h : Holds w' (own (.slice A3 n3 c3) (frontF t xs) :: WrH (w.heap.size + 1) (frontF t xs, false) :: blk w.heap.size 78 #[.int .u8 (t.toNat : Int), .slice A n c] :: R)) => show w'.cell? ⟨w.heap.size, 1, none⟩ = some (.slice A n c) from (h.tail.tail.cells 1).trans rfl)
      refine takeH 2 ?_ rfl (by kernel_rfl) (by kernel_rfl) (by kernel_rfl) (fun _ _ _ h => h) (by kernel_rfl) (by assumption) (fun w hSw => ?_) ?_
      rotate_left
      · (try dsimp only at hSw); go_simp <;> (try with_reducible rfl)
      try simp only [Act.put, List.setIfInBounds_toArray, List.set_cons_zero, List.set_cons_succ]
      refine takeH 3 ?_ rfl (by kernel_rfl) (by kernel_rfl) (by kernel_rfl) (fun _ _ _ h => h) (by kernel_rfl) (by assumption) (fun w hSw => ?_) ?_
      rotate_left
      · (try dsimp only at hSw); go_simp <;> (try with_reducible rfl)
      try simp only [Act.put, List.setIfInBounds_toArray, List.set_cons_zero, List.set_cons_succ]
      refine takeH 4 ?_ rfl (by kernel_rfl) (by kernel_rfl) (by kernel_rfl) (fun _ _ _ h => h) (by kernel_rfl) (by assumption) (fun w hSw => ?_) ?_
      rotate_left
      · (try dsimp only at hSw); go_simp <;> (try with_reducible rfl)
      try simp only [Act.put, List.setIfInBounds_toArray, List.set_cons_zero, List.set_cons_succ]
      refine takeH 5 (.slice A n c) rfl (by kernel_rfl) (by kernel_rfl) (by kernel_rfl) (fun _ _ _ h => h) (by kernel_rfl) (by assumption) (fun w hSw => ?_) ?_
      · have hcb := (HCD.out _ hSw)
        go_simp
      try simp only [Act.put, List.setIfInBounds_toArray, List.set_cons_zero, List.set_cons_succ]
      refine takeH 7 ?_ rfl (by kernel_rfl) (by kernel_rfl) (by kernel_rfl) (fun _ _ _ h => h) (by kernel_rfl) (by assumption) (fun w hSw => ?_) ?_
      rotate_left
      · (try dsimp only at hSw); go_simp <;> (try with_reducible rfl)
      try simp only [Act.put, List.setIfInBounds_toArray, List.set_cons_zero, List.set_cons_succ]
      refine takeH 8 (.slice A n c) rfl (by kernel_rfl) (by kernel_rfl) (by kernel_rfl) (fun _ _ _ h => h) (by kernel_rfl) (by assumption) (fun w hSw => ?_) ?_
      · have hcb := (HCD.out _ hSw)
        go_simp
      try simp only [Act.put, List.setIfInBounds_toArray, List.set_cons_zero, List.set_cons_succ]
      refine effH2 0 6 rfl rfl (by kernel_rfl) (by kernel_rfl) (by kernel_rfl) (fun K hK => ?_) (fun K hK => ?_)
      · go_simp
        have hk1 : Holds ((w3.alloc (.cells #[.int .u8 114, .int .u8 100, .int .u8 1] 5)).drew) (blk w3.heap.size 5 #[.int .u8 114, .int .u8 100, .int .u8 1] :: _) := hk0.alloc 5 #[.int .u8 114, .int .u8 100, .int .u8 1]
        refine hK.out _ _ hk1.tail (fun hHeld => ?_)
        clear hK K
        generalize hg3 : w3.heap.size = g3 at hk1 ⊢
        generalize (w3.alloc (.cells #[.int .u8 114, .int .u8 100, .int .u8 1] 5)).drew = wa at hk1 hHeld ⊢
        refine effH2 1 6 rfl rfl (by kernel_rfl) (by kernel_rfl) (by kernel_rfl) (fun K hK => ?_) (fun K hK => ?_)
        · have hcm : (convert 23 23 (.slice (some ⟨g3, 0, none⟩) 3 3)).run Tryd.prog wa = .ok (.slice (some ⟨g3, 0, none⟩) 3 3) (wa.freeze ⟨g3, 3, none⟩ 1) := run_convert_mark wa 23 5 g3 #[.int .u8 114, .int .u8 100, .int .u8 1] 3 3 Tryd.underlying23 Tryd.underlying5 hk1.blk_heap
          have hkm : Holds (wa.freeze ⟨g3, 3, none⟩ 1) _ := hk1.mark (xs := magB) rfl
          generalize wa.freeze ⟨g3, 3, none⟩ 1 = wb at hcm hkm
          go_simp
          refine hK.out _ _ hkm.tail (fun hHeld => ?_)
          clear hK K hHeld
          refine effH 6 rfl (by kernel_rfl) (by kernel_rfl) (fun K hK => ?_)
          go_simp
          refine (fsum_ok A3 n3 c3 (frontF t xs) A n c xs _ _ hkm (Ent.own.cons _) hn3 hc3 (HR.out.cons _ |>.cons _ |>.cons _ |>.cons _) hn hc (HK.out.cons _ |>.cons _ |>.cons _ |>.cons _) (by rw [hn3.out, show (frontF t xs).length = 3 by simp [frontF]]; omega)).mono ?_
          rintro e w4 ⟨gs, rfl, hh4⟩
          refine hK.out _ _ hh4.tail.tail (fun hHeld => ?_)
          clear hK K hHeld
          have hk2 := hh4.pull 1 rfl
          clear hh4 hk1 hk0 hkm hcm
          have e4 : bsAll [⟨some ⟨g3, 0, none⟩, 3, 3, magB⟩, ⟨A3, n3, c3, frontF t xs⟩, ⟨some ⟨gs, 0, none⟩, 4, 32, sumF (frontF t xs) xs⟩, ⟨A, n, c, xs⟩] = encB t xs := by simp [bsAll, encB]
          refine effH 9 rfl (by kernel_rfl) (by kernel_rfl) (fun K hK => ?_)
          go_simp
          have hk3 := hk2.alloc 23 #[.slice (some ⟨g3, 0, none⟩) 3 3, .slice A3 n3 c3, .slice (some ⟨gs, 0, none⟩) 4 32, .slice A n c]
          refine hK.out _ _ (hk3.tail.tail.tail) (fun hHeld => ?_)
          clear hK K hHeld
          refine effH 10 rfl (by kernel_rfl) (by kernel_rfl) (fun K hK => ?_)
          go_simp
          refine (concat_ok (some ⟨w4.heap.size, 0, none⟩) 4 4 [⟨some ⟨g3, 0, none⟩, 3, 3, magB⟩, ⟨A3, n3, c3, frontF t xs⟩, ⟨some ⟨gs, 0, none⟩, 4, 32, sumF (frontF t xs) xs⟩, ⟨A, n, c, xs⟩] _ _ hk3 (Ent.parts rfl (Ent.oks Ent.rb rfl (by omega) (Ent.oks ((Ent.own.cons _).cons _) hn3 hc3 (Ent.oks (Ent.rb.cons _) (by simp [Hid]) (by omega) (Ent.oks (HR.out.cons _ |>.cons _ |>.cons _ |>.cons _ |>.cons _) hn hc Ent.oks_nil))))) rfl (by omega) (by rw [e4, length_encB, ← hn.out]; omega)).mono ?_
          rintro e w9 ⟨v9, rfl, hh9⟩
          rw [e4] at hh9
          refine hK.out _ _ (hh9.tail.tail.tail.tail) (fun hHeld => ?_)
          clear hK K
          have HH9 := Lib.hid (hh9.drop 1 rfl |>.drop 1 rfl |>.drop 1 rfl |>.drop 1 rfl |>.drop 1 rfl |>.drop 1 rfl)
          clear hh9
          refine takeH 11 ?_ rfl (by kernel_rfl) (by kernel_rfl) (by kernel_rfl) (fun _ _ _ h => h) (by kernel_rfl) (by assumption) (fun w hSw => ?_) ?_
          rotate_left
          · (try dsimp only at hSw); go_simp <;> (try with_reducible rfl)
          try simp only [Act.put, List.setIfInBounds_toArray, List.set_cons_zero, List.set_cons_succ]
          refine takeH 12 ?_ rfl (by kernel_rfl) (by kernel_rfl) (by kernel_rfl) (fun _ _ _ h => h) (by kernel_rfl) (by assumption) (fun w hSw => ?_) ?_
          rotate_left
          · (try dsimp only at hSw); go_simp <;> (try with_reducible rfl)
          try simp only [Act.put, List.setIfInBounds_toArray, List.set_cons_zero, List.set_cons_succ]
          refine wpAnyH_done (by kernel_rfl) ?_ _
          go_wp2
          go_returns
          exact ⟨v9, by rw [HF.out]; rfl, by rw [HF.out]; exact HH9.out⟩
        · go_simp
          refine (fsum_ok A3 n3 c3 (frontF t xs) A n c xs _ _ hk1 (Ent.own.cons _) hn3 hc3 (HR.out.cons _ |>.cons _ |>.cons _ |>.cons _) hn hc (HK.out.cons _ |>.cons _ |>.cons _ |>.cons _) (by rw [hn3.out, show (frontF t xs).length = 3 by simp [frontF]]; omega)).mono ?_
          rintro e w4 ⟨gs, rfl, hh4⟩
          refine hK.out _ _ hh4.tail.tail (fun hHeld => ?_)
          clear hK K hHeld
          have hk2 := hh4.pull 1 rfl
          have hcm : (convert 23 23 (.slice (some ⟨g3, 0, none⟩) 3 3)).run Tryd.prog w4 = .ok (.slice (some ⟨g3, 0, none⟩) 3 3) (w4.freeze ⟨g3, 3, none⟩ 1) := run_convert_mark w4 23 5 g3 #[.int .u8 114, .int .u8 100, .int .u8 1] 3 3 Tryd.underlying23 Tryd.underlying5 hk2.blk_heap
          have hkm : Holds (w4.freeze ⟨g3, 3, none⟩ 1) _ := hk2.mark (xs := magB) rfl
          generalize w4.freeze ⟨g3, 3, none⟩ 1 = wb at hcm hkm
          clear hk2 hh4 hk1 hk0
          refine effH 1 rfl (by kernel_rfl) (by kernel_rfl) (fun K hK => ?_)
          go_simp
          refine hK.out _ _ hkm.tail.tail (fun hHeld => ?_)
          clear hK K hHeld
          have hk2 := hkm
          clear hcm hkm
          have e4 : bsAll [⟨some ⟨g3, 0, none⟩, 3, 3, magB⟩, ⟨A3, n3, c3, frontF t xs⟩, ⟨some ⟨gs, 0, none⟩, 4, 32, sumF (frontF t xs) xs⟩, ⟨A, n, c, xs⟩] = encB t xs := by simp [bsAll, encB]
          refine effH 9 rfl (by kernel_rfl) (by kernel_rfl) (fun K hK => ?_)
          go_simp
          have hk3 := hk2.alloc 23 #[.slice (some ⟨g3, 0, none⟩) 3 3, .slice A3 n3 c3, .slice (some ⟨gs, 0, none⟩) 4 32, .slice A n c]
          refine hK.out _ _ (hk3.tail.tail.tail) (fun hHeld => ?_)
          clear hK K hHeld
          refine effH 10 rfl (by kernel_rfl) (by kernel_rfl) (fun K hK => ?_)
          go_simp
          refine (concat_ok (some ⟨wb.heap.size, 0, none⟩) 4 4 [⟨some ⟨g3, 0, none⟩, 3, 3, magB⟩, ⟨A3, n3, c3, frontF t xs⟩, ⟨some ⟨gs, 0, none⟩, 4, 32, sumF (frontF t xs) xs⟩, ⟨A, n, c, xs⟩] _ _ hk3 (Ent.parts rfl (Ent.oks Ent.rb rfl (by omega) (Ent.oks ((Ent.own.cons _).cons _) hn3 hc3 (Ent.oks (Ent.rb.cons _) (by simp [Hid]) (by omega) (Ent.oks (HR.out.cons _ |>.cons _ |>.cons _ |>.cons _ |>.cons _) hn hc Ent.oks_nil))))) rfl (by omega) (by rw [e4, length_encB, ← hn.out]; omega)).mono ?_
          rintro e w9 ⟨v9, rfl, hh9⟩
          rw [e4] at hh9
          refine hK.out _ _ (hh9.tail.tail.tail.tail) (fun hHeld => ?_)
          clear hK K
          have HH9 := Lib.hid (hh9.drop 1 rfl |>.drop 1 rfl |>.drop 1 rfl |>.drop 1 rfl |>.drop 1 rfl |>.drop 1 rfl)
          clear hh9
          refine takeH 11 ?_ rfl (by kernel_rfl) (by kernel_rfl) (by kernel_rfl) (fun _ _ _ h => h) (by kernel_rfl) (by assumption) (fun w hSw => ?_) ?_
          rotate_left
          · (try dsimp only at hSw); go_simp <;> (try with_reducible rfl)
          try simp only [Act.put, List.setIfInBounds_toArray, List.set_cons_zero, List.set_cons_succ]
          refine takeH 12 ?_ rfl (by kernel_rfl) (by kernel_rfl) (by kernel_rfl) (fun _ _ _ h => h) (by kernel_rfl) (by assumption) (fun w hSw => ?_) ?_
          rotate_left
          · (try dsimp only at hSw); go_simp <;> (try with_reducible rfl)
          try simp only [Act.put, List.setIfInBounds_toArray, List.set_cons_zero, List.set_cons_succ]
          refine wpAnyH_done (by kernel_rfl) ?_ _
          go_wp2
          go_returns
          exact ⟨v9, by rw [HF.out]; rfl, by rw [HF.out]; exact HH9.out⟩
      · go_simp
        refine (fsum_ok A3 n3 c3 (frontF t xs) A n c xs _ _ hk0 Ent.own hn3 hc3 (HR.out.cons _ |>.cons _ |>.cons _) hn hc (HK.out.cons _ |>.cons _ |>.cons _) (by rw [hn3.out, show (frontF t xs).length = 3 by simp [frontF]]; omega)).mono ?_
        rintro e w4 ⟨gs, rfl, hh4⟩
        refine hK.out _ _ hh4.tail (fun hHeld => ?_)
        clear hK K hHeld
        refine effH 0 rfl (by kernel_rfl) (by kernel_rfl) (fun K hK => ?_)
        go_simp
        have hk1 := hh4.alloc 5 #[.int .u8 114, .int .u8 100, .int .u8 1]
        refine hK.out _ _ hk1.tail.tail (fun hHeld => ?_)
        clear hK K hHeld
        generalize hg3 : w4.heap.size = g3 at hk1 ⊢
        generalize (w4.alloc (.cells #[.int .u8 114, .int .u8 100, .int .u8 1] 5)) = wa at hk1 ⊢
        have hcm : (convert 23 23 (.slice (some ⟨g3, 0, none⟩) 3 3)).run Tryd.prog wa = .ok (.slice (some ⟨g3, 0, none⟩) 3 3) (wa.freeze ⟨g3, 3, none⟩ 1) := run_convert_mark wa 23 5 g3 #[.int .u8 114, .int .u8 100, .int .u8 1] 3 3 Tryd.underlying23 Tryd.underlying5 hk1.blk_heap
        have hkm : Holds (wa.freeze ⟨g3, 3, none⟩ 1) _ := hk1.mark (xs := magB) rfl
        generalize wa.freeze ⟨g3, 3, none⟩ 1 = wb at hcm hkm
        clear hk1 hh4 hk0
        refine effH 1 rfl (by kernel_rfl) (by kernel_rfl) (fun K hK => ?_)
        go_simp
        refine hK.out _ _ hkm.tail.tail (fun hHeld => ?_)
        clear hK K hHeld
        have hk2 := hkm
        clear hcm hkm
        have e4 : bsAll [⟨some ⟨g3, 0, none⟩, 3, 3, magB⟩, ⟨A3, n3, c3, frontF t xs⟩, ⟨some ⟨gs, 0, none⟩, 4, 32, sumF (frontF t xs) xs⟩, ⟨A, n, c, xs⟩] = encB t xs := by simp [bsAll, encB]
        refine effH 9 rfl (by kernel_rfl) (by kernel_rfl) (fun K hK => ?_)
        go_simp
        have hk3 := hk2.alloc 23 #[.slice (some ⟨g3, 0, none⟩) 3 3, .slice A3 n3 c3, .slice (some ⟨gs, 0, none⟩) 4 32, .slice A n c]
        refine hK.out _ _ (hk3.tail.tail.tail) (fun hHeld => ?_)
        clear hK K hHeld
        refine effH 10 rfl (by kernel_rfl) (by kernel_rfl) (fun K hK => ?_)
        go_simp
        refine (concat_ok (some ⟨wb.heap.size, 0, none⟩) 4 4 [⟨some ⟨g3, 0, none⟩, 3, 3, magB⟩, ⟨A3, n3, c3, frontF t xs⟩, ⟨some ⟨gs, 0, none⟩, 4, 32, sumF (frontF t xs) xs⟩, ⟨A, n, c, xs⟩] _ _ hk3 (Ent.parts rfl (Ent.oks Ent.rb rfl (by omega) (Ent.oks ((Ent.own.cons _).cons _) hn3 hc3 (Ent.oks (Ent.rb.cons _) (by simp [Hid]) (by omega) (Ent.oks (HR.out.cons _ |>.cons _ |>.cons _ |>.cons _ |>.cons _) hn hc Ent.oks_nil))))) rfl (by omega) (by rw [e4, length_encB, ← hn.out]; omega)).mono ?_
        rintro e w9 ⟨v9, rfl, hh9⟩
        rw [e4] at hh9
        refine hK.out _ _ (hh9.tail.tail.tail.tail) (fun hHeld => ?_)
        clear hK K
        have HH9 := Lib.hid (hh9.drop 1 rfl |>.drop 1 rfl |>.drop 1 rfl |>.drop 1 rfl |>.drop 1 rfl |>.drop 1 rfl)
        clear hh9
        refine takeH 11 ?_ rfl (by kernel_rfl) (by kernel_rfl) (by kernel_rfl) (fun _ _ _ h => h) (by kernel_rfl) (by assumption) (fun w hSw => ?_) ?_
        rotate_left
        · (try dsimp only at hSw); go_simp <;> (try with_reducible rfl)
        try simp only [Act.put, List.setIfInBounds_toArray, List.set_cons_zero, List.set_cons_succ]
        refine takeH 12 ?_ rfl (by kernel_rfl) (by kernel_rfl) (by kernel_rfl) (fun _ _ _ h => h) (by kernel_rfl) (by assumption) (fun w hSw => ?_) ?_
        rotate_left
        · (try dsimp only at hSw); go_simp <;> (try with_reducible rfl)
        try simp only [Act.put, List.setIfInBounds_toArray, List.set_cons_zero, List.set_cons_succ]
        refine wpAnyH_done (by kernel_rfl) ?_ _
        go_wp2
        go_returns
        exact ⟨v9, by rw [HF.out]; rfl, by rw [HF.out]; exact HH9.out⟩
end Go.Proofs.YtibkngjacdggpaaDoor
/- a frame out of bytes -/
namespace Go.Proofs.YtibkngjacdggpaaDoor
open Go.RowKit HP

theorem RD.mid {w : World} {g o : Nat} {xs : List UInt8} (h : RD w (some ⟨g, o, none⟩) xs) (a k : Nat) : RD w (some ⟨g, o + a, none⟩) ((xs.drop a).take k) := by
  by_cases hx : xs = []
  · subst hx; simpa using RD.nil _ _
  · obtain ⟨g', o', e, hr⟩ := h.addr hx
    obtain ⟨rfl, rfl⟩ : g = g' ∧ o = o' := by simpa using e
    exact ⟨g, hr.mid a k⟩
theorem RD.cellAt {w : World} {g o j : Nat} {xs : List UInt8} (h : RD w (some ⟨g, o, none⟩) xs) (hj : j < xs.length) : w.cell? ⟨g, o + j, none⟩ = some (.int .u8 ((xs.getD j 0).toNat : Int)) := by
  obtain ⟨g', o', e, hr⟩ := h.addr (by intro e; subst e; simp at hj)
  obtain ⟨rfl, rfl⟩ : g = g' ∧ o = o' := by simpa using e
  obtain ⟨o2, e2, hc⟩ := hr.cell hj
  obtain rfl : o = o2 := by simpa using e2
  exact hc
/-- a struct's row and two numbers are the results -/
theorem results_cell_row3 {P : Program} {fn : Func} {p q r : Tmp} {ty : TypeId} (h : fn.results = #[.cell p ty, .tmp q, .tmp r]) (tmps : Array Value) (w : World) (g : Nat) (t : TypeId) (cs : Array Value) (fr : Nat × Nat) (d : TypeDesc)
    (hp : tmps.getD p undef = .pointer (some ⟨g, 0, none⟩)) (hg : w.heap[g]? = some (.cells cs t fr))
    (hu : P.underlying ty = some d) (hd : (match d with | .struct _ | .array _ _ => true | _ => false) = true) (hi : (P.info? ty).map (·.size) = some cs.size) :
    (results fn tmps).run P w = .ok (.tuple #[.agg cs, tmps.getD q undef, tmps.getD r undef]) w := by
  have hp' : tmps[p]?.getD undef = .pointer (some ⟨g, 0, none⟩) := by simpa using hp
  simp [results, h, hp', asAddr, run_loadVar_row w g t ty cs fr d hg hu hd hi]
set_option maxRecDepth 100000 in
set_option maxHeartbeats 1000000 in
theorem fdecode_ok (A : Option Addr) (n c : Nat) (xs : List UInt8) (w : World) (R : List HP) (hh : Holds w R) (hr : Ent R fun w => RD w A xs) (hn : Hid (n = xs.length)) (hc : n ≤ c) (hb : n ≤ 140737488355200) (hk : Ent R KF) :
    Calls Tryd.prog 73 #[.slice A n c] w fun e w' => ∃ v, e = .returned (.tuple #[.agg #[.int .u8 ((decF xs).1.toNat : Int), v], .int .i64 (decF xs).2.2.1, .int .i64 (decF xs).2.2.2]) ∧ Holds w' (own v (decF xs).2.1 :: R) := by
  have hh0 := hh.alloc 78 #[.int .u8 0, .slice none 0 0]
  have HBG := Lib.hid (begins_ok A n c xs _ _ hh0 (hr.cons _) hn hc (by omega))
  have HR := Lib.hid hr; have HK := Lib.hid hk
  cases hbf : beginsF xs
  · have HF : Hid (decF xs = (0, [], 0, 2)) := by unfold Hid decF; rw [if_pos hbf]
    rw [hbf] at HBG
    clear hh0 hr hk hbf
    go_enter Tryd.func73, Tryd.ntmps73
    go_wp2_with (go_at_call 91; (with_reducible refine HBG.out.mono ?_); rintro e w1 ⟨rfl, hh1⟩
                 have c0 : w1.cell? ⟨w.heap.size, 0, none⟩ = some (.int .u8 0) := (hh1.cells 0).trans rfl
                 have c1 : w1.cell? ⟨w.heap.size, 1, none⟩ = some (.slice none 0 0) := (hh1.cells 1).trans rfl
                 have f0 := hh1.free 0; have f1 := hh1.free 1
                 have HH1 := Lib.hid hh1; clear hh1)
    have hh2 := (HH1.out.set_ 0 (.int .u8 0)).set_ 1 (.slice none 0 0)
    generalize (w1.setCell ⟨w.heap.size, 0, none⟩ (.int .u8 0)).setCell ⟨w.heap.size, 1, none⟩ (.slice none 0 0) = w2 at hh2 ⊢
    have d0 : w2.cell? ⟨w.heap.size, 0, none⟩ = some (Value.int .u8 0) := (hh2.cells 0).trans rfl
    have d1 : w2.cell? ⟨w.heap.size, 1, none⟩ = some (Value.slice none 0 0) := (hh2.cells 1).trans rfl
    have HB2 := Lib.hid hh2.blk_heap
    have HH2 := Lib.hid hh2.tail.nil_own
    clear c0 c1 f0 f1 hh2
    refine bodyPost_ret (results_cell_row3 rfl _ _ w.heap.size 78 #[.int .u8 0, .slice none 0 0] (0, 0) _ rfl HB2.out Tryd.underlying78 rfl (by kernel_rfl)) rfl ?_
    · exact ⟨.slice none 0 0, by rw [HF.out]; rfl, by rw [HF.out]; exact HH2.out⟩
  · rw [hbf] at HBG
    have hbt : ¬ beginsF xs = false := by rw [hbf]; decide
    by_cases h10 : n < 10
    · have HF : Hid (decF xs = (0, [], 0, 4)) := by unfold Hid decF; rw [if_neg hbt, if_pos (.inl (by rw [← hn.out]; exact h10))]
      clear hh0 hr hk hbf hbt
      go_enter Tryd.func73, Tryd.ntmps73
      go_wp2_with (go_at_call 91; (with_reducible refine HBG.out.mono ?_); rintro e w1 ⟨rfl, hh1⟩
                   have c0 : w1.cell? ⟨w.heap.size, 0, none⟩ = some (.int .u8 0) := (hh1.cells 0).trans rfl
                   have c1 : w1.cell? ⟨w.heap.size, 1, none⟩ = some (.slice none 0 0) := (hh1.cells 1).trans rfl
                   have f0 := hh1.free 0; have f1 := hh1.free 1
                   have HH1 := Lib.hid hh1; clear hh1)
      have hh2 := (HH1.out.set_ 0 (.int .u8 0)).set_ 1 (.slice none 0 0)
      generalize (w1.setCell ⟨w.heap.size, 0, none⟩ (.int .u8 0)).setCell ⟨w.heap.size, 1, none⟩ (.slice none 0 0) = w9 at hh2 ⊢
      have HB2 := Lib.hid hh2.blk_heap
      have HH2 := Lib.hid hh2.tail.nil_own
      clear c0 c1 f0 f1 hh2
      refine bodyPost_ret (results_cell_row3 rfl _ _ w.heap.size 78 #[.int .u8 0, .slice none 0 0] (0, 0) _ rfl HB2.out Tryd.underlying78 rfl (by kernel_rfl)) rfl ?_
      exact ⟨.slice none 0 0, by rw [HF.out]; rfl, by rw [HF.out]; exact HH2.out⟩
    · have hm : lenF xs ≤ 1000 := by
        have := hbf
        simp only [beginsF, Bool.and_eq_true] at this
        have h2 := this.2
        rw [if_pos (by rw [← hn.out]; omega)] at h2
        simpa using h2
      have HL := Lib.hid (fun w' (h : Holds w' (blk w.heap.size 78 #[.int .u8 0, .slice none 0 0] :: R)) => flen_ok A n c xs w' _ h (hr _ h.tail) hn hc (by omega) (by omega))
      obtain ⟨m, hmm⟩ : ∃ m, Hid (lenF xs = m) := ⟨_, rfl⟩
      rw [hmm.out] at HL hm
      by_cases hs : n < 10 + m
      · have HF : Hid (decF xs = (0, [], 0, 4)) := by unfold Hid decF; rw [if_neg hbt, if_pos (.inr (by rw [← hn.out, hmm.out]; exact hs))]
        clear hh0 hr hk hbf hbt
        go_enter Tryd.func73, Tryd.ntmps73
        go_wp2_with (first
          | (go_at_call 91; (with_reducible refine HBG.out.mono ?_); rintro e w1 ⟨rfl, hh1⟩; have HH1 := Lib.hid hh1; clear hh1)
          | (go_at_call 92; (with_reducible refine (HL.out _ HH1.out).mono ?_); rintro e w2 ⟨rfl, hh2⟩
             have d0 : w2.cell? ⟨w.heap.size, 0, none⟩ = some (.int .u8 0) := (hh2.cells 0).trans rfl
             have d1 : w2.cell? ⟨w.heap.size, 1, none⟩ = some (.slice none 0 0) := (hh2.cells 1).trans rfl
             have e0 := hh2.free 0; have e1 := hh2.free 1
             have HH2 := Lib.hid hh2; clear hh2))
        have hh2 := (HH2.out.set_ 0 (.int .u8 0)).set_ 1 (.slice none 0 0)
        generalize (w2.setCell ⟨w.heap.size, 0, none⟩ (.int .u8 0)).setCell ⟨w.heap.size, 1, none⟩ (.slice none 0 0) = w9 at hh2 ⊢
        have HB2 := Lib.hid hh2.blk_heap
        have HH3 := Lib.hid hh2.tail.nil_own
        clear d0 d1 e0 e1 hh2
        refine bodyPost_ret (results_cell_row3 rfl _ _ w.heap.size 78 #[.int .u8 0, .slice none 0 0] (0, 0) _ rfl HB2.out Tryd.underlying78 rfl (by kernel_rfl)) rfl ?_
        exact ⟨.slice none 0 0, by rw [HF.out]; rfl, by rw [HF.out]; exact HH3.out⟩
      · obtain ⟨g, o, rfl, hrb⟩ := (hr _ hh).addr (ne_nil_of_len hn (by omega))
        have hadd : IntKind.i64.wrap (10 + (m : Int)) = ((10 + m : Nat) : Int) := by rw [IntKind.wrap_i64]; omega
        have H3 : Hid (3 = ((xs.drop 3).take 3).length) := by unfold Hid; have := hn.out; simp; omega
        have H4 : Hid (4 = ((xs.drop 6).take 4).length) := by unfold Hid; have := hn.out; simp; omega
        have HM : Hid (m = ((xs.drop 10).take m).length) := by unfold Hid; have := hn.out; simp; omega
        clear hh0 hr hk hbf
        by_cases hc10 : c = 10
        · subst hc10
          go_enter Tryd.func73, Tryd.ntmps73
          go_wp2_with (first
            | (go_at_call 91; (with_reducible refine HBG.out.mono ?_); rintro e w1 ⟨rfl, hh1⟩; have HH1 := Lib.hid hh1; clear hh1)
            | (go_at_call 92; (with_reducible refine (HL.out _ HH1.out).mono ?_); rintro e w2 ⟨rfl, hh2⟩; have HH2 := Lib.hid hh2; clear hh2)
            | (go_at_call 92; (with_reducible refine (HL.out _ HH2.out).mono ?_); rintro e w3 ⟨rfl, hh3⟩; have HH3 := Lib.hid hh3; clear hh3 HH2))
          have hbody : Ent R fun w => RD w (some ⟨g, o, none⟩) ((xs.drop 10).take m) := fun w _ => by rw [show m = 0 by omega, List.take_zero]; exact RD.nil _ _
          have hk0 := HH3.out.drew
          refine wp_region_held_drew (S := fun w' => Holds w' (blk w.heap.size 78 #[.int .u8 0, .slice none 0 0] :: R)) (by kernel_rfl) ?_ (fun hHeld => ?_)
          · exact hk0
          refine takeH 0 ?_ rfl (by kernel_rfl) (by kernel_rfl) (by kernel_rfl) (fun _ _ _ h => h) (by kernel_rfl) (by assumption) (fun w hSw => ?_) ?_
          rotate_left
          · (try dsimp only at hSw); go_simp <;> (try with_reducible rfl)
          try simp only [Act.put, List.setIfInBounds_toArray, List.set_cons_zero, List.set_cons_succ]
          refine takeH 1 ?_ rfl (by kernel_rfl) (by kernel_rfl) (by kernel_rfl) (fun _ _ _ h => h) (by kernel_rfl) (by assumption) (fun w hSw => ?_) ?_
          rotate_left
          · (try dsimp only at hSw); go_simp <;> (try with_reducible rfl)
          try simp only [Act.put, List.setIfInBounds_toArray, List.set_cons_zero, List.set_cons_succ]
          refine takeH 2 ?_ rfl (by kernel_rfl) (by kernel_rfl) (by kernel_rfl) (fun _ _ _ h => h) (by kernel_rfl) (by assumption) (fun w hSw => ?_) ?_
          rotate_left
          · (try dsimp only at hSw); go_simp <;> (try with_reducible rfl)
          try simp only [Act.put, List.setIfInBounds_toArray, List.set_cons_zero, List.set_cons_succ]
          refine takeH 4 ?_ rfl (by kernel_rfl) (by kernel_rfl) (by kernel_rfl) (fun _ _ _ h => h) (by kernel_rfl) (by assumption) (fun w hSw => ?_) ?_
          rotate_left
          · (try dsimp only at hSw); go_simp <;> (try with_reducible rfl)
          try simp only [Act.put, List.setIfInBounds_toArray, List.set_cons_zero, List.set_cons_succ]
          refine takeH 5 ?_ rfl (by kernel_rfl) (by kernel_rfl) (by kernel_rfl) (fun _ _ _ h => h) (by kernel_rfl) (by assumption) (fun w hSw => ?_) ?_
          rotate_left
          · (try dsimp only at hSw); go_simp <;> (try with_reducible rfl)
          try simp only [Act.put, List.setIfInBounds_toArray, List.set_cons_zero, List.set_cons_succ]
          refine effH 3 rfl (by kernel_rfl) (by kernel_rfl) (fun K hK => ?_)
          go_simp
          refine (fsum_ok (some ⟨g, o + 3, none⟩) 3 _ ((xs.drop 3).take 3) (some ⟨g, o, none⟩) m 0 ((xs.drop 10).take m) _ _ hk0 (fun w' h => (HR.out _ h.tail).mid 3 3) H3 (by omega) (hbody.cons _) HM (by omega) (HK.out.cons _) (by omega)).mono ?_
          rintro e w4 ⟨gs, rfl, hh4⟩
          refine hK.out _ _ hh4.tail (fun hHeld => ?_)
          clear hK K hHeld
          refine effH 6 rfl (by kernel_rfl) (by kernel_rfl) (fun K hK => ?_)
          go_simp
          refine (equal_ok (some ⟨gs, 0, none⟩) 4 32 (sumF ((xs.drop 3).take 3) ((xs.drop 10).take m)) (some ⟨g, o + 6, none⟩) 4 _ ((xs.drop 6).take 4) w4 hh4.rb_rd (by unfold Hid; simp) ((HR.out _ hh4.tail.tail).mid 6 4) H4 (by omega) (by omega)).mono ?_
          rintro e w5 ⟨rfl, q, rfl⟩
          refine hK.out _ _ (hh4.tail.drewN q) (fun hHeld => ?_)
          clear hK K
          refine takeH 7 ?_ rfl (by kernel_rfl) (by kernel_rfl) (by kernel_rfl) (fun _ _ _ h => h) (by kernel_rfl) (by assumption) (fun w hSw => ?_) ?_
          rotate_left
          · (try dsimp only at hSw); go_simp <;> (try with_reducible rfl)
          try simp only [Act.put, List.setIfInBounds_toArray, List.set_cons_zero, List.set_cons_succ]
          refine wpAnyH_done (by kernel_rfl) ?_ _
          have HH5 := Lib.hid (hh4.tail.drewN q)
          clear hHeld hh4
          generalize w4.drewN q = w5 at HH5 ⊢
          have c0 : w5.cell? ⟨w.heap.size, 0, none⟩ = some (.int .u8 0) := (HH5.out.cells 0).trans rfl
          have c1 : w5.cell? ⟨w.heap.size, 1, none⟩ = some (.slice none 0 0) := (HH5.out.cells 1).trans rfl
          have f0 := HH5.out.free 0; have f1 := HH5.out.free 1
          cases hsum : (sumF ((xs.drop 3).take 3) ((xs.drop 10).take m) == (xs.drop 6).take 4)
          · have HF : Hid (decF xs = (0, [], 0, 3)) := by
              unfold Hid decF
              rw [if_neg hbt, if_neg (by rw [← hn.out, hmm.out]; omega), hmm.out, if_pos (by simpa using hsum)]
            go_wp2
            have hh2 := (HH5.out.set_ 0 (.int .u8 0)).set_ 1 (.slice none 0 0)
            generalize (w5.setCell ⟨w.heap.size, 0, none⟩ (.int .u8 0)).setCell ⟨w.heap.size, 1, none⟩ (.slice none 0 0) = w9 at hh2 ⊢
            have HB2 := Lib.hid hh2.blk_heap
            have HH9 := Lib.hid hh2.tail.nil_own
            clear c0 c1 f0 f1 hh2
            refine bodyPost_ret (results_cell_row3 rfl _ _ w.heap.size 78 #[.int .u8 0, .slice none 0 0] (0, 0) _ rfl HB2.out Tryd.underlying78 rfl (by kernel_rfl)) rfl ?_
            exact ⟨.slice none 0 0, by rw [HF.out]; rfl, by rw [HF.out]; exact HH9.out⟩
          · have HF : Hid (decF xs = (xs.getD 3 0, (xs.drop 10).take m, 10 + m, 0)) := by
              unfold Hid decF
              rw [if_neg hbt, if_neg (by rw [← hn.out, hmm.out]; omega), hmm.out, if_neg (by simpa using hsum)]
            obtain ⟨x3, hx3⟩ : ∃ x3, Hid (xs.getD 3 0 = x3) := ⟨_, rfl⟩
            rw [hx3.out] at HF
            clear c0 c1 f0 f1
            go_wp2
            have hk5 := HH5.out.drew
            have hn3 : (3 : Int) < n := by omega
            refine wp_region_held_drew (S := fun w' => Holds w' R) (by kernel_rfl) ?_ (fun hHeld => ?_)
            · exact hk5.tail
            refine takeH 0 ?_ rfl (by kernel_rfl) (by kernel_rfl) (by kernel_rfl) (fun _ _ _ h => h) (by kernel_rfl) (by assumption) (fun w hSw => ?_) ?_
            rotate_left
            · (try dsimp only at hSw); go_simp <;> (try with_reducible rfl)
            try simp only [Act.put, List.setIfInBounds_toArray, List.set_cons_zero, List.set_cons_succ]
            refine takeH 1 ?_ rfl (by kernel_rfl) (by kernel_rfl) (by kernel_rfl) (fun _ _ _ h => h) (by kernel_rfl) (by assumption) (fun w hSw => ?_) ?_
            rotate_left
            · (try dsimp only at hSw); go_simp <;> (try with_reducible rfl)
            try simp only [Act.put, List.setIfInBounds_toArray, List.set_cons_zero, List.set_cons_succ]
            refine takeH 2 (.int .u8 (x3.toNat : Int)) rfl (by kernel_rfl) (by kernel_rfl) (by kernel_rfl) (fun _ _ _ h => h) (by kernel_rfl) (by assumption) (fun w hSw => ?_) ?_
            · have g3 := (HR.out _ hSw).cellAt (j := 3) (by rw [← hn.out]; omega)
              rw [hx3.out] at g3
              go_simp
            try simp only [Act.put, List.setIfInBounds_toArray, List.set_cons_zero, List.set_cons_succ]
            refine takeH 3 ?_ rfl (by kernel_rfl) (by kernel_rfl) (by kernel_rfl) (fun _ _ _ h => h) (by kernel_rfl) (by assumption) (fun w hSw => ?_) ?_
            rotate_left
            · (try dsimp only at hSw); go_simp <;> (try with_reducible rfl)
            try simp only [Act.put, List.setIfInBounds_toArray, List.set_cons_zero, List.set_cons_succ]
            refine takeH 6 ?_ rfl (by kernel_rfl) (by kernel_rfl) (by kernel_rfl) (fun _ _ _ h => h) (by kernel_rfl) (by assumption) (fun w hSw => ?_) ?_
            rotate_left
            · (try dsimp only at hSw); go_simp <;> (try with_reducible rfl)
            try simp only [Act.put, List.setIfInBounds_toArray, List.set_cons_zero, List.set_cons_succ]
            refine effH 4 rfl (by kernel_rfl) (by kernel_rfl) (fun K hK => ?_)
            go_simp
            refine (clone_sl (some ⟨g, o, none⟩) m 0 ((xs.drop 10).take m) _ _ hk5 (hbody.cons _) HM (by simp; omega)).mono ?_
            rintro e w6 ⟨v6, rfl, hh6⟩
            obtain ⟨A6, n6, c6, rfl, hn6, hc6, -⟩ := hh6.own_form
            refine hK.out _ _ hh6.tail.tail (fun hHeld => ?_)
            clear hK K
            refine takeH 5 ?_ rfl (by kernel_rfl) (by kernel_rfl) (by kernel_rfl) (fun _ _ _ h => h) (by kernel_rfl) (by assumption) (fun w hSw => ?_) ?_
            rotate_left
            · (try dsimp only at hSw); go_simp <;> (try with_reducible rfl)
            try simp only [Act.put, List.setIfInBounds_toArray, List.set_cons_zero, List.set_cons_succ]
            have hh7 := hh6.pull 1 rfl
            have c0 : w6.cell? ⟨w.heap.size, 0, none⟩ = some (.int .u8 0) := (hh7.cells 0).trans rfl
            have c1 : w6.cell? ⟨w.heap.size, 1, none⟩ = some (.slice none 0 0) := (hh7.cells 1).trans rfl
            have f0 := hh7.free 0; have f1 := hh7.free 1
            refine effH 7 rfl (by kernel_rfl) (by kernel_rfl) (fun K hK => ?_)
            go_simp
            have hh8 := (hh7.set_ 0 (.int .u8 (x3.toNat : Int))).set_ 1 (.slice A6 n6 c6)
            refine hK.out _ _ hh8.tail.tail (fun hHeld => ?_)
            clear hK K
            refine takeH 8 ?_ rfl (by kernel_rfl) (by kernel_rfl) (by kernel_rfl) (fun _ _ _ h => h) (by kernel_rfl) (by assumption) (fun w hSw => ?_) ?_
            rotate_left
            · (try dsimp only at hSw); go_simp <;> (try with_reducible rfl)
            try simp only [Act.put, List.setIfInBounds_toArray, List.set_cons_zero, List.set_cons_succ]
            refine takeH 9 ?_ rfl (by kernel_rfl) (by kernel_rfl) (by kernel_rfl) (fun _ _ _ h => h) (by kernel_rfl) (by assumption) (fun w hSw => ?_) ?_
            rotate_left
            · (try dsimp only at hSw); go_simp <;> (try with_reducible rfl)
            try simp only [Act.put, List.setIfInBounds_toArray, List.set_cons_zero, List.set_cons_succ]
            refine wpAnyH_done (by kernel_rfl) ?_ _
            generalize (w6.setCell ⟨w.heap.size, 0, none⟩ (.int .u8 (x3.toNat : Int))).setCell ⟨w.heap.size, 1, none⟩ (.slice A6 n6 c6) = w9 at hh8 ⊢
            have HB9 := Lib.hid hh8.blk_heap
            have HH9 := Lib.hid hh8.tail
            clear c0 c1 f0 f1 hh8 hHeld
            go_wp2
            refine bodyPost_ret (results_cell_row3 rfl _ _ w.heap.size 78 #[.int .u8 (x3.toNat : Int), .slice A6 n6 c6] (0, 0) _ rfl HB9.out Tryd.underlying78 rfl (by kernel_rfl)) rfl ?_
            exact ⟨.slice A6 n6 c6, by rw [HF.out]; rfl, by rw [HF.out]; exact HH9.out⟩
        · have hc11 : 10 < c := by omega
          have hcI6 : (6 : Int) ≤ c := by omega
          have hcI10 : (10 : Int) ≤ c := by omega
          have hc3 : ¬ c = 3 := by omega
          have hc6 : ¬ c = 6 := by omega
          go_enter Tryd.func73, Tryd.ntmps73
          go_wp2_with (first
            | (go_at_call 91; (with_reducible refine HBG.out.mono ?_); rintro e w1 ⟨rfl, hh1⟩; have HH1 := Lib.hid hh1; clear hh1)
            | (go_at_call 92; (with_reducible refine (HL.out _ HH1.out).mono ?_); rintro e w2 ⟨rfl, hh2⟩; have HH2 := Lib.hid hh2; clear hh2)
            | (go_at_call 92; (with_reducible refine (HL.out _ HH2.out).mono ?_); rintro e w3 ⟨rfl, hh3⟩; have HH3 := Lib.hid hh3; clear hh3 HH2))
          have hbody : Ent R fun w => RD w (some ⟨g, o + 10, none⟩) ((xs.drop 10).take m) := fun w h => (HR.out _ h).mid 10 m
          have hk0 := HH3.out.drew
          refine wp_region_held_drew (S := fun w' => Holds w' (blk w.heap.size 78 #[.int .u8 0, .slice none 0 0] :: R)) (by kernel_rfl) ?_ (fun hHeld => ?_)
          · exact hk0
          refine takeH 0 ?_ rfl (by kernel_rfl) (by kernel_rfl) (by kernel_rfl) (fun _ _ _ h => h) (by kernel_rfl) (by assumption) (fun w hSw => ?_) ?_
          rotate_left
          · (try dsimp only at hSw); go_simp <;> (try with_reducible rfl)
          try simp only [Act.put, List.setIfInBounds_toArray, List.set_cons_zero, List.set_cons_succ]
          refine takeH 1 ?_ rfl (by kernel_rfl) (by kernel_rfl) (by kernel_rfl) (fun _ _ _ h => h) (by kernel_rfl) (by assumption) (fun w hSw => ?_) ?_
          rotate_left
          · (try dsimp only at hSw); go_simp <;> (try with_reducible rfl)
          try simp only [Act.put, List.setIfInBounds_toArray, List.set_cons_zero, List.set_cons_succ]
          refine takeH 2 ?_ rfl (by kernel_rfl) (by kernel_rfl) (by kernel_rfl) (fun _ _ _ h => h) (by kernel_rfl) (by assumption) (fun w hSw => ?_) ?_
          rotate_left
          · (try dsimp only at hSw); go_simp <;> (try with_reducible rfl)
          try simp only [Act.put, List.setIfInBounds_toArray, List.set_cons_zero, List.set_cons_succ]
          refine takeH 4 ?_ rfl (by kernel_rfl) (by kernel_rfl) (by kernel_rfl) (fun _ _ _ h => h) (by kernel_rfl) (by assumption) (fun w hSw => ?_) ?_
          rotate_left
          · (try dsimp only at hSw); go_simp <;> (try with_reducible rfl)
          try simp only [Act.put, List.setIfInBounds_toArray, List.set_cons_zero, List.set_cons_succ]
          refine takeH 5 ?_ rfl (by kernel_rfl) (by kernel_rfl) (by kernel_rfl) (fun _ _ _ h => h) (by kernel_rfl) (by assumption) (fun w hSw => ?_) ?_
          rotate_left
          · (try dsimp only at hSw); go_simp <;> (try with_reducible rfl)
          try simp only [Act.put, List.setIfInBounds_toArray, List.set_cons_zero, List.set_cons_succ]
          refine effH 3 rfl (by kernel_rfl) (by kernel_rfl) (fun K hK => ?_)
          go_simp
          refine (fsum_ok (some ⟨g, o + 3, none⟩) 3 _ ((xs.drop 3).take 3) (some ⟨g, o + 10, none⟩) m (c - 10) ((xs.drop 10).take m) _ _ hk0 (fun w' h => (HR.out _ h.tail).mid 3 3) H3 (by omega) (hbody.cons _) HM (by omega) (HK.out.cons _) (by omega)).mono ?_
          rintro e w4 ⟨gs, rfl, hh4⟩
          refine hK.out _ _ hh4.tail (fun hHeld => ?_)
          clear hK K hHeld
          refine effH 6 rfl (by kernel_rfl) (by kernel_rfl) (fun K hK => ?_)
          go_simp
          refine (equal_ok (some ⟨gs, 0, none⟩) 4 32 (sumF ((xs.drop 3).take 3) ((xs.drop 10).take m)) (some ⟨g, o + 6, none⟩) 4 _ ((xs.drop 6).take 4) w4 hh4.rb_rd (by unfold Hid; simp) ((HR.out _ hh4.tail.tail).mid 6 4) H4 (by omega) (by omega)).mono ?_
          rintro e w5 ⟨rfl, q, rfl⟩
          refine hK.out _ _ (hh4.tail.drewN q) (fun hHeld => ?_)
          clear hK K
          refine takeH 7 ?_ rfl (by kernel_rfl) (by kernel_rfl) (by kernel_rfl) (fun _ _ _ h => h) (by kernel_rfl) (by assumption) (fun w hSw => ?_) ?_
          rotate_left
          · (try dsimp only at hSw); go_simp <;> (try with_reducible rfl)
          try simp only [Act.put, List.setIfInBounds_toArray, List.set_cons_zero, List.set_cons_succ]
          refine wpAnyH_done (by kernel_rfl) ?_ _
          have HH5 := Lib.hid (hh4.tail.drewN q)
          clear hHeld hh4
          generalize w4.drewN q = w5 at HH5 ⊢
          have c0 : w5.cell? ⟨w.heap.size, 0, none⟩ = some (.int .u8 0) := (HH5.out.cells 0).trans rfl
          have c1 : w5.cell? ⟨w.heap.size, 1, none⟩ = some (.slice none 0 0) := (HH5.out.cells 1).trans rfl
          have f0 := HH5.out.free 0; have f1 := HH5.out.free 1
          cases hsum : (sumF ((xs.drop 3).take 3) ((xs.drop 10).take m) == (xs.drop 6).take 4)
          · have HF : Hid (decF xs = (0, [], 0, 3)) := by
              unfold Hid decF
              rw [if_neg hbt, if_neg (by rw [← hn.out, hmm.out]; omega), hmm.out, if_pos (by simpa using hsum)]
            go_wp2
            have hh2 := (HH5.out.set_ 0 (.int .u8 0)).set_ 1 (.slice none 0 0)
            generalize (w5.setCell ⟨w.heap.size, 0, none⟩ (.int .u8 0)).setCell ⟨w.heap.size, 1, none⟩ (.slice none 0 0) = w9 at hh2 ⊢
            have HB2 := Lib.hid hh2.blk_heap
            have HH9 := Lib.hid hh2.tail.nil_own
            clear c0 c1 f0 f1 hh2
            refine bodyPost_ret (results_cell_row3 rfl _ _ w.heap.size 78 #[.int .u8 0, .slice none 0 0] (0, 0) _ rfl HB2.out Tryd.underlying78 rfl (by kernel_rfl)) rfl ?_
            exact ⟨.slice none 0 0, by rw [HF.out]; rfl, by rw [HF.out]; exact HH9.out⟩
          · have HF : Hid (decF xs = (xs.getD 3 0, (xs.drop 10).take m, 10 + m, 0)) := by
              unfold Hid decF
              rw [if_neg hbt, if_neg (by rw [← hn.out, hmm.out]; omega), hmm.out, if_neg (by simpa using hsum)]
            obtain ⟨x3, hx3⟩ : ∃ x3, Hid (xs.getD 3 0 = x3) := ⟨_, rfl⟩
            rw [hx3.out] at HF
            clear c0 c1 f0 f1
            go_wp2
            have hk5 := HH5.out.drew
            have hn3 : (3 : Int) < n := by omega
            refine wp_region_held_drew (S := fun w' => Holds w' R) (by kernel_rfl) ?_ (fun hHeld => ?_)
            · exact hk5.tail
            refine takeH 0 ?_ rfl (by kernel_rfl) (by kernel_rfl) (by kernel_rfl) (fun _ _ _ h => h) (by kernel_rfl) (by assumption) (fun w hSw => ?_) ?_
            rotate_left
            · (try dsimp only at hSw); go_simp <;> (try with_reducible rfl)
            try simp only [Act.put, List.setIfInBounds_toArray, List.set_cons_zero, List.set_cons_succ]
            refine takeH 1 ?_ rfl (by kernel_rfl) (by kernel_rfl) (by kernel_rfl) (fun _ _ _ h => h) (by kernel_rfl) (by assumption) (fun w hSw => ?_) ?_
            rotate_left
            · (try dsimp only at hSw); go_simp <;> (try with_reducible rfl)
            try simp only [Act.put, List.setIfInBounds_toArray, List.set_cons_zero, List.set_cons_succ]
            refine takeH 2 (.int .u8 (x3.toNat : Int)) rfl (by kernel_rfl) (by kernel_rfl) (by kernel_rfl) (fun _ _ _ h => h) (by kernel_rfl) (by assumption) (fun w hSw => ?_) ?_
            · have g3 := (HR.out _ hSw).cellAt (j := 3) (by rw [← hn.out]; omega)
              rw [hx3.out] at g3
              go_simp
            try simp only [Act.put, List.setIfInBounds_toArray, List.set_cons_zero, List.set_cons_succ]
            refine takeH 3 ?_ rfl (by kernel_rfl) (by kernel_rfl) (by kernel_rfl) (fun _ _ _ h => h) (by kernel_rfl) (by assumption) (fun w hSw => ?_) ?_
            rotate_left
            · (try dsimp only at hSw); go_simp <;> (try with_reducible rfl)
            try simp only [Act.put, List.setIfInBounds_toArray, List.set_cons_zero, List.set_cons_succ]
            refine takeH 6 ?_ rfl (by kernel_rfl) (by kernel_rfl) (by kernel_rfl) (fun _ _ _ h => h) (by kernel_rfl) (by assumption) (fun w hSw => ?_) ?_
            rotate_left
            · (try dsimp only at hSw); go_simp <;> (try with_reducible rfl)
            try simp only [Act.put, List.setIfInBounds_toArray, List.set_cons_zero, List.set_cons_succ]
            refine effH 4 rfl (by kernel_rfl) (by kernel_rfl) (fun K hK => ?_)
            go_simp
            refine (clone_sl (some ⟨g, o + 10, none⟩) m (c - 10) ((xs.drop 10).take m) _ _ hk5 (hbody.cons _) HM (by simp; omega)).mono ?_
            rintro e w6 ⟨v6, rfl, hh6⟩
            obtain ⟨A6, n6, c6, rfl, hn6, hc6, -⟩ := hh6.own_form
            refine hK.out _ _ hh6.tail.tail (fun hHeld => ?_)
            clear hK K
            refine takeH 5 ?_ rfl (by kernel_rfl) (by kernel_rfl) (by kernel_rfl) (fun _ _ _ h => h) (by kernel_rfl) (by assumption) (fun w hSw => ?_) ?_
            rotate_left
            · (try dsimp only at hSw); go_simp <;> (try with_reducible rfl)
            try simp only [Act.put, List.setIfInBounds_toArray, List.set_cons_zero, List.set_cons_succ]
            have hh7 := hh6.pull 1 rfl
            have c0 : w6.cell? ⟨w.heap.size, 0, none⟩ = some (.int .u8 0) := (hh7.cells 0).trans rfl
            have c1 : w6.cell? ⟨w.heap.size, 1, none⟩ = some (.slice none 0 0) := (hh7.cells 1).trans rfl
            have f0 := hh7.free 0; have f1 := hh7.free 1
            refine effH 7 rfl (by kernel_rfl) (by kernel_rfl) (fun K hK => ?_)
            go_simp
            have hh8 := (hh7.set_ 0 (.int .u8 (x3.toNat : Int))).set_ 1 (.slice A6 n6 c6)
            refine hK.out _ _ hh8.tail.tail (fun hHeld => ?_)
            clear hK K
            refine takeH 8 ?_ rfl (by kernel_rfl) (by kernel_rfl) (by kernel_rfl) (fun _ _ _ h => h) (by kernel_rfl) (by assumption) (fun w hSw => ?_) ?_
            rotate_left
            · (try dsimp only at hSw); go_simp <;> (try with_reducible rfl)
            try simp only [Act.put, List.setIfInBounds_toArray, List.set_cons_zero, List.set_cons_succ]
            refine takeH 9 ?_ rfl (by kernel_rfl) (by kernel_rfl) (by kernel_rfl) (fun _ _ _ h => h) (by kernel_rfl) (by assumption) (fun w hSw => ?_) ?_
            rotate_left
            · (try dsimp only at hSw); go_simp <;> (try with_reducible rfl)
            try simp only [Act.put, List.setIfInBounds_toArray, List.set_cons_zero, List.set_cons_succ]
            refine wpAnyH_done (by kernel_rfl) ?_ _
            generalize (w6.setCell ⟨w.heap.size, 0, none⟩ (.int .u8 (x3.toNat : Int))).setCell ⟨w.heap.size, 1, none⟩ (.slice A6 n6 c6) = w9 at hh8 ⊢
            have HB9 := Lib.hid hh8.blk_heap
            have HH9 := Lib.hid hh8.tail
            clear c0 c1 f0 f1 hh8 hHeld
            go_wp2
            refine bodyPost_ret (results_cell_row3 rfl _ _ w.heap.size 78 #[.int .u8 (x3.toNat : Int), .slice A6 n6 c6] (0, 0) _ rfl HB9.out Tryd.underlying78 rfl (by kernel_rfl)) rfl ?_
            exact ⟨.slice A6 n6 c6, by rw [HF.out]; rfl, by rw [HF.out]; exact HH9.out⟩
end Go.Proofs.YtibkngjacdggpaaDoor
