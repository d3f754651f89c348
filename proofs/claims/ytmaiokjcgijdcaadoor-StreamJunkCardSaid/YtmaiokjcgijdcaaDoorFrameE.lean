/- a frame out of bytes -/
import Derived.Test.YtmaiokjcgijdcaaDoorFrameD
namespace Go.Proofs.YtmaiokjcgijdcaaDoor
open Go.RowKit HP

theorem RD.mid {w : World} {g o : Nat} {xs : List UInt8} (h : RD w (some ⟨g, o, none⟩) xs) (a k : Nat) : RD w (some ⟨g, o + a, none⟩) ((xs.drop a).take k) := by
  by_cases hx : xs = []
  · subst hx; simpa using RD.nil _ _
  · obtain ⟨g', o', e, hr⟩ := h.addr hx
    obtain ⟨rfl, rfl⟩ : g = g' ∧ o = o' := by simpa using e
    exact ⟨g, hr.mid a k⟩
theorem RD.cellAt {w : World} {g o j : Nat} {xs : List UInt8} (h : RD w (some ⟨g, o, none⟩) xs) (hj : j < xs.length) : w.cell? ⟨g, o + j, none⟩ = some (.int .u8 ((xs.getD j 0).toNat : Int)) := by
  obtain ⟨g', o', e, hr⟩ := h.addr (by intro e; subst e; simp at hj)
  obtain ⟨rfl, rfl⟩ : g = g' ∧ o = o' := by simpa using e
  obtain ⟨o2, e2, hc⟩ := hr.cell hj
  obtain rfl : o = o2 := by simpa using e2
  exact hc
/-- a struct's row and two numbers are the results -/
theorem results_cell_row3 {P : Program} {fn : Func} {p q r : Tmp} {ty : TypeId} (h : fn.results = #[.cell p ty, .tmp q, .tmp r]) (tmps : Array Value) (w : World) (g : Nat) (t : TypeId) (cs : Array Value) (fr : Nat × Nat) (d : TypeDesc)
    (hp : tmps.getD p undef = .pointer (some ⟨g, 0, none⟩)) (hg : w.heap[g]? = some (.cells cs t fr))
    (hu : P.underlying ty = some d) (hd : (match d with | .struct _ | .array _ _ => true | _ => false) = true) (hi : (P.info? ty).map (·.size) = some cs.size) :
    (results fn tmps).run P w = .ok (.tuple #[.agg cs, tmps.getD q undef, tmps.getD r undef]) w := by
  have hp' : tmps[p]?.getD undef = .pointer (some ⟨g, 0, none⟩) := by simpa using hp
  simp [results, h, hp', asAddr, run_loadVar_row w g t ty cs fr d hg hu hd hi]
set_option maxRecDepth 100000 in
set_option maxHeartbeats 1000000 in
theorem fdecode_ok (A : Option Addr) (n c : Nat) (xs : List UInt8) (w : World) (R : List HP) (hh : Holds w R) (hr : Ent R fun w => RD w A xs) (hn : Hid (n = xs.length)) (hc : n ≤ c) (hb : n ≤ 140737488355200) (hk : Ent R KF) :
    Calls Tryd.prog 15 #[.slice A n c] w fun e w' => ∃ v, e = .returned (.tuple #[.agg #[.int .u8 ((decF xs).1.toNat : Int), v], .int .i64 (decF xs).2.2.1, .int .i64 (decF xs).2.2.2]) ∧ Holds w' (own v (decF xs).2.1 :: R) := by
  have hh0 := hh.alloc 28 #[.int .u8 0, .slice none 0 0]
  have HBG := Lib.hid (begins_ok A n c xs _ _ hh0 (hr.cons _) hn hc (by omega))
  have HR := Lib.hid hr; have HK := Lib.hid hk
  cases hbf : beginsF xs
  · have HF : Hid (decF xs = (0, [], 0, 2)) := by unfold Hid decF; rw [if_pos hbf]
    rw [hbf] at HBG
    clear hh0 hr hk hbf
    go_enter Tryd.func15, Tryd.ntmps15
    go_wp2_with (go_at_call 18; (with_reducible refine HBG.out.mono ?_); rintro e w1 ⟨rfl, hh1⟩
                 have c0 : w1.cell? ⟨w.heap.size, 0, none⟩ = some (.int .u8 0) := (hh1.cells 0).trans rfl
                 have c1 : w1.cell? ⟨w.heap.size, 1, none⟩ = some (.slice none 0 0) := (hh1.cells 1).trans rfl
                 have f0 := hh1.free 0; have f1 := hh1.free 1
                 have HH1 := Lib.hid hh1; clear hh1)
    have hh2 := (HH1.out.set_ 0 (.int .u8 0)).set_ 1 (.slice none 0 0)
    generalize (w1.setCell ⟨w.heap.size, 0, none⟩ (.int .u8 0)).setCell ⟨w.heap.size, 1, none⟩ (.slice none 0 0) = w2 at hh2 ⊢
    have d0 : w2.cell? ⟨w.heap.size, 0, none⟩ = some (Value.int .u8 0) := (hh2.cells 0).trans rfl
    have d1 : w2.cell? ⟨w.heap.size, 1, none⟩ = some (Value.slice none 0 0) := (hh2.cells 1).trans rfl
    have HB2 := Lib.hid hh2.blk_heap
    have HH2 := Lib.hid hh2.tail.nil_own
    clear c0 c1 f0 f1 hh2
    refine bodyPost_ret (results_cell_row3 rfl _ _ w.heap.size 28 #[.int .u8 0, .slice none 0 0] (0, 0) _ rfl HB2.out Tryd.underlying28 rfl (by kernel_rfl)) rfl ?_
    · exact ⟨.slice none 0 0, by rw [HF.out]; rfl, by rw [HF.out]; exact HH2.out⟩
  · rw [hbf] at HBG
    have hbt : ¬ beginsF xs = false := by rw [hbf]; decide
    by_cases h10 : n < 10
    · have HF : Hid (decF xs = (0, [], 0, 4)) := by unfold Hid decF; rw [if_neg hbt, if_pos (.inl (by rw [← hn.out]; exact h10))]
      clear hh0 hr hk hbf hbt
      go_enter Tryd.func15, Tryd.ntmps15
      go_wp2_with (go_at_call 18; (with_reducible refine HBG.out.mono ?_); rintro e w1 ⟨rfl, hh1⟩
                   have c0 : w1.cell? ⟨w.heap.size, 0, none⟩ = some (.int .u8 0) := (hh1.cells 0).trans rfl
                   have c1 : w1.cell? ⟨w.heap.size, 1, none⟩ = some (.slice none 0 0) := (hh1.cells 1).trans rfl
                   have f0 := hh1.free 0; have f1 := hh1.free 1
                   have HH1 := Lib.hid hh1; clear hh1)
      have hh2 := (HH1.out.set_ 0 (.int .u8 0)).set_ 1 (.slice none 0 0)
      generalize (w1.setCell ⟨w.heap.size, 0, none⟩ (.int .u8 0)).setCell ⟨w.heap.size, 1, none⟩ (.slice none 0 0) = w9 at hh2 ⊢
      have HB2 := Lib.hid hh2.blk_heap
      have HH2 := Lib.hid hh2.tail.nil_own
      clear c0 c1 f0 f1 hh2
      refine bodyPost_ret (results_cell_row3 rfl _ _ w.heap.size 28 #[.int .u8 0, .slice none 0 0] (0, 0) _ rfl HB2.out Tryd.underlying28 rfl (by kernel_rfl)) rfl ?_
      exact ⟨.slice none 0 0, by rw [HF.out]; rfl, by rw [HF.out]; exact HH2.out⟩
    · have hm : lenF xs ≤ 1000 := by
        have := hbf
        simp only [beginsF, Bool.and_eq_true] at this
        have h2 := this.2
        rw [if_pos (by rw [← hn.out]; omega)] at h2
        simpa using h2
      have HL := Lib.hid (fun w' (h : Holds w' (blk w.heap.size 28 #[.int .u8 0, .slice none 0 0] :: R)) => flen_ok A n c xs w' _ h (hr _ h.tail) hn hc (by omega) (by omega))
      obtain ⟨m, hmm⟩ : ∃ m, Hid (lenF xs = m) := ⟨_, rfl⟩
      rw [hmm.out] at HL hm
      by_cases hs : n < 10 + m
      · have HF : Hid (decF xs = (0, [], 0, 4)) := by unfold Hid decF; rw [if_neg hbt, if_pos (.inr (by rw [← hn.out, hmm.out]; exact hs))]
        clear hh0 hr hk hbf hbt
        go_enter Tryd.func15, Tryd.ntmps15
        go_wp2_with (first
          | (go_at_call 18; (with_reducible refine HBG.out.mono ?_); rintro e w1 ⟨rfl, hh1⟩; have HH1 := Lib.hid hh1; clear hh1)
          | (go_at_call 34; (with_reducible refine (HL.out _ HH1.out).mono ?_); rintro e w2 ⟨rfl, hh2⟩
             have d0 : w2.cell? ⟨w.heap.size, 0, none⟩ = some (.int .u8 0) := (hh2.cells 0).trans rfl
             have d1 : w2.cell? ⟨w.heap.size, 1, none⟩ = some (.slice none 0 0) := (hh2.cells 1).trans rfl
             have e0 := hh2.free 0; have e1 := hh2.free 1
             have HH2 := Lib.hid hh2; clear hh2))
        have hh2 := (HH2.out.set_ 0 (.int .u8 0)).set_ 1 (.slice none 0 0)
        generalize (w2.setCell ⟨w.heap.size, 0, none⟩ (.int .u8 0)).setCell ⟨w.heap.size, 1, none⟩ (.slice none 0 0) = w9 at hh2 ⊢
        have HB2 := Lib.hid hh2.blk_heap
        have HH3 := Lib.hid hh2.tail.nil_own
        clear d0 d1 e0 e1 hh2
        refine bodyPost_ret (results_cell_row3 rfl _ _ w.heap.size 28 #[.int .u8 0, .slice none 0 0] (0, 0) _ rfl HB2.out Tryd.underlying28 rfl (by kernel_rfl)) rfl ?_
        exact ⟨.slice none 0 0, by rw [HF.out]; rfl, by rw [HF.out]; exact HH3.out⟩
      · obtain ⟨g, o, rfl, hrb⟩ := (hr _ hh).addr (ne_nil_of_len hn (by omega))
        have hadd : IntKind.i64.wrap (10 + (m : Int)) = ((10 + m : Nat) : Int) := by rw [IntKind.wrap_i64]; omega
        have H3 : Hid (3 = ((xs.drop 3).take 3).length) := by unfold Hid; have := hn.out; simp; omega
        have H4 : Hid (4 = ((xs.drop 6).take 4).length) := by unfold Hid; have := hn.out; simp; omega
        have HM : Hid (m = ((xs.drop 10).take m).length) := by unfold Hid; have := hn.out; simp; omega
        clear hh0 hr hk hbf
        by_cases hc10 : c = 10
        · subst hc10
          go_enter Tryd.func15, Tryd.ntmps15
          go_wp2_with (first
            | (go_at_call 18; (with_reducible refine HBG.out.mono ?_); rintro e w1 ⟨rfl, hh1⟩; have HH1 := Lib.hid hh1; clear hh1)
            | (go_at_call 34; (with_reducible refine (HL.out _ HH1.out).mono ?_); rintro e w2 ⟨rfl, hh2⟩; have HH2 := Lib.hid hh2; clear hh2)
            | (go_at_call 34; (with_reducible refine (HL.out _ HH2.out).mono ?_); rintro e w3 ⟨rfl, hh3⟩; have HH3 := Lib.hid hh3; clear hh3 HH2))
          have hbody : Ent R fun w => RD w (some ⟨g, o, none⟩) ((xs.drop 10).take m) := fun w _ => by rw [show m = 0 by omega, List.take_zero]; exact RD.nil _ _
          have hk0 := HH3.out.drew
          refine wp_region_held_drew (S := fun w' => Holds w' (blk w.heap.size 28 #[.int .u8 0, .slice none 0 0] :: R)) (by kernel_rfl) ?_ (fun hHeld => ?_)
          · exact hk0
          refine takeH 0 ?_ rfl (by kernel_rfl) (by kernel_rfl) (by kernel_rfl) (fun _ _ _ h => h) (by kernel_rfl) (by assumption) (fun w hSw => ?_) ?_
          rotate_left
          · (try dsimp only at hSw); go_simp <;> (try with_reducible rfl)
          try simp only [Act.put, List.setIfInBounds_toArray, List.set_cons_zero, List.set_cons_succ]
          refine takeH 1 ?_ rfl (by kernel_rfl) (by kernel_rfl) (by kernel_rfl) (fun _ _ _ h => h) (by kernel_rfl) (by assumption) (fun w hSw => ?_) ?_
          rotate_left
          · (try dsimp only at hSw); go_simp <;> (try with_reducible rfl)
          try simp only [Act.put, List.setIfInBounds_toArray, List.set_cons_zero, List.set_cons_succ]
          refine takeH 2 ?_ rfl (by kernel_rfl) (by kernel_rfl) (by kernel_rfl) (fun _ _ _ h => h) (by kernel_rfl) (by assumption) (fun w hSw => ?_) ?_
          rotate_left
          · (try dsimp only at hSw); go_simp <;> (try with_reducible rfl)
          try simp only [Act.put, List.setIfInBounds_toArray, List.set_cons_zero, List.set_cons_succ]
          refine takeH 4 ?_ rfl (by kernel_rfl) (by kernel_rfl) (by kernel_rfl) (fun _ _ _ h => h) (by kernel_rfl) (by assumption) (fun w hSw => ?_) ?_
          rotate_left
          · (try dsimp only at hSw); go_simp <;> (try with_reducible rfl)
          try simp only [Act.put, List.setIfInBounds_toArray, List.set_cons_zero, List.set_cons_succ]
          refine takeH 5 ?_ rfl (by kernel_rfl) (by kernel_rfl) (by kernel_rfl) (fun _ _ _ h => h) (by kernel_rfl) (by assumption) (fun w hSw => ?_) ?_
          rotate_left
          · (try dsimp only at hSw); go_simp <;> (try with_reducible rfl)
          try simp only [Act.put, List.setIfInBounds_toArray, List.set_cons_zero, List.set_cons_succ]
          refine effH 3 rfl (by kernel_rfl) (by kernel_rfl) (fun K hK => ?_)
          go_simp
          refine (fsum_ok (some ⟨g, o + 3, none⟩) 3 _ ((xs.drop 3).take 3) (some ⟨g, o, none⟩) m 0 ((xs.drop 10).take m) _ _ hk0 (fun w' h => (HR.out _ h.tail).mid 3 3) H3 (by omega) (hbody.cons _) HM (by omega) (HK.out.cons _) (by omega)).mono ?_
          rintro e w4 ⟨gs, rfl, hh4⟩
          refine hK.out _ _ hh4.tail (fun hHeld => ?_)
          clear hK K hHeld
          refine effH 6 rfl (by kernel_rfl) (by kernel_rfl) (fun K hK => ?_)
          go_simp
          refine (equal_ok (some ⟨gs, 0, none⟩) 4 32 (sumF ((xs.drop 3).take 3) ((xs.drop 10).take m)) (some ⟨g, o + 6, none⟩) 4 _ ((xs.drop 6).take 4) w4 hh4.rb_rd (by unfold Hid; simp) ((HR.out _ hh4.tail.tail).mid 6 4) H4 (by omega) (by omega)).mono ?_
          rintro e w5 ⟨rfl, q, rfl⟩
          refine hK.out _ _ (hh4.tail.drewN q) (fun hHeld => ?_)
          clear hK K
          refine takeH 7 ?_ rfl (by kernel_rfl) (by kernel_rfl) (by kernel_rfl) (fun _ _ _ h => h) (by kernel_rfl) (by assumption) (fun w hSw => ?_) ?_
          rotate_left
          · (try dsimp only at hSw); go_simp <;> (try with_reducible rfl)
          try simp only [Act.put, List.setIfInBounds_toArray, List.set_cons_zero, List.set_cons_succ]
          refine wpAnyH_done (by kernel_rfl) ?_ _
          have HH5 := Lib.hid (hh4.tail.drewN q)
          clear hHeld hh4
          generalize w4.drewN q = w5 at HH5 ⊢
          have c0 : w5.cell? ⟨w.heap.size, 0, none⟩ = some (.int .u8 0) := (HH5.out.cells 0).trans rfl
          have c1 : w5.cell? ⟨w.heap.size, 1, none⟩ = some (.slice none 0 0) := (HH5.out.cells 1).trans rfl
          have f0 := HH5.out.free 0; have f1 := HH5.out.free 1
          cases hsum : (sumF ((xs.drop 3).take 3) ((xs.drop 10).take m) == (xs.drop 6).take 4)
          · have HF : Hid (decF xs = (0, [], 0, 3)) := by
              unfold Hid decF
              rw [if_neg hbt, if_neg (by rw [← hn.out, hmm.out]; omega), hmm.out, if_pos (by simpa using hsum)]
            go_wp2
            have hh2 := (HH5.out.set_ 0 (.int .u8 0)).set_ 1 (.slice none 0 0)
            generalize (w5.setCell ⟨w.heap.size, 0, none⟩ (.int .u8 0)).setCell ⟨w.heap.size, 1, none⟩ (.slice none 0 0) = w9 at hh2 ⊢
            have HB2 := Lib.hid hh2.blk_heap
            have HH9 := Lib.hid hh2.tail.nil_own
            clear c0 c1 f0 f1 hh2
            refine bodyPost_ret (results_cell_row3 rfl _ _ w.heap.size 28 #[.int .u8 0, .slice none 0 0] (0, 0) _ rfl HB2.out Tryd.underlying28 rfl (by kernel_rfl)) rfl ?_
            exact ⟨.slice none 0 0, by rw [HF.out]; rfl, by rw [HF.out]; exact HH9.out⟩
          · have HF : Hid (decF xs = (xs.getD 3 0, (xs.drop 10).take m, 10 + m, 0)) := by
              unfold Hid decF
              rw [if_neg hbt, if_neg (by rw [← hn.out, hmm.out]; omega), hmm.out, if_neg (by simpa using hsum)]
            obtain ⟨x3, hx3⟩ : ∃ x3, Hid (xs.getD 3 0 = x3) := ⟨_, rfl⟩
            rw [hx3.out] at HF
            clear c0 c1 f0 f1
            go_wp2
            have hk5 := HH5.out.drew
            have hn3 : (3 : Int) < n := by omega
            refine wp_region_held_drew (S := fun w' => Holds w' R) (by kernel_rfl) ?_ (fun hHeld => ?_)
            · exact hk5.tail
            refine takeH 0 ?_ rfl (by kernel_rfl) (by kernel_rfl) (by kernel_rfl) (fun _ _ _ h => h) (by kernel_rfl) (by assumption) (fun w hSw => ?_) ?_
            rotate_left
            · (try dsimp only at hSw); go_simp <;> (try with_reducible rfl)
            try simp only [Act.put, List.setIfInBounds_toArray, List.set_cons_zero, List.set_cons_succ]
            refine takeH 1 ?_ rfl (by kernel_rfl) (by kernel_rfl) (by kernel_rfl) (fun _ _ _ h => h) (by kernel_rfl) (by assumption) (fun w hSw => ?_) ?_
            rotate_left
            · (try dsimp only at hSw); go_simp <;> (try with_reducible rfl)
            try simp only [Act.put, List.setIfInBounds_toArray, List.set_cons_zero, List.set_cons_succ]
            refine takeH 2 (.int .u8 (x3.toNat : Int)) rfl (by kernel_rfl) (by kernel_rfl) (by kernel_rfl) (fun _ _ _ h => h) (by kernel_rfl) (by assumption) (fun w hSw => ?_) ?_
            · have g3 := (HR.out _ hSw).cellAt (j := 3) (by rw [← hn.out]; omega)
              rw [hx3.out] at g3
              go_simp
            try simp only [Act.put, List.setIfInBounds_toArray, List.set_cons_zero, List.set_cons_succ]
            refine takeH 3 ?_ rfl (by kernel_rfl) (by kernel_rfl) (by kernel_rfl) (fun _ _ _ h => h) (by kernel_rfl) (by assumption) (fun w hSw => ?_) ?_
            rotate_left
            · (try dsimp only at hSw); go_simp <;> (try with_reducible rfl)
            try simp only [Act.put, List.setIfInBounds_toArray, List.set_cons_zero, List.set_cons_succ]
            refine takeH 6 ?_ rfl (by kernel_rfl) (by kernel_rfl) (by kernel_rfl) (fun _ _ _ h => h) (by kernel_rfl) (by assumption) (fun w hSw => ?_) ?_
            rotate_left
            · (try dsimp only at hSw); go_simp <;> (try with_reducible rfl)
            try simp only [Act.put, List.setIfInBounds_toArray, List.set_cons_zero, List.set_cons_succ]
            refine effH 4 rfl (by kernel_rfl) (by kernel_rfl) (fun K hK => ?_)
            go_simp
            refine (clone_sl (some ⟨g, o, none⟩) m 0 ((xs.drop 10).take m) _ _ hk5 (hbody.cons _) HM (by simp; omega)).mono ?_
            rintro e w6 ⟨v6, rfl, hh6⟩
            obtain ⟨A6, n6, c6, rfl, hn6, hc6, -⟩ := hh6.own_form
            refine hK.out _ _ hh6.tail.tail (fun hHeld => ?_)
            clear hK K
            refine takeH 5 ?_ rfl (by kernel_rfl) (by kernel_rfl) (by kernel_rfl) (fun _ _ _ h => h) (by kernel_rfl) (by assumption) (fun w hSw => ?_) ?_
            rotate_left
            · (try dsimp only at hSw); go_simp <;> (try with_reducible rfl)
            try simp only [Act.put, List.setIfInBounds_toArray, List.set_cons_zero, List.set_cons_succ]
            have hh7 := hh6.pull 1 rfl
            have c0 : w6.cell? ⟨w.heap.size, 0, none⟩ = some (.int .u8 0) := (hh7.cells 0).trans rfl
            have c1 : w6.cell? ⟨w.heap.size, 1, none⟩ = some (.slice none 0 0) := (hh7.cells 1).trans rfl
            have f0 := hh7.free 0; have f1 := hh7.free 1
            refine effH 7 rfl (by kernel_rfl) (by kernel_rfl) (fun K hK => ?_)
            go_simp
            have hh8 := (hh7.set_ 0 (.int .u8 (x3.toNat : Int))).set_ 1 (.slice A6 n6 c6)
            refine hK.out _ _ hh8.tail.tail (fun hHeld => ?_)
            clear hK K
            refine takeH 8 ?_ rfl (by kernel_rfl) (by kernel_rfl) (by kernel_rfl) (fun _ _ _ h => h) (by kernel_rfl) (by assumption) (fun w hSw => ?_) ?_
            rotate_left
            · (try dsimp only at hSw); go_simp <;> (try with_reducible rfl)
            try simp only [Act.put, List.setIfInBounds_toArray, List.set_cons_zero, List.set_cons_succ]
            refine takeH 9 ?_ rfl (by kernel_rfl) (by kernel_rfl) (by kernel_rfl) (fun _ _ _ h => h) (by kernel_rfl) (by assumption) (fun w hSw => ?_) ?_
            rotate_left
            · (try dsimp only at hSw); go_simp <;> (try with_reducible rfl)
            try simp only [Act.put, List.setIfInBounds_toArray, List.set_cons_zero, List.set_cons_succ]
            refine wpAnyH_done (by kernel_rfl) ?_ _
            generalize (w6.setCell ⟨w.heap.size, 0, none⟩ (.int .u8 (x3.toNat : Int))).setCell ⟨w.heap.size, 1, none⟩ (.slice A6 n6 c6) = w9 at hh8 ⊢
            have HB9 := Lib.hid hh8.blk_heap
            have HH9 := Lib.hid hh8.tail
            clear c0 c1 f0 f1 hh8 hHeld
            go_wp2
            refine bodyPost_ret (results_cell_row3 rfl _ _ w.heap.size 28 #[.int .u8 (x3.toNat : Int), .slice A6 n6 c6] (0, 0) _ rfl HB9.out Tryd.underlying28 rfl (by kernel_rfl)) rfl ?_
            exact ⟨.slice A6 n6 c6, by rw [HF.out]; rfl, by rw [HF.out]; exact HH9.out⟩
        · have hc11 : 10 < c := by omega
          have hcI6 : (6 : Int) ≤ c := by omega
          have hcI10 : (10 : Int) ≤ c := by omega
          have hc3 : ¬ c = 3 := by omega
          have hc6 : ¬ c = 6 := by omega
          go_enter Tryd.func15, Tryd.ntmps15
          go_wp2_with (first
            | (go_at_call 18; (with_reducible refine HBG.out.mono ?_); rintro e w1 ⟨rfl, hh1⟩; have HH1 := Lib.hid hh1; clear hh1)
            | (go_at_call 34; (with_reducible refine (HL.out _ HH1.out).mono ?_); rintro e w2 ⟨rfl, hh2⟩; have HH2 := Lib.hid hh2; clear hh2)
            | (go_at_call 34; (with_reducible refine (HL.out _ HH2.out).mono ?_); rintro e w3 ⟨rfl, hh3⟩; have HH3 := Lib.hid hh3; clear hh3 HH2))
          have hbody : Ent R fun w => RD w (some ⟨g, o + 10, none⟩) ((xs.drop 10).take m) := fun w h => (HR.out _ h).mid 10 m
          have hk0 := HH3.out.drew
          refine wp_region_held_drew (S := fun w' => Holds w' (blk w.heap.size 28 #[.int .u8 0, .slice none 0 0] :: R)) (by kernel_rfl) ?_ (fun hHeld => ?_)
          · exact hk0
          refine takeH 0 ?_ rfl (by kernel_rfl) (by kernel_rfl) (by kernel_rfl) (fun _ _ _ h => h) (by kernel_rfl) (by assumption) (fun w hSw => ?_) ?_
          rotate_left
          · (try dsimp only at hSw); go_simp <;> (try with_reducible rfl)
          try simp only [Act.put, List.setIfInBounds_toArray, List.set_cons_zero, List.set_cons_succ]
          refine takeH 1 ?_ rfl (by kernel_rfl) (by kernel_rfl) (by kernel_rfl) (fun _ _ _ h => h) (by kernel_rfl) (by assumption) (fun w hSw => ?_) ?_
          rotate_left
          · (try dsimp only at hSw); go_simp <;> (try with_reducible rfl)
          try simp only [Act.put, List.setIfInBounds_toArray, List.set_cons_zero, List.set_cons_succ]
          refine takeH 2 ?_ rfl (by kernel_rfl) (by kernel_rfl) (by kernel_rfl) (fun _ _ _ h => h) (by kernel_rfl) (by assumption) (fun w hSw => ?_) ?_
          rotate_left
          · (try dsimp only at hSw); go_simp <;> (try with_reducible rfl)
          try simp only [Act.put, List.setIfInBounds_toArray, List.set_cons_zero, List.set_cons_succ]
          refine takeH 4 ?_ rfl (by kernel_rfl) (by kernel_rfl) (by kernel_rfl) (fun _ _ _ h => h) (by kernel_rfl) (by assumption) (fun w hSw => ?_) ?_
          rotate_left
          · (try dsimp only at hSw); go_simp <;> (try with_reducible rfl)
          try simp only [Act.put, List.setIfInBounds_toArray, List.set_cons_zero, List.set_cons_succ]
          refine takeH 5 ?_ rfl (by kernel_rfl) (by kernel_rfl) (by kernel_rfl) (fun _ _ _ h => h) (by kernel_rfl) (by assumption) (fun w hSw => ?_) ?_
          rotate_left
          · (try dsimp only at hSw); go_simp <;> (try with_reducible rfl)
          try simp only [Act.put, List.setIfInBounds_toArray, List.set_cons_zero, List.set_cons_succ]
          refine effH 3 rfl (by kernel_rfl) (by kernel_rfl) (fun K hK => ?_)
          go_simp
          refine (fsum_ok (some ⟨g, o + 3, none⟩) 3 _ ((xs.drop 3).take 3) (some ⟨g, o + 10, none⟩) m (c - 10) ((xs.drop 10).take m) _ _ hk0 (fun w' h => (HR.out _ h.tail).mid 3 3) H3 (by omega) (hbody.cons _) HM (by omega) (HK.out.cons _) (by omega)).mono ?_
          rintro e w4 ⟨gs, rfl, hh4⟩
          refine hK.out _ _ hh4.tail (fun hHeld => ?_)
          clear hK K hHeld
          refine effH 6 rfl (by kernel_rfl) (by kernel_rfl) (fun K hK => ?_)
          go_simp
          refine (equal_ok (some ⟨gs, 0, none⟩) 4 32 (sumF ((xs.drop 3).take 3) ((xs.drop 10).take m)) (some ⟨g, o + 6, none⟩) 4 _ ((xs.drop 6).take 4) w4 hh4.rb_rd (by unfold Hid; simp) ((HR.out _ hh4.tail.tail).mid 6 4) H4 (by omega) (by omega)).mono ?_
          rintro e w5 ⟨rfl, q, rfl⟩
          refine hK.out _ _ (hh4.tail.drewN q) (fun hHeld => ?_)
          clear hK K
          refine takeH 7 ?_ rfl (by kernel_rfl) (by kernel_rfl) (by kernel_rfl) (fun _ _ _ h => h) (by kernel_rfl) (by assumption) (fun w hSw => ?_) ?_
          rotate_left
          · (try dsimp only at hSw); go_simp <;> (try with_reducible rfl)
          try simp only [Act.put, List.setIfInBounds_toArray, List.set_cons_zero, List.set_cons_succ]
          refine wpAnyH_done (by kernel_rfl) ?_ _
          have HH5 := Lib.hid (hh4.tail.drewN q)
          clear hHeld hh4
          generalize w4.drewN q = w5 at HH5 ⊢
          have c0 : w5.cell? ⟨w.heap.size, 0, none⟩ = some (.int .u8 0) := (HH5.out.cells 0).trans rfl
          have c1 : w5.cell? ⟨w.heap.size, 1, none⟩ = some (.slice none 0 0) := (HH5.out.cells 1).trans rfl
          have f0 := HH5.out.free 0; have f1 := HH5.out.free 1
          cases hsum : (sumF ((xs.drop 3).take 3) ((xs.drop 10).take m) == (xs.drop 6).take 4)
          · have HF : Hid (decF xs = (0, [], 0, 3)) := by
              unfold Hid decF
              rw [if_neg hbt, if_neg (by rw [← hn.out, hmm.out]; omega), hmm.out, if_pos (by simpa using hsum)]
            go_wp2
            have hh2 := (HH5.out.set_ 0 (.int .u8 0)).set_ 1 (.slice none 0 0)
            generalize (w5.setCell ⟨w.heap.size, 0, none⟩ (.int .u8 0)).setCell ⟨w.heap.size, 1, none⟩ (.slice none 0 0) = w9 at hh2 ⊢
            have HB2 := Lib.hid hh2.blk_heap
            have HH9 := Lib.hid hh2.tail.nil_own
            clear c0 c1 f0 f1 hh2
            refine bodyPost_ret (results_cell_row3 rfl _ _ w.heap.size 28 #[.int .u8 0, .slice none 0 0] (0, 0) _ rfl HB2.out Tryd.underlying28 rfl (by kernel_rfl)) rfl ?_
            exact ⟨.slice none 0 0, by rw [HF.out]; rfl, by rw [HF.out]; exact HH9.out⟩
          · have HF : Hid (decF xs = (xs.getD 3 0, (xs.drop 10).take m, 10 + m, 0)) := by
              unfold Hid decF
              rw [if_neg hbt, if_neg (by rw [← hn.out, hmm.out]; omega), hmm.out, if_neg (by simpa using hsum)]
            obtain ⟨x3, hx3⟩ : ∃ x3, Hid (xs.getD 3 0 = x3) := ⟨_, rfl⟩
            rw [hx3.out] at HF
            clear c0 c1 f0 f1
            go_wp2
            have hk5 := HH5.out.drew
            have hn3 : (3 : Int) < n := by omega
            refine wp_region_held_drew (S := fun w' => Holds w' R) (by kernel_rfl) ?_ (fun hHeld => ?_)
            · exact hk5.tail
            refine takeH 0 ?_ rfl (by kernel_rfl) (by kernel_rfl) (by kernel_rfl) (fun _ _ _ h => h) (by kernel_rfl) (by assumption) (fun w hSw => ?_) ?_
            rotate_left
            · (try dsimp only at hSw); go_simp <;> (try with_reducible rfl)
            try simp only [Act.put, List.setIfInBounds_toArray, List.set_cons_zero, List.set_cons_succ]
            refine takeH 1 ?_ rfl (by kernel_rfl) (by kernel_rfl) (by kernel_rfl) (fun _ _ _ h => h) (by kernel_rfl) (by assumption) (fun w hSw => ?_) ?_
            rotate_left
            · (try dsimp only at hSw); go_simp <;> (try with_reducible rfl)
            try simp only [Act.put, List.setIfInBounds_toArray, List.set_cons_zero, List.set_cons_succ]
            refine takeH 2 (.int .u8 (x3.toNat : Int)) rfl (by kernel_rfl) (by kernel_rfl) (by kernel_rfl) (fun _ _ _ h => h) (by kernel_rfl) (by assumption) (fun w hSw => ?_) ?_
            · have g3 := (HR.out _ hSw).cellAt (j := 3) (by rw [← hn.out]; omega)
              rw [hx3.out] at g3
              go_simp
            try simp only [Act.put, List.setIfInBounds_toArray, List.set_cons_zero, List.set_cons_succ]
            refine takeH 3 ?_ rfl (by kernel_rfl) (by kernel_rfl) (by kernel_rfl) (fun _ _ _ h => h) (by kernel_rfl) (by assumption) (fun w hSw => ?_) ?_
            rotate_left
            · (try dsimp only at hSw); go_simp <;> (try with_reducible rfl)
            try simp only [Act.put, List.setIfInBounds_toArray, List.set_cons_zero, List.set_cons_succ]
            refine takeH 6 ?_ rfl (by kernel_rfl) (by kernel_rfl) (by kernel_rfl) (fun _ _ _ h => h) (by kernel_rfl) (by assumption) (fun w hSw => ?_) ?_
            rotate_left
            · (try dsimp only at hSw); go_simp <;> (try with_reducible rfl)
            try simp only [Act.put, List.setIfInBounds_toArray, List.set_cons_zero, List.set_cons_succ]
            refine effH 4 rfl (by kernel_rfl) (by kernel_rfl) (fun K hK => ?_)
            go_simp
            refine (clone_sl (some ⟨g, o + 10, none⟩) m (c - 10) ((xs.drop 10).take m) _ _ hk5 (hbody.cons _) HM (by simp; omega)).mono ?_
            rintro e w6 ⟨v6, rfl, hh6⟩
            obtain ⟨A6, n6, c6, rfl, hn6, hc6, -⟩ := hh6.own_form
            refine hK.out _ _ hh6.tail.tail (fun hHeld => ?_)
            clear hK K
            refine takeH 5 ?_ rfl (by kernel_rfl) (by kernel_rfl) (by kernel_rfl) (fun _ _ _ h => h) (by kernel_rfl) (by assumption) (fun w hSw => ?_) ?_
            rotate_left
            · (try dsimp only at hSw); go_simp <;> (try with_reducible rfl)
            try simp only [Act.put, List.setIfInBounds_toArray, List.set_cons_zero, List.set_cons_succ]
            have hh7 := hh6.pull 1 rfl
            have c0 : w6.cell? ⟨w.heap.size, 0, none⟩ = some (.int .u8 0) := (hh7.cells 0).trans rfl
            have c1 : w6.cell? ⟨w.heap.size, 1, none⟩ = some (.slice none 0 0) := (hh7.cells 1).trans rfl
            have f0 := hh7.free 0; have f1 := hh7.free 1
            refine effH 7 rfl (by kernel_rfl) (by kernel_rfl) (fun K hK => ?_)
            go_simp
            have hh8 := (hh7.set_ 0 (.int .u8 (x3.toNat : Int))).set_ 1 (.slice A6 n6 c6)
            refine hK.out _ _ hh8.tail.tail (fun hHeld => ?_)
            clear hK K
            refine takeH 8 ?_ rfl (by kernel_rfl) (by kernel_rfl) (by kernel_rfl) (fun _ _ _ h => h) (by kernel_rfl) (by assumption) (fun w hSw => ?_) ?_
            rotate_left
            · (try dsimp only at hSw); go_simp <;> (try with_reducible rfl)
            try simp only [Act.put, List.setIfInBounds_toArray, List.set_cons_zero, List.set_cons_succ]
            refine takeH 9 ?_ rfl (by kernel_rfl) (by kernel_rfl) (by kernel_rfl) (fun _ _ _ h => h) (by kernel_rfl) (by assumption) (fun w hSw => ?_) ?_
            rotate_left
            · (try dsimp only at hSw); go_simp <;> (try with_reducible rfl)
            try simp only [Act.put, List.setIfInBounds_toArray, List.set_cons_zero, List.set_cons_succ]
            refine wpAnyH_done (by kernel_rfl) ?_ _
            generalize (w6.setCell ⟨w.heap.size, 0, none⟩ (.int .u8 (x3.toNat : Int))).setCell ⟨w.heap.size, 1, none⟩ (.slice A6 n6 c6) = w9 at hh8 ⊢
            have HB9 := Lib.hid hh8.blk_heap
            have HH9 := Lib.hid hh8.tail
            clear c0 c1 f0 f1 hh8 hHeld
            go_wp2
            refine bodyPost_ret (results_cell_row3 rfl _ _ w.heap.size 28 #[.int .u8 (x3.toNat : Int), .slice A6 n6 c6] (0, 0) _ rfl HB9.out Tryd.underlying28 rfl (by kernel_rfl)) rfl ?_
            exact ⟨.slice A6 n6 c6, by rw [HF.out]; rfl, by rw [HF.out]; exact HH9.out⟩
end Go.Proofs.YtmaiokjcgijdcaaDoor
