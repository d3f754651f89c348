/- the reference: a frame out of bytes -/
import Derived.Test.YtibkngjacdggpaaDoorRefH
namespace Go.Proofs.YtibkngjacdggpaaDoor
open Go.RowKit HP

theorem str_ne (a b : List UInt8) : (strOf a).toList = (strOf b).toList ↔ a = b := by
  simp [strOf_list]
set_option maxRecDepth 100000 in
set_option maxHeartbeats 2000000 in
theorem rdecode_ok (A : Option Addr) (n c : Nat) (xs : List UInt8) (w : World) (R : List HP) (hh : Holds w R) (hr : Ent R fun w => RD w A xs) (hn : Hid (n = xs.length)) (hc : n ≤ c) (hb : n ≤ 140737488355000) :
    Calls Tryd.prog 75 #[.slice A n c] w fun e w' => ∃ v, e = .returned (.tuple #[.agg #[.int .u8 ((decF xs).1.toNat : Int), v], .int .i64 (decF xs).2.2.1, .int .i64 (decF xs).2.2.2]) ∧ Holds w' (own v (decF xs).2.1 :: R) := by
  have hh0 := hh.alloc 100 #[.int .u8 0, .slice none 0 0]
  have HBG := Lib.hid (rbegins_ok A n c xs _ _ hh0 (hr.cons _) hn hc (by omega))
  have HR := Lib.hid hr
  cases hbf : beginsF xs
  · have HF : Hid (decF xs = (0, [], 0, 2)) := by unfold Hid decF; rw [if_pos hbf]
    rw [hbf] at HBG
    clear hh0 hr hbf
    go_enter Tryd.func75, Tryd.ntmps75
    go_wp2_with (go_at_call 100; (with_reducible refine HBG.out.mono ?_); rintro e w1 ⟨rfl, hh1⟩
                 have c0 : w1.cell? ⟨w.heap.size, 0, none⟩ = some (.int .u8 0) := (hh1.cells 0).trans rfl
                 have c1 : w1.cell? ⟨w.heap.size, 1, none⟩ = some (.slice none 0 0) := (hh1.cells 1).trans rfl
                 have f0 := hh1.free 0; have f1 := hh1.free 1
                 have HH1 := Lib.hid hh1; clear hh1)
    have hh2 := (HH1.out.set_ 0 (.int .u8 0)).set_ 1 (.slice none 0 0)
    generalize (w1.setCell ⟨w.heap.size, 0, none⟩ (.int .u8 0)).setCell ⟨w.heap.size, 1, none⟩ (.slice none 0 0) = w2 at hh2 ⊢
    have HB2 := Lib.hid hh2.blk_heap
    have HH2 := Lib.hid hh2.tail.nil_own
    clear c0 c1 f0 f1 hh2
    refine bodyPost_ret (results_cell_row3 rfl _ _ w.heap.size 100 #[.int .u8 0, .slice none 0 0] (0, 0) _ rfl HB2.out Tryd.underlying100 rfl (by kernel_rfl)) rfl ?_
    exact ⟨.slice none 0 0, by rw [HF.out]; rfl, by rw [HF.out]; exact HH2.out⟩
  · rw [hbf] at HBG
    have hbt : ¬ beginsF xs = false := by rw [hbf]; decide
    by_cases h10 : n < 10
    · have HF : Hid (decF xs = (0, [], 0, 4)) := by unfold Hid decF; rw [if_neg hbt, if_pos (.inl (by rw [← hn.out]; exact h10))]
      clear hh0 hr hbf hbt
      go_enter Tryd.func75, Tryd.ntmps75
      go_wp2_with (go_at_call 100; (with_reducible refine HBG.out.mono ?_); rintro e w1 ⟨rfl, hh1⟩
                   have c0 : w1.cell? ⟨w.heap.size, 0, none⟩ = some (.int .u8 0) := (hh1.cells 0).trans rfl
                   have c1 : w1.cell? ⟨w.heap.size, 1, none⟩ = some (.slice none 0 0) := (hh1.cells 1).trans rfl
                   have f0 := hh1.free 0; have f1 := hh1.free 1
                   have HH1 := Lib.hid hh1; clear hh1)
      have hh2 := (HH1.out.set_ 0 (.int .u8 0)).set_ 1 (.slice none 0 0)
      generalize (w1.setCell ⟨w.heap.size, 0, none⟩ (.int .u8 0)).setCell ⟨w.heap.size, 1, none⟩ (.slice none 0 0) = w9 at hh2 ⊢
      have HB2 := Lib.hid hh2.blk_heap
      have HH2 := Lib.hid hh2.tail.nil_own
      clear c0 c1 f0 f1 hh2
      refine bodyPost_ret (results_cell_row3 rfl _ _ w.heap.size 100 #[.int .u8 0, .slice none 0 0] (0, 0) _ rfl HB2.out Tryd.underlying100 rfl (by kernel_rfl)) rfl ?_
      exact ⟨.slice none 0 0, by rw [HF.out]; rfl, by rw [HF.out]; exact HH2.out⟩
    · have hm : lenF xs ≤ 1000 := by
        have := hbf
        simp only [beginsF, Bool.and_eq_true] at this
        have h2 := this.2
        rw [if_pos (by rw [← hn.out]; omega)] at h2
        simpa using h2
      obtain ⟨g, o, rfl, hrb⟩ := (hr _ hh).addr (ne_nil_of_len hn (by omega))
      have H2 : Hid (2 = ((xs.drop 4).take 2).length) := by unfold Hid; have := hn.out; simp; omega
      have HL := Lib.hid (fun w' (h : Holds w' (blk w.heap.size 100 #[.int .u8 0, .slice none 0 0] :: R)) => rof_ok (some ⟨g, o + 4, none⟩) 2 (c - 4) ((xs.drop 4).take 2) w' ((hr _ h.tail).mid 4 2) H2 (by omega))
      obtain ⟨m, hmm⟩ : ∃ m, Hid (lenF xs = m) := ⟨_, rfl⟩
      have hmm2 : unbe ((xs.drop 4).take 2) = m := hmm.out
      rw [hmm2] at HL
      rw [hmm.out] at hm
      have hcI4 : (4 : Int) ≤ c := by omega
      have hc4 : ¬ c = 4 := by omega
      have hadd : IntKind.i64.wrap (10 + (m : Int)) = ((10 + m : Nat) : Int) := by rw [IntKind.wrap_i64]; omega
      clear hmm2 hrb hh0 hr hbf
      by_cases hs : n < 10 + m
      · have HF : Hid (decF xs = (0, [], 0, 4)) := by unfold Hid decF; rw [if_neg hbt, if_pos (.inr (by rw [← hn.out, hmm.out]; exact hs))]
        clear hbt
        go_enter Tryd.func75, Tryd.ntmps75
        go_wp2_with (first
          | (go_at_call 100; (with_reducible refine HBG.out.mono ?_); rintro e w1 ⟨rfl, hh1⟩; have HH1 := Lib.hid hh1; clear hh1)
          | (go_at_call 62; (with_reducible refine (HL.out _ HH1.out).mono ?_); rintro e w2 ⟨rfl, rfl⟩
             have d0 : w1.cell? ⟨w.heap.size, 0, none⟩ = some (.int .u8 0) := (HH1.out.cells 0).trans rfl
             have d1 : w1.cell? ⟨w.heap.size, 1, none⟩ = some (.slice none 0 0) := (HH1.out.cells 1).trans rfl
             have e0 := HH1.out.free 0; have e1 := HH1.out.free 1))
        have hh2 := (HH1.out.set_ 0 (.int .u8 0)).set_ 1 (.slice none 0 0)
        generalize (w1.setCell ⟨w.heap.size, 0, none⟩ (.int .u8 0)).setCell ⟨w.heap.size, 1, none⟩ (.slice none 0 0) = w9 at hh2 ⊢
        have HB2 := Lib.hid hh2.blk_heap
        have HH3 := Lib.hid hh2.tail.nil_own
        clear d0 d1 e0 e1 hh2
        refine bodyPost_ret (results_cell_row3 rfl _ _ w.heap.size 100 #[.int .u8 0, .slice none 0 0] (0, 0) _ rfl HB2.out Tryd.underlying100 rfl (by kernel_rfl)) rfl ?_
        exact ⟨.slice none 0 0, by rw [HF.out]; rfl, by rw [HF.out]; exact HH3.out⟩
      · obtain ⟨o10, ho10⟩ : ∃ o10, Hid ((if c = 10 then o else o + 10) = o10) := ⟨_, rfl⟩
        have hbody : Ent R fun w => RD w (some ⟨g, o10, none⟩) ((xs.drop 10).take m) := fun w h => by
          rw [← ho10.out]
          by_cases hc10 : c = 10
          · rw [if_pos hc10, show m = 0 by omega, List.take_zero]; exact RD.nil _ _
          · rw [if_neg hc10]; exact (HR.out _ h).mid 10 m
        have HM : Hid (m = ((xs.drop 10).take m).length) := by unfold Hid; have := hn.out; simp; omega
        have H4 : Hid (4 = ((xs.drop 6).take 4).length) := by unfold Hid; have := hn.out; simp; omega
        obtain ⟨x3, hx3⟩ : ∃ x3, Hid (xs.getD 3 0 = x3) := ⟨_, rfl⟩
        have HC := Lib.hid (fun w' (h : Holds w' (blk w.heap.size 100 #[.int .u8 0, .slice none 0 0] :: R)) => show w'.cell? ⟨g, o + 3, none⟩ = some (.int .u8 (x3.toNat : Int)) by
          have := (HR.out _ h.tail).cellAt (j := 3) (by rw [← hn.out]; omega)
          rwa [hx3.out] at this)
        have HDF := Lib.hid hbt
        have hn3 : (3 : Int) < n := by omega
        clear hbt
        go_enter Tryd.func75, Tryd.ntmps75
        go_wp2_with (first
          | (go_at_call 100; (with_reducible refine HBG.out.mono ?_); rintro e w1 ⟨rfl, hh1⟩; have HH1 := Lib.hid hh1; clear hh1)
          | (go_at_call 62; (with_reducible refine (HL.out _ HH1.out).mono ?_); rintro e w2 ⟨rfl, rfl⟩))
        have hk0 := HH1.out.drew
        refine wp_region_held_drew (S := (fun w' => Holds w' (blk w.heap.size 100 #[.int .u8 0, .slice none 0 0] :: R))) (by kernel_rfl) ?_ (fun hHeld => ?_)
        · exact hk0
        refine takeH 0 ?_ rfl (by kernel_rfl) (by kernel_rfl) (by kernel_rfl) (fun _ _ _ h => h) (by kernel_rfl) (by assumption) (fun w hSw => ?_) ?_
        rotate_left
        · (try dsimp only at hSw); go_simp <;> (try with_reducible rfl)
        try simp only [Act.put, List.setIfInBounds_toArray, List.set_cons_zero, List.set_cons_succ]
        refine takeH 1 ?_ rfl (by kernel_rfl) (by kernel_rfl) (by kernel_rfl) (fun _ _ _ h => h) (by kernel_rfl) (by assumption) (fun w hSw => ?_) ?_
        rotate_left
        · (try dsimp only at hSw); go_simp <;> (try with_reducible rfl)
        try simp only [Act.put, List.setIfInBounds_toArray, List.set_cons_zero, List.set_cons_succ]
        refine takeH 2 ?_ rfl (by kernel_rfl) (by kernel_rfl) (by kernel_rfl) (fun _ _ _ h => h) (by kernel_rfl) (by assumption) (fun w hSw => ?_) ?_
        rotate_left
        · obtain hca := HC.out _ hSw
          clear hSw; go_simp <;> (try with_reducible rfl)
        try simp only [Act.put, List.setIfInBounds_toArray, List.set_cons_zero, List.set_cons_succ]
        refine takeH 4 ?_ rfl (by kernel_rfl) (by kernel_rfl) (by kernel_rfl) (fun _ _ _ h => h) (by kernel_rfl) (by assumption) (fun w hSw => ?_) ?_
        rotate_left
        · (try dsimp only at hSw); go_simp <;> (try with_reducible rfl)
        try simp only [Act.put, List.setIfInBounds_toArray, List.set_cons_zero, List.set_cons_succ]
        refine takeH 5 ?_ rfl (by kernel_rfl) (by kernel_rfl) (by kernel_rfl) (fun _ _ _ h => h) (by kernel_rfl) (by assumption) (fun w hSw => ?_) ?_
        rotate_left
        · (try dsimp only at hSw); go_simp <;> (try with_reducible rfl)
        try simp only [Act.put, List.setIfInBounds_toArray, List.set_cons_zero, List.set_cons_succ]
        refine takeH 6 ?_ rfl (by kernel_rfl) (by kernel_rfl) (by kernel_rfl) (fun _ _ _ h => h) (by kernel_rfl) (by assumption) (fun w hSw => ?_) ?_
        rotate_left
        · (try dsimp only at hSw); go_simp <;> (try with_reducible rfl)
        try simp only [Act.put, List.setIfInBounds_toArray, List.set_cons_zero, List.set_cons_succ]
        refine takeH 7 (.slice (some ⟨g, o10, none⟩) m (c - 10)) rfl (by kernel_rfl) (by kernel_rfl) (by kernel_rfl) (fun _ _ _ h => h) (by kernel_rfl) (by assumption) (fun w hSw => ?_) ?_
        · rw [← ho10.out]
          by_cases hc10 : c = 10
          · subst hc10; obtain rfl : m = 0 := by omega
            go_simp
          · have hcI10 : (10 : Int) ≤ c := by omega
            go_simp
            rw [if_pos ⟨by omega, by omega⟩, if_pos (by omega), show (10 + (m : Int)).toNat - 10 = m by omega]
        try simp only [Act.put, List.setIfInBounds_toArray, List.set_cons_zero, List.set_cons_succ]
        refine wpAnyH_phaseA (fun a0 listed a w' => ∃ (b3 b8 b9 b10 : Bool) (g3 g10 n8 c8 : Nat) (A8 : Option Addr),
          listed = #[true, true, true, b3, true, true, true, true, b8, b9, b10, false] ∧
          a = (((a0.put (some 28) (Fl b3 (.slice (some ⟨g3, 0, none⟩) 0 0) undef)).put (some 33) (Fl b8 (.slice A8 n8 c8) undef)).put (some 34) (Fl b9 (.agg #[.int .u8 (x3.toNat : Int), .slice A8 n8 c8]) undef)).put (some 6) (Fl b10 (.pointer (some ⟨g10, 0, none⟩)) undef) ∧
          (b8 = true → b3 = true) ∧ (b9 = true → b8 = true) ∧ Hid (n8 = ((xs.drop 10).take m).length) ∧ n8 ≤ c8 ∧
          Holds w' (opt b3 (if b8 = true then own (.slice A8 n8 c8) ((xs.drop 10).take m) else own (.slice (some ⟨g3, 0, none⟩) 0 0) []) :: opt b10 (blk g10 100 #[.int .u8 0, .slice none 0 0]) :: blk w.heap.size 100 #[.int .u8 0, .slice none 0 0] :: R))
          11 #[true, true, true, true, true, true, true, true, true, true, true, false] 1 (by kernel_rfl) (by kernel_rfl) (by kernel_rfl) ?h0 ?hJ ?hend ?hstep
        case h0 => exact ⟨false, false, false, false, 0, 0, m, m, none, rfl, rfl, fun h => h, fun h => h, HM, by omega, hHeld.emp_cons.emp_cons⟩
        case hJ =>
          rintro _ _ _ ⟨_, _, _, _, _, _, _, _, _, rfl, -, -, -, -, -, h⟩
          exact ⟨rfl, rfl, h.tail.tail⟩
        case hstep =>
          rintro _ _ w1 ⟨b3, b8, b9, b10, g3, g10, n8, c8, A8, rfl, rfl, h83, h98, hn8, hc8, hh⟩
          refine ⟨fun hne hun hdep => ?_, fun hne hun hdep => ?_, fun hne hun hdep => ?_, fun hne hun hdep => ?_, fun hne hun hdep => ?_, fun hne hun hdep => ?_, fun hne hun hdep => ?_, fun hne hun hdep => ?_, fun hne hun hdep => ?_, fun hne hun hdep => ?_, fun hne hun hdep => ?_, fun hne hun hdep => ?_, trivial⟩
          all_goals (try exact Bool.noConfusion (show true = false from hun))
          · obtain rfl : b3 = false := hun
            obtain rfl : b8 = false := by cases b8 with | false => rfl | true => exact (h83 rfl).symm
            refine ⟨rfl, fun K hK => ?_⟩
            clear hne hdep
            simp only [Act.put, List.setIfInBounds_toArray, List.set_cons_zero, List.set_cons_succ]
            go_simp
            have hk := ((hh.alloc 5 #[]).own_of_cells (xs := []) (n := 0) (cap := 0) rfl (Nat.le_refl _) (by decide) rfl rfl).drop 1 rfl
            exact hK.out _ _ ⟨true, false, b9, b10, w1.heap.size, g10, n8, c8, A8, rfl, rfl, fun _ => rfl, h98, hn8, hc8, hk⟩
          · obtain rfl : b8 = false := hun
            obtain rfl : b3 = true := by cases b3 with | true => rfl | false => exact Bool.noConfusion (show false = true from hdep)
            obtain rfl : b9 = false := by cases b9 with | false => rfl | true => exact (h98 rfl).symm
            refine ⟨rfl, fun K hK => ?_⟩
            clear hne hdep
            have hh' : Holds w1 (own (.slice (some ⟨g3, 0, none⟩) 0 0) [] :: _) := hh
            refine wp_app_sl (.tmp 28) (.tmp 32) 23 rfl Tryd.underlying23 Tryd.infoByte _ [] hh' rfl (some ⟨g, o10, none⟩) ((xs.drop 10).take m) m (c - 10) HM rfl (hbody w1 hh.tail.tail.tail) (by rw [← HM.out]; simp; omega) ?_
            intro v2 w2 hh2
            rw [List.nil_append] at hh2
            obtain ⟨A2, n2, c2, rfl, hn2, hc2, -⟩ := hh2.own_form
            exact hK.out _ _ ⟨true, true, false, b10, g3, g10, n2, c2, A2, rfl, rfl, fun _ => rfl, fun h => Bool.noConfusion h, hn2, hc2, hh2⟩
          · obtain rfl : b9 = false := hun
            obtain rfl : b8 = true := by cases b8 with | true => rfl | false => exact Bool.noConfusion (show false = true from hdep)
            obtain rfl : b3 = true := h83 rfl
            refine ⟨rfl, fun K hK => ?_⟩
            clear hne hdep
            simp only [Act.put, List.setIfInBounds_toArray, List.set_cons_zero, List.set_cons_succ, Fl_true]
            go_simp
            exact hK.out _ _ ⟨true, true, true, b10, g3, g10, n8, c8, A8, rfl, rfl, h83, fun _ => rfl, hn8, hc8, hh⟩
          · obtain rfl : b10 = false := hun
            refine ⟨rfl, fun K hK => ?_⟩
            clear hne hdep
            simp only [Act.put, List.setIfInBounds_toArray, List.set_cons_zero, List.set_cons_succ]
            go_simp
            have hk := ((hh.alloc 100 #[.int .u8 0, .slice none 0 0]).drop 2 rfl).push_ 1 (by simp)
            exact hK.out _ _ ⟨b3, b8, b9, true, g3, w1.heap.size, n8, c8, A8, rfl, rfl, h83, h98, hn8, hc8, hk⟩
          · exfalso
            clear hh
            revert hne hdep h83 h98
            cases b3 <;> cases b8 <;> cases b9 <;> cases b10 <;> intro h83 h98 hne hdep <;> first | exact absurd rfl hne | exact Bool.noConfusion (show false = true from hdep) | exact Bool.noConfusion (h83 rfl) | exact Bool.noConfusion (h98 rfl)
        case hend =>
          rintro _ w1 ⟨b3, b8, b9, b10, g3, g10, n8, c8, A8, hl, rfl, -, -, hn8, hc8, hh⟩
          simp only [Array.mk.injEq, List.cons.injEq, true_and, and_true] at hl
          obtain ⟨rfl, rfl, rfl, rfl⟩ := hl
          have hk2 : Holds w1 (own (.slice A8 n8 c8) ((xs.drop 10).take m) :: blk g10 100 #[.int .u8 0, .slice none 0 0] :: blk w.heap.size 100 #[.int .u8 0, .slice none 0 0] :: R) := hh
          clear hh
          simp only [Act.put, List.setIfInBounds_toArray, List.set_cons_zero, List.set_cons_succ, Fl_true]
          have hk3 := hk2.pull 1 rfl
          have c0 : w1.cell? ⟨g10, 0, none⟩ = some (.int .u8 0) := (hk3.cells 0).trans rfl
          have c1 : w1.cell? ⟨g10, 1, none⟩ = some (.slice none 0 0) := (hk3.cells 1).trans rfl
          have f0 := hk3.free 0; have f1 := hk3.free 1
          refine effH 11 rfl (by kernel_rfl) (by kernel_rfl) (fun K hK => ?_)
          go_simp
          have hk4 := (hk3.set_ 0 (.int .u8 (x3.toNat : Int))).set_ 1 (.slice A8 n8 c8)
          refine hK.out _ _ hk4.tail.tail (fun hHeld => ?_)
          clear hK K hHeld hk3 hk2 c0 c1 f0 f1
          generalize (w1.setCell ⟨g10, 0, none⟩ (.int .u8 (x3.toNat : Int))).setCell ⟨g10, 1, none⟩ (.slice A8 n8 c8) = w2 at hk4 ⊢
          refine wpAnyH_done (by kernel_rfl) ?_ _
          have HK4 := Lib.hid hk4
          clear hk4
          go_wp2_with fail
          have hcI6 : (6 : Int) ≤ c := by omega
          have hc6 : ¬ c = 6 := by omega
          have hcI10 : (10 : Int) ≤ c := by omega
          have HCE := Lib.hid (fun w' (h : Holds w' (blk g10 100 #[.int .u8 (x3.toNat : Int), .slice A8 n8 c8] :: own (.slice A8 n8 c8) ((xs.drop 10).take m) :: blk w.heap.size 100 #[.int .u8 0, .slice none 0 0] :: R)) => show w'.cell? ⟨g10, 0, none⟩ = some (.int .u8 (x3.toNat : Int)) ∧ w'.cell? ⟨g10, 1, none⟩ = some (.slice A8 n8 c8) ∧ (convert 23 9 (.slice (some ⟨g, o + 6, none⟩) 4 (c - 6))).run Tryd.prog w' = .ok (.string (strOf ((xs.drop 6).take 4))) w' from ⟨(h.cells 0).trans rfl, (h.cells 1).trans rfl, conv_rd H4.out ((HR.out _ h.tail.tail.tail).mid 6 4)⟩)
          have hk5 := HK4.out.drew
          refine wp_region_held_drew (S := (fun w' => Holds w' (blk g10 100 #[.int .u8 (x3.toNat : Int), .slice A8 n8 c8] :: own (.slice A8 n8 c8) ((xs.drop 10).take m) :: blk w.heap.size 100 #[.int .u8 0, .slice none 0 0] :: R))) (by kernel_rfl) ?_ (fun hHeld => ?_)
          · exact hk5
          refine takeH 0 ?_ rfl (by kernel_rfl) (by kernel_rfl) (by kernel_rfl) (fun _ _ _ h => h) (by kernel_rfl) (by assumption) (fun w hSw => ?_) ?_
          rotate_left
          · (try dsimp only at hSw); go_simp <;> (try with_reducible rfl)
          try simp only [Act.put, List.setIfInBounds_toArray, List.set_cons_zero, List.set_cons_succ]
          refine takeH 1 ?_ rfl (by kernel_rfl) (by kernel_rfl) (by kernel_rfl) (fun _ _ _ h => h) (by kernel_rfl) (by assumption) (fun w hSw => ?_) ?_
          rotate_left
          · obtain ⟨hca, -, -⟩ := HCE.out _ hSw
            clear hSw; go_simp <;> (try with_reducible rfl)
          try simp only [Act.put, List.setIfInBounds_toArray, List.set_cons_zero, List.set_cons_succ]
          refine takeH 2 ?_ rfl (by kernel_rfl) (by kernel_rfl) (by kernel_rfl) (fun _ _ _ h => h) (by kernel_rfl) (by assumption) (fun w hSw => ?_) ?_
          rotate_left
          · (try dsimp only at hSw); go_simp <;> (try with_reducible rfl)
          try simp only [Act.put, List.setIfInBounds_toArray, List.set_cons_zero, List.set_cons_succ]
          refine takeH 3 ?_ rfl (by kernel_rfl) (by kernel_rfl) (by kernel_rfl) (fun _ _ _ h => h) (by kernel_rfl) (by assumption) (fun w hSw => ?_) ?_
          rotate_left
          · obtain ⟨-, hcb, -⟩ := HCE.out _ hSw
            clear hSw; go_simp <;> (try with_reducible rfl)
          try simp only [Act.put, List.setIfInBounds_toArray, List.set_cons_zero, List.set_cons_succ]
          refine takeH 6 ?_ rfl (by kernel_rfl) (by kernel_rfl) (by kernel_rfl) (fun _ _ _ h => h) (by kernel_rfl) (by assumption) (fun w hSw => ?_) ?_
          rotate_left
          · (try dsimp only at hSw); go_simp <;> (try with_reducible rfl)
          try simp only [Act.put, List.setIfInBounds_toArray, List.set_cons_zero, List.set_cons_succ]
          refine takeH 7 ?_ rfl (by kernel_rfl) (by kernel_rfl) (by kernel_rfl) (fun _ _ _ h => h) (by kernel_rfl) (by assumption) (fun w hSw => ?_) ?_
          rotate_left
          · (try dsimp only at hSw); go_simp <;> (try with_reducible rfl)
          try simp only [Act.put, List.setIfInBounds_toArray, List.set_cons_zero, List.set_cons_succ]
          refine takeH 8 ?_ rfl (by kernel_rfl) (by kernel_rfl) (by kernel_rfl) (fun _ _ _ h => h) (by kernel_rfl) (by assumption) (fun w hSw => ?_) ?_
          rotate_left
          · obtain ⟨-, -, hcv⟩ := HCE.out _ hSw
            clear hSw; go_simp <;> (try with_reducible rfl)
          try simp only [Act.put, List.setIfInBounds_toArray, List.set_cons_zero, List.set_cons_succ]
          refine effH 4 rfl (by kernel_rfl) (by kernel_rfl) (fun K hK => ?_)
          go_simp
          refine (rsumf_ok x3 A8 n8 c8 ((xs.drop 10).take m) _ _ hk5 (Ent.own.cons _) hn8 hc8 (by rw [hn8.out, ← HM.out]; omega)).mono ?_
          rintro e w3 ⟨gs, rfl, hh3⟩
          refine hK.out _ _ hh3.tail (fun hHeld => ?_)
          clear hK K hHeld
          have hcv2 : (convert 23 9 (.slice (some ⟨gs, 0, none⟩) 4 32)).run Tryd.prog w3 = .ok (.string (strOf (sumF (frontF x3 ((xs.drop 10).take m)) ((xs.drop 10).take m)))) w3 := conv_rd (by simp) hh3.rb_rd
          refine effH 5 rfl (by kernel_rfl) (by kernel_rfl) (fun K hK => ?_)
          go_simp
          refine hK.out _ _ hh3.tail (fun hHeld => ?_)
          clear hK K hcv2
          refine takeH 9 (.bool (!(sumF (frontF x3 ((xs.drop 10).take m)) ((xs.drop 10).take m) == (xs.drop 6).take 4))) rfl (by kernel_rfl) (by kernel_rfl) (by kernel_rfl) (fun _ _ _ h => h) (by kernel_rfl) (by assumption) (fun w hSw => ?_) ?_
          · clear hSw
            go_simp
            rw [strOf_list, strOf_list]
          try simp only [Act.put, List.setIfInBounds_toArray, List.set_cons_zero, List.set_cons_succ]
          refine wpAnyH_done (by kernel_rfl) ?_ _
          have HK6 := Lib.hid hh3.tail
          clear hk5 hh3
          have hr6 := HK6.out.pull 2 rfl
          have c0 : w3.cell? ⟨w.heap.size, 0, none⟩ = some (.int .u8 0) := (hr6.cells 0).trans rfl
          have c1 : w3.cell? ⟨w.heap.size, 1, none⟩ = some (.slice none 0 0) := (hr6.cells 1).trans rfl
          have f0 := hr6.free 0; have f1 := hr6.free 1
          clear hr6
          obtain ⟨sm, hsm⟩ : ∃ sm, Hid (sumF (frontF x3 ((xs.drop 10).take m)) ((xs.drop 10).take m) = sm) := ⟨_, rfl⟩
          rw [hsm.out]
          clear hHeld
          have hfr : Hid (frontF x3 ((xs.drop 10).take m) = (xs.drop 3).take 3) := by
            unfold Hid
            have h5 : xs.getD 3 0 = x3 := hx3.out
            have hl := hn.out
            rw [frontF, ← HM.out, ← hmm.out, lenF, beL_unbe2 _ (by simp; omega), ← h5]
            rw [List.drop_eq_getElem_cons (show 3 < xs.length by omega), List.take_succ_cons]
            simp [List.getD, show 3 < xs.length by omega]
          cases hsum : (sm == (xs.drop 6).take 4)
          · have HF : Hid (decF xs = (0, [], 0, 3)) := by
              unfold Hid decF
              rw [if_neg HDF.out, if_neg (by rw [← hn.out, hmm.out]; omega), hmm.out, ← hfr.out, hsm.out, if_pos (by simpa using hsum)]
            clear hsum hfr hsm
            go_wp2
            have hh2 := ((HK6.out.pull 2 rfl).set_ 0 (.int .u8 0)).set_ 1 (.slice none 0 0)
            generalize (w3.setCell ⟨w.heap.size, 0, none⟩ (.int .u8 0)).setCell ⟨w.heap.size, 1, none⟩ (.slice none 0 0) = w9 at hh2 ⊢
            have HB2 := Lib.hid hh2.blk_heap
            have HH9 := Lib.hid hh2.tail.tail.tail.nil_own
            clear c0 c1 f0 f1 hh2
            refine bodyPost_ret (results_cell_row3 rfl _ _ w.heap.size 100 #[.int .u8 0, .slice none 0 0] (0, 0) _ rfl HB2.out Tryd.underlying100 rfl (by kernel_rfl)) rfl ?_
            exact ⟨.slice none 0 0, by rw [HF.out]; rfl, by rw [HF.out]; exact HH9.out⟩
          · have HF : Hid (decF xs = (x3, (xs.drop 10).take m, 10 + m, 0)) := by
              unfold Hid decF
              rw [if_neg HDF.out, if_neg (by rw [← hn.out, hmm.out]; omega), hmm.out, ← hfr.out, hsm.out, if_neg (by simpa using hsum), hx3.out]
            have d0 : w3.cell? ⟨g10, 0, none⟩ = some (.int .u8 (x3.toNat : Int)) := (HK6.out.cells 0).trans rfl
            have d1 : w3.cell? ⟨g10, 1, none⟩ = some (.slice A8 n8 c8) := (HK6.out.cells 1).trans rfl
            clear hsum hfr hsm
            go_wp2
            have hh2 := ((HK6.out.pull 2 rfl).set_ 0 (.int .u8 (x3.toNat : Int))).set_ 1 (.slice A8 n8 c8)
            generalize (w3.setCell ⟨w.heap.size, 0, none⟩ (.int .u8 (x3.toNat : Int))).setCell ⟨w.heap.size, 1, none⟩ (.slice A8 n8 c8) = w9 at hh2 ⊢
            have HB2 := Lib.hid hh2.blk_heap
            have HH9 := Lib.hid hh2.tail.tail
            clear c0 c1 f0 f1 d0 d1 hh2
            refine bodyPost_ret (results_cell_row3 rfl _ _ w.heap.size 100 #[.int .u8 (x3.toNat : Int), .slice A8 n8 c8] (0, 0) _ rfl HB2.out Tryd.underlying100 rfl (by kernel_rfl)) rfl ?_
            exact ⟨.slice A8 n8 c8, by rw [HF.out]; rfl, by rw [HF.out]; exact HH9.out⟩
end Go.Proofs.YtibkngjacdggpaaDoor
