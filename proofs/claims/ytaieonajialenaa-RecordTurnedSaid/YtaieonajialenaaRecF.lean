/- Whether a record is formed. -/
import Derived.Test.YtaieonajialenaaRecEq
import Derived.Test.YtaieonajialenaaQuiet
namespace Go.Proofs.Ytaieonajialenaa
open Go.RowKit HP

/-- A code that a vote no may say. -/
def codeOk (c : Int) : Bool := decide (1 ≤ c) && decide (c ≤ 17)
theorem msgCode_ok (c : Int) (w : World) :
    Calls Try.prog 78 #[.int .i64 c] w fun e w' => e = .returned (.bool (codeOk c)) ∧ w' = { w with drawn := w'.drawn } := by
  by_cases h1 : 1 ≤ c
  · by_cases h2 : c ≤ 17
    · have HF : Hid (codeOk c = true) := by unfold Hid; simp [codeOk, h1, h2]
      go_enter Try.func78, Try.ntmps78
      go_wp2
      go_returns
      exact ⟨by rw [HF.out]; rfl, rfl⟩
    · have HF : Hid (codeOk c = false) := by unfold Hid; simp [codeOk, h2]
      go_enter Try.func78, Try.ntmps78
      go_wp2
      go_returns
      exact ⟨by rw [HF.out]; rfl, rfl⟩
  · have HF : Hid (codeOk c = false) := by unfold Hid; simp [codeOk, h1]
    go_enter Try.func78, Try.ntmps78
    go_wp2
    go_returns
    exact ⟨by rw [HF.out]; rfl, rfl⟩
theorem Holds.of_drawnH {w w' : World} {l : List HP} (h : Holds w l) (hk : w' = { w with drawn := w'.drawn }) : Holds w' l := by
  obtain ⟨n, rfl⟩ : ∃ n, w' = { w with drawn := n } := ⟨_, hk⟩
  exact h.same fun S _ => ⟨rfl, rfl, rfl, Nat.le_refl _, fun _ _ => rfl⟩
theorem msgCode_h (c : Int) (w : World) (l : List HP) (hh : Holds w l) :
    Calls Try.prog 78 #[.int .i64 c] w fun e w' => e = .returned (.bool (codeOk c)) ∧ Holds w' l :=
  (msgCode_ok c w).mono fun _ _ ⟨he, hk⟩ => ⟨he, hh.of_drawnH hk⟩
theorem bare_h (r : Rec) (h : r.Ok) (w : World) (l : List HP) (hh : Holds w l) :
    Calls Try.prog 79 #[.agg r.cells.toArray] w fun e w' => e = .returned (.agg (bareR r).cells.toArray) ∧ Holds w' l := bare_ok r h w l hh
/-- A record as the document wants it. -/
def formedR (r : Rec) : Bool :=
  decide (1 ≤ r.kind) && (decide (r.kind ≤ 4) && (decide (0 < r.id) && (decide (r.id ≤ 4294967295) && (decide (r.base ≤ 4294967295) && (decide (r.ed.s.length ≤ 500) && (decide (r.text.length ≤ 2000) &&
    ((!decide (r.kind = 3) || codeOk r.code) && ((r.commit || !r.has) && sameR r (bareR r)))))))))
/-- What memory tells of a record's cells. -/
structure RecAt (w : World) (g : Nat) (r : Rec) : Prop where
  c0 : w.cell? ⟨g, 0, none⟩ = some (.int .i64 r.kind)
  c1 : w.cell? ⟨g, 1, none⟩ = some (.int .u64 r.id)
  c2 : w.cell? ⟨g, 2, none⟩ = some (.int .u64 r.base)
  c3 : w.cell? ⟨g, 3, none⟩ = some (.string (strOf r.ed.s))
  c70 : w.cell? ⟨g, 70, none⟩ = some (.int .i64 r.code)
  c71 : w.cell? ⟨g, 71, none⟩ = some (.bool r.commit)
  c72 : w.cell? ⟨g, 72, none⟩ = some (.bool r.has)
  c73 : w.cell? ⟨g, 73, none⟩ = some (.string (strOf r.text))
theorem Holds.recAt {w : World} {g : Nat} {T : TypeId} {r : Rec} {l : List HP} (h : r.Ok) (hh : Holds w (HP.blk g T r.cells.toArray :: l)) : RecAt w g r :=
  ⟨(hh.cells 0).trans Rec.get0, (hh.cells 1).trans Rec.get1, (hh.cells 2).trans Rec.get2, (hh.cells 3).trans Rec.get3, (hh.cells 70).trans (Rec.get70 h), (hh.cells 71).trans (Rec.get71 h), (hh.cells 72).trans (Rec.get72 h), (hh.cells 73).trans (Rec.get73 h)⟩

theorem strSize (s : List UInt8) : ((strOf s).size : Int) = s.length := by rw [strOf_size]
set_option maxRecDepth 100000 in
set_option maxHeartbeats 4000000 in
theorem formed_ok (r : Rec) (h : r.Wf) (w : World) (l : List HP) (hh : Holds w l) :
    Calls Try.prog 35 #[.agg r.cells.toArray] w fun e w' => e = .returned (.bool (formedR r)) ∧ Holds w' l := by
  have HH := Lib.hid (hh.alloc 37 r.cells.toArray)
  have HK := Lib.hid h.ok
  have HW := Lib.hid h
  have HE := Lib.hid (run_equal_rec (T := 37) (.inl rfl) h (bareR_wf h))
  have HS := Lib.hid (strSize r.ed.s)
  have HT := Lib.hid (strSize r.text)
  clear hh h
  generalize hcr : r.cells.toArray = CR at HH
  have HCR := Lib.hid hcr; clear hcr
  by_cases g0 : 1 ≤ r.kind
  rotate_left
  · skip
    have HF : Hid (formedR r = false) := by unfold Hid; simp [formedR, *]
    have D0 : Hid (decide (1 ≤ r.kind) = false) := by exact decide_eq_false (by omega)
    clear g0
    go_enter Try.func35, Try.ntmps35
    go_wp2_with fail
    refine wp_region_quietC (fun v => Holds v (blk w.heap.size 37 CR :: l)) (by kernel_rfl) (by kernel_rfl) (HH.out.drewN 1) ?_
    repeat (first
      | go_big_quiet_skip
      | (go_big_quiet_want
         first
         | (refine quietLoad 37 (.tmp 1) rfl w.heap.size 0 rfl r.cells _ (fun v hv => by rw [← HCR.out] at hv; exact hv.blk.range) Try.underlying37 rfl (Rec.sizeL HK.out) ?_)
         | (refine quietV ?_ (fun v hv => ?_) ?_
            rotate_left
            · have he := HE.out
              have d0 := D0.out
              have hv1 := hv
              rw [← HCR.out] at hv1
              obtain ⟨c0, c1, c2, c3, c70, c71, c72, c73⟩ := hv1.recAt HK.out
              clear hv hv1
              go_simp <;> (try with_reducible rfl))
         | (refine quietCall _ 78 #[.int .i64 r.code] (fun v hv => ?_) (fun v hv => msgCode_h r.code v _ hv) ?_
            · clear hv; go_simp; done)
         | (refine quietCall _ 79 #[.agg r.cells.toArray] (fun v hv => ?_) (fun v hv => bare_h r HK.out v _ hv) ?_
            · clear hv; go_simp; done)
         simp only [Act.put, List.setIfInBounds_toArray, List.set_cons_zero, List.set_cons_succ]
         go_big_quiet_on))
    refine wpQuiet_nil (fun w' hw' => ?_)
    go_wp2
    go_returns
    exact ⟨by rw [HF.out]; rfl, hw'.tail⟩
  by_cases g1 : r.kind ≤ 4
  rotate_left
  · skip
    have HF : Hid (formedR r = false) := by unfold Hid; simp [formedR, *]
    have D0 : Hid (decide (1 ≤ r.kind) = true) := by exact decide_eq_true (by omega)
    have D1 : Hid (decide (r.kind ≤ 4) = false) := by exact decide_eq_false (by omega)
    clear g0 g1
    go_enter Try.func35, Try.ntmps35
    go_wp2_with fail
    refine wp_region_quietC (fun v => Holds v (blk w.heap.size 37 CR :: l)) (by kernel_rfl) (by kernel_rfl) (HH.out.drewN 1) ?_
    repeat (first
      | go_big_quiet_skip
      | (go_big_quiet_want
         first
         | (refine quietLoad 37 (.tmp 1) rfl w.heap.size 0 rfl r.cells _ (fun v hv => by rw [← HCR.out] at hv; exact hv.blk.range) Try.underlying37 rfl (Rec.sizeL HK.out) ?_)
         | (refine quietV ?_ (fun v hv => ?_) ?_
            rotate_left
            · have he := HE.out
              have d0 := D0.out
              have d1 := D1.out
              have hv1 := hv
              rw [← HCR.out] at hv1
              obtain ⟨c0, c1, c2, c3, c70, c71, c72, c73⟩ := hv1.recAt HK.out
              clear hv hv1
              go_simp <;> (try with_reducible rfl))
         | (refine quietCall _ 78 #[.int .i64 r.code] (fun v hv => ?_) (fun v hv => msgCode_h r.code v _ hv) ?_
            · clear hv; go_simp; done)
         | (refine quietCall _ 79 #[.agg r.cells.toArray] (fun v hv => ?_) (fun v hv => bare_h r HK.out v _ hv) ?_
            · clear hv; go_simp; done)
         simp only [Act.put, List.setIfInBounds_toArray, List.set_cons_zero, List.set_cons_succ]
         go_big_quiet_on))
    refine wpQuiet_nil (fun w' hw' => ?_)
    go_wp2
    go_returns
    exact ⟨by rw [HF.out]; rfl, hw'.tail⟩
  by_cases g2 : 0 < r.id
  rotate_left
  · skip
    have HF : Hid (formedR r = false) := by unfold Hid; simp [formedR, *]
    have D0 : Hid (decide (1 ≤ r.kind) = true) := by exact decide_eq_true (by omega)
    have D1 : Hid (decide (r.kind ≤ 4) = true) := by exact decide_eq_true (by omega)
    have D2 : Hid (decide (0 < r.id) = false) := by exact decide_eq_false (by omega)
    clear g0 g1 g2
    go_enter Try.func35, Try.ntmps35
    go_wp2_with fail
    refine wp_region_quietC (fun v => Holds v (blk w.heap.size 37 CR :: l)) (by kernel_rfl) (by kernel_rfl) (HH.out.drewN 1) ?_
    repeat (first
      | go_big_quiet_skip
      | (go_big_quiet_want
         first
         | (refine quietLoad 37 (.tmp 1) rfl w.heap.size 0 rfl r.cells _ (fun v hv => by rw [← HCR.out] at hv; exact hv.blk.range) Try.underlying37 rfl (Rec.sizeL HK.out) ?_)
         | (refine quietV ?_ (fun v hv => ?_) ?_
            rotate_left
            · have he := HE.out
              have d0 := D0.out
              have d1 := D1.out
              have d2 := D2.out
              have hv1 := hv
              rw [← HCR.out] at hv1
              obtain ⟨c0, c1, c2, c3, c70, c71, c72, c73⟩ := hv1.recAt HK.out
              clear hv hv1
              go_simp <;> (try with_reducible rfl))
         | (refine quietCall _ 78 #[.int .i64 r.code] (fun v hv => ?_) (fun v hv => msgCode_h r.code v _ hv) ?_
            · clear hv; go_simp; done)
         | (refine quietCall _ 79 #[.agg r.cells.toArray] (fun v hv => ?_) (fun v hv => bare_h r HK.out v _ hv) ?_
            · clear hv; go_simp; done)
         simp only [Act.put, List.setIfInBounds_toArray, List.set_cons_zero, List.set_cons_succ]
         go_big_quiet_on))
    refine wpQuiet_nil (fun w' hw' => ?_)
    go_wp2
    go_returns
    exact ⟨by rw [HF.out]; rfl, hw'.tail⟩
  by_cases g3 : r.id ≤ 4294967295
  rotate_left
  · skip
    have HF : Hid (formedR r = false) := by unfold Hid; simp [formedR, *]
    have D0 : Hid (decide (1 ≤ r.kind) = true) := by exact decide_eq_true (by omega)
    have D1 : Hid (decide (r.kind ≤ 4) = true) := by exact decide_eq_true (by omega)
    have D2 : Hid (decide (0 < r.id) = true) := by exact decide_eq_true (by omega)
    have D3 : Hid (decide ((r.id : Int) ≤ 4294967295) = false) := by exact decide_eq_false (by omega)
    clear g0 g1 g2 g3
    go_enter Try.func35, Try.ntmps35
    go_wp2_with fail
    refine wp_region_quietC (fun v => Holds v (blk w.heap.size 37 CR :: l)) (by kernel_rfl) (by kernel_rfl) (HH.out.drewN 1) ?_
    repeat (first
      | go_big_quiet_skip
      | (go_big_quiet_want
         first
         | (refine quietLoad 37 (.tmp 1) rfl w.heap.size 0 rfl r.cells _ (fun v hv => by rw [← HCR.out] at hv; exact hv.blk.range) Try.underlying37 rfl (Rec.sizeL HK.out) ?_)
         | (refine quietV ?_ (fun v hv => ?_) ?_
            rotate_left
            · have he := HE.out
              have d0 := D0.out
              have d1 := D1.out
              have d2 := D2.out
              have d3 := D3.out
              have hv1 := hv
              rw [← HCR.out] at hv1
              obtain ⟨c0, c1, c2, c3, c70, c71, c72, c73⟩ := hv1.recAt HK.out
              clear hv hv1
              go_simp <;> (try with_reducible rfl))
         | (refine quietCall _ 78 #[.int .i64 r.code] (fun v hv => ?_) (fun v hv => msgCode_h r.code v _ hv) ?_
            · clear hv; go_simp; done)
         | (refine quietCall _ 79 #[.agg r.cells.toArray] (fun v hv => ?_) (fun v hv => bare_h r HK.out v _ hv) ?_
            · clear hv; go_simp; done)
         simp only [Act.put, List.setIfInBounds_toArray, List.set_cons_zero, List.set_cons_succ]
         go_big_quiet_on))
    refine wpQuiet_nil (fun w' hw' => ?_)
    go_wp2
    go_returns
    exact ⟨by rw [HF.out]; rfl, hw'.tail⟩
  by_cases g4 : r.base ≤ 4294967295
  rotate_left
  · skip
    have HF : Hid (formedR r = false) := by unfold Hid; simp [formedR, *]
    have D0 : Hid (decide (1 ≤ r.kind) = true) := by exact decide_eq_true (by omega)
    have D1 : Hid (decide (r.kind ≤ 4) = true) := by exact decide_eq_true (by omega)
    have D2 : Hid (decide (0 < r.id) = true) := by exact decide_eq_true (by omega)
    have D3 : Hid (decide ((r.id : Int) ≤ 4294967295) = true) := by exact decide_eq_true (by omega)
    have D4 : Hid (decide ((r.base : Int) ≤ 4294967295) = false) := by exact decide_eq_false (by omega)
    clear g0 g1 g2 g3 g4
    go_enter Try.func35, Try.ntmps35
    go_wp2_with fail
    refine wp_region_quietC (fun v => Holds v (blk w.heap.size 37 CR :: l)) (by kernel_rfl) (by kernel_rfl) (HH.out.drewN 1) ?_
    repeat (first
      | go_big_quiet_skip
      | (go_big_quiet_want
         first
         | (refine quietLoad 37 (.tmp 1) rfl w.heap.size 0 rfl r.cells _ (fun v hv => by rw [← HCR.out] at hv; exact hv.blk.range) Try.underlying37 rfl (Rec.sizeL HK.out) ?_)
         | (refine quietV ?_ (fun v hv => ?_) ?_
            rotate_left
            · have he := HE.out
              have d0 := D0.out
              have d1 := D1.out
              have d2 := D2.out
              have d3 := D3.out
              have d4 := D4.out
              have hv1 := hv
              rw [← HCR.out] at hv1
              obtain ⟨c0, c1, c2, c3, c70, c71, c72, c73⟩ := hv1.recAt HK.out
              clear hv hv1
              go_simp <;> (try with_reducible rfl))
         | (refine quietCall _ 78 #[.int .i64 r.code] (fun v hv => ?_) (fun v hv => msgCode_h r.code v _ hv) ?_
            · clear hv; go_simp; done)
         | (refine quietCall _ 79 #[.agg r.cells.toArray] (fun v hv => ?_) (fun v hv => bare_h r HK.out v _ hv) ?_
            · clear hv; go_simp; done)
         simp only [Act.put, List.setIfInBounds_toArray, List.set_cons_zero, List.set_cons_succ]
         go_big_quiet_on))
    refine wpQuiet_nil (fun w' hw' => ?_)
    go_wp2
    go_returns
    exact ⟨by rw [HF.out]; rfl, hw'.tail⟩
  by_cases g5 : r.ed.s.length ≤ 500
  rotate_left
  · skip
    have HF : Hid (formedR r = false) := by unfold Hid; simp [formedR, *]
    have D0 : Hid (decide (1 ≤ r.kind) = true) := by exact decide_eq_true (by omega)
    have D1 : Hid (decide (r.kind ≤ 4) = true) := by exact decide_eq_true (by omega)
    have D2 : Hid (decide (0 < r.id) = true) := by exact decide_eq_true (by omega)
    have D3 : Hid (decide ((r.id : Int) ≤ 4294967295) = true) := by exact decide_eq_true (by omega)
    have D4 : Hid (decide ((r.base : Int) ≤ 4294967295) = true) := by exact decide_eq_true (by omega)
    have D5 : Hid (decide (((strOf r.ed.s).size : Int) ≤ 500) = false) := by have hs := HS.out; exact decide_eq_false (by omega)
    clear g0 g1 g2 g3 g4 g5
    go_enter Try.func35, Try.ntmps35
    go_wp2_with fail
    refine wp_region_quietC (fun v => Holds v (blk w.heap.size 37 CR :: l)) (by kernel_rfl) (by kernel_rfl) (HH.out.drewN 1) ?_
    repeat (first
      | go_big_quiet_skip
      | (go_big_quiet_want
         first
         | (refine quietLoad 37 (.tmp 1) rfl w.heap.size 0 rfl r.cells _ (fun v hv => by rw [← HCR.out] at hv; exact hv.blk.range) Try.underlying37 rfl (Rec.sizeL HK.out) ?_)
         | (refine quietV ?_ (fun v hv => ?_) ?_
            rotate_left
            · have he := HE.out
              have d0 := D0.out
              have d1 := D1.out
              have d2 := D2.out
              have d3 := D3.out
              have d4 := D4.out
              have d5 := D5.out
              have hv1 := hv
              rw [← HCR.out] at hv1
              obtain ⟨c0, c1, c2, c3, c70, c71, c72, c73⟩ := hv1.recAt HK.out
              clear hv hv1
              go_simp <;> (try with_reducible rfl))
         | (refine quietCall _ 78 #[.int .i64 r.code] (fun v hv => ?_) (fun v hv => msgCode_h r.code v _ hv) ?_
            · clear hv; go_simp; done)
         | (refine quietCall _ 79 #[.agg r.cells.toArray] (fun v hv => ?_) (fun v hv => bare_h r HK.out v _ hv) ?_
            · clear hv; go_simp; done)
         simp only [Act.put, List.setIfInBounds_toArray, List.set_cons_zero, List.set_cons_succ]
         go_big_quiet_on))
    refine wpQuiet_nil (fun w' hw' => ?_)
    go_wp2
    go_returns
    exact ⟨by rw [HF.out]; rfl, hw'.tail⟩
  by_cases g6 : r.text.length ≤ 2000
  rotate_left
  · skip
    have HF : Hid (formedR r = false) := by unfold Hid; simp [formedR, *]
    have D0 : Hid (decide (1 ≤ r.kind) = true) := by exact decide_eq_true (by omega)
    have D1 : Hid (decide (r.kind ≤ 4) = true) := by exact decide_eq_true (by omega)
    have D2 : Hid (decide (0 < r.id) = true) := by exact decide_eq_true (by omega)
    have D3 : Hid (decide ((r.id : Int) ≤ 4294967295) = true) := by exact decide_eq_true (by omega)
    have D4 : Hid (decide ((r.base : Int) ≤ 4294967295) = true) := by exact decide_eq_true (by omega)
    have D5 : Hid (decide (((strOf r.ed.s).size : Int) ≤ 500) = true) := by have hs := HS.out; exact decide_eq_true (by omega)
    have D6 : Hid (decide (((strOf r.text).size : Int) ≤ 2000) = false) := by have hs := HT.out; exact decide_eq_false (by omega)
    clear g0 g1 g2 g3 g4 g5 g6
    go_enter Try.func35, Try.ntmps35
    go_wp2_with fail
    refine wp_region_quietC (fun v => Holds v (blk w.heap.size 37 CR :: l)) (by kernel_rfl) (by kernel_rfl) (HH.out.drewN 1) ?_
    repeat (first
      | go_big_quiet_skip
      | (go_big_quiet_want
         first
         | (refine quietLoad 37 (.tmp 1) rfl w.heap.size 0 rfl r.cells _ (fun v hv => by rw [← HCR.out] at hv; exact hv.blk.range) Try.underlying37 rfl (Rec.sizeL HK.out) ?_)
         | (refine quietV ?_ (fun v hv => ?_) ?_
            rotate_left
            · have he := HE.out
              have d0 := D0.out
              have d1 := D1.out
              have d2 := D2.out
              have d3 := D3.out
              have d4 := D4.out
              have d5 := D5.out
              have d6 := D6.out
              have hv1 := hv
              rw [← HCR.out] at hv1
              obtain ⟨c0, c1, c2, c3, c70, c71, c72, c73⟩ := hv1.recAt HK.out
              clear hv hv1
              go_simp <;> (try with_reducible rfl))
         | (refine quietCall _ 78 #[.int .i64 r.code] (fun v hv => ?_) (fun v hv => msgCode_h r.code v _ hv) ?_
            · clear hv; go_simp; done)
         | (refine quietCall _ 79 #[.agg r.cells.toArray] (fun v hv => ?_) (fun v hv => bare_h r HK.out v _ hv) ?_
            · clear hv; go_simp; done)
         simp only [Act.put, List.setIfInBounds_toArray, List.set_cons_zero, List.set_cons_succ]
         go_big_quiet_on))
    refine wpQuiet_nil (fun w' hw' => ?_)
    go_wp2
    go_returns
    exact ⟨by rw [HF.out]; rfl, hw'.tail⟩
  by_cases g7 : r.kind = 3
  · cases gc : codeOk r.code
    · skip
      have HF : Hid (formedR r = false) := by unfold Hid; simp [formedR, *]
      have D0 : Hid (decide (1 ≤ r.kind) = true) := by exact decide_eq_true (by omega)
      have D1 : Hid (decide (r.kind ≤ 4) = true) := by exact decide_eq_true (by omega)
      have D2 : Hid (decide (0 < r.id) = true) := by exact decide_eq_true (by omega)
      have D3 : Hid (decide ((r.id : Int) ≤ 4294967295) = true) := by exact decide_eq_true (by omega)
      have D4 : Hid (decide ((r.base : Int) ≤ 4294967295) = true) := by exact decide_eq_true (by omega)
      have D5 : Hid (decide (((strOf r.ed.s).size : Int) ≤ 500) = true) := by have hs := HS.out; exact decide_eq_true (by omega)
      have D6 : Hid (decide (((strOf r.text).size : Int) ≤ 2000) = true) := by have hs := HT.out; exact decide_eq_true (by omega)
      have D7 : Hid ((r.kind != 3) = false) := by unfold Hid; simp [g7]
      have D8 : Hid (codeOk r.code = false) := gc
      clear g0 g1 g2 g3 g4 g5 g6 g7 gc
      go_enter Try.func35, Try.ntmps35
      go_wp2_with fail
      refine wp_region_quietC (fun v => Holds v (blk w.heap.size 37 CR :: l)) (by kernel_rfl) (by kernel_rfl) (HH.out.drewN 1) ?_
      repeat (first
        | go_big_quiet_skip
        | (go_big_quiet_want
           first
           | (refine quietLoad 37 (.tmp 1) rfl w.heap.size 0 rfl r.cells _ (fun v hv => by rw [← HCR.out] at hv; exact hv.blk.range) Try.underlying37 rfl (Rec.sizeL HK.out) ?_)
           | (refine quietV ?_ (fun v hv => ?_) ?_
              rotate_left
              · have he := HE.out
                have d0 := D0.out
                have d1 := D1.out
                have d2 := D2.out
                have d3 := D3.out
                have d4 := D4.out
                have d5 := D5.out
                have d6 := D6.out
                have d7 := D7.out
                have d8 := D8.out
                have hv1 := hv
                rw [← HCR.out] at hv1
                obtain ⟨c0, c1, c2, c3, c70, c71, c72, c73⟩ := hv1.recAt HK.out
                clear hv hv1
                go_simp <;> (try with_reducible rfl))
           | (refine quietCall _ 78 #[.int .i64 r.code] (fun v hv => ?_) (fun v hv => msgCode_h r.code v _ hv) ?_
              · clear hv; go_simp; done)
           | (refine quietCall _ 79 #[.agg r.cells.toArray] (fun v hv => ?_) (fun v hv => bare_h r HK.out v _ hv) ?_
              · clear hv; go_simp; done)
           simp only [Act.put, List.setIfInBounds_toArray, List.set_cons_zero, List.set_cons_succ]
           go_big_quiet_on))
      refine wpQuiet_nil (fun w' hw' => ?_)
      go_wp2
      go_returns
      exact ⟨by rw [HF.out]; rfl, hw'.tail⟩
    · skip
      cases gm : r.commit
      · cases gz : r.has
        · skip
          have HF : Hid (formedR r = sameR r (bareR r)) := by unfold Hid; simp [formedR, *]
          have D0 : Hid (decide (1 ≤ r.kind) = true) := by exact decide_eq_true (by omega)
          have D1 : Hid (decide (r.kind ≤ 4) = true) := by exact decide_eq_true (by omega)
          have D2 : Hid (decide (0 < r.id) = true) := by exact decide_eq_true (by omega)
          have D3 : Hid (decide ((r.id : Int) ≤ 4294967295) = true) := by exact decide_eq_true (by omega)
          have D4 : Hid (decide ((r.base : Int) ≤ 4294967295) = true) := by exact decide_eq_true (by omega)
          have D5 : Hid (decide (((strOf r.ed.s).size : Int) ≤ 500) = true) := by have hs := HS.out; exact decide_eq_true (by omega)
          have D6 : Hid (decide (((strOf r.text).size : Int) ≤ 2000) = true) := by have hs := HT.out; exact decide_eq_true (by omega)
          have D7 : Hid ((r.kind != 3) = false) := by unfold Hid; simp [g7]
          have D8 : Hid (codeOk r.code = true) := gc
          have D9 : Hid (r.commit = false) := gm
          have D10 : Hid (r.has = false) := gz
          clear g0 g1 g2 g3 g4 g5 g6 g7 gc gm gz
          go_enter Try.func35, Try.ntmps35
          go_wp2_with fail
          refine wp_region_quietC (fun v => Holds v (blk w.heap.size 37 CR :: l)) (by kernel_rfl) (by kernel_rfl) (HH.out.drewN 1) ?_
          repeat (first
            | go_big_quiet_skip
            | (go_big_quiet_want
               first
               | (refine quietLoad 37 (.tmp 1) rfl w.heap.size 0 rfl r.cells _ (fun v hv => by rw [← HCR.out] at hv; exact hv.blk.range) Try.underlying37 rfl (Rec.sizeL HK.out) ?_)
               | (refine quietV ?_ (fun v hv => ?_) ?_
                  rotate_left
                  · have he := HE.out
                    have d0 := D0.out
                    have d1 := D1.out
                    have d2 := D2.out
                    have d3 := D3.out
                    have d4 := D4.out
                    have d5 := D5.out
                    have d6 := D6.out
                    have d7 := D7.out
                    have d8 := D8.out
                    have d9 := D9.out
                    have d10 := D10.out
                    have hv1 := hv
                    rw [← HCR.out] at hv1
                    obtain ⟨c0, c1, c2, c3, c70, c71, c72, c73⟩ := hv1.recAt HK.out
                    clear hv hv1
                    go_simp <;> (try with_reducible rfl))
               | (refine quietCall _ 78 #[.int .i64 r.code] (fun v hv => ?_) (fun v hv => msgCode_h r.code v _ hv) ?_
                  · clear hv; go_simp; done)
               | (refine quietCall _ 79 #[.agg r.cells.toArray] (fun v hv => ?_) (fun v hv => bare_h r HK.out v _ hv) ?_
                  · clear hv; go_simp; done)
               simp only [Act.put, List.setIfInBounds_toArray, List.set_cons_zero, List.set_cons_succ]
               go_big_quiet_on))
          refine wpQuiet_nil (fun w' hw' => ?_)
          go_wp2
          go_returns
          exact ⟨by rw [HF.out]; rfl, hw'.tail⟩
        · skip
          have HF : Hid (formedR r = false) := by unfold Hid; simp [formedR, *]
          have D0 : Hid (decide (1 ≤ r.kind) = true) := by exact decide_eq_true (by omega)
          have D1 : Hid (decide (r.kind ≤ 4) = true) := by exact decide_eq_true (by omega)
          have D2 : Hid (decide (0 < r.id) = true) := by exact decide_eq_true (by omega)
          have D3 : Hid (decide ((r.id : Int) ≤ 4294967295) = true) := by exact decide_eq_true (by omega)
          have D4 : Hid (decide ((r.base : Int) ≤ 4294967295) = true) := by exact decide_eq_true (by omega)
          have D5 : Hid (decide (((strOf r.ed.s).size : Int) ≤ 500) = true) := by have hs := HS.out; exact decide_eq_true (by omega)
          have D6 : Hid (decide (((strOf r.text).size : Int) ≤ 2000) = true) := by have hs := HT.out; exact decide_eq_true (by omega)
          have D7 : Hid ((r.kind != 3) = false) := by unfold Hid; simp [g7]
          have D8 : Hid (codeOk r.code = true) := gc
          have D9 : Hid (r.commit = false) := gm
          have D10 : Hid (r.has = true) := gz
          clear g0 g1 g2 g3 g4 g5 g6 g7 gc gm gz
          go_enter Try.func35, Try.ntmps35
          go_wp2_with fail
          refine wp_region_quietC (fun v => Holds v (blk w.heap.size 37 CR :: l)) (by kernel_rfl) (by kernel_rfl) (HH.out.drewN 1) ?_
          repeat (first
            | go_big_quiet_skip
            | (go_big_quiet_want
               first
               | (refine quietLoad 37 (.tmp 1) rfl w.heap.size 0 rfl r.cells _ (fun v hv => by rw [← HCR.out] at hv; exact hv.blk.range) Try.underlying37 rfl (Rec.sizeL HK.out) ?_)
               | (refine quietV ?_ (fun v hv => ?_) ?_
                  rotate_left
                  · have he := HE.out
                    have d0 := D0.out
                    have d1 := D1.out
                    have d2 := D2.out
                    have d3 := D3.out
                    have d4 := D4.out
                    have d5 := D5.out
                    have d6 := D6.out
                    have d7 := D7.out
                    have d8 := D8.out
                    have d9 := D9.out
                    have d10 := D10.out
                    have hv1 := hv
                    rw [← HCR.out] at hv1
                    obtain ⟨c0, c1, c2, c3, c70, c71, c72, c73⟩ := hv1.recAt HK.out
                    clear hv hv1
                    go_simp <;> (try with_reducible rfl))
               | (refine quietCall _ 78 #[.int .i64 r.code] (fun v hv => ?_) (fun v hv => msgCode_h r.code v _ hv) ?_
                  · clear hv; go_simp; done)
               | (refine quietCall _ 79 #[.agg r.cells.toArray] (fun v hv => ?_) (fun v hv => bare_h r HK.out v _ hv) ?_
                  · clear hv; go_simp; done)
               simp only [Act.put, List.setIfInBounds_toArray, List.set_cons_zero, List.set_cons_succ]
               go_big_quiet_on))
          refine wpQuiet_nil (fun w' hw' => ?_)
          go_wp2
          go_returns
          exact ⟨by rw [HF.out]; rfl, hw'.tail⟩
      · skip
        have HF : Hid (formedR r = sameR r (bareR r)) := by unfold Hid; simp [formedR, *]
        have D0 : Hid (decide (1 ≤ r.kind) = true) := by exact decide_eq_true (by omega)
        have D1 : Hid (decide (r.kind ≤ 4) = true) := by exact decide_eq_true (by omega)
        have D2 : Hid (decide (0 < r.id) = true) := by exact decide_eq_true (by omega)
        have D3 : Hid (decide ((r.id : Int) ≤ 4294967295) = true) := by exact decide_eq_true (by omega)
        have D4 : Hid (decide ((r.base : Int) ≤ 4294967295) = true) := by exact decide_eq_true (by omega)
        have D5 : Hid (decide (((strOf r.ed.s).size : Int) ≤ 500) = true) := by have hs := HS.out; exact decide_eq_true (by omega)
        have D6 : Hid (decide (((strOf r.text).size : Int) ≤ 2000) = true) := by have hs := HT.out; exact decide_eq_true (by omega)
        have D7 : Hid ((r.kind != 3) = false) := by unfold Hid; simp [g7]
        have D8 : Hid (codeOk r.code = true) := gc
        have D9 : Hid (r.commit = true) := gm
        clear g0 g1 g2 g3 g4 g5 g6 g7 gc gm
        go_enter Try.func35, Try.ntmps35
        go_wp2_with fail
        refine wp_region_quietC (fun v => Holds v (blk w.heap.size 37 CR :: l)) (by kernel_rfl) (by kernel_rfl) (HH.out.drewN 1) ?_
        repeat (first
          | go_big_quiet_skip
          | (go_big_quiet_want
             first
             | (refine quietLoad 37 (.tmp 1) rfl w.heap.size 0 rfl r.cells _ (fun v hv => by rw [← HCR.out] at hv; exact hv.blk.range) Try.underlying37 rfl (Rec.sizeL HK.out) ?_)
             | (refine quietV ?_ (fun v hv => ?_) ?_
                rotate_left
                · have he := HE.out
                  have d0 := D0.out
                  have d1 := D1.out
                  have d2 := D2.out
                  have d3 := D3.out
                  have d4 := D4.out
                  have d5 := D5.out
                  have d6 := D6.out
                  have d7 := D7.out
                  have d8 := D8.out
                  have d9 := D9.out
                  have hv1 := hv
                  rw [← HCR.out] at hv1
                  obtain ⟨c0, c1, c2, c3, c70, c71, c72, c73⟩ := hv1.recAt HK.out
                  clear hv hv1
                  go_simp <;> (try with_reducible rfl))
             | (refine quietCall _ 78 #[.int .i64 r.code] (fun v hv => ?_) (fun v hv => msgCode_h r.code v _ hv) ?_
                · clear hv; go_simp; done)
             | (refine quietCall _ 79 #[.agg r.cells.toArray] (fun v hv => ?_) (fun v hv => bare_h r HK.out v _ hv) ?_
                · clear hv; go_simp; done)
             simp only [Act.put, List.setIfInBounds_toArray, List.set_cons_zero, List.set_cons_succ]
             go_big_quiet_on))
        refine wpQuiet_nil (fun w' hw' => ?_)
        go_wp2
        go_returns
        exact ⟨by rw [HF.out]; rfl, hw'.tail⟩
  · skip
    cases gm : r.commit
    · cases gz : r.has
      · skip
        have HF : Hid (formedR r = sameR r (bareR r)) := by unfold Hid; simp [formedR, *]
        have D0 : Hid (decide (1 ≤ r.kind) = true) := by exact decide_eq_true (by omega)
        have D1 : Hid (decide (r.kind ≤ 4) = true) := by exact decide_eq_true (by omega)
        have D2 : Hid (decide (0 < r.id) = true) := by exact decide_eq_true (by omega)
        have D3 : Hid (decide ((r.id : Int) ≤ 4294967295) = true) := by exact decide_eq_true (by omega)
        have D4 : Hid (decide ((r.base : Int) ≤ 4294967295) = true) := by exact decide_eq_true (by omega)
        have D5 : Hid (decide (((strOf r.ed.s).size : Int) ≤ 500) = true) := by have hs := HS.out; exact decide_eq_true (by omega)
        have D6 : Hid (decide (((strOf r.text).size : Int) ≤ 2000) = true) := by have hs := HT.out; exact decide_eq_true (by omega)
        have D7 : Hid ((r.kind != 3) = true) := by unfold Hid; simp [g7]
        have D8 : Hid (r.commit = false) := gm
        have D9 : Hid (r.has = false) := gz
        clear g0 g1 g2 g3 g4 g5 g6 g7 gm gz
        go_enter Try.func35, Try.ntmps35
        go_wp2_with fail
        refine wp_region_quietC (fun v => Holds v (blk w.heap.size 37 CR :: l)) (by kernel_rfl) (by kernel_rfl) (HH.out.drewN 1) ?_
        repeat (first
          | go_big_quiet_skip
          | (go_big_quiet_want
             first
             | (refine quietLoad 37 (.tmp 1) rfl w.heap.size 0 rfl r.cells _ (fun v hv => by rw [← HCR.out] at hv; exact hv.blk.range) Try.underlying37 rfl (Rec.sizeL HK.out) ?_)
             | (refine quietV ?_ (fun v hv => ?_) ?_
                rotate_left
                · have he := HE.out
                  have d0 := D0.out
                  have d1 := D1.out
                  have d2 := D2.out
                  have d3 := D3.out
                  have d4 := D4.out
                  have d5 := D5.out
                  have d6 := D6.out
                  have d7 := D7.out
                  have d8 := D8.out
                  have d9 := D9.out
                  have hv1 := hv
                  rw [← HCR.out] at hv1
                  obtain ⟨c0, c1, c2, c3, c70, c71, c72, c73⟩ := hv1.recAt HK.out
                  clear hv hv1
                  go_simp <;> (try with_reducible rfl))
             | (refine quietCall _ 78 #[.int .i64 r.code] (fun v hv => ?_) (fun v hv => msgCode_h r.code v _ hv) ?_
                · clear hv; go_simp; done)
             | (refine quietCall _ 79 #[.agg r.cells.toArray] (fun v hv => ?_) (fun v hv => bare_h r HK.out v _ hv) ?_
                · clear hv; go_simp; done)
             simp only [Act.put, List.setIfInBounds_toArray, List.set_cons_zero, List.set_cons_succ]
             go_big_quiet_on))
        refine wpQuiet_nil (fun w' hw' => ?_)
        go_wp2
        go_returns
        exact ⟨by rw [HF.out]; rfl, hw'.tail⟩
      · skip
        have HF : Hid (formedR r = false) := by unfold Hid; simp [formedR, *]
        have D0 : Hid (decide (1 ≤ r.kind) = true) := by exact decide_eq_true (by omega)
        have D1 : Hid (decide (r.kind ≤ 4) = true) := by exact decide_eq_true (by omega)
        have D2 : Hid (decide (0 < r.id) = true) := by exact decide_eq_true (by omega)
        have D3 : Hid (decide ((r.id : Int) ≤ 4294967295) = true) := by exact decide_eq_true (by omega)
        have D4 : Hid (decide ((r.base : Int) ≤ 4294967295) = true) := by exact decide_eq_true (by omega)
        have D5 : Hid (decide (((strOf r.ed.s).size : Int) ≤ 500) = true) := by have hs := HS.out; exact decide_eq_true (by omega)
        have D6 : Hid (decide (((strOf r.text).size : Int) ≤ 2000) = true) := by have hs := HT.out; exact decide_eq_true (by omega)
        have D7 : Hid ((r.kind != 3) = true) := by unfold Hid; simp [g7]
        have D8 : Hid (r.commit = false) := gm
        have D9 : Hid (r.has = true) := gz
        clear g0 g1 g2 g3 g4 g5 g6 g7 gm gz
        go_enter Try.func35, Try.ntmps35
        go_wp2_with fail
        refine wp_region_quietC (fun v => Holds v (blk w.heap.size 37 CR :: l)) (by kernel_rfl) (by kernel_rfl) (HH.out.drewN 1) ?_
        repeat (first
          | go_big_quiet_skip
          | (go_big_quiet_want
             first
             | (refine quietLoad 37 (.tmp 1) rfl w.heap.size 0 rfl r.cells _ (fun v hv => by rw [← HCR.out] at hv; exact hv.blk.range) Try.underlying37 rfl (Rec.sizeL HK.out) ?_)
             | (refine quietV ?_ (fun v hv => ?_) ?_
                rotate_left
                · have he := HE.out
                  have d0 := D0.out
                  have d1 := D1.out
                  have d2 := D2.out
                  have d3 := D3.out
                  have d4 := D4.out
                  have d5 := D5.out
                  have d6 := D6.out
                  have d7 := D7.out
                  have d8 := D8.out
                  have d9 := D9.out
                  have hv1 := hv
                  rw [← HCR.out] at hv1
                  obtain ⟨c0, c1, c2, c3, c70, c71, c72, c73⟩ := hv1.recAt HK.out
                  clear hv hv1
                  go_simp <;> (try with_reducible rfl))
             | (refine quietCall _ 78 #[.int .i64 r.code] (fun v hv => ?_) (fun v hv => msgCode_h r.code v _ hv) ?_
                · clear hv; go_simp; done)
             | (refine quietCall _ 79 #[.agg r.cells.toArray] (fun v hv => ?_) (fun v hv => bare_h r HK.out v _ hv) ?_
                · clear hv; go_simp; done)
             simp only [Act.put, List.setIfInBounds_toArray, List.set_cons_zero, List.set_cons_succ]
             go_big_quiet_on))
        refine wpQuiet_nil (fun w' hw' => ?_)
        go_wp2
        go_returns
        exact ⟨by rw [HF.out]; rfl, hw'.tail⟩
    · skip
      have HF : Hid (formedR r = sameR r (bareR r)) := by unfold Hid; simp [formedR, *]
      have D0 : Hid (decide (1 ≤ r.kind) = true) := by exact decide_eq_true (by omega)
      have D1 : Hid (decide (r.kind ≤ 4) = true) := by exact decide_eq_true (by omega)
      have D2 : Hid (decide (0 < r.id) = true) := by exact decide_eq_true (by omega)
      have D3 : Hid (decide ((r.id : Int) ≤ 4294967295) = true) := by exact decide_eq_true (by omega)
      have D4 : Hid (decide ((r.base : Int) ≤ 4294967295) = true) := by exact decide_eq_true (by omega)
      have D5 : Hid (decide (((strOf r.ed.s).size : Int) ≤ 500) = true) := by have hs := HS.out; exact decide_eq_true (by omega)
      have D6 : Hid (decide (((strOf r.text).size : Int) ≤ 2000) = true) := by have hs := HT.out; exact decide_eq_true (by omega)
      have D7 : Hid ((r.kind != 3) = true) := by unfold Hid; simp [g7]
      have D8 : Hid (r.commit = true) := gm
      clear g0 g1 g2 g3 g4 g5 g6 g7 gm
      go_enter Try.func35, Try.ntmps35
      go_wp2_with fail
      refine wp_region_quietC (fun v => Holds v (blk w.heap.size 37 CR :: l)) (by kernel_rfl) (by kernel_rfl) (HH.out.drewN 1) ?_
      repeat (first
        | go_big_quiet_skip
        | (go_big_quiet_want
           first
           | (refine quietLoad 37 (.tmp 1) rfl w.heap.size 0 rfl r.cells _ (fun v hv => by rw [← HCR.out] at hv; exact hv.blk.range) Try.underlying37 rfl (Rec.sizeL HK.out) ?_)
           | (refine quietV ?_ (fun v hv => ?_) ?_
              rotate_left
              · have he := HE.out
                have d0 := D0.out
                have d1 := D1.out
                have d2 := D2.out
                have d3 := D3.out
                have d4 := D4.out
                have d5 := D5.out
                have d6 := D6.out
                have d7 := D7.out
                have d8 := D8.out
                have hv1 := hv
                rw [← HCR.out] at hv1
                obtain ⟨c0, c1, c2, c3, c70, c71, c72, c73⟩ := hv1.recAt HK.out
                clear hv hv1
                go_simp <;> (try with_reducible rfl))
           | (refine quietCall _ 78 #[.int .i64 r.code] (fun v hv => ?_) (fun v hv => msgCode_h r.code v _ hv) ?_
              · clear hv; go_simp; done)
           | (refine quietCall _ 79 #[.agg r.cells.toArray] (fun v hv => ?_) (fun v hv => bare_h r HK.out v _ hv) ?_
              · clear hv; go_simp; done)
           simp only [Act.put, List.setIfInBounds_toArray, List.set_cons_zero, List.set_cons_succ]
           go_big_quiet_on))
      refine wpQuiet_nil (fun w' hw' => ?_)
      go_wp2
      go_returns
      exact ⟨by rw [HF.out]; rfl, hw'.tail⟩
end Go.Proofs.Ytaieonajialenaa
