/- record.bare -/
import Derived.Test.YtaieonajialenaaRec
namespace Go.Proofs.Ytaieonajialenaa
open Go.RowKit HP

theorem run_alloc_z {P : Program} {T : TypeId} {Z : Array Value} {n : Nat} (h : (P.info? T).map (fun i => (i.zero, i.size)) = some (some (.agg Z), n)) (w : World) : (Instr.alloc T true undef).run P w = .ok (.pointer (some ⟨w.heap.size, 0, none⟩)) (w.alloc (.cells Z T)) := by
  cases hi : P.info? T with
  | none => rw [hi] at h; cases h
  | some i =>
    rw [hi] at h
    simp only [Option.map_some, Option.some.injEq, Prod.mk.injEq] at h
    simp [Instr.alloc, zeroValue, typeInfo, hi, h.1, newVar, newRow, Value.cells]
theorem Try.infoRecord : (Try.prog.info? 37).map (fun i => (i.zero, i.size)) = some (some (.agg Rec.zero.cells.toArray), 74) := by kernel_rfl
theorem Try.infoRRecord : (Try.prog.info? 38).map (fun i => (i.zero, i.size)) = some (some (.agg Rec.zero.cells.toArray), 74) := by kernel_rfl
theorem Try.zeroRecord : Try.zeroCells37 = Rec.zero.cells.toArray := by kernel_rfl
theorem Try.zeroRRecord : Try.zeroCells38 = Rec.zero.cells.toArray := by kernel_rfl
theorem Try.sizeRecord : (Try.prog.info? 37).map (·.size) = some 74 := by kernel_rfl
theorem Try.sizeRRecord : (Try.prog.info? 38).map (·.size) = some 74 := by kernel_rfl
theorem Try.sizeEdit : (Try.prog.info? 35).map (·.size) = some 35 := by kernel_rfl
theorem Rec.one (r : Rec) : ∀ v ∈ r.cells.toArray.toList, v.oneCell' = true := by
  intro v hv
  simp only [Rec.cells, Ed.cells, List.mem_cons, List.mem_append, List.not_mem_nil, or_false] at hv
  rcases hv with rfl | rfl | rfl | (rfl | rfl | rfl | hv) | hv | rfl | rfl | rfl | rfl <;> first | rfl | exact bcs_one _ hv
theorem Ed.one (r : Ed) : ∀ v ∈ r.cells.toArray.toList, v.oneCell' = true := by
  intro v hv
  simp only [Ed.cells, List.mem_cons] at hv
  rcases hv with rfl | rfl | rfl | hv <;> first | rfl | exact bcs_one _ hv
/-- a record with just what its kind has -/
def bareR (r : Rec) : Rec :=
  if r.kind = 1 then { Rec.zero with kind := r.kind, id := r.id, ed := r.ed }
  else if r.kind = 2 then { Rec.zero with kind := r.kind, id := r.id, base := r.base, ed := r.ed, root := r.root }
  else if r.kind = 3 then { Rec.zero with kind := r.kind, id := r.id, code := r.code }
  else if r.kind = 4 then { Rec.zero with kind := r.kind, id := r.id, commit := r.commit, has := r.has, text := if r.has = true then r.text else [] }
  else { Rec.zero with kind := r.kind, id := r.id }
theorem bareR_ok {r : Rec} (h : r.Ok) : (bareR r).Ok := by
  unfold bareR
  repeat' split
  all_goals first | exact ⟨h.ed, length_zeros 32⟩ | exact ⟨h.ed, h.root⟩ | exact ⟨Ed.zero_ok, length_zeros 32⟩
def recI (k : Int) (i : Nat) : Rec := { Rec.zero with kind := k, id := i }
theorem recI_ok (k : Int) (i : Nat) : (recI k i).Ok := ⟨Ed.zero_ok, length_zeros 32⟩
theorem run_build_rec (k : Int) (i : Nat) (w : World) : (Instr.build 37 #[(0, .int .i64 k), (1, .int .u64 i)]).run Try.prog w = .ok (.agg (recI k i).cells.toArray) w := by kernel_rfl
theorem recI_build (k : Int) (i : Nat) : (Try.zeroCells37.setIfInBounds 0 (.int .i64 k)).setIfInBounds 1 (.int .u64 i) = (recI k i).cells.toArray := by
  rw [Try.zeroRecord]; rfl
/-- the end: out is taken and laid into the result -/
theorem Rec.size {r : Rec} (h : r.Ok) : (Try.prog.info? 37).map (·.size) = some r.cells.toArray.size := by rw [Try.sizeRecord]; simp [Rec.length_cells h]
theorem Rec.sizeR {r : Rec} (h : r.Ok) : (Try.prog.info? 38).map (·.size) = some r.cells.toArray.size := by rw [Try.sizeRRecord]; simp [Rec.length_cells h]
theorem Rec.sizeLR {r : Rec} (h : r.Ok) : (Try.prog.info? 38).map (·.size) = some r.cells.length := by rw [Try.sizeRRecord]; simp [Rec.length_cells h]
theorem Rec.sizeL {r : Rec} (h : r.Ok) : (Try.prog.info? 37).map (·.size) = some r.cells.length := by rw [Try.sizeRecord]; simp [Rec.length_cells h]
theorem Ed.size {r : Ed} (h : r.Ok) : (Try.prog.info? 35).map (·.size) = some r.cells.toArray.size := by rw [Try.sizeEdit]; simp [Ed.length_cells h]
theorem Ed.sizeL {r : Ed} (h : r.Ok) : (Try.prog.info? 35).map (·.size) = some r.cells.length := by rw [Try.sizeEdit]; simp [Ed.length_cells h]
set_option maxRecDepth 100000 in
set_option maxHeartbeats 2000000 in
theorem bare_ok (r : Rec) (h : r.Ok) (w : World) (R : List HP) (hh : Holds w R) :
    Calls Try.prog 79 #[.agg r.cells.toArray] w fun e w' => e = .returned (.agg (bareR r).cells.toArray) ∧ Holds w' R := by
  have hh2 : Holds ((w.alloc (.cells r.cells.toArray 37)).alloc (.cells Rec.zero.cells.toArray 37)) (blk (w.heap.size + 1) 37 Rec.zero.cells.toArray :: blk w.heap.size 37 r.cells.toArray :: R) := by
    have := (hh.alloc 37 r.cells.toArray).alloc 37 Rec.zero.cells.toArray
    rwa [heap_size_alloc] at this
  have hh3 : Holds (((w.alloc (.cells r.cells.toArray 37)).alloc (.cells Rec.zero.cells.toArray 37)).alloc (.cells Rec.zero.cells.toArray 37)) (blk (w.heap.size + 1 + 1) 37 Rec.zero.cells.toArray :: blk (w.heap.size + 1) 37 Rec.zero.cells.toArray :: blk w.heap.size 37 r.cells.toArray :: R) := by
    have := hh2.alloc 37 Rec.zero.cells.toArray
    rwa [heap_size_alloc, heap_size_alloc] at this
  have c0 := (hh2.pull 1 rfl).cells 0
  have c1 := (hh2.pull 1 rfl).cells 1
  rw [Rec.get0] at c0
  rw [Rec.get1] at c1
  rw [← Try.zeroRecord] at c0 c1
  have HH3 := Lib.hid hh3
  rw [← Try.zeroRecord] at HH3
  have HK := Lib.hid h
  have HZ : Hid (Try.zeroCells37.size = 74) := by unfold Hid; rw [Try.zeroRecord]; simp [Rec.length_cells Rec.zero_ok]
  have hbo := Lib.hid (bareR_ok h)
  clear hh hh2 hh3 h
  obtain ⟨bo, hbare⟩ : ∃ bo, Hid (bareR r = bo) := ⟨_, rfl⟩
  rw [hbare.out] at hbo ⊢
  generalize hcr : r.cells.toArray = CR at c0 c1 HH3
  have HCR := Lib.hid hcr; clear hcr
  by_cases h1 : r.kind = 1
  · rw [h1] at c0
    have hbe : Hid (bo = { recI 1 r.id with ed := r.ed }) := by unfold Hid; rw [← hbare.out, bareR, if_pos h1, h1]; rfl
    have HKK := Lib.hid h1; clear h1
    have HI := Lib.hid (recI_ok 1 r.id)
    have HB := Lib.hid (recI_build 1 r.id)
    have HF1 : Hid (0 + (recI 1 r.id).cells.toArray.size ≤ Try.zeroCells37.size) := by
      unfold Hid; rw [Try.zeroRecord]; simp [Rec.length_cells (recI_ok 1 r.id), Rec.length_cells Rec.zero_ok]
    go_enter Try.func79, Try.ntmps79
    go_wp2_with (first
    | (refine wpList_store_blk rfl 37 (.tmp 3) (.tmp 8) rfl (w.heap.size + 1 + 1) 0 (recI 1 r.id).cells.toArray rfl (congrArg Value.agg HB.out) 37 Try.zeroCells37 HH3.out.blk (Rec.size HI.out) HF1.out (Rec.one _) ?_
       intro w3 hb3 hk3
       rw [putA_all _ _ (by rw [HZ.out]; simp [Rec.length_cells HI.out])] at hb3
       have hh4 := HH3.out.reblk hb3 hk3
       have d0 := (hh4.pull 2 rfl).cells 0
       rw [← HCR.out, Rec.get0, HKK.out] at d0
       have HH4 := Lib.hid hh4
       clear hb3 hk3 hh4 c0 c1)
    | (refine wpList_load_mid rfl 35 (.tmp 13) rfl w.heap.size 3 rfl r.ed.cells _ (Rec.range_ed (r := r) (by rw [HCR.out]; exact (HH4.out.pull 2 rfl).blk)) Try.underlying35 rfl (Ed.sizeL HK.out.ed) ?_)
    | (refine wpList_store_blk rfl 35 (.tmp 15) (.tmp 14) rfl (w.heap.size + 1 + 1) 3 r.ed.cells.toArray rfl rfl 37 _ HH4.out.blk (Ed.size HK.out.ed) (by simp [Rec.length_cells HI.out, Ed.length_cells HK.out.ed]) (Ed.one _) ?_
       intro w5 hb5 hk5
       rw [show r.ed.cells.toArray.toList = r.ed.cells from rfl, Rec.put_ed HI.out HK.out.ed, ← hbe.out] at hb5
       have HHX := Lib.hid (HH4.out.reblk hb5 hk5)
       clear hb5 hk5 d0)
    | (refine wpList_load_mid rfl 37 (.tmp 3) rfl (w.heap.size + 1 + 1) 0 rfl bo.cells _ HHX.out.blk.range Try.underlying37 rfl (Rec.sizeL hbo.out) ?_; simp only [Act.put, List.setIfInBounds_toArray, List.set_cons_zero, List.set_cons_succ])
    | (refine wpList_store_blk rfl 37 (.tmp 2) (.tmp 45) rfl (w.heap.size + 1) 0 bo.cells.toArray (by exact rfl) (by exact rfl) 37 Try.zeroCells37 (HHX.out.pull 1 rfl).blk (Rec.size hbo.out) (by rw [HZ.out]; simp [Rec.length_cells hbo.out]) (Rec.one _) ?_
       intro w9 hb9 hk9
       rw [putA_all _ _ (by rw [HZ.out]; simp [Rec.length_cells hbo.out])] at hb9
       have hh9 := (HHX.out.pull 1 rfl).reblk hb9 hk9
       have HB9 := Lib.hid hh9.blk_heap
       have HH9 := Lib.hid hh9.tail.tail.tail
       clear hb9 hk9 hh9))
    refine bodyPost_ret (results_cell_row rfl _ _ (w.heap.size + 1) 37 bo.cells.toArray (0, 0) _ rfl HB9.out Try.underlying37 rfl (Rec.size hbo.out)) rfl ?_
    exact ⟨rfl, HH9.out⟩
  by_cases h2 : r.kind = 2
  · rw [h2] at c0
    obtain ⟨r1, hr1⟩ : ∃ r1 : Rec, Hid ({ recI 2 r.id with base := r.base } = r1) := ⟨_, rfl⟩
    obtain ⟨r2, hr2⟩ : ∃ r2 : Rec, Hid ({ r1 with ed := r.ed } = r2) := ⟨_, rfl⟩
    have hbe : Hid ({ r2 with root := r.root } = bo) := by unfold Hid; rw [← hbare.out, ← hr2.out, ← hr1.out, bareR, if_neg h1, if_pos h2, h2]; rfl
    have HKK := Lib.hid h2; clear h1 h2
    have HI := Lib.hid (recI_ok 2 r.id)
    have HB := Lib.hid (recI_build 2 r.id)
    have HF1 : Hid (0 + (recI 2 r.id).cells.toArray.size ≤ Try.zeroCells37.size) := by
      unfold Hid; rw [Try.zeroRecord]; simp [Rec.length_cells (recI_ok 2 r.id), Rec.length_cells Rec.zero_ok]
    have HRR := Lib.hid (show (Try.prog.info? 33).map (·.size) = some (bcs r.root).length by rw [Try.sizeHash]; simp [HK.out.root])
    have HRS := Lib.hid (show (Try.prog.info? 33).map (·.size) = some (bcs r.root).toArray.size by rw [Try.sizeHash]; simp [HK.out.root])
    have HI2 : Hid (Rec.Ok r1) := by rw [← hr1.out]; exact ⟨HI.out.ed, HI.out.root⟩
    have HI3 : Hid (Rec.Ok r2) := by rw [← hr2.out]; exact ⟨HK.out.ed, HI2.out.root⟩
    have hf2 : 3 + r.ed.cells.toArray.size ≤ r1.cells.toArray.size := by simp [Rec.length_cells HI2.out, Ed.length_cells HK.out.ed]
    have hf3 : 38 + (bcs r.root).toArray.size ≤ r2.cells.toArray.size := by simp [Rec.length_cells HI3.out, HK.out.root]
    go_enter Try.func79, Try.ntmps79
    go_wp2_with (first
    | (refine wpList_store_blk rfl 37 (.tmp 3) (.tmp 8) rfl (w.heap.size + 1 + 1) 0 (recI 2 r.id).cells.toArray rfl (congrArg Value.agg HB.out) 37 Try.zeroCells37 HH3.out.blk (Rec.size HI.out) HF1.out (Rec.one _) ?_
       intro w3 hb3 hk3
       rw [putA_all _ _ (by rw [HZ.out]; simp [Rec.length_cells HI.out])] at hb3
       have hh4 := HH3.out.reblk hb3 hk3
       have d0 := (hh4.pull 2 rfl).cells 0
       rw [← HCR.out, Rec.get0, HKK.out] at d0
       have HH4 := Lib.hid hh4
       clear hb3 hk3 hh4 c0 c1))
    have hs0 := (HH4.out.pull 2 rfl).drew
    have HS2 := Lib.hid (fun w' (hw : Holds w' (blk w.heap.size 37 CR :: blk (w.heap.size + 1) 37 Try.zeroCells37 :: R)) => show w'.cell? ⟨w.heap.size, 2, none⟩ = some (.int .u64 r.base) from (hw.cells 2).trans (by rw [← HCR.out]; exact Rec.get2))
    clear d0
    refine wp_region_held_drew (S := (fun w' => Holds w' (blk w.heap.size 37 CR :: blk (w.heap.size + 1) 37 Try.zeroCells37 :: R))) (by kernel_rfl) ?_ (fun hHeld => ?_)
    · exact (hs0.drop 1 rfl)
    refine takeH 0 ?_ rfl (by kernel_rfl) (by kernel_rfl) (by kernel_rfl) (fun _ _ _ h => h) (by kernel_rfl) (by assumption) (fun w hSw => ?_) ?_
    rotate_left
    · (try dsimp only at hSw); go_simp <;> (try with_reducible rfl)
    try simp only [Act.put, List.setIfInBounds_toArray, List.set_cons_zero, List.set_cons_succ]
    refine takeH 1 ?_ rfl (by kernel_rfl) (by kernel_rfl) (by kernel_rfl) (fun _ _ _ h => h) (by kernel_rfl) (by assumption) (fun w hSw => ?_) ?_
    rotate_left
    · obtain ca := HS2.out _ hSw
      clear hSw; go_simp <;> (try with_reducible rfl)
    try simp only [Act.put, List.setIfInBounds_toArray, List.set_cons_zero, List.set_cons_succ]
    refine takeH 2 ?_ rfl (by kernel_rfl) (by kernel_rfl) (by kernel_rfl) (fun _ _ _ h => h) (by kernel_rfl) (by assumption) (fun w hSw => ?_) ?_
    rotate_left
    · (try dsimp only at hSw); go_simp <;> (try with_reducible rfl)
    try simp only [Act.put, List.setIfInBounds_toArray, List.set_cons_zero, List.set_cons_succ]
    refine takeH_load 3 rfl (by kernel_rfl) (by kernel_rfl) (by kernel_rfl) (fun _ _ _ _ h => h) (by kernel_rfl) (by assumption) 35 (.tmp 20) rfl w.heap.size 3 rfl r.ed.cells _ (fun w' hw => Rec.range_ed (r := r) (by rw [HCR.out]; exact hw.blk)) Try.underlying35 rfl (Ed.sizeL HK.out.ed) ?_
    try simp only [Act.put, List.setIfInBounds_toArray, List.set_cons_zero, List.set_cons_succ]
    refine takeH 4 ?_ rfl (by kernel_rfl) (by kernel_rfl) (by kernel_rfl) (fun _ _ _ h => h) (by kernel_rfl) (by assumption) (fun w hSw => ?_) ?_
    rotate_left
    · (try dsimp only at hSw); go_simp <;> (try with_reducible rfl)
    try simp only [Act.put, List.setIfInBounds_toArray, List.set_cons_zero, List.set_cons_succ]
    refine takeH_load 5 rfl (by kernel_rfl) (by kernel_rfl) (by kernel_rfl) (fun _ _ _ _ h => h) (by kernel_rfl) (by assumption) 33 (.tmp 22) rfl w.heap.size 38 rfl (bcs r.root) _ (fun w' hw => Rec.range_root (r := r) HK.out (by rw [HCR.out]; exact hw.blk)) Try.underlying33 rfl HRR.out ?_
    try simp only [Act.put, List.setIfInBounds_toArray, List.set_cons_zero, List.set_cons_succ]
    refine takeH 6 ?_ rfl (by kernel_rfl) (by kernel_rfl) (by kernel_rfl) (fun _ _ _ h => h) (by kernel_rfl) (by assumption) (fun w hSw => ?_) ?_
    rotate_left
    · (try dsimp only at hSw); go_simp <;> (try with_reducible rfl)
    try simp only [Act.put, List.setIfInBounds_toArray, List.set_cons_zero, List.set_cons_succ]
    have e0 := (hs0.pull 1 rfl).cells 2
    rw [Rec.get2] at e0
    have ef := (hs0.pull 1 rfl).free 2
    refine effH 7 rfl (by kernel_rfl) (by kernel_rfl) (fun K hK => ?_)
    go_simp
    have hs1 : Holds (w3.setCell ⟨w.heap.size + 1 + 1, 2, none⟩ (.int .u64 r.base)).drew _ := (hs0.pull 1 rfl).set_ 2 (.int .u64 r.base)
    rw [Rec.set_base, hr1.out] at hs1
    refine hK.out _ _ (hs1.tail) (fun hHeld => ?_)
    clear hK K e0 ef
    generalize (w3.setCell ⟨w.heap.size + 1 + 1, 2, none⟩ (.int .u64 r.base)).drew = w5 at hs1 hHeld ⊢
    refine takeH 8 ?_ rfl (by kernel_rfl) (by kernel_rfl) (by kernel_rfl) (fun _ _ _ h => h) (by kernel_rfl) (by assumption) (fun w hSw => ?_) ?_
    rotate_left
    · (try dsimp only at hSw); go_simp <;> (try with_reducible rfl)
    try simp only [Act.put, List.setIfInBounds_toArray, List.set_cons_zero, List.set_cons_succ]
    refine effH 9 rfl (by kernel_rfl) (by kernel_rfl) (fun K hK => ?_)
    refine wp_store_blk 35 (.tmp 25) (.tmp 21) rfl (w.heap.size + 1 + 1) 3 r.ed.cells.toArray rfl rfl 37 _ hs1.blk (Ed.size HK.out.ed) hf2 (Ed.one _) ?_
    intro w6 hb6 hk6
    rw [show r.ed.cells.toArray.toList = r.ed.cells from rfl, Rec.put_ed HI2.out HK.out.ed, hr2.out] at hb6
    have hs6 := hs1.reblk hb6 hk6
    refine hK.out _ _ (hs6.tail) (fun hHeld => ?_)
    clear hK K hb6 hk6
    refine takeH 10 ?_ rfl (by kernel_rfl) (by kernel_rfl) (by kernel_rfl) (fun _ _ _ h => h) (by kernel_rfl) (by assumption) (fun w hSw => ?_) ?_
    rotate_left
    · (try dsimp only at hSw); go_simp <;> (try with_reducible rfl)
    try simp only [Act.put, List.setIfInBounds_toArray, List.set_cons_zero, List.set_cons_succ]
    refine effH 11 rfl (by kernel_rfl) (by kernel_rfl) (fun K hK => ?_)
    refine wp_store_blk 33 (.tmp 26) (.tmp 23) rfl (w.heap.size + 1 + 1) 38 (bcs r.root).toArray rfl rfl 37 _ hs6.blk HRS.out hf3 bcs_one ?_
    intro w7 hb7 hk7
    rw [show (bcs r.root).toArray.toList = bcs r.root from rfl, Rec.put_root HI3.out HK.out.root, hbe.out] at hb7
    have hs7 := hs6.reblk hb7 hk7
    refine hK.out _ _ (hs7.tail) (fun hHeld => ?_)
    clear hK K hHeld hb7 hk7
    refine wpAnyH_done (by kernel_rfl) ?_ _
    have HHX : Hid (Holds w7 (blk (w.heap.size + 1 + 1) 37 bo.cells.toArray :: blk (w.heap.size + 1) 37 Try.zeroCells37 :: blk w.heap.size 37 CR :: R)) := hs7.pull 2 rfl |>.pull 1 rfl
    clear hs0 hs1 hs6 hs7
    go_wp2_with (first
    | (refine wpList_load_mid rfl 37 (.tmp 3) rfl (w.heap.size + 1 + 1) 0 rfl bo.cells _ HHX.out.blk.range Try.underlying37 rfl (Rec.sizeL hbo.out) ?_; simp only [Act.put, List.setIfInBounds_toArray, List.set_cons_zero, List.set_cons_succ])
    | (refine wpList_store_blk rfl 37 (.tmp 2) (.tmp 45) rfl (w.heap.size + 1) 0 bo.cells.toArray (by exact rfl) (by exact rfl) 37 Try.zeroCells37 (HHX.out.pull 1 rfl).blk (Rec.size hbo.out) (by rw [HZ.out]; simp [Rec.length_cells hbo.out]) (Rec.one _) ?_
       intro w9 hb9 hk9
       rw [putA_all _ _ (by rw [HZ.out]; simp [Rec.length_cells hbo.out])] at hb9
       have hh9 := (HHX.out.pull 1 rfl).reblk hb9 hk9
       have HB9 := Lib.hid hh9.blk_heap
       have HH9 := Lib.hid hh9.tail.tail.tail
       clear hb9 hk9 hh9))
    refine bodyPost_ret (results_cell_row rfl _ _ (w.heap.size + 1) 37 bo.cells.toArray (0, 0) _ rfl HB9.out Try.underlying37 rfl (Rec.size hbo.out)) rfl ?_
    exact ⟨rfl, HH9.out⟩
  by_cases h3 : r.kind = 3
  · rw [h3] at c0
    have hbe : Hid ({ recI 3 r.id with code := r.code } = bo) := by unfold Hid; rw [← hbare.out, bareR, if_neg h1, if_neg h2, if_pos h3, h3]; rfl
    have HKK := Lib.hid h3; clear h1 h2 h3
    have HI := Lib.hid (recI_ok 3 r.id)
    have HB := Lib.hid (recI_build 3 r.id)
    have HF1 : Hid (0 + (recI 3 r.id).cells.toArray.size ≤ Try.zeroCells37.size) := by
      unfold Hid; rw [Try.zeroRecord]; simp [Rec.length_cells (recI_ok 3 r.id), Rec.length_cells Rec.zero_ok]
    go_enter Try.func79, Try.ntmps79
    go_wp2_with (first
    | (refine wpList_store_blk rfl 37 (.tmp 3) (.tmp 8) rfl (w.heap.size + 1 + 1) 0 (recI 3 r.id).cells.toArray rfl (congrArg Value.agg HB.out) 37 Try.zeroCells37 HH3.out.blk (Rec.size HI.out) HF1.out (Rec.one _) ?_
       intro w3 hb3 hk3
       rw [putA_all _ _ (by rw [HZ.out]; simp [Rec.length_cells HI.out])] at hb3
       have hh4 := HH3.out.reblk hb3 hk3
       have d0 := (hh4.pull 2 rfl).cells 0
       rw [← HCR.out, Rec.get0, HKK.out] at d0
       have d70 := (hh4.pull 2 rfl).cells 70
       rw [← HCR.out, Rec.get70 HK.out] at d70
       have e70 := hh4.cells 70
       rw [Rec.get70 HI.out] at e70
       have ef := hh4.free 70
       have hx := hh4.set_ 70 (.int .i64 r.code)
       rw [Rec.set_code HI.out, hbe.out] at hx
       have HHX := Lib.hid hx
       clear hx
       have HH4 := Lib.hid hh4
       clear hb3 hk3 hh4 c0 c1)
    | (refine wpList_load_mid rfl 37 (.tmp 3) rfl (w.heap.size + 1 + 1) 0 rfl bo.cells _ HHX.out.blk.range Try.underlying37 rfl (Rec.sizeL hbo.out) ?_; simp only [Act.put, List.setIfInBounds_toArray, List.set_cons_zero, List.set_cons_succ])
    | (refine wpList_store_blk rfl 37 (.tmp 2) (.tmp 45) rfl (w.heap.size + 1) 0 bo.cells.toArray (by exact rfl) (by exact rfl) 37 Try.zeroCells37 (HHX.out.pull 1 rfl).blk (Rec.size hbo.out) (by rw [HZ.out]; simp [Rec.length_cells hbo.out]) (Rec.one _) ?_
       intro w9 hb9 hk9
       rw [putA_all _ _ (by rw [HZ.out]; simp [Rec.length_cells hbo.out])] at hb9
       have hh9 := (HHX.out.pull 1 rfl).reblk hb9 hk9
       have HB9 := Lib.hid hh9.blk_heap
       have HH9 := Lib.hid hh9.tail.tail.tail
       clear hb9 hk9 hh9))
    refine bodyPost_ret (results_cell_row rfl _ _ (w.heap.size + 1) 37 bo.cells.toArray (0, 0) _ rfl HB9.out Try.underlying37 rfl (Rec.size hbo.out)) rfl ?_
    exact ⟨rfl, HH9.out⟩
  by_cases h4 : r.kind = 4
  · rw [h4] at c0
    obtain ⟨r1, hr1⟩ : ∃ r1 : Rec, Hid ({ recI 4 r.id with commit := r.commit } = r1) := ⟨_, rfl⟩
    obtain ⟨r2, hr2⟩ : ∃ r2 : Rec, Hid ({ r1 with has := r.has } = r2) := ⟨_, rfl⟩
    have hbe : Hid ({ r2 with text := if r.has = true then r.text else [] } = bo) := by unfold Hid; rw [← hbare.out, ← hr2.out, ← hr1.out, bareR, if_neg h1, if_neg h2, if_neg h3, if_pos h4, h4]; rfl
    have hr2t : Hid (r2.text = []) := by rw [← hr2.out, ← hr1.out]; rfl
    have HKK := Lib.hid h4; clear h1 h2 h3 h4
    have HI := Lib.hid (recI_ok 4 r.id)
    have HB := Lib.hid (recI_build 4 r.id)
    have HF1 : Hid (0 + (recI 4 r.id).cells.toArray.size ≤ Try.zeroCells37.size) := by
      unfold Hid; rw [Try.zeroRecord]; simp [Rec.length_cells (recI_ok 4 r.id), Rec.length_cells Rec.zero_ok]
    have HI2 : Hid (Rec.Ok r1) := by rw [← hr1.out]; exact ⟨HI.out.ed, HI.out.root⟩
    have HI3 : Hid (Rec.Ok r2) := by rw [← hr2.out]; exact ⟨HI2.out.ed, HI2.out.root⟩
    have HR2 : Hid (r2.text = [] ∧ r2.has = r.has) := by rw [← hr2.out, ← hr1.out]; exact ⟨rfl, rfl⟩
    go_enter Try.func79, Try.ntmps79
    go_wp2_with (first
    | (refine wpList_store_blk rfl 37 (.tmp 3) (.tmp 8) rfl (w.heap.size + 1 + 1) 0 (recI 4 r.id).cells.toArray rfl (congrArg Value.agg HB.out) 37 Try.zeroCells37 HH3.out.blk (Rec.size HI.out) HF1.out (Rec.one _) ?_
       intro w3 hb3 hk3
       rw [putA_all _ _ (by rw [HZ.out]; simp [Rec.length_cells HI.out])] at hb3
       have hh4 := HH3.out.reblk hb3 hk3
       have d0 := (hh4.pull 2 rfl).cells 0
       rw [← HCR.out, Rec.get0, HKK.out] at d0
       have HH4 := Lib.hid hh4
       clear hb3 hk3 hh4 c0 c1))
    have hs0 := (HH4.out.pull 2 rfl).drew
    have HS2 := Lib.hid (fun w' (hw : Holds w' (blk w.heap.size 37 CR :: blk (w.heap.size + 1) 37 Try.zeroCells37 :: R)) => show w'.cell? ⟨w.heap.size, 71, none⟩ = some (.bool r.commit) ∧ w'.cell? ⟨w.heap.size, 72, none⟩ = some (.bool r.has) from ⟨(hw.cells 71).trans (by rw [← HCR.out]; exact Rec.get71 HK.out), (hw.cells 72).trans (by rw [← HCR.out]; exact Rec.get72 HK.out)⟩)
    clear d0
    refine wp_region_held_drew (S := (fun w' => Holds w' (blk w.heap.size 37 CR :: blk (w.heap.size + 1) 37 Try.zeroCells37 :: R))) (by kernel_rfl) ?_ (fun hHeld => ?_)
    · exact (hs0.drop 1 rfl)
    refine takeH 0 ?_ rfl (by kernel_rfl) (by kernel_rfl) (by kernel_rfl) (fun _ _ _ h => h) (by kernel_rfl) (by assumption) (fun w hSw => ?_) ?_
    rotate_left
    · (try dsimp only at hSw); go_simp <;> (try with_reducible rfl)
    try simp only [Act.put, List.setIfInBounds_toArray, List.set_cons_zero, List.set_cons_succ]
    refine takeH 1 ?_ rfl (by kernel_rfl) (by kernel_rfl) (by kernel_rfl) (fun _ _ _ h => h) (by kernel_rfl) (by assumption) (fun w hSw => ?_) ?_
    rotate_left
    · obtain ⟨ca, cb⟩ := HS2.out _ hSw
      clear hSw; go_simp <;> (try with_reducible rfl)
    try simp only [Act.put, List.setIfInBounds_toArray, List.set_cons_zero, List.set_cons_succ]
    refine takeH 2 ?_ rfl (by kernel_rfl) (by kernel_rfl) (by kernel_rfl) (fun _ _ _ h => h) (by kernel_rfl) (by assumption) (fun w hSw => ?_) ?_
    rotate_left
    · (try dsimp only at hSw); go_simp <;> (try with_reducible rfl)
    try simp only [Act.put, List.setIfInBounds_toArray, List.set_cons_zero, List.set_cons_succ]
    refine takeH 3 ?_ rfl (by kernel_rfl) (by kernel_rfl) (by kernel_rfl) (fun _ _ _ h => h) (by kernel_rfl) (by assumption) (fun w hSw => ?_) ?_
    rotate_left
    · obtain ⟨ca, cb⟩ := HS2.out _ hSw
      clear hSw; go_simp <;> (try with_reducible rfl)
    try simp only [Act.put, List.setIfInBounds_toArray, List.set_cons_zero, List.set_cons_succ]
    refine takeH 4 ?_ rfl (by kernel_rfl) (by kernel_rfl) (by kernel_rfl) (fun _ _ _ h => h) (by kernel_rfl) (by assumption) (fun w hSw => ?_) ?_
    rotate_left
    · (try dsimp only at hSw); go_simp <;> (try with_reducible rfl)
    try simp only [Act.put, List.setIfInBounds_toArray, List.set_cons_zero, List.set_cons_succ]
    have e0 := (hs0.pull 1 rfl).cells 71
    rw [Rec.get71 HI.out] at e0
    have ef := (hs0.pull 1 rfl).free 71
    refine effH 5 rfl (by kernel_rfl) (by kernel_rfl) (fun K hK => ?_)
    go_simp
    have hs1 : Holds (w3.setCell ⟨w.heap.size + 1 + 1, 71, none⟩ (.bool r.commit)).drew _ := (hs0.pull 1 rfl).set_ 71 (.bool r.commit)
    rw [Rec.set_commit HI.out, hr1.out] at hs1
    refine hK.out _ _ (hs1.tail) (fun hHeld => ?_)
    clear hK K e0 ef
    generalize (w3.setCell ⟨w.heap.size + 1 + 1, 71, none⟩ (.bool r.commit)).drew = w5 at hs1 hHeld ⊢
    have e0 := hs1.cells 72
    rw [Rec.get72 HI2.out] at e0
    have ef := hs1.free 72
    refine takeH 6 ?_ rfl (by kernel_rfl) (by kernel_rfl) (by kernel_rfl) (fun _ _ _ h => h) (by kernel_rfl) (by assumption) (fun w hSw => ?_) ?_
    rotate_left
    · (try dsimp only at hSw); go_simp <;> (try with_reducible rfl)
    try simp only [Act.put, List.setIfInBounds_toArray, List.set_cons_zero, List.set_cons_succ]
    refine effH 7 rfl (by kernel_rfl) (by kernel_rfl) (fun K hK => ?_)
    go_simp
    have hs2 := hs1.set_ 72 (.bool r.has)
    rw [Rec.set_has HI2.out, hr2.out] at hs2
    refine hK.out _ _ (hs2.tail) (fun hHeld => ?_)
    clear hK K hHeld e0 ef
    generalize World.setCell _ _ _ = w6 at hs2 ⊢
    refine wpAnyH_done (by kernel_rfl) ?_ _
    have hs3 : Holds w6 (blk (w.heap.size + 1 + 1) 37 r2.cells.toArray :: blk (w.heap.size + 1) 37 Try.zeroCells37 :: blk w.heap.size 37 CR :: R) := hs2.pull 2 rfl |>.pull 1 rfl
    have d72 := (hs3.pull 2 rfl).cells 72
    rw [← HCR.out, Rec.get72 HK.out] at d72
    have d73 := (hs3.pull 2 rfl).cells 73
    rw [← HCR.out, Rec.get73 HK.out] at d73
    have e73 := hs3.cells 73
    rw [Rec.get73 HI3.out] at e73
    have ef := hs3.free 73
    have HS3 := Lib.hid hs3
    clear hs0 hs1 hs2 hs3
    cases hhas : r.has
    · rw [hhas] at d72 hbe
      have HHX : Hid (Holds w6 (blk (w.heap.size + 1 + 1) 37 bo.cells.toArray :: blk (w.heap.size + 1) 37 Try.zeroCells37 :: blk w.heap.size 37 CR :: R)) := by
        have : r2 = bo := by rw [← hbe.out, if_neg (by decide)]; have := hr2t.out; cases r2; simp_all
        rw [← this]; exact HS3.out
      clear hhas
      go_wp2_with (first
      | (refine wpList_load_mid rfl 37 (.tmp 3) rfl (w.heap.size + 1 + 1) 0 rfl bo.cells _ HHX.out.blk.range Try.underlying37 rfl (Rec.sizeL hbo.out) ?_; simp only [Act.put, List.setIfInBounds_toArray, List.set_cons_zero, List.set_cons_succ])
      | (refine wpList_store_blk rfl 37 (.tmp 2) (.tmp 45) rfl (w.heap.size + 1) 0 bo.cells.toArray (by exact rfl) (by exact rfl) 37 Try.zeroCells37 (HHX.out.pull 1 rfl).blk (Rec.size hbo.out) (by rw [HZ.out]; simp [Rec.length_cells hbo.out]) (Rec.one _) ?_
         intro w9 hb9 hk9
         rw [putA_all _ _ (by rw [HZ.out]; simp [Rec.length_cells hbo.out])] at hb9
         have hh9 := (HHX.out.pull 1 rfl).reblk hb9 hk9
         have HB9 := Lib.hid hh9.blk_heap
         have HH9 := Lib.hid hh9.tail.tail.tail
         clear hb9 hk9 hh9))
      refine bodyPost_ret (results_cell_row rfl _ _ (w.heap.size + 1) 37 bo.cells.toArray (0, 0) _ rfl HB9.out Try.underlying37 rfl (Rec.size hbo.out)) rfl ?_
      exact ⟨rfl, HH9.out⟩
    · rw [hhas] at d72 hbe
      have HHX : Hid (Holds (w6.setCell ⟨w.heap.size + 1 + 1, 73, none⟩ (.string (strOf r.text))) (blk (w.heap.size + 1 + 1) 37 bo.cells.toArray :: blk (w.heap.size + 1) 37 Try.zeroCells37 :: blk w.heap.size 37 CR :: R)) := by
        have hx := HS3.out.set_ 73 (.string (strOf r.text))
        rw [Rec.set_text HI3.out] at hx
        rw [if_pos rfl] at hbe
        rw [hbe.out] at hx
        exact hx
      clear hhas
      go_wp2_with (first
      | (refine wpList_load_mid rfl 37 (.tmp 3) rfl (w.heap.size + 1 + 1) 0 rfl bo.cells _ HHX.out.blk.range Try.underlying37 rfl (Rec.sizeL hbo.out) ?_; simp only [Act.put, List.setIfInBounds_toArray, List.set_cons_zero, List.set_cons_succ])
      | (refine wpList_store_blk rfl 37 (.tmp 2) (.tmp 45) rfl (w.heap.size + 1) 0 bo.cells.toArray (by exact rfl) (by exact rfl) 37 Try.zeroCells37 (HHX.out.pull 1 rfl).blk (Rec.size hbo.out) (by rw [HZ.out]; simp [Rec.length_cells hbo.out]) (Rec.one _) ?_
         intro w9 hb9 hk9
         rw [putA_all _ _ (by rw [HZ.out]; simp [Rec.length_cells hbo.out])] at hb9
         have hh9 := (HHX.out.pull 1 rfl).reblk hb9 hk9
         have HB9 := Lib.hid hh9.blk_heap
         have HH9 := Lib.hid hh9.tail.tail.tail
         clear hb9 hk9 hh9))
      refine bodyPost_ret (results_cell_row rfl _ _ (w.heap.size + 1) 37 bo.cells.toArray (0, 0) _ rfl HB9.out Try.underlying37 rfl (Rec.size hbo.out)) rfl ?_
      exact ⟨rfl, HH9.out⟩
  have hbe : Hid (recI r.kind r.id = bo) := by unfold Hid; rw [← hbare.out, bareR, if_neg h1, if_neg h2, if_neg h3, if_neg h4]; rfl
  have b1 : (r.kind == 1) = false := beq_eq_false_iff_ne.2 h1
  have b2 : (r.kind == 2) = false := beq_eq_false_iff_ne.2 h2
  have b3 : (r.kind == 3) = false := beq_eq_false_iff_ne.2 h3
  have b4 : (r.kind == 4) = false := beq_eq_false_iff_ne.2 h4
  have HKK : Hid (r.kind = r.kind) := rfl
  clear h1 h2 h3 h4
  have HI := Lib.hid (recI_ok r.kind r.id)
  have HB := Lib.hid (recI_build r.kind r.id)
  have HF1 : Hid (0 + (recI r.kind r.id).cells.toArray.size ≤ Try.zeroCells37.size) := by
    unfold Hid; rw [Try.zeroRecord]; simp [Rec.length_cells (recI_ok r.kind r.id), Rec.length_cells Rec.zero_ok]
  go_enter Try.func79, Try.ntmps79
  go_wp2_with (first
    | (refine wpList_store_blk rfl 37 (.tmp 3) (.tmp 8) rfl (w.heap.size + 1 + 1) 0 (recI r.kind r.id).cells.toArray rfl (congrArg Value.agg HB.out) 37 Try.zeroCells37 HH3.out.blk (Rec.size HI.out) HF1.out (Rec.one _) ?_
       intro w3 hb3 hk3
       rw [putA_all _ _ (by rw [HZ.out]; simp [Rec.length_cells HI.out])] at hb3
       have hh4 := HH3.out.reblk hb3 hk3
       have d0 := (hh4.pull 2 rfl).cells 0
       rw [← HCR.out, Rec.get0] at d0
       have HHX : Hid (Holds w3 (blk (w.heap.size + 1 + 1) 37 bo.cells.toArray :: blk (w.heap.size + 1) 37 Try.zeroCells37 :: blk w.heap.size 37 CR :: R)) := by rw [← hbe.out]; exact hh4
       have HH4 := Lib.hid hh4
       clear hb3 hk3 hh4 c0 c1)
    | (refine wpList_load_mid rfl 37 (.tmp 3) rfl (w.heap.size + 1 + 1) 0 rfl bo.cells _ HHX.out.blk.range Try.underlying37 rfl (Rec.sizeL hbo.out) ?_; simp only [Act.put, List.setIfInBounds_toArray, List.set_cons_zero, List.set_cons_succ])
    | (refine wpList_store_blk rfl 37 (.tmp 2) (.tmp 45) rfl (w.heap.size + 1) 0 bo.cells.toArray (by exact rfl) (by exact rfl) 37 Try.zeroCells37 (HHX.out.pull 1 rfl).blk (Rec.size hbo.out) (by rw [HZ.out]; simp [Rec.length_cells hbo.out]) (Rec.one _) ?_
       intro w9 hb9 hk9
       rw [putA_all _ _ (by rw [HZ.out]; simp [Rec.length_cells hbo.out])] at hb9
       have hh9 := (HHX.out.pull 1 rfl).reblk hb9 hk9
       have HB9 := Lib.hid hh9.blk_heap
       have HH9 := Lib.hid hh9.tail.tail.tail
       clear hb9 hk9 hh9))
  refine bodyPost_ret (results_cell_row rfl _ _ (w.heap.size + 1) 37 bo.cells.toArray (0, 0) _ rfl HB9.out Try.underlying37 rfl (Rec.size hbo.out)) rfl ?_
  exact ⟨rfl, HH9.out⟩
end Go.Proofs.Ytaieonajialenaa
