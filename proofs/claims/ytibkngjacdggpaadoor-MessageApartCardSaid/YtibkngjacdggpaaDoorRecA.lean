/- record.bare -/
import Derived.Test.YtibkngjacdggpaaDoorRec
namespace Go.Proofs.YtibkngjacdggpaaDoor
open Go.RowKit HP

theorem run_alloc_z {P : Program} {T : TypeId} {Z : Array Value} {n : Nat} (h : (P.info? T).map (fun i => (i.zero, i.size)) = some (some (.agg Z), n)) (w : World) : (Instr.alloc T true undef).run P w = .ok (.pointer (some ⟨w.heap.size, 0, none⟩)) (w.alloc (.cells Z T)) := by
  cases hi : P.info? T with
  | none => rw [hi] at h; cases h
  | some i =>
    rw [hi] at h
    simp only [Option.map_some, Option.some.injEq, Prod.mk.injEq] at h
    simp [Instr.alloc, zeroValue, typeInfo, hi, h.1, newVar, newRow, Value.cells]






theorem Tryd.sizeEdit : (Tryd.prog.info? 40).map (·.size) = some 35 := by kernel_rfl
theorem Rec.one (r : Rec) : ∀ v ∈ r.cells.toArray.toList, v.oneCell' = true := by
  intro v hv
  simp only [Rec.cells, Ed.cells, List.mem_cons, List.mem_append, List.not_mem_nil, or_false] at hv
  rcases hv with rfl | rfl | rfl | (rfl | rfl | rfl | hv) | hv | rfl | rfl | rfl | rfl <;> first | rfl | exact bcs_one _ hv
theorem Ed.one (r : Ed) : ∀ v ∈ r.cells.toArray.toList, v.oneCell' = true := by
  intro v hv
  simp only [Ed.cells, List.mem_cons] at hv
  rcases hv with rfl | rfl | rfl | hv <;> first | rfl | exact bcs_one _ hv
/-- a record with just what its kind has -/
def bareR (r : Rec) : Rec :=
  if r.kind = 1 then { Rec.zero with kind := r.kind, id := r.id, ed := r.ed }
  else if r.kind = 2 then { Rec.zero with kind := r.kind, id := r.id, base := r.base, ed := r.ed, root := r.root }
  else if r.kind = 3 then { Rec.zero with kind := r.kind, id := r.id, code := r.code }
  else if r.kind = 4 then { Rec.zero with kind := r.kind, id := r.id, commit := r.commit, has := r.has, text := if r.has = true then r.text else [] }
  else { Rec.zero with kind := r.kind, id := r.id }
theorem bareR_ok {r : Rec} (h : r.Ok) : (bareR r).Ok := by
  unfold bareR
  repeat' split
  all_goals first | exact ⟨h.ed, length_zeros 32⟩ | exact ⟨h.ed, h.root⟩ | exact ⟨Ed.zero_ok, length_zeros 32⟩
def recI (k : Int) (i : Nat) : Rec := { Rec.zero with kind := k, id := i }
theorem recI_ok (k : Int) (i : Nat) : (recI k i).Ok := ⟨Ed.zero_ok, length_zeros 32⟩








theorem Ed.size {r : Ed} (h : r.Ok) : (Tryd.prog.info? 40).map (·.size) = some r.cells.toArray.size := by rw [Tryd.sizeEdit]; simp [Ed.length_cells h]
theorem Ed.sizeL {r : Ed} (h : r.Ok) : (Tryd.prog.info? 40).map (·.size) = some r.cells.length := by rw [Tryd.sizeEdit]; simp [Ed.length_cells h]






















































































































































































































































































































end Go.Proofs.YtibkngjacdggpaaDoor
