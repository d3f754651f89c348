/- Edits and records as they stand in cells. -/
import Derived.Test.YtibkngjacdggpaaDoorSlPack
import Derived.Test.YtibkngjacdggpaaDoorSl
namespace Go.Proofs.YtibkngjacdggpaaDoor
open Go.RowKit HP

structure Ed where
  s : List UInt8
  q : Bool
  x : Bool
  h : List UInt8
def Ed.cells (e : Ed) : List Value := .string (strOf e.s) :: .bool e.q :: .bool e.x :: bcs e.h
def Ed.zero : Ed := ⟨[], false, false, zeros 32⟩
def Ed.Ok (e : Ed) : Prop := e.h.length = 32
theorem Ed.length_cells {e : Ed} (h : e.Ok) : e.cells.length = 35 := by simp [Ed.cells, show e.h.length = 32 from h]
structure Rec where
  kind : Int
  id : Nat
  base : Nat
  ed : Ed
  root : List UInt8
  code : Int
  commit : Bool
  has : Bool
  text : List UInt8
def Rec.cells (r : Rec) : List Value := .int .i64 r.kind :: .int .u64 r.id :: .int .u64 r.base :: (r.ed.cells ++ (bcs r.root ++ [.int .i64 r.code, .bool r.commit, .bool r.has, .string (strOf r.text)]))
def Rec.zero : Rec := ⟨0, 0, 0, Ed.zero, zeros 32, 0, false, false, []⟩
structure Rec.Ok (r : Rec) : Prop where
  ed : r.ed.Ok
  root : r.root.length = 32
theorem Rec.length_cells {r : Rec} (h : r.Ok) : r.cells.length = 74 := by simp [Rec.cells, Ed.length_cells h.ed, h.root]
theorem Ed.zero_ok : Ed.zero.Ok := length_zeros 32
theorem Rec.zero_ok : Rec.zero.Ok := ⟨Ed.zero_ok, length_zeros 32⟩
section
variable {r : Rec} (h : r.Ok)
theorem Rec.get0 : r.cells.toArray[0]? = some (.int .i64 r.kind) := rfl
theorem Rec.get1 : r.cells.toArray[1]? = some (.int .u64 r.id) := rfl
theorem Rec.get2 : r.cells.toArray[2]? = some (.int .u64 r.base) := rfl
theorem Rec.get3 : r.cells.toArray[3]? = some (.string (strOf r.ed.s)) := rfl
theorem Rec.get4 : r.cells.toArray[4]? = some (.bool r.ed.q) := rfl
theorem Rec.get5 : r.cells.toArray[5]? = some (.bool r.ed.x) := rfl
include h
theorem Rec.get70 : r.cells.toArray[70]? = some (.int .i64 r.code) := by
  simp only [List.getElem?_toArray, Rec.cells, List.getElem?_cons_succ]
  rw [List.getElem?_append_right (by rw [Ed.length_cells h.ed]; omega), Ed.length_cells h.ed, List.getElem?_append_right (by simp [h.root]), length_bcs, h.root]
  rfl
theorem Rec.get71 : r.cells.toArray[71]? = some (.bool r.commit) := by
  simp only [List.getElem?_toArray, Rec.cells, List.getElem?_cons_succ]
  rw [List.getElem?_append_right (by rw [Ed.length_cells h.ed]; omega), Ed.length_cells h.ed, List.getElem?_append_right (by simp [h.root]), length_bcs, h.root]
  rfl
theorem Rec.get72 : r.cells.toArray[72]? = some (.bool r.has) := by
  simp only [List.getElem?_toArray, Rec.cells, List.getElem?_cons_succ]
  rw [List.getElem?_append_right (by rw [Ed.length_cells h.ed]; omega), Ed.length_cells h.ed, List.getElem?_append_right (by simp [h.root]), length_bcs, h.root]
  rfl
theorem Rec.get73 : r.cells.toArray[73]? = some (.string (strOf r.text)) := by
  simp only [List.getElem?_toArray, Rec.cells, List.getElem?_cons_succ]
  rw [List.getElem?_append_right (by rw [Ed.length_cells h.ed]; omega), Ed.length_cells h.ed, List.getElem?_append_right (by simp [h.root]), length_bcs, h.root]
  rfl
end
/-- a range in the midst of a block -/
theorem Blk.mid {w : World} {g : Nat} {t : TypeId} {cs : Array Value} (h : Blk w g t cs) (pre mid post : List Value) (he : cs.toList = pre ++ (mid ++ post)) : w.rangeAt g pre.length mid := fun j v hv => by
  have hj := List.getElem?_eq_some_iff.1 hv
  rw [h.cell, ← Array.getElem?_toList, he, List.getElem?_append_right (by omega), show pre.length + j - pre.length = j by omega, List.getElem?_append_left hj.1]
  exact hv
theorem putA_mid (pre mid mid' post : List Value) (hl : mid'.length = mid.length) : putA (pre ++ (mid ++ post)).toArray pre.length mid' = (pre ++ (mid' ++ post)).toArray := by
  simp only [putA, List.take_left, hl]
  rw [← List.drop_drop, List.drop_left, List.drop_left, List.append_assoc]
section
variable {w : World} {g : Nat} {T : TypeId} {r : Rec}
theorem Rec.range_ed (hb : Blk w g T r.cells.toArray) : w.rangeAt g 3 r.ed.cells := hb.mid [_, _, _] r.ed.cells _ rfl
theorem Rec.range_root (h : r.Ok) (hb : Blk w g T r.cells.toArray) : w.rangeAt g 38 (bcs r.root) := by
  have := hb.mid (.int .i64 r.kind :: .int .u64 r.id :: .int .u64 r.base :: r.ed.cells) (bcs r.root) _ rfl
  rwa [show (Value.int .i64 r.kind :: .int .u64 r.id :: .int .u64 r.base :: r.ed.cells).length = 38 by simp [Ed.length_cells h.ed]] at this
theorem Rec.put_ed (h : r.Ok) {e : Ed} (he : e.Ok) : putA r.cells.toArray 3 e.cells = { r with ed := e }.cells.toArray :=
  putA_mid [_, _, _] r.ed.cells e.cells _ (by rw [Ed.length_cells he, Ed.length_cells h.ed])
theorem Rec.put_root (h : r.Ok) {xs : List UInt8} (hx : xs.length = 32) : putA r.cells.toArray 38 (bcs xs) = { r with root := xs }.cells.toArray := by
  have := putA_mid (.int .i64 r.kind :: .int .u64 r.id :: .int .u64 r.base :: r.ed.cells) (bcs r.root) (bcs xs) [.int .i64 r.code, .bool r.commit, .bool r.has, .string (strOf r.text)] (by simp [hx, h.root])
  rwa [show (Value.int .i64 r.kind :: .int .u64 r.id :: .int .u64 r.base :: r.ed.cells).length = 38 by simp [Ed.length_cells h.ed]] at this
theorem Rec.set_base (v : Nat) : r.cells.toArray.setIfInBounds 2 (.int .u64 v) = { r with base := v }.cells.toArray := rfl
theorem set_mid (pre : List Value) (a b : Value) (post : List Value) : (pre ++ a :: post).toArray.setIfInBounds pre.length b = (pre ++ b :: post).toArray := by
  simp
theorem Rec.pre70 (h : r.Ok) : ((Value.int .i64 r.kind :: .int .u64 r.id :: .int .u64 r.base :: r.ed.cells) ++ bcs r.root).length = 70 := by simp [Ed.length_cells h.ed, h.root]
theorem Rec.cells_pre : r.cells = ((Value.int .i64 r.kind :: .int .u64 r.id :: .int .u64 r.base :: r.ed.cells) ++ bcs r.root) ++ [.int .i64 r.code, .bool r.commit, .bool r.has, .string (strOf r.text)] := by simp [Rec.cells]
theorem Rec.set_code (h : r.Ok) (v : Int) : r.cells.toArray.setIfInBounds 70 (.int .i64 v) = { r with code := v }.cells.toArray := by
  rw [Rec.cells_pre, Rec.cells_pre (r := { r with code := v })]
  have := set_mid ((Value.int .i64 r.kind :: .int .u64 r.id :: .int .u64 r.base :: r.ed.cells) ++ bcs r.root) (.int .i64 r.code) (.int .i64 v) [.bool r.commit, .bool r.has, .string (strOf r.text)]
  rwa [Rec.pre70 h] at this
theorem Rec.set_commit (h : r.Ok) (v : Bool) : r.cells.toArray.setIfInBounds 71 (.bool v) = { r with commit := v }.cells.toArray := by
  rw [Rec.cells_pre, Rec.cells_pre (r := { r with commit := v })]
  have := set_mid (((Value.int .i64 r.kind :: .int .u64 r.id :: .int .u64 r.base :: r.ed.cells) ++ bcs r.root) ++ [.int .i64 r.code]) (.bool r.commit) (.bool v) [.bool r.has, .string (strOf r.text)]
  rw [List.length_append, Rec.pre70 h] at this
  simpa using this
theorem Rec.set_has (h : r.Ok) (v : Bool) : r.cells.toArray.setIfInBounds 72 (.bool v) = { r with has := v }.cells.toArray := by
  rw [Rec.cells_pre, Rec.cells_pre (r := { r with has := v })]
  have := set_mid (((Value.int .i64 r.kind :: .int .u64 r.id :: .int .u64 r.base :: r.ed.cells) ++ bcs r.root) ++ [.int .i64 r.code, .bool r.commit]) (.bool r.has) (.bool v) [.string (strOf r.text)]
  rw [List.length_append, Rec.pre70 h] at this
  simpa using this
theorem Rec.set_text (h : r.Ok) (v : List UInt8) : r.cells.toArray.setIfInBounds 73 (.string (strOf v)) = { r with text := v }.cells.toArray := by
  rw [Rec.cells_pre, Rec.cells_pre (r := { r with text := v })]
  have := set_mid (((Value.int .i64 r.kind :: .int .u64 r.id :: .int .u64 r.base :: r.ed.cells) ++ bcs r.root) ++ [.int .i64 r.code, .bool r.commit, .bool r.has]) (.string (strOf r.text)) (.string (strOf v)) []
  rw [List.length_append, Rec.pre70 h] at this
  simpa using this
end
end Go.Proofs.YtibkngjacdggpaaDoor
