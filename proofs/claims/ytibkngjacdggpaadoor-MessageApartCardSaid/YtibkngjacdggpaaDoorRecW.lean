/- The reference's edit: of bytes. -/
import Derived.Test.YtibkngjacdggpaaDoorRecR4
namespace Go.Proofs.YtibkngjacdggpaaDoor
open Go.RowKit HP

theorem RD.addrW {w : World} {A : Option Addr} {xs : List UInt8} (h : RD w A xs) (hne : xs ≠ []) : ∃ g o, A = some ⟨g, o, none⟩ := by
  obtain ⟨g, h⟩ := h
  obtain ⟨o, rfl, hc⟩ := h hne
  exact ⟨g, o, rfl⟩
theorem RD.midW {w : World} {g o : Nat} {xs : List UInt8} (h : RD w (some ⟨g, o, none⟩) xs) (a k : Nat) : RD w (some ⟨g, o + a, none⟩) ((xs.drop a).take k) := by
  obtain ⟨g', h⟩ := h
  refine ⟨g, fun hx => ?_⟩
  have hne : xs ≠ [] := by intro e; subst e; simp at hx
  obtain ⟨o', ho, hc⟩ := h hne
  obtain ⟨rfl, rfl⟩ : g = g' ∧ o = o' := by simpa using ho
  refine ⟨o + a, rfl, fun j hj => ?_⟩
  simp only [List.length_take, List.length_drop] at hj
  rw [Nat.add_assoc, hc (a + j) (by omega)]
  simp [List.getD, show j < k by omega]
theorem RD.fromW {w : World} {g o : Nat} {xs : List UInt8} (h : RD w (some ⟨g, o, none⟩) xs) (k : Nat) : RD w (some ⟨g, o + k, none⟩) (xs.drop k) := by
  have := h.midW k xs.length
  rwa [List.take_of_length_le (by simp)] at this
theorem RD.cellW {w : World} {g o j : Nat} {xs : List UInt8} (h : RD w (some ⟨g, o, none⟩) xs) (hj : j < xs.length) : w.cell? ⟨g, o + j, none⟩ = some (.int .u8 ((xs.getD j 0).toNat : Int)) := by
  obtain ⟨g', h⟩ := h
  obtain ⟨o', ho, hc⟩ := h (by intro e; subst e; simp at hj)
  obtain ⟨rfl, rfl⟩ : g = g' ∧ o = o' := by simpa using ho
  exact hc j hj
theorem RD.rangeW {w : World} {g o : Nat} {xs : List UInt8} (h : RD w (some ⟨g, o, none⟩) xs) : w.rangeAt g o (bcs xs) := fun j v hv => by
  have hj : j < xs.length := by have := (List.getElem?_eq_some_iff.1 hv).1; simpa using this
  have := h.cellW hj
  rw [this]
  rw [bcs_get] at hv
  simp [List.getD, hj, bc] at hv ⊢
  exact hv
theorem runs_arrayAt {P : Program} {o : Oper} {a : Act} {L : List HP} {t : TypeId} {x : Operand} (ho : o.op = .sliceToArrayPointer t x) {A : Option Addr} {l c : Nat} (hx : a.eval x = .slice A l c) {n : Nat} {e : TypeId} (ht : P.underlying t = some (.array n e)) (h : n ≤ l) : RunsH P o a L (.pointer A) := fun w _ => by
  have hl : ¬ l < n := by omega
  unfold execOp
  simp only [ho, hx, Sem.run_bind]
  simp [Instr.arrayAt, run_underlying ht, hl, Result.andThen]
theorem wp_allocR {P : Program} {o : Oper} {a : Act} {w : World} {Q : Exit → Act → World → Prop} {L : List HP} {K : Act → World → Prop} (h : Holds w L) {ty : TypeId} (ho : o.op = .alloc ty) {z : Value} (hz : (P.info? ty).map (·.zero) = some (some z)) {M : List Sg} (hv : z.cells = (flat M).toArray) (hM : SgOk M)
    (hn : ∀ g w', Holds w' (sblk g ty M :: L) → K (a.put o.dst (.pointer (some ⟨g, 0, none⟩))) w') : o.wp P a w K Q := by
  unfold Oper.wp execOp
  simp only [ho, run_alloc hz, Sem.run_bind, Sem.run_pure, Result.andThen_ok]
  refine hn _ _ ?_
  rw [hv]
  exact h.sblk_new ty M hM
/-- one cell that came in -/
theorem runs_cellE {P : Program} {o : Oper} {a : Act} {L : List HP} {ty : TypeId} {x : Operand} (ho : o.op = .load ty x) {g off : Nat} (hx : a.eval x = .pointer (some ⟨g, off, none⟩)) {v : Value} (hE : ∀ w, Holds w L → w.cell? ⟨g, off, none⟩ = some v)
    (hd : (P.underlying ty).map TypeDesc.isRow = some false) : RunsH P o a L v := fun w hw => by
  unfold execOp
  simp only [ho, hx, Instr.loadAt, Instr.sureAddr, Sem.run_bind, Sem.run_pure, Result.andThen_ok, run_loadVar_one hd (hE w hw)]
/-- a row that came in -/
theorem runs_rowE {P : Program} {o : Oper} {a : Act} {L : List HP} {ty : TypeId} {x : Operand} (ho : o.op = .load ty x) {g off : Nat} (hx : a.eval x = .pointer (some ⟨g, off, none⟩)) {vs : List Value} (hE : ∀ w, Holds w L → w.rangeAt g off vs)
    {d : TypeDesc} (hu : P.underlying ty = some d) (hd : d.isRow = true) (hn : (P.info? ty).map (·.size) = some vs.length) : RunsH P o a L (.agg vs.toArray) := fun w hw => by
  unfold execOp
  simp only [ho, hx, Instr.loadAt, Instr.sureAddr, Sem.run_bind, Sem.run_pure, Result.andThen_ok, run_loadVar_mid w g off ty vs d (hE w hw) hu hd hn]
/-- what the reference's edit reads -/
def rEd (xs : List UInt8) (k : Nat) : Ed × Bool :=
  if xs.length < 36 + k then (Ed.zero, false) else (⟨(xs.drop 36).take (xs.length - k - 36), xs.getD 0 0 == 1, xs.getD 1 0 == 1, (xs.drop 2).take 32⟩, true)
theorem rEd_ok (xs : List UInt8) (k : Nat) : (rEd xs k).1.Ok := by
  unfold rEd
  split
  · exact Ed.zero_ok
  · unfold Ed.Ok; simp; omega







































































































































end Go.Proofs.YtibkngjacdggpaaDoor
