/- A region that draws its order and only reads (its callees may make new memory), walked once in the order of the text, in a class of worlds of one's own. -/
import Derived.Test.YtaieonajialenaaSl
import Derived.BigQuiet
namespace Go.Proofs.Ytaieonajialenaa
open Go.RowKit HP

section
variable {P : Program} {C : World → Prop} {ops : Array Oper} {o : Oper} {rest : List Oper} {a : Act}
theorem wp_region_quietC (C : World → Prop) {id : Nat} {Q : Exit → Act → World → Prop} {w : World} {l : List Oper} (hm : P.follows .mixedOrders = true) (hB : Region.lexB .any l.toArray = true) (hC : C { w with drawn := w.drawn + 1 })
    (h : wpQuiet P l.toArray C (fun a' => ∀ w', C w' → Q .normal a' w') l a) : (Code.region id l.toArray true).wp P Q a w :=
  wp_region_quiet (C := C) hm hB hC (by simpa using h)
theorem quietV {K : Act → Prop} (v : Value) (hv : ∀ w, C w → (execOp a.eval o).run P w = .ok (.value v) w) (h : K (a.put o.dst v)) : o.quiet P a C K := by
  refine ⟨v, fun w hw' => ?_, h⟩
  unfold Oper.quietAt
  rw [hv w hw']
  exact ⟨rfl, rfl⟩
theorem quietCall {K : Act → Prop} (v : Value) (f : FuncId) (args : Array Value) (he : ∀ w, C w → (execOp a.eval o).run P w = .ok (.enter f args) w) (hv : ∀ w, C w → Calls P f args w (fun e w' => e = .returned v ∧ C w'))
    (h : K (a.put o.dst v)) : o.quiet P a C K := by
  refine ⟨v, fun w hw' => ?_, h⟩
  unfold Oper.quietAt
  rw [he w hw']
  exact ⟨rfl, hv w hw'⟩
/-- a whole row is read -/
theorem quietLoad {K : Act → Prop}
    (ty : TypeId) (x : Operand) (ho : o.op = .load ty x) (b i : Nat) (hx : a.eval x = .pointer (some ⟨b, i, none⟩)) (cs : List Value) (d : TypeDesc) (hSr : ∀ w, C w → w.rangeAt b i cs)
    (hu : P.underlying ty = some d) (hd : d.isRow = true) (hin : (P.info? ty).map (·.size) = some cs.length)
    (h : K (a.put o.dst (.agg cs.toArray))) : o.quiet P a C K :=
  quietV (.agg cs.toArray) (fun w hw' => by
    unfold execOp
    simp only [ho, hx, Instr.loadAt, Instr.sureAddr, Sem.run_bind, Sem.run_pure, Result.andThen_ok, run_loadVar_mid w b i ty cs d (hSr w hw') hu hd hin]) h
end
end Go.Proofs.Ytaieonajialenaa
