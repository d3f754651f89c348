/- Whole blocks of segments read and written. -/
import Derived.Test.YtibkngjacdggpaaDoorUntil
namespace Go.Proofs.YtibkngjacdggpaaDoor
open Go.RowKit HP

theorem app_rules : (∀ (x : Oper) (l r : List Oper), List.append (x :: l) r = x :: List.append l r) ∧ (∀ (l : List Oper), List.append [] l = l) ∧ (∀ (x : Go.Edge) (l r : List Go.Edge), List.append (x :: l) r = x :: List.append l r) ∧ (∀ (l : List Go.Edge), List.append [] l = l) := ⟨fun _ _ _ => rfl, fun _ => rfl, fun _ _ _ => rfl, fun _ => rfl⟩
section
variable {P : Program} {ops : Array Oper} {rest : List Oper} {o : Oper} {a : Act} {w : World} {Q : Exit → Act → World → Prop} {L : List HP} {g : Nat} {T : TypeId} {S : List Sg}
theorem Holds.sblk_all (h : Holds w L) (i : Nat) (hi : L[i]? = some (sblk g T S)) : w.rangeAt g 0 (flat S) := by
  obtain ⟨_, h1⟩ := (h.pull i hi).cond_
  exact Blk.midS h1.blk [] (flat S) [] (by simp)
theorem runs_ldA (i : Nat) {ty : TypeId} {x : Operand} (ho : o.op = .load ty x) (hx : a.eval x = .pointer (some ⟨g, 0, none⟩)) (hi : L[i]? = some (sblk g T S)) {n : Nat} (hl : sglen S = n)
    {d : TypeDesc} (hu : P.underlying ty = some d) (hd : d.isRow = true) (hn : (P.info? ty).map (·.size) = some n) : RunsH P o a L (.agg (flat S).toArray) := fun w hw => by
  unfold execOp
  simp only [ho, hx, Instr.loadAt, Instr.sureAddr, Sem.run_bind, Sem.run_pure, Result.andThen_ok, run_loadVar_mid w g 0 ty (flat S) d (hw.sblk_all i hi) hu hd (by rw [flat_len (hw.sblk_ok i hi), hl]; exact hn)]
theorem wpList_stA (h : Holds w L) (hgd : o.guard = none) {ty : TypeId} {x y : Operand} (ho : o.op = .store ty x y) (hx : a.eval x = .pointer (some ⟨g, 0, none⟩)) (i : Nat) (hi : L[i]? = some (sblk g T S)) {M : List Sg} (hy : a.eval y = .agg (flat M).toArray)
    {n : Nat} (hM : SgOk M) (hS : sglen S = n) (hl : sglen M = n) (hsz : (P.info? ty).map (·.size) = some n)
    (hn : ∀ w', Holds w' (L.set i (sblk g T M)) → wpList P ops Q rest (a.put o.dst undef) w') : wpList P ops Q (o :: rest) a w := by
  obtain ⟨hok, hb⟩ := (h.pull i hi).cond_
  refine wpList_store_blk hgd ty x y ho g 0 (flat M).toArray hx hy T (flat S).toArray hb.blk (by rw [hsz]; simp [flat_len hM, hl]) (by simp [flat_len hM, flat_len hok, hl, hS]) (flat_ones hM) fun w' hb' hk' => hn w' ?_
  refine Holds.back (i := i) (Holds.mk_cond hM (hb.reblk ?_ hk')) hi
  have e : putA (flat S).toArray 0 (flat M) = (flat M).toArray := by
    simp [putA, flat_len hM, flat_len hok, hl, hS]
  rwa [e] at hb'
end
end Go.Proofs.YtibkngjacdggpaaDoor
