/- Rows of elements of any type, and append's law on them. -/
import Derived.Test.YtmaiokjcgijdcaaDoorPhase
namespace Go.Proofs.YtmaiokjcgijdcaaDoor
open Go.RowKit HP

/-- the slice at A reads the cells cs -/
def RowRd (w : World) (A : Option Addr) (cs : List Value) : Prop := cs ≠ [] → ∃ g o, A = some ⟨g, o, none⟩ ∧ ∀ (j : Nat) (u : Value), cs[j]? = some u → w.cell? ⟨g, o + j, none⟩ = some u
section
variable {w w' : World} {A : Option Addr} {cs : List Value} {R : List HP} {E : TypeId} {sz n : Nat} {v : Value}
theorem RowRd.nil (w : World) (A : Option Addr) : RowRd w A [] := fun h => absurd rfl h
theorem RowRd.kept (h : RowRd w A cs) (hk : Kept w w' No) : RowRd w' A cs := fun hc => by
  obtain ⟨g, o, hA, hx⟩ := h hc
  exact ⟨g, o, hA, fun j u hu => by rw [hk.cell (block_lt_of_cell (hx j u hu)) (fun h => h)]; exact hx j u hu⟩
theorem Holds.row_form (h : Holds w (row E sz v n cs :: R)) : ∃ A c, v = .slice A n c ∧ n ≤ c ∧ cs.length = n * sz ∧ RowRd w A cs := by
  obtain ⟨S, hS, _⟩ := h.head
  rcases hS with ⟨hl, ⟨rfl, rfl⟩ | ⟨g, cap, cur, rfl, _, hgg, hnc, _, _, htk⟩⟩
  · exact ⟨none, 0, rfl, Nat.le_refl _, hl, fun hc => absurd (List.eq_nil_of_length_eq_zero (by rw [hl]; omega)) hc⟩
  · refine ⟨some ⟨g, 0, none⟩, cap, rfl, hnc, hl, fun _ => ⟨g, 0, rfl, fun j u hu => ?_⟩⟩
    rw [cell_of_row w g _ cur E (0, 0) hgg, Nat.zero_add]
    rw [← htk, List.getElem?_take] at hu
    split at hu
    · simpa using hu
    · cases hu
theorem Holds.row_rd {c : Nat} (h : Holds w (row E sz (.slice A n c) n cs :: R)) : RowRd w A cs := by
  obtain ⟨A', c', hv, _, _, hr⟩ := h.row_form
  simp only [Value.slice.injEq] at hv
  obtain ⟨rfl, _, rfl⟩ := hv
  exact hr
theorem Ent.row {c : Nat} : Ent (HP.row E sz (.slice A n c) n cs :: R) (fun w => RowRd w A cs) := fun _ hw => hw.row_rd
theorem Holds.blk_row {g : Nat} {t : TypeId} (h : Holds w (HP.blk g t cs.toArray :: R)) : RowRd w (some ⟨g, 0, none⟩) cs := fun _ => ⟨g, 0, rfl, fun j u hu => by rw [h.cells, Nat.zero_add, List.getElem?_toArray]; exact hu⟩
theorem Holds.app_row {w' : World} {v' : Value} {m : Nat} {news : List Value} (h : Holds w (row E sz v n cs :: R)) (ho : w'.ownsRow 0 E sz v' (n + m) (cs ++ news)) (hk : Kept w w' (fun k => some k = v.ownBlock)) (hp : Place w.heap.size v v') :
    Holds w' (row E sz v' (n + m) (cs ++ news) :: R) :=
  h.change fun S hS => ⟨fun k => v'.ownBlock = some k, ⟨ho, fun _ => Iff.rfl⟩, hk.mono (fun k _ e => (hS.2 k).2 e.symm), fun k hk => by
    rcases hp with e | ⟨g, hg, e⟩
    · exact .inl ((hS.2 k).2 (by rw [← e]; exact hk))
    · rw [e] at hk; cases hk; exact .inr hg⟩
end
section
variable {P : Program}
theorem run_app_row (w : World) (t ty E : TypeId) (z : Value) (sz bytes : Nat) (ht : P.underlying t = some (.slice E)) (hi : (P.info? E).map (fun i => (i.zero, i.size, i.bytes)) = some (some z, sz, bytes)) (hzs : z.cells.size = sz) (hsz : 0 < sz)
    (v : Value) (n : Nat) (cs : List Value) (hown : w.ownsRow 0 E sz v n cs) (A : Option Addr) (m c : Nat) (news : List Value) (hl : news.length = m * sz) (hr : RowRd w A news) (h1 : ∀ u ∈ news, u.oneCell' = true)
    (h63 : n + m ≤ maxLen) (hb : (n + m) * bytes ≤ 140737488355328) :
    ∃ v' w', (Builtin.append_ #[t, t] ty #[v, .slice A m c]).run P w = .ok v' w' ∧ w'.ownsRow 0 E sz v' (n + m) (cs ++ news) ∧ Kept w w' (fun k => some k = v.ownBlock) ∧ Place w.heap.size v v' := by
  obtain ⟨i, hi, hz, hs, hby⟩ := info_parts hi
  by_cases hn : news = []
  · subst hn
    obtain rfl : m = 0 := by
      rcases Nat.eq_zero_or_pos m with h | h
      · exact h
      · have := Nat.mul_pos h hsz; simp at hl; omega
    refine ⟨v, w, ?_, by simpa using hown, Kept.refl _ _, Place.refl _ _⟩
    rcases hown.2 with ⟨rfl, _⟩ | ⟨g, cap, cur, rfl, _, hg, h1, _⟩
    · rcases A with _ | ad <;> simp [Builtin.append_, run_underlying ht, sizeOf, typeInfo, hi, Builtin.lenOf, Builtin.firstCells, loadCells, loadCellsFrom]
    · rcases A with _ | ad <;> simp [Builtin.append_, run_underlying ht, sizeOf, typeInfo, hi, Builtin.lenOf, Builtin.firstCells, loadCells, loadCellsFrom, h1, storeCells]
  · obtain ⟨g, o, rfl, hc⟩ := hr hn
    obtain ⟨v', w', hrun, h2, h3, _, h5⟩ := run_append_own_at (P := P) w 0 t ty E i z sz bytes ht hi hz hs hby hzs hsz v n cs hown ⟨g, o, none⟩ m c news hl
      (fun j u hu => by rw [add_plain]; exact hc j u hu) h1 h63 hb (Nat.zero_le _)
    refine ⟨v', w', hrun, h2, ⟨h3.os, h3.tape, h3.output, h3.size, fun k hk hS => h3.block k hk hS⟩, ?_⟩
    rcases h5 with e | e
    · exact .inl e
    · exact .inr ⟨_, Nat.le_refl _, e⟩
theorem wp_app_row {o : Oper} {a : Act} {K : Act → World → Prop} {Q : Exit → Act → World → Prop} {w : World} {R : List HP} (s x : Operand) (t E : TypeId) (z : Value) (sz bytes : Nat)
    (ho : o.op = .call { callee := .builtin .append, args := #[s, x], argTypes := #[t, t] }) (ht : P.underlying t = some (.slice E)) (hi : (P.info? E).map (fun i => (i.zero, i.size, i.bytes)) = some (some z, sz, bytes)) (hzs : z.cells.size = sz) (hsz : 0 < sz)
    (v : Value) (n : Nat) (cs : List Value) (hh : Holds w (row E sz v n cs :: R)) (hs : a.eval s = v) (A : Option Addr) (m c : Nat) (news : List Value) (hl : news.length = m * sz) (hx : a.eval x = .slice A m c) (hr : RowRd w A news) (h1 : ∀ u ∈ news, u.oneCell' = true)
    (h63 : n + m ≤ maxLen) (hb : (n + m) * bytes ≤ 140737488355328)
    (h : ∀ v' w', Holds w' (row E sz v' (n + m) (cs ++ news) :: R) → K (a.put o.dst v') w') : o.wp P a w K Q := by
  obtain ⟨S, hS, _⟩ := hh.head
  obtain ⟨v', w', hrun, h2, h3, h4⟩ := run_app_row w t o.type E z sz bytes ht hi hzs hsz v n cs hS A m c news hl hr h1 h63 hb
  unfold Oper.wp execOp
  simp only [ho, resolve, invoke, builtin, Sem.run_bind, Sem.run_pure, Result.andThen_ok, List.map_toArray, List.map_cons, List.map_nil, hs, hx, hrun]
  exact h v' w' (hh.app_row h2 h3 h4)
theorem wpList_app_row {ops : Array Oper} {rest : List Oper} {o : Oper} {a : Act} {Q : Exit → Act → World → Prop} {w : World} {R : List HP} (hgd : o.guard = none) (s x : Operand) (t E : TypeId) (z : Value) (sz bytes : Nat)
    (ho : o.op = .call { callee := .builtin .append, args := #[s, x], argTypes := #[t, t] }) (ht : P.underlying t = some (.slice E)) (hi : (P.info? E).map (fun i => (i.zero, i.size, i.bytes)) = some (some z, sz, bytes)) (hzs : z.cells.size = sz) (hsz : 0 < sz)
    (v : Value) (n : Nat) (cs : List Value) (hh : Holds w (row E sz v n cs :: R)) (hs : a.eval s = v) (A : Option Addr) (m c : Nat) (news : List Value) (hl : news.length = m * sz) (hx : a.eval x = .slice A m c) (hr : RowRd w A news) (h1 : ∀ u ∈ news, u.oneCell' = true)
    (h63 : n + m ≤ maxLen) (hb : (n + m) * bytes ≤ 140737488355328)
    (h : ∀ v' w', Holds w' (row E sz v' (n + m) (cs ++ news) :: R) → wpList P ops Q rest (a.put o.dst v') w') : wpList P ops Q (o :: rest) a w :=
  wpList_plain hgd fun _ hK => wp_app_row s x t E z sz bytes ho ht hi hzs hsz v n cs hh hs A m c news hl hx hr h1 h63 hb fun v' w' h2 => hK _ _ (h v' w' h2)
end
/-- a piece that is dropped, of two -/
theorem Holds.map_head {w : World} {P Q : HP} {R : List HP} (h : Holds w (P :: R)) (hc : ∀ S, P.at_ S w → ∃ S', Q.at_ S' w ∧ ∀ k, S' k → S k) : Holds w (Q :: R) := h.turn hc
theorem Holds.all_mem {w : World} {l R : List HP} {P : HP} (h : Holds w (HP.all l :: R)) (hP : P ∈ l) : ∃ S, P.at_ S w := by
  obtain ⟨S, hS⟩ := h.head
  clear h
  induction l generalizing S with
  | nil => cases hP
  | cons Q l ih =>
    obtain ⟨S1, S2, h1, h2, _, _⟩ := hS
    rcases List.mem_cons.1 hP with rfl | hP
    · exact ⟨S1, h1⟩
    · exact ih hP S2 h2
theorem Holds.all_snoc {w : World} {l R : List HP} {P : HP} (h : Holds w (HP.all l :: P :: R)) : Holds w (HP.all (l ++ [P]) :: R) := by
  have h1 : Holds w (P :: HP.all l :: R) := h.perm (.swap _ _ _)
  have h2 : Holds w (HP.all (P :: l) :: R) := h1.join
  refine h2.turn fun S hS => ⟨S, HP.all_perm ?_ hS, fun _ h => h⟩
  exact (List.perm_append_comm (l₁ := l) (l₂ := [P])).symm
theorem Holds.all_append {w : World} {l l' R : List HP} (h : Holds w (HP.all l :: HP.all l' :: R)) : Holds w (HP.all (l ++ l') :: R) := by
  induction l' generalizing l with
  | nil => rw [List.append_nil]; exact h.drop 1 rfl
  | cons P l' ih =>
    have h1 : Holds w (HP.all (P :: l') :: HP.all l :: R) := h.perm (.swap _ _ _)
    have h2 : Holds w (P :: HP.all l' :: HP.all l :: R) := h1.sep_
    have h3 : Holds w (HP.all l :: P :: HP.all l' :: R) := h2.pull 2 rfl
    have h4 := ih (l := l ++ [P]) (h3.all_snoc)
    rwa [List.append_assoc] at h4
end Go.Proofs.YtmaiokjcgijdcaaDoor
