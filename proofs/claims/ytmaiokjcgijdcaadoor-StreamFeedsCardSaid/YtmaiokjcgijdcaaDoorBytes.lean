/- Slices of bytes: what they read, what a call owns, append, conversion to a string. -/
import Derived.Test.YtmaiokjcgijdcaaDoorBase
import Derived.Maps.AppendAt
import Derived.Deep.AppendLies
import Derived.Deep.RegionLaw
import Derived.Deep.RegionHeld3
import Derived.Lib.AppendStr
import Derived.Laws.BytesArg
import Derived.Laws.BytesString
import Derived.OwnWalk
import Derived.IntWalk
import Derived.Laws.BitsLemmas
import Derived.Lib.EndianBits
namespace Go.Proofs.YtmaiokjcgijdcaaDoor
open Go.RowKit

theorem Tryd.infoByte : (Tryd.prog.info? 5).map (fun i => (i.zero, i.size, i.bytes)) = some (some (.int .u8 0), 1, 1) := by kernel_rfl

/-- A byte as a cell. -/
def bc (x : UInt8) : Value := .int .u8 x.toNat
def bcs (l : List UInt8) : List Value := l.map bc
@[simp] theorem length_bcs (l : List UInt8) : (bcs l).length = l.length := by simp [bcs]
theorem bcs_append (a b : List UInt8) : bcs (a ++ b) = bcs a ++ bcs b := by simp [bcs]
theorem bcs_get (l : List UInt8) (j : Nat) : (bcs l)[j]? = l[j]?.map bc := by simp [bcs]
theorem bcs_one {l : List UInt8} : ∀ u ∈ bcs l, u.oneCell' = true := by
  intro u hu
  simp only [bcs, List.mem_map] at hu
  obtain ⟨b, _, rfl⟩ := hu
  rfl
theorem bcs_inj {a b : List UInt8} (h : bcs a = bcs b) : a = b := by
  have hi : Function.Injective bc := by
    intro x y hxy
    simp only [bc, Value.int.injEq, true_and] at hxy
    exact UInt8.toNat_inj.1 (by omega)
  exact List.map_inj_right (fun x y h => hi h) |>.1 h
theorem strCells_bcs (s : ByteArray) : Lib.strCells s = bcs s.data.toList := rfl

/-- The slice at A reads the bytes xs; they lie in block g. -/
def RB (w : World) (g : Nat) (A : Option Addr) (xs : List UInt8) : Prop :=
  xs ≠ [] → ∃ o, A = some ⟨g, o, none⟩ ∧ ∀ j, j < xs.length → w.cell? ⟨g, o + j, none⟩ = some (bc (xs.getD j 0))
/-- The value v owns a row of just the bytes xs. -/
def OB (w : World) (v : Value) (xs : List UInt8) : Prop := w.ownsRow 0 5 1 v xs.length (bcs xs)
/-- v' lies where v lay, or in new memory. -/
def Place (n : Nat) (v v' : Value) : Prop := v'.ownBlock = v.ownBlock ∨ ∃ g, n ≤ g ∧ v'.ownBlock = some g

section
variable {w w' w1 : World} {g : Nat} {A : Option Addr} {xs ys : List UInt8} {v v' v1 : Value} {L : Nat → Prop}
theorem RB.nil (w : World) (g : Nat) (A : Option Addr) : RB w g A [] := fun h => absurd rfl h
theorem RB.kept (h : RB w g A xs) (hk : Kept w w' L) (hg : ¬ L g) : RB w' g A xs := fun hx => by
  obtain ⟨o, ho, hc⟩ := h hx
  have h0 := hc 0 (List.length_pos_iff.2 hx)
  refine ⟨o, ho, fun j hj => ?_⟩
  have hlt := block_lt_of_cell (hc j hj)
  rw [hk.cell hlt hg]
  exact hc j hj
theorem RB.lt (h : RB w g A xs) (hx : xs ≠ []) : g < w.heap.size := by
  obtain ⟨o, ho, hc⟩ := h hx
  exact block_lt_of_cell (hc 0 (List.length_pos_iff.2 hx))
theorem RB.drew (h : RB w g A xs) : RB w.drew g A xs := h
theorem RB.drewN (h : RB w g A xs) (n : Nat) : RB (w.drewN n) g A xs := h
theorem RB.alloc (h : RB w g A xs) (o : Obj) : RB (w.alloc o) g A xs := h.kept ((Kept.refl w No).alloc o) (fun h => h)
theorem RB.far (h : RB w g A xs) {p : Addr} (hp : g ≠ p.block) (u : Value) : RB (w.setCell p u) g A xs := h.kept ((Kept.refl w (· = p.block)).set_ (Or.inl rfl) u) hp
theorem add_plain (g o j : Nat) : (⟨g, o, none⟩ : Addr).add j = ⟨g, o + j, none⟩ := by unfold Addr.add; split <;> simp_all
/-- s[k:] -/
theorem RB.drop (h : RB w g A xs) {k c : Nat} (hk : k ≤ xs.length) (hc : xs.length ≤ c) : RB w g (if c = k then A else A.map (·.add k)) (xs.drop k) := fun hx => by
  have hlen : 0 < (xs.drop k).length := List.length_pos_iff.2 hx
  rw [List.length_drop] at hlen
  obtain ⟨o, ho, hcell⟩ := h (by intro e; rw [e] at hlen; simp at hlen)
  rw [if_neg (by omega), ho]
  refine ⟨o + k, by simp [add_plain], fun j hj => ?_⟩
  rw [List.length_drop] at hj
  have := hcell (k + j) (by omega)
  rw [Nat.add_assoc, this]
  congr 2
  simp [List.getD]
/-- s[:k] -/
theorem RB.take (h : RB w g A xs) (k : Nat) : RB w g A (xs.take k) := fun hx => by
  obtain ⟨o, ho, hcell⟩ := h (by intro e; rw [e] at hx; simp at hx)
  refine ⟨o, ho, fun j hj => ?_⟩
  rw [List.length_take] at hj
  rw [hcell j (by omega)]
  congr 2
  have : j < k := by omega
  simp [List.getD, this]
/-- a block that is just bytes -/
theorem RB.of_blk {t : TypeId} {cs : Array Value} (h : Blk w g t cs) (hcs : cs = (bcs xs).toArray) : RB w g (some ⟨g, 0, none⟩) xs := fun _ => by
  refine ⟨0, rfl, fun j hj => ?_⟩
  rw [h.cell, hcs]
  simp [bcs, List.getD, hj]
theorem RB.cell (h : RB w g A xs) {j : Nat} (hj : j < xs.length) : ∃ o, A = some ⟨g, o, none⟩ ∧ w.cell? ⟨g, o + j, none⟩ = some (bc (xs.getD j 0)) := by
  obtain ⟨o, ho, hc⟩ := h (by intro e; subst e; simp at hj)
  exact ⟨o, ho, hc j hj⟩
theorem RB.cells (h : RB w g A xs) {ad : Addr} (hA : A = some ad) : ∀ j u, (bcs xs)[j]? = some u → w.cell? (ad.add j) = some u := fun j u hu => by
  rw [bcs_get] at hu
  obtain ⟨x, hx, rfl⟩ := Option.map_eq_some_iff.1 hu
  obtain ⟨hj, rfl⟩ := List.getElem?_eq_some_iff.1 hx
  obtain ⟨o, ho, hc⟩ := h.cell hj
  rw [hA] at ho
  cases ho
  rw [add_plain, hc]
  simp [List.getD, hj]

theorem OB.nil (w : World) : OB w (.slice none 0 0) [] := World.ownsRow_nil w 0 5 1
theorem OB.form (h : OB w v xs) : ∃ A n c, v = .slice A n c ∧ Hid (n = xs.length) ∧ n ≤ c ∧ RB w (v.ownBlock.getD 0) A xs ∧ Hid (v.ownBlock = none → A = none ∧ xs = []) := by
  rcases h.2 with ⟨rfl, h0⟩ | ⟨g, cap, cur, rfl, _, hg, h1, h2, h3, h4⟩
  · have : xs = [] := List.eq_nil_of_length_eq_zero h0
    subst this
    exact ⟨none, 0, 0, rfl, rfl, Nat.le_refl _, RB.nil _ _ _, fun _ => ⟨rfl, rfl⟩⟩
  · refine ⟨some ⟨g, 0, none⟩, _, cap, rfl, rfl, h1, ?_, fun h => by simp [Value.ownBlock] at h⟩
    intro hx
    refine ⟨0, rfl, fun j hj => ?_⟩
    simp only [Value.ownBlock, Option.getD_some]
    rw [Nat.zero_add, cell_of_row w g j cur 5 (0, 0) hg]
    have := congrArg (·[j]?) h4
    simp only [Nat.mul_one, List.getElem?_take, hj, if_true, bcs_get] at this
    rw [← Array.getElem?_toList, this]
    simp [List.getD, hj]
theorem OB.grown {row : Option Nat} (h : OB w v xs) (hg : w.grownBy w' row) (hn : v.ownBlock = none ∨ v.ownBlock ≠ row) : OB w' v xs := World.ownsRow.kept h hg hn
theorem OB.alloc (h : OB w v xs) (o : Obj) : OB (w.alloc o) v xs := World.ownsRow.alloc h o
theorem OB.drew (h : OB w v xs) : OB w.drew v xs := h
theorem OB.drewN (h : OB w v xs) (n : Nat) : OB (w.drewN n) v xs := h
theorem OB.kept (h : OB w v xs) (hk : Kept w w' L) (hg : ∀ k, v.ownBlock = some k → ¬ L k) : OB w' v xs := by
  refine ⟨h.1, ?_⟩
  rcases h.2 with hn | ⟨g, cap, cur, rfl, hb, hgg, rest⟩
  · exact .inl hn
  · refine .inr ⟨g, cap, cur, rfl, hb, ?_, rest⟩
    rw [hk.block g (lt_of_heap hgg) (hg g (by simp [Value.ownBlock]))]
    exact hgg
theorem OB.far (h : OB w v xs) {p : Addr} (hp : ∀ k, v.ownBlock = some k → k ≠ p.block) (u : Value) : OB (w.setCell p u) v xs := h.kept ((Kept.refl w (· = p.block)).set_ (Or.inl rfl) u) hp
theorem OB.blk_ne {t : TypeId} {cs : Array Value} (h : OB w v xs) (hb : Blk w g t cs) (ht : t ≠ 5) : ∀ k, v.ownBlock = some k → k ≠ g := by
  rcases h.2 with ⟨rfl, _⟩ | ⟨g', cap, cur, rfl, _, hgg, _⟩
  · simp [Value.ownBlock]
  · intro k hk hkg
    have : g' = g := by simp [Value.ownBlock] at hk; omega
    subst this
    exact Blk.ne_ (t := 5) hgg hb (fun e => ht e.symm) rfl
theorem OB.lt (h : OB w v xs) : ∀ k, v.ownBlock = some k → k < w.heap.size := by
  rcases h.2 with ⟨rfl, _⟩ | ⟨g', cap, cur, rfl, _, hgg, _⟩
  · simp [Value.ownBlock]
  · intro k hk
    simp [Value.ownBlock] at hk
    subst hk
    exact lt_of_heap hgg
/-- A new block of just these bytes is owned. -/
theorem OB.new (w : World) (xs : List UInt8) (h : xs.length ≤ maxLen) : OB (w.alloc (.cells (bcs xs).toArray 5)) (.slice (some ⟨w.heap.size, 0, none⟩) xs.length xs.length) xs :=
  ⟨by simp, .inr ⟨w.heap.size, xs.length, (bcs xs).toArray, rfl, Nat.zero_le _, heap_alloc_new w _, Nat.le_refl _, h, by simp, by simp [List.take_of_length_le]⟩⟩

theorem Place.refl (n : Nat) (v : Value) : Place n v v := .inl rfl
theorem Place.trans {n n1 : Nat} (h : Place n v v1) (h' : Place n1 v1 v') (hn : n ≤ n1) : Place n v v' := by
  rcases h' with e | ⟨g, hg, e⟩
  · rcases h with e1 | ⟨g, hg, e1⟩
    · exact .inl (e.trans e1)
    · exact .inr ⟨g, hg, e.trans e1⟩
  · exact .inr ⟨g, by omega, e⟩
theorem Place.ne_ {n : Nat} (h : Place n v v') {k : Nat} (hk : k < n) (hv : ∀ j, v.ownBlock = some j → j ≠ k) : ∀ j, v'.ownBlock = some j → j ≠ k := by
  intro j hj
  rcases h with e | ⟨g, hg, e⟩
  · exact hv j (by rw [← e]; exact hj)
  · rw [e] at hj; cases hj; omega
end

/-! ### append -/
section
variable (w : World)
theorem run_app_b {P : Program} (t ty : TypeId) (ht : P.underlying t = some (.slice 5)) (hi : (P.info? 5).map (fun i => (i.zero, i.size, i.bytes)) = some (some (.int .u8 0), 1, 1))
    (v : Value) (xs : List UInt8) (hown : OB w v xs) (g : Nat) (A : Option Addr) (ys : List UInt8) (c : Nat) (hr : RB w g A ys) (hb : xs.length + ys.length ≤ 140737488355328) :
    ∃ v' w', (Builtin.append_ #[t, t] ty #[v, .slice A ys.length c]).run P w = .ok v' w' ∧ OB w' v' (xs ++ ys) ∧ Kept w w' (fun k => some k = v.ownBlock) ∧ Place w.heap.size v v' := by
  obtain ⟨i, hi, hz, hs, hby⟩ := info_parts hi
  by_cases hn : ys = []
  · subst hn
    refine ⟨v, w, ?_, by simpa using hown, Kept.refl _ _, Place.refl _ _⟩
    rcases hown.2 with ⟨rfl, _⟩ | ⟨g, cap, cur, rfl, _, hg, h1, _⟩
    · rcases A with _ | ad <;> simp [Builtin.append_, run_underlying ht, sizeOf, typeInfo, hi, Builtin.lenOf, Builtin.firstCells, loadCells, loadCellsFrom]
    · rcases A with _ | ad <;> simp [Builtin.append_, run_underlying ht, sizeOf, typeInfo, hi, Builtin.lenOf, Builtin.firstCells, loadCells, loadCellsFrom, h1, storeCells]
  · obtain ⟨o, rfl, hc⟩ := hr hn
    obtain ⟨v', w', hrun, h2, h3, _, h5⟩ := run_append_own_at (P := P) w 0 t ty 5 i _ 1 1 ht hi hz hs hby rfl (by omega) v xs.length (bcs xs) hown ⟨g, o, none⟩ ys.length c (bcs ys) (by simp)
      (hr.cells rfl) bcs_one (by simp only [maxLen]; omega) (by omega) (Nat.zero_le _)
    refine ⟨v', w', hrun, ?_, ⟨h3.os, h3.tape, h3.output, h3.size, fun k hk hS => h3.block k hk hS⟩, ?_⟩
    · unfold OB
      rw [List.length_append, bcs_append]
      exact h2
    · rcases h5 with e | e
      · exact .inl e
      · exact .inr ⟨_, Nat.le_refl _, e⟩
theorem run_app_s {P : Program} (t u ty : TypeId) (ht : P.underlying t = some (.slice 5)) (hu : P.underlying u = some .string) (hi : (P.info? 5).map (fun i => (i.zero, i.size, i.bytes)) = some (some (.int .u8 0), 1, 1))
    (v : Value) (xs : List UInt8) (hown : OB w v xs) (s : ByteArray) (hb : xs.length + s.size ≤ 140737488355328) :
    ∃ v' w', (Builtin.append_ #[t, u] ty #[v, .string s]).run P w = .ok v' w' ∧ OB w' v' (xs ++ s.data.toList) ∧ Kept w w' (fun k => some k = v.ownBlock) ∧ Place w.heap.size v v' := by
  obtain ⟨i, hi, hz, hs, hby⟩ := info_parts hi
  obtain ⟨v', w', hrun, h2, h3, h4⟩ := Lib.run_append_own_string (P := P) w 0 t u ty 5 i ht hu hi hz hs hby v xs.length (bcs xs) hown s (by simp only [maxLen]; omega) hb (Nat.zero_le _)
  refine ⟨v', w', hrun, ?_, ⟨h3.os, h3.tape, h3.output, h3.size, fun k hk hS => h3.block k hk hS⟩, ?_⟩
  · unfold OB
    rw [List.length_append, bcs_append, Array.length_toList]
    exact h2
  · rcases hown.2 with ⟨rfl, h0⟩ | ⟨g, cap, cur, rfl, _, hg, hn, _, hcs, _⟩
    · by_cases hm : s.size = 0
      · obtain rfl := h4.2 ⟨rfl, hm⟩
        exact Place.refl _ _
      · have hr := run_append_nil_string (P := P) w t u ty 5 i (.int .u8 0) ht hu hi hz s (by omega) (by omega) (by rw [hby]; omega)
        rw [hrun] at hr
        cases hr
        exact .inr ⟨_, Nat.le_refl _, by simp [Value.ownBlock]⟩
    · by_cases hroom : xs.length + s.size ≤ cap
      · have hr := Lib.run_append_room_string (P := P) w t u ty 5 i ht hu hi hs g xs.length cap cur hg s hroom (by omega)
        rw [hrun] at hr
        cases hr
        exact .inl (by simp [Value.ownBlock])
      · have hr := Lib.run_append_grow_string (P := P) w t u ty 5 i (.int .u8 0) ht hu hi hz ⟨g, 0, none⟩ xs.length cap (bcs xs) (by rw [hs]; simp) (World.ownsRow.cells hown (g := g) rfl) s (by omega) (by omega) (by rw [hby]; exact growslice_fits (by omega) (by omega))
        rw [hrun] at hr
        cases hr
        exact .inr ⟨_, Nat.le_refl _, by simp [Value.ownBlock]⟩

theorem wp_app_b {P : Program} {o : Oper} {a : Act} {K : Act → World → Prop} {Q : Exit → Act → World → Prop} (s x : Operand) (t : TypeId)
    (ho : o.op = .call { callee := .builtin .append, args := #[s, x], argTypes := #[t, t] }) (ht : P.underlying t = some (.slice 5)) (hi : (P.info? 5).map (fun i => (i.zero, i.size, i.bytes)) = some (some (.int .u8 0), 1, 1))
    (v : Value) (xs : List UInt8) (hown : OB w v xs) (hs : a.eval s = v) (g : Nat) (A : Option Addr) (ys : List UInt8) (n c : Nat) (hn : n = ys.length) (hx : a.eval x = .slice A n c) (hr : RB w g A ys) (hb : xs.length + ys.length ≤ 140737488355328)
    (h : ∀ v' w', OB w' v' (xs ++ ys) → Kept w w' (fun k => some k = v.ownBlock) → Place w.heap.size v v' → K (a.put o.dst v') w') : o.wp P a w K Q := by
  subst hn
  obtain ⟨v', w', hrun, h2, h3, h4⟩ := run_app_b w t o.type ht hi v xs hown g A ys c hr hb
  unfold Oper.wp execOp
  simp only [ho, resolve, invoke, builtin, Sem.run_bind, Sem.run_pure, Result.andThen_ok, List.map_toArray, List.map_cons, List.map_nil, hs, hx, hrun]
  exact h v' w' h2 h3 h4
theorem wpList_app_b {P : Program} {ops : Array Oper} {rest : List Oper} {o : Oper} {a : Act} {Q : Exit → Act → World → Prop} (hgd : o.guard = none) (s x : Operand) (t : TypeId)
    (ho : o.op = .call { callee := .builtin .append, args := #[s, x], argTypes := #[t, t] }) (ht : P.underlying t = some (.slice 5)) (hi : (P.info? 5).map (fun i => (i.zero, i.size, i.bytes)) = some (some (.int .u8 0), 1, 1))
    (v : Value) (xs : List UInt8) (hown : OB w v xs) (hs : a.eval s = v) (g : Nat) (A : Option Addr) (ys : List UInt8) (n c : Nat) (hn : n = ys.length) (hx : a.eval x = .slice A n c) (hr : RB w g A ys) (hb : xs.length + ys.length ≤ 140737488355328)
    (h : ∀ v' w', OB w' v' (xs ++ ys) → Kept w w' (fun k => some k = v.ownBlock) → Place w.heap.size v v' → wpList P ops Q rest (a.put o.dst v') w') : wpList P ops Q (o :: rest) a w :=
  wpList_plain hgd fun _ hK => wp_app_b w s x t ho ht hi v xs hown hs g A ys n c hn hx hr hb fun v' w' h2 h3 h4 => hK _ _ (h v' w' h2 h3 h4)
theorem step_app_b {P : Program} {ops : Array Oper} {o : Oper} {a : Act} {K : Act → World → Prop} {Q : Exit → Act → World → Prop} {E : Prop} (hgd : o.guard = none) (s x : Operand) (t : TypeId)
    (ho : o.op = .call { callee := .builtin .append, args := #[s, x], argTypes := #[t, t] }) (ht : P.underlying t = some (.slice 5)) (hi : (P.info? 5).map (fun i => (i.zero, i.size, i.bytes)) = some (some (.int .u8 0), 1, 1))
    (v : Value) (xs : List UInt8) (hown : OB w v xs) (hs : a.eval s = v) (g : Nat) (A : Option Addr) (ys : List UInt8) (n c : Nat) (hn : n = ys.length) (hx : a.eval x = .slice A n c) (hr : RB w g A ys) (hb : xs.length + ys.length ≤ 140737488355328)
    (h : ∀ v' w', OB w' v' (xs ++ ys) → Kept w w' (fun k => some k = v.ownBlock) → Place w.heap.size v v' → K (a.put o.dst v') w') :
    if Region.wanted o (yielded ops a.tmps) = true then Oper.wp P o a w K Q else E := by
  have hw : Region.wanted o (yielded ops a.tmps) = true := by simp [Region.wanted, hgd]
  rw [if_pos hw]
  exact wp_app_b w s x t ho ht hi v xs hown hs g A ys n c hn hx hr hb h
theorem wp_app_s {P : Program} {o : Oper} {a : Act} {K : Act → World → Prop} {Q : Exit → Act → World → Prop} (s x : Operand) (t u : TypeId)
    (ho : o.op = .call { callee := .builtin .append, args := #[s, x], argTypes := #[t, u] }) (ht : P.underlying t = some (.slice 5)) (hu : P.underlying u = some .string) (hi : (P.info? 5).map (fun i => (i.zero, i.size, i.bytes)) = some (some (.int .u8 0), 1, 1))
    (v : Value) (xs : List UInt8) (hown : OB w v xs) (hs : a.eval s = v) (str : ByteArray) (hx : a.eval x = .string str) (hb : xs.length + str.size ≤ 140737488355328)
    (h : ∀ v' w', OB w' v' (xs ++ str.data.toList) → Kept w w' (fun k => some k = v.ownBlock) → Place w.heap.size v v' → K (a.put o.dst v') w') : o.wp P a w K Q := by
  obtain ⟨v', w', hrun, h2, h3, h4⟩ := run_app_s w t u o.type ht hu hi v xs hown str hb
  unfold Oper.wp execOp
  simp only [ho, resolve, invoke, builtin, Sem.run_bind, Sem.run_pure, Result.andThen_ok, List.map_toArray, List.map_cons, List.map_nil, hs, hx, hrun]
  exact h v' w' h2 h3 h4
theorem wpList_app_s {P : Program} {ops : Array Oper} {rest : List Oper} {o : Oper} {a : Act} {Q : Exit → Act → World → Prop} (hgd : o.guard = none) (s x : Operand) (t u : TypeId)
    (ho : o.op = .call { callee := .builtin .append, args := #[s, x], argTypes := #[t, u] }) (ht : P.underlying t = some (.slice 5)) (hu : P.underlying u = some .string) (hi : (P.info? 5).map (fun i => (i.zero, i.size, i.bytes)) = some (some (.int .u8 0), 1, 1))
    (v : Value) (xs : List UInt8) (hown : OB w v xs) (hs : a.eval s = v) (str : ByteArray) (hx : a.eval x = .string str) (hb : xs.length + str.size ≤ 140737488355328)
    (h : ∀ v' w', OB w' v' (xs ++ str.data.toList) → Kept w w' (fun k => some k = v.ownBlock) → Place w.heap.size v v' → wpList P ops Q rest (a.put o.dst v') w') : wpList P ops Q (o :: rest) a w :=
  wpList_plain hgd fun _ hK => wp_app_s w s x t u ho ht hu hi v xs hown hs str hx hb fun v' w' h2 h3 h4 => hK _ _ (h v' w' h2 h3 h4)
theorem step_app_s {P : Program} {ops : Array Oper} {o : Oper} {a : Act} {K : Act → World → Prop} {Q : Exit → Act → World → Prop} {E : Prop} (hgd : o.guard = none) (s x : Operand) (t u : TypeId)
    (ho : o.op = .call { callee := .builtin .append, args := #[s, x], argTypes := #[t, u] }) (ht : P.underlying t = some (.slice 5)) (hu : P.underlying u = some .string) (hi : (P.info? 5).map (fun i => (i.zero, i.size, i.bytes)) = some (some (.int .u8 0), 1, 1))
    (v : Value) (xs : List UInt8) (hown : OB w v xs) (hs : a.eval s = v) (str : ByteArray) (hx : a.eval x = .string str) (hb : xs.length + str.size ≤ 140737488355328)
    (h : ∀ v' w', OB w' v' (xs ++ str.data.toList) → Kept w w' (fun k => some k = v.ownBlock) → Place w.heap.size v v' → K (a.put o.dst v') w') :
    if Region.wanted o (yielded ops a.tmps) = true then Oper.wp P o a w K Q else E := by
  have hw : Region.wanted o (yielded ops a.tmps) = true := by simp [Region.wanted, hgd]
  rw [if_pos hw]
  exact wp_app_s w s x t u ho ht hu hi v xs hown hs str hx hb h

/-- string(b) -/
def strOf (xs : List UInt8) : ByteArray := ⟨xs.toArray⟩
theorem strOf_toList (xs : List UInt8) : (strOf xs).data.toList = xs := by simp [strOf]
theorem strOf_list (xs : List UInt8) : (strOf xs).toList = xs := by rw [ByteArray.toList_eq, strOf_toList]
theorem strOf_size (xs : List UInt8) : (strOf xs).size = xs.length := by simp [strOf, ByteArray.size]
theorem run_conv_str {P : Program} (src dst : TypeId) (hs : P.underlying src = some (.slice 5)) (he : P.underlying 5 = some (.int .u8)) (hd : P.underlying dst = some .string)
    (g : Nat) (A : Option Addr) (xs : List UInt8) (n c : Nat) (hn : n = xs.length) (h : RB w g A xs) : (convert src dst (.slice A n c)).run P w = .ok (.string (strOf xs)) w := by
  subst hn
  by_cases hx : xs = []
  · subst hx
    rcases A with _ | ad
    · exact run_convert_bytes_nil w src 5 hs he 0 c dst hd
    · rw [run_convert_bytes_string w src dst 5 _ _ c hs he hd]
      simp [Conv.bytesToString, loadCells, loadCellsFrom, strOf]
      rfl
  · obtain ⟨o, rfl, hc⟩ := h hx
    have := run_convert_bytes_arg (P := P) w src 5 hs he g o xs.length c (xs.map fun x => (x.toNat : Int)) (by simp) (fun i hi => by
      rw [hc i hi]
      simp [bc, List.getD, hi]) dst hd
    rw [this]
    congr 2
    simp [strOfNums, strOf, Function.comp_def]
end
theorem bc_byte (n : Nat) : bc (UInt8.ofNat n) = .int .u8 ((n : Int) % 256) := by
  simp [bc, UInt8.toNat_ofNat']

theorem bc_shr (n m : Nat) : bc (UInt8.ofNat (n / 2 ^ m)) = .int .u8 ((n : Int) / 2 ^ m % 256) := by
  rw [bc_byte]; simp
theorem RB.of_byte {w : World} {t : TypeId} {x : UInt8} {c : Value} (h : c = bc x) : RB (w.alloc (.cells #[c] t)) w.heap.size (some ⟨w.heap.size, 0, none⟩) [x] := RB.of_blk (Blk.new w t #[c]) (by simp [bcs, h])
end Go.Proofs.YtmaiokjcgijdcaaDoor
