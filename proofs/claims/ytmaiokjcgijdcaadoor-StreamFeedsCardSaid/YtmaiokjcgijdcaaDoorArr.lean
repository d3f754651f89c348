/- Whole arrays by value, and copy. -/
import Derived.Test.YtmaiokjcgijdcaaDoorBytes
import Derived.Deep.MidRow
import Derived.Laws.CopyRow
import Derived.Laws.IdiomCopy
namespace Go.Proofs.YtmaiokjcgijdcaaDoor
open Go.RowKit

theorem RB.of_range {w : World} {g o : Nat} {xs : List UInt8} (h : w.rangeAt g o (bcs xs)) : RB w g (some ⟨g, o, none⟩) xs := fun _ => ⟨o, rfl, fun j hj => h j _ (by simp [bcs, List.getD, hj])⟩
theorem RB.range {w : World} {g o g' : Nat} {xs : List UInt8} (h : RB w g (some ⟨g', o, none⟩) xs) : w.rangeAt g' o (bcs xs) := fun j v hv => by
  have := h.cells rfl j v hv
  rwa [add_plain] at this
theorem Blk.range {w : World} {g : Nat} {t : TypeId} {cs : Array Value} (h : Blk w g t cs) : w.rangeAt g 0 cs.toList := fun j v hv => by
  rw [Nat.zero_add, h.cell]
  simpa using hv
theorem rangeAt_kept {w w' : World} {g o : Nat} {cs : List Value} {L : Nat → Prop} (h : w.rangeAt g o cs) (hk : Kept w w' L) (hg : ¬ L g) : w'.rangeAt g o cs := fun j v hv => by
  have := h j v hv
  rw [hk.cell (block_lt_of_cell this) hg]
  exact this

/-- cs laid over cur from place o on -/
def putA (cur : Array Value) (o : Nat) (cs : List Value) : Array Value := (cur.toList.take o ++ cs ++ cur.toList.drop (o + cs.length)).toArray
theorem size_putA (cur : Array Value) (o : Nat) (cs : List Value) (h : o + cs.length ≤ cur.size) : (putA cur o cs).size = cur.size := by
  simp [putA]; omega
theorem putA_nil (cur : Array Value) (o : Nat) : putA cur o [] = cur := by simp [putA]
theorem putA_all (cur : Array Value) (cs : List Value) (h : cs.length = cur.size) : putA cur 0 cs = cs.toArray := by
  simp [putA, List.drop_of_length_le, h]
theorem getElem?_putA (cur : Array Value) (o : Nat) (cs : List Value) (h : o + cs.length ≤ cur.size) (i : Nat) :
    (putA cur o cs)[i]? = if o ≤ i ∧ i < o + cs.length then cs[i - o]? else cur[i]? := by
  have ho : (cur.toList.take o).length = o := by simp; omega
  unfold putA
  rw [List.getElem?_toArray, List.append_assoc]
  by_cases h1 : i < o
  · rw [List.getElem?_append_left (by omega), if_neg (by omega)]
    simp [h1]
  · rw [List.getElem?_append_right (by omega), ho]
    by_cases h2 : i < o + cs.length
    · rw [if_pos (by omega), List.getElem?_append_left (by omega)]
    · rw [if_neg (by omega), List.getElem?_append_right (by omega), List.getElem?_drop, Array.getElem?_toList]
      congr 1; omega

section
variable {P : Program}
theorem setRow_blk {w : World} {g : Nat} {t : TypeId} {cur cs : Array Value} (h : Blk w g t cur) : Blk (w.setRow g cs) g t cs := setRow_heap w g cur cs t (0, 0) h
theorem setRow_kept (w : World) (g : Nat) (cs : Array Value) : Kept w (w.setRow g cs) (· = g) := ⟨rfl, rfl, rfl, by simp, fun k _ hS => setRow_other w g k cs hS⟩
theorem run_storeVar_blk (w : World) (g o : Nat) (t ty : TypeId) (cur cells : Array Value) (hg : Blk w g t cur) (hi : (P.info? ty).map (·.size) = some cells.size) (ho : o + cells.size ≤ cur.size) (h1 : ∀ v ∈ cells.toList, v.oneCell' = true) :
    (storeVar ty ⟨g, o, none⟩ (.agg cells)).run P w = .ok () (w.setRow g (putA cur o cells.toList)) := by
  have := run_storeCells_at P g o t cells.toList 0 cur w hg (by simpa using ho) h1
  cases hq : P.info? ty with
  | none => simp [hq] at hi
  | some i =>
    have hs : cells.size = i.size := by simp [hq] at hi; omega
    simp [storeVar, sizeOf, typeInfo, hq, Value.cells, hs, this, putA]
theorem wp_store_blk {o : Oper} {a : Act} {w : World} {K : Act → World → Prop} {Q : Exit → Act → World → Prop} (ty : TypeId) (x y : Operand) (ho : o.op = .store ty x y)
    (g off : Nat) (cells : Array Value) (hx : a.eval x = .pointer (some ⟨g, off, none⟩)) (hy : a.eval y = .agg cells) (t : TypeId) (cur : Array Value) (hg : Blk w g t cur) (hi : (P.info? ty).map (·.size) = some cells.size)
    (hfit : off + cells.size ≤ cur.size) (h1 : ∀ v ∈ cells.toList, v.oneCell' = true) (h : ∀ w', Blk w' g t (putA cur off cells.toList) → Kept w w' (· = g) → K (a.put o.dst undef) w') : o.wp P a w K Q := by
  unfold Oper.wp execOp
  simp only [ho, hx, hy, Instr.storeAt, Instr.sureAddr, Sem.run_bind, Sem.run_pure, Result.andThen_ok, run_storeVar_blk w g off t ty cur cells hg hi hfit h1]
  exact h _ (setRow_blk hg) (setRow_kept _ _ _)
theorem wpList_store_blk {ops : Array Oper} {rest : List Oper} {o : Oper} {a : Act} {w : World} {Q : Exit → Act → World → Prop} (hgd : o.guard = none) (ty : TypeId) (x y : Operand) (ho : o.op = .store ty x y)
    (g off : Nat) (cells : Array Value) (hx : a.eval x = .pointer (some ⟨g, off, none⟩)) (hy : a.eval y = .agg cells) (t : TypeId) (cur : Array Value) (hg : Blk w g t cur) (hi : (P.info? ty).map (·.size) = some cells.size)
    (hfit : off + cells.size ≤ cur.size) (h1 : ∀ v ∈ cells.toList, v.oneCell' = true) (h : ∀ w', Blk w' g t (putA cur off cells.toList) → Kept w w' (· = g) → wpList P ops Q rest (a.put o.dst undef) w') : wpList P ops Q (o :: rest) a w :=
  wpList_plain hgd fun _ hK => wp_store_blk ty x y ho g off cells hx hy t cur hg hi hfit h1 fun w' h2 h3 => hK _ _ (h w' h2 h3)

theorem run_copy_b (w : World) (dT sT ty : TypeId) (hu : P.underlying dT = some (.slice 5)) (hs : (P.info? 5).map (fun i => (i.zero, i.size, i.bytes)) = some (some (.int .u8 0), 1, 1))
    (g off : Nat) (dp : Option Addr) (dLen dCap : Nat) (t : TypeId) (cur : Array Value) (hg : Blk w g t cur) (gs : Nat) (A : Option Addr) (ys : List UInt8) (n c : Nat) (hn : n = ys.length) (hr : RB w gs A ys)
    (hd : 0 < min n dLen → dp = some ⟨g, off, none⟩) (hfit : off + min n dLen ≤ cur.size) :
    ∃ w', (Builtin.copy_ #[dT, sT] ty #[.slice dp dLen dCap, .slice A n c]).run P w = .ok (goInt (min n dLen : Nat)) w' ∧ Blk w' g t (putA cur off (bcs (ys.take dLen))) ∧ Kept w w' (· = g) := by
  subst hn
  have hsz : (P.info? 5).map (·.size) = some 1 := by
    obtain ⟨i, hi, _, h2, _⟩ := info_parts hs
    simp [hi, h2]
  by_cases h0 : min ys.length dLen = 0
  · have hrun := run_copy_none (P := P) w dT sT ty 5 dp A dLen dCap ys.length c hu hsz h0
    refine ⟨w, by rw [hrun, h0]; rfl, ?_, Kept.refl _ _⟩
    have : ys.take dLen = [] := List.eq_nil_of_length_eq_zero (by rw [List.length_take]; omega)
    rw [this]
    simpa [bcs, putA_nil] using hg
  · obtain rfl := hd (by omega)
    have hy : ys ≠ [] := by intro e; subst e; simp at h0
    obtain ⟨o, rfl, hc⟩ := hr hy
    have hl : (bcs (ys.take dLen)).length = Nat.min ys.length dLen := by
      simp only [length_bcs, List.length_take]
      exact Nat.min_comm _ _
    have hrun := run_copy_row (P := P) w dT sT ty 5 g off dLen dCap ⟨gs, o, none⟩ ys.length c cur t (bcs (ys.take dLen)) hu hsz hg hl (fun j v hj => by
      exact (hr.take dLen).cells rfl j v hj) (by rw [hl]; exact hfit) bcs_one
    refine ⟨_, ?_, setRow_blk hg, setRow_kept _ _ _⟩
    · rw [hrun]
      have e : (bcs (ys.take dLen)).length = min ys.length dLen := hl
      rw [e]
      unfold putA
      rw [e]
theorem wp_copy_b {o : Oper} {a : Act} {w : World} {K : Act → World → Prop} {Q : Exit → Act → World → Prop} (d s : Operand) (dT sT : TypeId)
    (ho : o.op = .call { callee := .builtin .copy, args := #[d, s], argTypes := #[dT, sT] }) (hu : P.underlying dT = some (.slice 5)) (hs : (P.info? 5).map (fun i => (i.zero, i.size, i.bytes)) = some (some (.int .u8 0), 1, 1))
    (g off : Nat) (dp : Option Addr) (dLen dCap : Nat) (hdv : a.eval d = .slice dp dLen dCap) (t : TypeId) (cur : Array Value) (hg : Blk w g t cur) (gs : Nat) (A : Option Addr) (ys : List UInt8) (n c : Nat) (hsv : a.eval s = .slice A n c) (hn : n = ys.length) (hr : RB w gs A ys)
    (hd : 0 < min n dLen → dp = some ⟨g, off, none⟩) (hfit : off + min n dLen ≤ cur.size)
    (h : ∀ w', Blk w' g t (putA cur off (bcs (ys.take dLen))) → Kept w w' (· = g) → K (a.put o.dst (.int .i64 (min n dLen : Nat))) w') : o.wp P a w K Q := by
  obtain ⟨w', hrun, h2, h3⟩ := run_copy_b (P := P) w dT sT o.type hu hs g off dp dLen dCap t cur hg gs A ys n c hn hr hd hfit
  unfold Oper.wp execOp
  simp only [ho, resolve, invoke, builtin, Sem.run_bind, Sem.run_pure, Result.andThen_ok, List.map_toArray, List.map_cons, List.map_nil, hdv, hsv, hrun]
  exact h w' h2 h3
theorem wpList_copy_b {ops : Array Oper} {rest : List Oper} {o : Oper} {a : Act} {w : World} {Q : Exit → Act → World → Prop} (hgd : o.guard = none) (d s : Operand) (dT sT : TypeId)
    (ho : o.op = .call { callee := .builtin .copy, args := #[d, s], argTypes := #[dT, sT] }) (hu : P.underlying dT = some (.slice 5)) (hs : (P.info? 5).map (fun i => (i.zero, i.size, i.bytes)) = some (some (.int .u8 0), 1, 1))
    (g off : Nat) (dp : Option Addr) (dLen dCap : Nat) (hdv : a.eval d = .slice dp dLen dCap) (t : TypeId) (cur : Array Value) (hg : Blk w g t cur) (gs : Nat) (A : Option Addr) (ys : List UInt8) (n c : Nat) (hsv : a.eval s = .slice A n c) (hn : n = ys.length) (hr : RB w gs A ys)
    (hd : 0 < min n dLen → dp = some ⟨g, off, none⟩) (hfit : off + min n dLen ≤ cur.size)
    (h : ∀ w', Blk w' g t (putA cur off (bcs (ys.take dLen))) → Kept w w' (· = g) → wpList P ops Q rest (a.put o.dst (.int .i64 (min n dLen : Nat))) w') : wpList P ops Q (o :: rest) a w :=
  wpList_plain hgd fun _ hK => wp_copy_b d s dT sT ho hu hs g off dp dLen dCap hdv t cur hg gs A ys n c hsv hn hr hd hfit fun w' h2 h3 => hK _ _ (h w' h2 h3)
theorem step_copy_b {ops : Array Oper} {o : Oper} {a : Act} {w : World} {K : Act → World → Prop} {Q : Exit → Act → World → Prop} {E : Prop} (hgd : o.guard = none) (d s : Operand) (dT sT : TypeId)
    (ho : o.op = .call { callee := .builtin .copy, args := #[d, s], argTypes := #[dT, sT] }) (hu : P.underlying dT = some (.slice 5)) (hs : (P.info? 5).map (fun i => (i.zero, i.size, i.bytes)) = some (some (.int .u8 0), 1, 1))
    (g off : Nat) (dp : Option Addr) (dLen dCap : Nat) (hdv : a.eval d = .slice dp dLen dCap) (t : TypeId) (cur : Array Value) (hg : Blk w g t cur) (gs : Nat) (A : Option Addr) (ys : List UInt8) (n c : Nat) (hsv : a.eval s = .slice A n c) (hn : n = ys.length) (hr : RB w gs A ys)
    (hd : 0 < min n dLen → dp = some ⟨g, off, none⟩) (hfit : off + min n dLen ≤ cur.size)
    (h : ∀ w', Blk w' g t (putA cur off (bcs (ys.take dLen))) → Kept w w' (· = g) → K (a.put o.dst (.int .i64 (min n dLen : Nat))) w') :
    if Region.wanted o (yielded ops a.tmps) = true then Oper.wp P o a w K Q else E := by
  have hw : Region.wanted o (yielded ops a.tmps) = true := by simp [Region.wanted, hgd]
  rw [if_pos hw]
  exact wp_copy_b d s dT sT ho hu hs g off dp dLen dCap hdv t cur hg gs A ys n c hsv hn hr hd hfit h
end

/-! ### a slice literal of one whole element -/
theorem getElem?_foldl_set : ∀ (l : List Value) (k : Nat) (acc : Array Value) (i : Nat), ((l.zipIdx k).foldl (fun cs p => cs.setIfInBounds p.2 p.1) acc)[i]? = if k ≤ i ∧ i < k + l.length ∧ i < acc.size then l[i - k]? else acc[i]?
  | [], k, acc, i => by
    have : ¬ (k ≤ i ∧ i < k + ([] : List Value).length ∧ i < acc.size) := by simp; omega
    rw [if_neg this]; rfl
  | v :: l, k, acc, i => by
    rw [List.zipIdx_cons, List.foldl_cons, getElem?_foldl_set l (k + 1) _ i]
    simp only [Array.size_setIfInBounds, List.length_cons, Array.getElem?_setIfInBounds]
    by_cases h1 : k + 1 ≤ i ∧ i < k + 1 + l.length ∧ i < acc.size
    · rw [if_pos h1, if_pos (by omega)]
      have : i - k = (i - (k + 1)) + 1 := by omega
      rw [this, List.getElem?_cons_succ]
    · rw [if_neg h1]
      by_cases h2 : k = i
      · subst h2
        by_cases h3 : k < acc.size
        · rw [if_pos rfl, if_pos h3, if_pos (by omega)]; simp
        · rw [if_pos rfl, if_neg h3, if_neg (by omega)]
          rw [Array.getElem?_eq_none (by omega)]
      · rw [if_neg h2, if_neg (by omega)]
theorem fill_all (place : Nat → Option (Nat × Nat)) (zero cs : Array Value) (hp : place 0 = some (0, cs.size)) (h : zero.size = cs.size) : Instr.fill place zero [(0, .agg cs)] = some cs := by
  unfold Instr.fill
  rw [hp]
  simp only [Value.cells, Nat.zero_add, ne_eq, not_true, h, Nat.lt_irrefl, decide_false, Bool.or_self, Bool.false_eq_true, if_false, gt_iff_lt]
  unfold Instr.fill
  congr 1
  apply Array.ext_getElem?
  intro i
  have e : cs.zipIdx.foldl (fun acc (p : Value × Nat) => acc.setIfInBounds p.2 p.1) zero = (cs.toList.zipIdx 0).foldl (fun acc p => acc.setIfInBounds p.2 p.1) zero := by
    rw [← Array.foldl_toList, Array.toList_zipIdx]
  have := getElem?_foldl_set cs.toList 0 zero i
  rw [← e] at this
  refine this.trans ?_
  simp only [Nat.zero_le, true_and, Nat.zero_add, Array.length_toList, Nat.sub_zero, h, and_self, Array.getElem?_toList]
  split
  · rfl
  · rw [Array.getElem?_eq_none (by omega), Array.getElem?_eq_none (by omega)]
theorem run_buildSlice_agg {P : Program} {w : World} (t e : TypeId) (i : TypeInfo) (z : Value) (cs : Array Value) (ht : P.underlying t = some (.slice e)) (hi : P.info? e = some i) (hz : i.zero = some z) (hs : i.size = cs.size) (hpos : 0 < cs.size) (hlt : cs.size ≤ 16777216) :
    (Instr.buildSlice t 1 #[(0, .agg cs)]).run P w = .ok (.slice (some ⟨w.heap.size, 0, none⟩) 1 1) (w.alloc (.cells cs e)) := by
  have h1 : ¬ (16777216 < cs.size) := by omega
  have h2 : ¬ cs.size = 0 := by omega
  have hf := fill_all (fun i => some (i * cs.size, cs.size)) ((Array.range cs.size).map (z.cells[· % z.cells.size]!)) cs (by simp) (by simp)
  simp [Instr.buildSlice, run_underlying ht, sizeOf, typeInfo, zeroValue, hi, hz, hs, h1, h2, hf, newRow]

theorem wpList_build1 {P : Program} {ops : Array Oper} {rest : List Oper} {o : Oper} {a : Act} {w : World} {Q : Exit → Act → World → Prop} (hw : Region.wanted o (yielded ops a.tmps) = true) (t : TypeId) (x : Operand) (ho : o.op = .buildSlice t 1 #[(0, x)])
    (v v' : Value) (w' : World) (hx : a.eval x = v) (hrun : (Instr.buildSlice t 1 #[(0, v)]).run P w = .ok v' w') (h : wpList P ops Q rest (a.put o.dst v') w') : wpList P ops Q (o :: rest) a w := by
  refine wpList_wanted hw fun K hK => ?_
  unfold Oper.wp execOp
  simp only [ho, List.map_toArray, List.map_cons, List.map_nil, hx, Sem.run_bind, Sem.run_pure, Result.andThen_ok, hrun]
  exact hK _ _ h

/-- n zero bytes as a list -/
def zeros (n : Nat) : List UInt8 := List.replicate n 0
@[simp] theorem length_zeros (n : Nat) : (zeros n).length = n := by simp [zeros]
theorem Tryd.infoHash : (Tryd.prog.info? 77).map (fun i => (i.zero, i.size, i.bytes)) = some (some (.agg (bcs (zeros 32)).toArray), 32, 32) := by kernel_rfl
theorem Tryd.sizeHash : (Tryd.prog.info? 77).map (·.size) = some 32 := by kernel_rfl
/-- 'var h [32]byte' -/
theorem run_alloc_hash (w : World) : (Instr.alloc 77 true undef).run Tryd.prog w = .ok (.pointer (some ⟨w.heap.size, 0, none⟩)) (w.alloc (.cells (bcs (zeros 32)).toArray 77)) := by
  obtain ⟨i, hi, hz, hs, hb⟩ := info_parts Tryd.infoHash
  simp [Instr.alloc, zeroValue, typeInfo, hi, hz, newVar, newRow, Value.cells]
end Go.Proofs.YtmaiokjcgijdcaaDoor
