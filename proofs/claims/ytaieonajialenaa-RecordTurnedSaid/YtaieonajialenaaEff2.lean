/- Calls by a contract; a string's bytes. -/
import Derived.Test.YtaieonajialenaaEff
import Derived.Laws.IdiomStrings
import Derived.Laws.AppendOwn
namespace Go.Proofs.Ytaieonajialenaa
open Go.RowKit HP

section
variable {P : Program} {ops : Array Oper} {rest : List Oper} {o : Oper} {a : Act} {w : World} {Q : Exit → Act → World → Prop} {L : List HP}
/-- a call, by a contract -/
theorem wpList_callG (f : FuncId) {xs : Array Operand} {ts : Array TypeId} (ho : o.op = .call { callee := .value (.func f), args := xs, argTypes := ts }) {fn : Func} (hf : P.funcs[f]? = some fn) (hk : (fn.name == "runtime.NumGoroutine" || fn.body.isNone) = false) {al : List Value} (hx : xs.toList.map a.eval = al)
    (hw : Region.wanted o (yielded ops a.tmps) = true) {R : Ending → World → Prop} (hc : Calls P f al.toArray w R) (hn : ∀ e w', R e w' → ∃ v, e = .returned v ∧ wpList P ops Q rest (a.put o.dst v) w') : wpList P ops Q (o :: rest) a w :=
  wpList_wanted hw fun K hK => by
    unfold Oper.wp
    rw [run_callF ho hf hk w, show Array.map a.eval xs = al.toArray from Array.ext' (by rw [← hx]; simp), Oper.upon_enter]
    refine hc.mono fun e w' h => ?_
    obtain ⟨v, rfl, h'⟩ := hn e w' h
    exact hK _ _ h'
theorem wp_callG {K : Act → World → Prop} (f : FuncId) {xs : Array Operand} {ts : Array TypeId} (ho : o.op = .call { callee := .value (.func f), args := xs, argTypes := ts }) {fn : Func} (hf : P.funcs[f]? = some fn) (hk : (fn.name == "runtime.NumGoroutine" || fn.body.isNone) = false) {al : List Value} (hx : xs.toList.map a.eval = al)
    {R : Ending → World → Prop} (hc : Calls P f al.toArray w R) (hn : ∀ e w', R e w' → ∃ v, e = .returned v ∧ K (a.put o.dst v) w') : o.wp P a w K Q := by
  unfold Oper.wp
  rw [run_callF ho hf hk w, show Array.map a.eval xs = al.toArray from Array.ext' (by rw [← hx]; simp), Oper.upon_enter]
  refine hc.mono fun e w' h => ?_
  obtain ⟨v, rfl, h'⟩ := hn e w' h
  exact h'
/-- [][]byte{x, y, ..} -/
theorem wpList_parts (h : Holds w L) (hgd : o.guard = none) {t E : TypeId} {n : Nat} {parts : Array (Nat × Operand)} (ho : o.op = .buildSlice t n parts) (ht : P.underlying t = some (.slice E)) {z : Value}
    (hi : (P.info? E).map (fun i => (i.zero, i.size)) = some (some z, 1)) (l : List BS) (hp : parts.toList.map (fun x => (x.1, a.eval x.2)) = ((l.map BS.val).zipIdx 0).map fun x => (x.2, x.1)) (hl : n = l.length) (h0 : 0 < n) (h1 : n ≤ 16777216)
    (hn : ∀ g w', Holds w' (blk g E (l.map BS.val).toArray :: L) → wpList P ops Q rest (a.put o.dst (.slice (some ⟨g, 0, none⟩) n n)) w') : wpList P ops Q (o :: rest) a w :=
  wpList_sliceV h hgd ho ht hi (l.map BS.val) (by rw [Array.toList_map]; exact hp) (fun v hv => by obtain ⟨s, _, rfl⟩ := List.mem_map.1 hv; rfl) (by simp [hl]) h0 h1 hn
theorem wp_sliceV {K : Act → World → Prop} (h : Holds w L) {t E : TypeId} {n : Nat} {parts : Array (Nat × Operand)} (ho : o.op = .buildSlice t n parts) (ht : P.underlying t = some (.slice E)) {z : Value}
    (hi : (P.info? E).map (fun i => (i.zero, i.size)) = some (some z, 1)) (vals : List Value) (hp : parts.toList.map (fun x => (x.1, a.eval x.2)) = (vals.zipIdx 0).map fun x => (x.2, x.1)) (hone : ∀ v ∈ vals, v.cells = #[v]) (hl : n = vals.length) (h0 : 0 < n) (h1 : n ≤ 16777216)
    (hn : ∀ g w', Holds w' (blk g E vals.toArray :: L) → K (a.put o.dst (.slice (some ⟨g, 0, none⟩) n n)) w') : o.wp P a w K Q := by
  cases hie : P.info? E with
  | none => rw [hie] at hi; cases hi
  | some ie =>
    rw [hie] at hi
    have hi2 : ie.zero = some z ∧ ie.size = 1 := by simpa using hi
    refine wp_buildSlice t E n parts ho vals.toArray ie z ht hie hi2.1 (by rw [hi2.2]; omega) (by rw [hi2.2]; omega) ?_ (hn _ _ (h.alloc E vals.toArray))
    have e : (parts.map fun (i, x) => (i, a.eval x)).toList = (vals.zipIdx 0).map fun x => (x.2, x.1) := by rw [Array.toList_map]; exact hp
    rw [e, hi2.2]
    exact Great.fill_flat _ _ hone (by simp [hl])
theorem wp_slb2 {K : Act → World → Prop} (h : Holds w L) {t : TypeId} {x y : Operand} (ho : o.op = .buildSlice t 2 #[(0, x), (1, y)]) (ht : P.underlying t = some (.slice 5)) (hi : (P.info? 5).map (fun i => (i.zero, i.size)) = some (some (.int .u8 0), 1)) {b c : UInt8} (hx : a.eval x = .int .u8 (b.toNat : Int)) (hy : a.eval y = .int .u8 (c.toNat : Int))
    (hn : ∀ g w', Holds w' (own (.slice (some ⟨g, 0, none⟩) 2 2) [b, c] :: L) → K (a.put o.dst (.slice (some ⟨g, 0, none⟩) 2 2)) w') : o.wp P a w K Q :=
  wp_sliceV h ho ht hi [.int .u8 (b.toNat : Int), .int .u8 (c.toNat : Int)] (by simp [hx, hy]) (fun v hv => by rcases List.mem_cons.1 hv with rfl | hv; rfl; rw [List.mem_singleton.1 hv]; rfl) rfl (by decide) (by decide) fun g w' hw => hn g w' (Holds.own_of_blk (xs := [b, c]) hw (by simp [maxLen]))
theorem wp_slb1 {K : Act → World → Prop} (h : Holds w L) {t : TypeId} {x : Operand} (ho : o.op = .buildSlice t 1 #[(0, x)]) (ht : P.underlying t = some (.slice 5)) (hi : (P.info? 5).map (fun i => (i.zero, i.size)) = some (some (.int .u8 0), 1)) {b : UInt8} (hx : a.eval x = .int .u8 (b.toNat : Int))
    (hn : ∀ g w', Holds w' (own (.slice (some ⟨g, 0, none⟩) 1 1) [b] :: L) → K (a.put o.dst (.slice (some ⟨g, 0, none⟩) 1 1)) w') : o.wp P a w K Q :=
  wp_sliceV h ho ht hi [.int .u8 (b.toNat : Int)] (by simp [hx]) (fun v hv => by rw [List.mem_singleton.1 hv]; rfl) rfl (by decide) (by decide) fun g w' hw => hn g w' (Holds.own_of_blk (xs := [b]) hw (by simp [maxLen]))
theorem Holds.rb_of_row {cs : Array Value} {fr : Nat × Nat} {e : TypeId} {xs : List UInt8} (h : Holds w L) (hc : ∀ j (hj : j < xs.length), cs[j]? = some (.int .u8 (xs[j].toNat : Int))) : Holds (w.drew.alloc (.cells cs e fr)) (rb (some ⟨w.heap.size, 0, none⟩) xs :: L) := by
  have h2 := (h.drew).allocF e cs fr
  refine h2.turn fun S hS => ⟨fun k => k = w.heap.size ∧ xs ≠ [], ⟨w.heap.size, fun hx => ⟨0, rfl, fun j hj => ?_⟩, fun _ => Iff.rfl⟩, fun k hk => (hS.2 k).2 hk.1⟩
  rw [Nat.zero_add]
  refine (cell_of_row _ w.heap.size j _ _ _ hS.1).trans ?_
  rw [hc j hj]
  simp [List.getD, hj, bc]
theorem wp_s2b {K : Act → World → Prop} (h : Holds w L) {ty t e : TypeId} {x : Operand} (ho : o.op = .convert ty t x) (hs : P.underlying ty = some .string) (hd : P.underlying t = some (.slice e)) (he : P.underlying e = some (.int .u8)) {xs : List UInt8} (hx : a.eval x = .string (strOf xs))
    (hn : ∀ g c w', xs.length ≤ c → Holds w' (rb (some ⟨g, 0, none⟩) xs :: L) → K (a.put o.dst (.slice (some ⟨g, 0, none⟩) xs.length c)) w') : o.wp P a w K Q := by
  unfold Oper.wp execOp
  simp only [ho, hx, Sem.run_bind, run_bytes_of_string w ty t e (strOf xs) hs hd he, Result.andThen_ok, Sem.run_pure, Oper.upon_value]
  have e1 : (strOf xs).size = xs.length := strOf_size xs
  rw [e1]
  refine hn _ _ _ (grownCap_ge _ _ _ _) (h.rb_of_row fun j hj => ?_)
  have := bytesRow_at (strOf xs) (grownCap w xs.length 0 e) j (by simpa [strOf] using hj)
  rw [this]
  simp [strOf]
end
end Go.Proofs.Ytaieonajialenaa
