import Derived.Test.YtibkngjacdggpaaDoorUntil
import Derived.Great.BuildSlice
import Derived.Laws.IdiomStrings
import Derived.Laws.AppendOwn
/- Operations that make memory, over pieces; phases in a region with a condition that is needed for a while; strings. -/
namespace Go.Proofs.YtibkngjacdggpaaDoor
open Go.RowKit HP

section
variable {P : Program} {md : Region.Mode} {l : List Oper} {Q : Exit → Act → World → Prop} {C : World → Prop} {e : Nat}
theorem wpAnyE_phase (J : Array Bool → Act → World → Prop) (late : Nat) (full : Array Bool) (ha : acyc l 0 = true) (hJ : ∀ listed a w, J listed a w → listed.size = l.length ∧ listed.getD late true = false ∧ C w)
    (hend : ∀ a w, J full a w → wpAnyE P md l.toArray Q C e (cf full) full a w) (hstep : ∀ listed a w, J listed a w → EachOp P md l Q J full listed a w l 0) :
    ∀ (fuel : Nat) (listed : Array Bool) (a : Act) (w : World), fuel = cf listed → J listed a w → wpAnyE P md l.toArray Q C e fuel listed a w
  | 0, listed, a, w, hf, h => by
    have := cf_pos (hJ _ _ _ h).2.1
    omega
  | fuel + 1, listed, a, w, hf, h => by
    by_cases hfull : listed = full
    · subst hfull
      rw [hf]
      exact hend _ _ h
    · obtain ⟨hs, hl, _⟩ := hJ _ _ _ h
      refine ⟨fun e => absurd e (ready_some ha hs hl), fun i hi => ?_⟩
      obtain ⟨hu, o, ho, hd⟩ := mem_ready.1 hi
      have ho' : l[i]? = some o := by simpa using ho
      have hd' : (o.after.toList.all fun e => !Region.binds md e || listed.getD e.on false) = true := by
        rw [List.all_eq_true]
        intro e he
        cases hb : Region.binds md e
        · rfl
        · rw [hd e (by simpa using he) hb]; rfl
      have h1 := (hstep _ _ _ h).at_ l 0 i o ho' hfull (by rwa [Nat.zero_add]) hd'
      rw [Nat.zero_add] at h1
      refine wpOp_step ho (fun K' hK => ?_)
      rw [if_pos h1.1]
      exact h1.2 K' (fun a' w' h' => hK a' w' ⟨fun _ => (hJ _ _ _ h').2.2, wpAnyE_phase J late full ha hJ hend hstep fuel _ a' w' (by have := cf_set hu; omega) h'⟩)
theorem wpAnyE_phaseA (J : Act → Array Bool → Act → World → Prop) (late : Nat) (full : Array Bool) (m : Nat) {fuel : Nat} {listed : Array Bool} {a : Act} {w : World} (ha : acyc l 0 = true) (hf : fuel = cf listed) (hm : cf full = m) (h0 : J a listed a w)
    (hJ : ∀ listed' a' w', J a listed' a' w' → listed'.size = l.length ∧ listed'.getD late true = false ∧ C w')
    (hend : ∀ a' w', J a full a' w' → wpAnyE P md l.toArray Q C e m full a' w') (hstep : ∀ listed' a' w', J a listed' a' w' → EachOp P md l Q (J a) full listed' a' w' l 0) :
    wpAnyE P md l.toArray Q C e fuel listed a w := wpAnyE_phase (J a) late full ha hJ (by rw [hm]; exact hend) hstep fuel listed a w hf h0
/-- one operation that may come up, as a list of its own -/
theorem wp_of_list {o : Oper} {a : Act} {w : World} {K : Act → World → Prop} (hw : Region.wanted o (yielded l.toArray a.tmps) = true) (_ : ∀ c a w, ¬ Q (.panic c) a w → True) (h : wpList P l.toArray (Behind Q K) [o] a w) : o.wp P a w K Q ∨ (o.asks P a w ∧ LetsOut Q) := by
  have := behind_wp h
  rwa [if_pos hw] at this
end

section
variable {P : Program} {ops : Array Oper} {rest : List Oper} {o : Oper} {a : Act} {w : World} {Q : Exit → Act → World → Prop} {L : List HP} {g : Nat} {T : TypeId}
/-- []T{x, y, ..}, of one-cell values -/
theorem wpList_sliceV (h : Holds w L) (hgd : o.guard = none) {t E : TypeId} {n : Nat} {parts : Array (Nat × Operand)} (ho : o.op = .buildSlice t n parts) (ht : P.underlying t = some (.slice E)) {z : Value}
    (hi : (P.info? E).map (fun i => (i.zero, i.size)) = some (some z, 1)) (vals : List Value) (hp : (parts.map fun (i, x) => (i, a.eval x)).toList = (vals.zipIdx 0).map fun x => (x.2, x.1)) (hone : ∀ v ∈ vals, v.cells = #[v]) (hl : n = vals.length) (h0 : 0 < n) (h1 : n ≤ 16777216)
    (hn : ∀ g w', Holds w' (blk g E vals.toArray :: L) → wpList P ops Q rest (a.put o.dst (.slice (some ⟨g, 0, none⟩) n n)) w') : wpList P ops Q (o :: rest) a w := by
  cases hie : P.info? E with
  | none => rw [hie] at hi; cases hi
  | some ie =>
    rw [hie] at hi
    have hi2 : ie.zero = some z ∧ ie.size = 1 := by simpa using hi
    refine wpList_buildSlice hgd t E n parts ho vals.toArray ie z ht hie hi2.1 (by rw [hi2.2]; omega) (by rw [hi2.2]; omega) ?_ (hn _ _ (h.alloc E vals.toArray))
    rw [hp, hi2.2]
    exact Great.fill_flat _ _ hone (by simp [hl])
/-- []byte{x} -/
theorem wpList_byte1 (h : Holds w L) (hgd : o.guard = none) {t : TypeId} {x : Operand} (ho : o.op = .buildSlice t 1 #[(0, x)]) (ht : P.underlying t = some (.slice 5)) (hi : (P.info? 5).map (fun i => (i.zero, i.size)) = some (some (.int .u8 0), 1)) {b : UInt8} (hx : a.eval x = .int .u8 (b.toNat : Int))
    (hn : ∀ g w', Holds w' (own (.slice (some ⟨g, 0, none⟩) 1 1) [b] :: L) → wpList P ops Q rest (a.put o.dst (.slice (some ⟨g, 0, none⟩) 1 1)) w') : wpList P ops Q (o :: rest) a w :=
  wpList_sliceV h hgd ho ht hi [.int .u8 (b.toNat : Int)] (by simp [hx]) (fun v hv => by rw [List.mem_singleton.1 hv]; rfl) rfl (by decide) (by decide) fun g w' hw => hn g w' (Holds.own_of_blk (xs := [b]) hw (by simp [maxLen]))
/-- []byte{x, y} -/
theorem wpList_byte2 (h : Holds w L) (hgd : o.guard = none) {t : TypeId} {x y : Operand} (ho : o.op = .buildSlice t 2 #[(0, x), (1, y)]) (ht : P.underlying t = some (.slice 5)) (hi : (P.info? 5).map (fun i => (i.zero, i.size)) = some (some (.int .u8 0), 1)) {b c : UInt8} (hx : a.eval x = .int .u8 (b.toNat : Int)) (hy : a.eval y = .int .u8 (c.toNat : Int))
    (hn : ∀ g w', Holds w' (own (.slice (some ⟨g, 0, none⟩) 2 2) [b, c] :: L) → wpList P ops Q rest (a.put o.dst (.slice (some ⟨g, 0, none⟩) 2 2)) w') : wpList P ops Q (o :: rest) a w :=
  wpList_sliceV h hgd ho ht hi [.int .u8 (b.toNat : Int), .int .u8 (c.toNat : Int)] (by simp [hx, hy]) (fun v hv => by rcases List.mem_cons.1 hv with rfl | hv; rfl; rw [List.mem_singleton.1 hv]; rfl) rfl (by decide) (by decide) fun g w' hw => hn g w' (Holds.own_of_blk (xs := [b, c]) hw (by simp [maxLen]))
/-- string(bytes) -/
theorem runs_conv {ty ty' : TypeId} {x : Operand} (ho : o.op = .convert ty ty' x) {v u : Value} (hx : a.eval x = u) (hc : ∀ w, Holds w L → (convert ty ty' u).run P w = .ok v w) : RunsH P o a L v := fun w hw => by
  unfold execOp
  simp only [ho, hx, Sem.run_bind, hc w hw, Result.andThen_ok]
  rfl
/-- a byte of a string -/
theorem runs_strIdx {ty : TypeId} {x y : Operand} (ho : o.op = .index ty x y) {bs : List UInt8} (hx : a.eval x = .string (strOf bs)) {q : IntKind} {k : Nat} (hy : a.eval y = .int q (k : Int)) {b : UInt8} (hb : bs[k]? = some b) (hu : P.underlying ty = some .string) : RunsH P o a L (.int .u8 (b.toNat : Int)) := fun w _ => by
  have hk := List.getElem?_eq_some_iff.1 hb
  have hk1 := hk.1
  unfold execOp
  simp only [ho, hx, hy, run_index_string w ty (strOf bs) q k hu, Sem.run_bind]
  rw [dif_pos ⟨by omega, by rw [strOf_size]; omega⟩]
  have e : (strOf bs)[(k : Int).toNat]'(by rw [strOf_size]; simpa using hk.1) = b := by
    show (strOf bs).data[(k : Int).toNat]'_ = b
    simp [strOf, hk.2]
  rw [e]
  simp only [Result.andThen_ok]
  rfl
end
section
variable {P : Program} {o : Oper} {a : Act} {C : World → Prop}
theorem run_callF {f : FuncId} {xs : Array Operand} {ts : Array TypeId} (ho : o.op = .call { callee := .value (.func f), args := xs, argTypes := ts }) {fn : Func} (hf : P.funcs[f]? = some fn) (hk : (fn.name == "runtime.NumGoroutine" || fn.body.isNone) = false) (w : World) : (execOp a.eval o).run P w = .ok (.enter f (xs.map a.eval)) w := by
  simp only [Bool.or_eq_false_iff] at hk
  have h1 : fn.name ≠ "runtime.NumGoroutine" := beq_eq_false_iff_ne.1 hk.1
  have h2 : fn.body ≠ none := fun e => by rw [e] at hk; exact Bool.noConfusion (show true = false from hk.2)
  unfold execOp
  simp only [ho]
  go_simp
  simp [callFunc, hf, h1, h2]
/-- a call of f that has a known answer and keeps C -/
theorem quiet_callF {K : Act → Prop} (f : FuncId) {v : Value} {xs : Array Operand} {ts : Array TypeId} (ho : o.op = .call { callee := .value (.func f), args := xs, argTypes := ts }) {fn : Func} (hf : P.funcs[f]? = some fn) (hk : (fn.name == "runtime.NumGoroutine" || fn.body.isNone) = false) {al : List Value} (hx : xs.toList.map a.eval = al)
    (hv : ∀ w, C w → Calls P f al.toArray w (fun e w' => e = .returned v ∧ C w')) (h : K (a.put o.dst v)) : o.quiet P a C K := quietCall v f al.toArray (fun w _ => by rw [run_callF ho hf hk w, ← hx, show Array.map a.eval xs = (List.map a.eval xs.toList).toArray from Array.ext' (by simp)]) hv h
end
theorem runs_b2s {o : Oper} {a : Act} {L : List HP} {x : Operand} (ho : o.op = .convert 23 9 x) {A : Option Addr} {n c : Nat} {xs : List UInt8} (hx : a.eval x = .slice A n c) (hn : Hid (n = xs.length)) (hr : Ent L fun w => RD w A xs) : RunsH Tryd.prog o a L (.string (strOf xs)) :=
  runs_conv ho hx fun w hw => conv_rd hn.out (hr w hw)
end Go.Proofs.YtibkngjacdggpaaDoor
/- Calls by a contract; a string's bytes. -/
namespace Go.Proofs.YtibkngjacdggpaaDoor
open Go.RowKit HP

section
variable {P : Program} {ops : Array Oper} {rest : List Oper} {o : Oper} {a : Act} {w : World} {Q : Exit → Act → World → Prop} {L : List HP}
/-- a call, by a contract -/
theorem wpList_callG (f : FuncId) {xs : Array Operand} {ts : Array TypeId} (ho : o.op = .call { callee := .value (.func f), args := xs, argTypes := ts }) {fn : Func} (hf : P.funcs[f]? = some fn) (hk : (fn.name == "runtime.NumGoroutine" || fn.body.isNone) = false) {al : List Value} (hx : xs.toList.map a.eval = al)
    (hw : Region.wanted o (yielded ops a.tmps) = true) {R : Ending → World → Prop} (hc : Calls P f al.toArray w R) (hn : ∀ e w', R e w' → ∃ v, e = .returned v ∧ wpList P ops Q rest (a.put o.dst v) w') : wpList P ops Q (o :: rest) a w :=
  wpList_wanted hw fun K hK => by
    unfold Oper.wp
    rw [run_callF ho hf hk w, show Array.map a.eval xs = al.toArray from Array.ext' (by rw [← hx]; simp), Oper.upon_enter]
    refine hc.mono fun e w' h => ?_
    obtain ⟨v, rfl, h'⟩ := hn e w' h
    exact hK _ _ h'
theorem wp_callG {K : Act → World → Prop} (f : FuncId) {xs : Array Operand} {ts : Array TypeId} (ho : o.op = .call { callee := .value (.func f), args := xs, argTypes := ts }) {fn : Func} (hf : P.funcs[f]? = some fn) (hk : (fn.name == "runtime.NumGoroutine" || fn.body.isNone) = false) {al : List Value} (hx : xs.toList.map a.eval = al)
    {R : Ending → World → Prop} (hc : Calls P f al.toArray w R) (hn : ∀ e w', R e w' → ∃ v, e = .returned v ∧ K (a.put o.dst v) w') : o.wp P a w K Q := by
  unfold Oper.wp
  rw [run_callF ho hf hk w, show Array.map a.eval xs = al.toArray from Array.ext' (by rw [← hx]; simp), Oper.upon_enter]
  refine hc.mono fun e w' h => ?_
  obtain ⟨v, rfl, h'⟩ := hn e w' h
  exact h'
/-- [][]byte{x, y, ..} -/
theorem wpList_parts (h : Holds w L) (hgd : o.guard = none) {t E : TypeId} {n : Nat} {parts : Array (Nat × Operand)} (ho : o.op = .buildSlice t n parts) (ht : P.underlying t = some (.slice E)) {z : Value}
    (hi : (P.info? E).map (fun i => (i.zero, i.size)) = some (some z, 1)) (l : List BS) (hp : parts.toList.map (fun x => (x.1, a.eval x.2)) = ((l.map BS.val).zipIdx 0).map fun x => (x.2, x.1)) (hl : n = l.length) (h0 : 0 < n) (h1 : n ≤ 16777216)
    (hn : ∀ g w', Holds w' (blk g E (l.map BS.val).toArray :: L) → wpList P ops Q rest (a.put o.dst (.slice (some ⟨g, 0, none⟩) n n)) w') : wpList P ops Q (o :: rest) a w :=
  wpList_sliceV h hgd ho ht hi (l.map BS.val) (by rw [Array.toList_map]; exact hp) (fun v hv => by obtain ⟨s, _, rfl⟩ := List.mem_map.1 hv; rfl) (by simp [hl]) h0 h1 hn
theorem wp_sliceV {K : Act → World → Prop} (h : Holds w L) {t E : TypeId} {n : Nat} {parts : Array (Nat × Operand)} (ho : o.op = .buildSlice t n parts) (ht : P.underlying t = some (.slice E)) {z : Value}
    (hi : (P.info? E).map (fun i => (i.zero, i.size)) = some (some z, 1)) (vals : List Value) (hp : parts.toList.map (fun x => (x.1, a.eval x.2)) = (vals.zipIdx 0).map fun x => (x.2, x.1)) (hone : ∀ v ∈ vals, v.cells = #[v]) (hl : n = vals.length) (h0 : 0 < n) (h1 : n ≤ 16777216)
    (hn : ∀ g w', Holds w' (blk g E vals.toArray :: L) → K (a.put o.dst (.slice (some ⟨g, 0, none⟩) n n)) w') : o.wp P a w K Q := by
  cases hie : P.info? E with
  | none => rw [hie] at hi; cases hi
  | some ie =>
    rw [hie] at hi
    have hi2 : ie.zero = some z ∧ ie.size = 1 := by simpa using hi
    refine wp_buildSlice t E n parts ho vals.toArray ie z ht hie hi2.1 (by rw [hi2.2]; omega) (by rw [hi2.2]; omega) ?_ (hn _ _ (h.alloc E vals.toArray))
    have e : (parts.map fun (i, x) => (i, a.eval x)).toList = (vals.zipIdx 0).map fun x => (x.2, x.1) := by rw [Array.toList_map]; exact hp
    rw [e, hi2.2]
    exact Great.fill_flat _ _ hone (by simp [hl])
theorem wp_slb2 {K : Act → World → Prop} (h : Holds w L) {t : TypeId} {x y : Operand} (ho : o.op = .buildSlice t 2 #[(0, x), (1, y)]) (ht : P.underlying t = some (.slice 5)) (hi : (P.info? 5).map (fun i => (i.zero, i.size)) = some (some (.int .u8 0), 1)) {b c : UInt8} (hx : a.eval x = .int .u8 (b.toNat : Int)) (hy : a.eval y = .int .u8 (c.toNat : Int))
    (hn : ∀ g w', Holds w' (own (.slice (some ⟨g, 0, none⟩) 2 2) [b, c] :: L) → K (a.put o.dst (.slice (some ⟨g, 0, none⟩) 2 2)) w') : o.wp P a w K Q :=
  wp_sliceV h ho ht hi [.int .u8 (b.toNat : Int), .int .u8 (c.toNat : Int)] (by simp [hx, hy]) (fun v hv => by rcases List.mem_cons.1 hv with rfl | hv; rfl; rw [List.mem_singleton.1 hv]; rfl) rfl (by decide) (by decide) fun g w' hw => hn g w' (Holds.own_of_blk (xs := [b, c]) hw (by simp [maxLen]))
theorem wp_slb1 {K : Act → World → Prop} (h : Holds w L) {t : TypeId} {x : Operand} (ho : o.op = .buildSlice t 1 #[(0, x)]) (ht : P.underlying t = some (.slice 5)) (hi : (P.info? 5).map (fun i => (i.zero, i.size)) = some (some (.int .u8 0), 1)) {b : UInt8} (hx : a.eval x = .int .u8 (b.toNat : Int))
    (hn : ∀ g w', Holds w' (own (.slice (some ⟨g, 0, none⟩) 1 1) [b] :: L) → K (a.put o.dst (.slice (some ⟨g, 0, none⟩) 1 1)) w') : o.wp P a w K Q :=
  wp_sliceV h ho ht hi [.int .u8 (b.toNat : Int)] (by simp [hx]) (fun v hv => by rw [List.mem_singleton.1 hv]; rfl) rfl (by decide) (by decide) fun g w' hw => hn g w' (Holds.own_of_blk (xs := [b]) hw (by simp [maxLen]))
theorem Holds.rb_of_row {cs : Array Value} {fr : Nat × Nat} {e : TypeId} {xs : List UInt8} (h : Holds w L) (hc : ∀ j (hj : j < xs.length), cs[j]? = some (.int .u8 (xs[j].toNat : Int))) : Holds (w.drew.alloc (.cells cs e fr)) (rb (some ⟨w.heap.size, 0, none⟩) xs :: L) := by
  have h2 := (h.drew).allocF e cs fr
  refine h2.turn fun S hS => ⟨fun k => k = w.heap.size ∧ xs ≠ [], ⟨w.heap.size, fun hx => ⟨0, rfl, fun j hj => ?_⟩, fun _ => Iff.rfl⟩, fun k hk => (hS.2 k).2 hk.1⟩
  rw [Nat.zero_add]
  refine (cell_of_row _ w.heap.size j _ _ _ hS.1).trans ?_
  rw [hc j hj]
  simp [List.getD, hj, bc]
theorem wp_s2b {K : Act → World → Prop} (h : Holds w L) {ty t e : TypeId} {x : Operand} (ho : o.op = .convert ty t x) (hs : P.underlying ty = some .string) (hd : P.underlying t = some (.slice e)) (he : P.underlying e = some (.int .u8)) {xs : List UInt8} (hx : a.eval x = .string (strOf xs))
    (hn : ∀ g c w', xs.length ≤ c → Holds w' (rb (some ⟨g, 0, none⟩) xs :: L) → K (a.put o.dst (.slice (some ⟨g, 0, none⟩) xs.length c)) w') : o.wp P a w K Q := by
  unfold Oper.wp execOp
  simp only [ho, hx, Sem.run_bind, run_bytes_of_string w ty t e (strOf xs) hs hd he, Result.andThen_ok, Sem.run_pure, Oper.upon_value]
  have e1 : (strOf xs).size = xs.length := strOf_size xs
  rw [e1]
  refine hn _ _ _ (grownCap_ge _ _ _ _) (h.rb_of_row fun j hj => ?_)
  have := bytesRow_at (strOf xs) (grownCap w xs.length 0 e) j (by simpa [strOf] using hj)
  rw [this]
  simp [strOf]
end
end Go.Proofs.YtibkngjacdggpaaDoor
