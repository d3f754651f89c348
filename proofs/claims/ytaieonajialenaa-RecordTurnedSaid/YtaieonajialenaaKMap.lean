/- Maps with integer keys as pieces of memory. -/
import Derived.Test.YtaieonajialenaaSl
import Derived.MapKept
namespace Go.Proofs.Ytaieonajialenaa
open Go.RowKit HP

section
variable {α : Type}
/-- what stands at a key -/
def kget : List (Nat × α) → Nat → Option α
  | [], _ => none
  | p :: m, k => if p.1 = k then some p.2 else kget m k
/-- a key is written -/
def kput : List (Nat × α) → Nat → α → List (Nat × α)
  | [], k, v => [(k, v)]
  | p :: m, k, v => if p.1 = k then (k, v) :: m else p :: kput m k v
theorem kget_put (m : List (Nat × α)) (k : Nat) (v : α) (j : Nat) : kget (kput m k v) j = if j = k then some v else kget m j := by
  induction m with
  | nil => simp only [kput, kget]; by_cases h : k = j <;> simp [h, eq_comm]
  | cons p m ih =>
    unfold kput
    by_cases h : p.1 = k
    · rw [if_pos h]
      simp only [kget]
      by_cases h2 : k = j
      · simp [h2]
      · rw [if_neg h2, if_neg (Ne.symm h2), if_neg (by rw [h]; exact h2)]
    · rw [if_neg h]
      simp only [kget, ih]
      by_cases h2 : p.1 = j
      · rw [if_pos h2, if_pos h2, if_neg (by rw [← h2]; exact h)]
      · rw [if_neg h2, if_neg h2]
theorem kput_len (m : List (Nat × α)) (k : Nat) (v : α) : (kput m k v).length ≤ m.length + 1 := by
  induction m with
  | nil => simp [kput]
  | cons p m ih => unfold kput; split <;> simp <;> omega
theorem kput_mem (m : List (Nat × α)) (k : Nat) (v : α) : ∀ p ∈ kput m k v, p ∈ m ∨ p = (k, v) := by
  induction m with
  | nil => intro p hp; simp [kput] at hp; exact .inr hp
  | cons q m ih =>
    intro p hp
    unfold kput at hp
    split at hp
    · rcases List.mem_cons.1 hp with h | h
      · exact .inr h
      · exact .inl (List.mem_cons_of_mem _ h)
    · rcases List.mem_cons.1 hp with h | h
      · exact .inl (by rw [h]; exact List.mem_cons_self)
      · rcases ih p h with h | h
        · exact .inl (List.mem_cons_of_mem _ h)
        · exact .inr h
theorem kget_mem (m : List (Nat × α)) (k : Nat) (v : α) (h : kget m k = some v) : (k, v) ∈ m := by
  induction m with
  | nil => cases h
  | cons p m ih =>
    unfold kget at h
    split at h
    · rename_i e; cases h; rw [← e]; exact List.mem_cons_self
    · exact List.mem_cons_of_mem _ (ih h)

def kents (q : IntKind) (enc : α → Value) (m : List (Nat × α)) (es : List MapEntry) : Prop := es.map (fun e => (e.key, e.val)) = m.map (fun p => (Value.int q (p.1 : Int), enc p.2))
theorem kents_find {q : IntKind} {enc : α → Value} (k : Nat) : ∀ (m : List (Nat × α)) (es : List MapEntry) (i : Nat), kents q enc m es →
    (kget m k = none ∧ Instr.findNow (.int q) (.int q (k : Int)) es i = some none ∧ ∀ v, kput m k v = m ++ [(k, v)]) ∨
    ∃ j e a, kget m k = some a ∧ Instr.findNow (.int q) (.int q (k : Int)) es i = some (some (i + j, enc a)) ∧ es[j]? = some e ∧ e.key = .int q (k : Int) ∧ ∀ v, kput m k v = m.modify j (fun _ => (k, v))
  | [], [], i, _ => .inl ⟨rfl, rfl, fun _ => rfl⟩
  | [], _ :: _, _, h => by simp [kents] at h
  | _ :: _, [], _, h => by simp [kents] at h
  | p :: m, e :: es, i, h => by
    simp only [kents, List.map_cons, List.cons.injEq, Prod.mk.injEq] at h
    obtain ⟨⟨h1, h2⟩, h3⟩ := h
    by_cases hk : p.1 = k
    · refine .inr ⟨0, e, p.2, by simp [kget, hk], ?_, rfl, by rw [h1, hk], fun v => by simp [kput, hk]⟩
      simp [Instr.findNow, Instr.sameNow, h1, h2, hk]
    · have hk' : ((k : Int) == (p.1 : Int)) = false := beq_eq_false_iff_ne.2 (by omega)
      rcases kents_find (q := q) (enc := enc) k m es (i + 1) h3 with ⟨a1, a2, a3⟩ | ⟨j, e', a, a1, a2, a3, a4, a5⟩
      · refine .inl ⟨by simp [kget, hk, a1], by simp [Instr.findNow, Instr.sameNow, h1, hk', a2], fun v => by simp [kput, hk, a3 v]⟩
      · refine .inr ⟨j + 1, e', a, by simp [kget, hk, a1], by simp [Instr.findNow, Instr.sameNow, h1, hk', a2]; omega, by simpa using a3, a4, fun v => by simp [kput, hk, a5 v]⟩
/-- block g is a map with the entries m -/
def HP.kmap (q : IntKind) (enc : α → Value) (g : Nat) (m : List (Nat × α)) : HP := ex fun x : Array MapEntry × Nat => cond (kents q enc m x.1.toList) (mapb g x.1 x.2)
variable {w : World} {R : List HP} {P : Program} {q : IntKind} {enc : α → Value} {g : Nat} {m : List (Nat × α)}
theorem Holds.kmap_new (h : Holds w R) : Holds (w.alloc (.map #[] 0)) (HP.kmap q enc w.heap.size ([] : List (Nat × α)) :: R) := Holds.mk_ex (#[], 0) (Holds.mk_cond rfl h.allocMap)
theorem Holds.kmap_at (h : Holds w (HP.kmap q enc g m :: R)) : ∃ es cl, MapB w g es cl ∧ kents q enc m es.toList := by
  obtain ⟨⟨es, cl⟩, h⟩ := h.ex_
  obtain ⟨hk, h⟩ := h.cond_
  obtain ⟨S, hm, _⟩ := h.head
  exact ⟨es, cl, hm, hk⟩
/-- the value of a lookup -/
def klook (enc : α → Value) (z : Value) (m : List (Nat × α)) (k : Nat) : Value := ((kget m k).map enc).getD z
theorem run_lookupK (mty kt et : TypeId) (hm : P.underlying mty = some (.map kt et)) (hk : P.underlying kt = some (.int q)) (z : Value) (hz : (zeroValue et).run P w = .ok z w)
    (h : Holds w (HP.kmap q enc g m :: R)) (k : Nat) (ok : Bool) :
    (Instr.lookup mty (.map (some g)) (.int q (k : Int)) ok).run P w = .ok (if ok then .tuple #[klook enc z m k, .bool (kget m k).isSome] else klook enc z m k) w := by
  obtain ⟨es, cl, hb, hkk⟩ := h.kmap_at
  have hc : (Instr.checkKey es.isEmpty 10000 kt (.int q (k : Int))).run P w = .ok () w := MapKept.run_checkKey (k := .int q (k : Int)) hk (by simp [MapKept.IsKey]) _ 9999
  rcases kents_find k m es.toList 0 hkk with ⟨a1, a2, _⟩ | ⟨j, e', a, a1, a2, _⟩
  · simp [Instr.lookup, run_underlying hm, MapKept.run_getObj_map hb, hc, MapKept.run_findKey hk a2, hz, Result.andThen, klook, a1]
  · simp [Instr.lookup, run_underlying hm, MapKept.run_getObj_map hb, hc, MapKept.run_findKey hk a2, Result.andThen, klook, a1]
theorem run_updateK (mty kt et : TypeId) (hm : P.underlying mty = some (.map kt et)) (hk : P.underlying kt = some (.int q)) (h : Holds w (HP.kmap q enc g m :: R)) (k : Nat) (a : α) :
    ∃ w', (Instr.mapUpdate mty (.map (some g)) (.int q (k : Int)) (enc a)).run P w = .ok () w' ∧ Holds w' (HP.kmap q enc g (kput m k a) :: R) := by
  obtain ⟨⟨es, cl⟩, h⟩ := h.ex_
  obtain ⟨hkk, h⟩ := h.cond_
  have hb : MapB w g es cl := by obtain ⟨S, hm, _⟩ := h.head; exact hm
  have hc : (Instr.checkKey false 10000 kt (.int q (k : Int))).run P w = .ok () w := MapKept.run_checkKey (k := .int q (k : Int)) hk (by simp [MapKept.IsKey]) _ 9999
  have key : ∀ es' cl', kents q enc (kput m k a) es'.toList → Holds { w with heap := w.heap.setIfInBounds g (.map es' cl') } (HP.kmap q enc g (kput m k a) :: R) := fun es' cl' hk' => by
    refine Holds.mk_ex (es', cl') (Holds.mk_cond hk' (h.change fun S hS => ⟨S, ⟨?_, hS.2⟩, ⟨rfl, rfl, rfl, by simp, fun j hj hn => ?_⟩, fun _ hk => .inl hk⟩))
    · have hlt : g < w.heap.size := hb.lt
      show (w.heap.setIfInBounds g _)[g]? = _
      simp [hlt]
    · have hne : g ≠ j := fun e => hn ((hS.2 j).2 e.symm)
      show (w.heap.setIfInBounds g _)[j]? = _
      simp [hne]
  rcases kents_find k m es.toList 0 hkk with ⟨a1, a2, a3⟩ | ⟨j, e', b, a1, a2, a4, a5, a6⟩
  · refine ⟨{ w with heap := w.heap.setIfInBounds g (.map (es.push { key := .int q (k : Int), val := enc a, born := cl }) (cl + 1)) }, by simp [Instr.mapUpdate, run_underlying hm, MapKept.run_getObj_map hb, hc, MapKept.run_findKey hk a2, MapKept.run_setObj_map _ hb, Result.andThen], ?_⟩
    refine key _ _ ?_
    rw [a3 a]
    unfold kents at hkk ⊢
    simp [hkk]
  · have hj : es[j]? = some e' := by simpa using a4
    have hks : (Instr.keyThatStays (.int q (k : Int)) (.int q (k : Int))).run P w = .ok (.int q (k : Int)) w := MapKept.run_keyThatStays (d := .int q) (by simp [MapKept.IsKey])
    refine ⟨{ w with heap := w.heap.setIfInBounds g (.map (es.modify j fun e => { e with key := .int q (k : Int), val := enc a }) cl) }, by simp [Instr.mapUpdate, run_underlying hm, MapKept.run_getObj_map hb, hc, MapKept.run_findKey hk a2, hj, a5, hks, MapKept.run_setObj_map _ hb, Result.andThen], ?_⟩
    refine key _ _ ?_
    rw [a6 a]
    unfold kents at hkk ⊢
    apply List.ext_getElem?
    intro i
    have hi := congrArg (fun l => l[i]?) hkk
    simp only [Array.toList_modify, List.getElem?_map, List.getElem?_modify] at hi ⊢
    by_cases e : j = i
    · subst e
      have hx : (Option.map (fun e => (e.key, e.val)) es.toList[j]?).isSome = true := by rw [a4]; rfl
      rw [hi] at hx
      cases hmj : m[j]? with
      | none => rw [hmj] at hx; cases hx
      | some p => rw [a4]; simp
    · simp [e]
      simpa using hi
end

section
variable {P : Program} {ops : Array Oper} {rest : List Oper} {o : Oper} {a : Act} {w : World} {Q : Exit → Act → World → Prop} {α : Type} {q : IntKind} {enc : α → Value} {g : Nat} {m : List (Nat × α)} {R : List HP}
theorem wpList_lookupK (h : Holds w (HP.kmap q enc g m :: R)) (hgd : o.guard = none) (mty kt et : TypeId) (x y : Operand) (ok : Bool) (ho : o.op = .lookup mty x y ok) (hx : a.eval x = .map (some g)) (k : Nat) (hy : a.eval y = .int q (k : Int))
    (hm : P.underlying mty = some (.map kt et)) (hk : P.underlying kt = some (.int q)) (z : Value) (hz : (zeroValue et).run P w = .ok z w)
    (hn : wpList P ops Q rest (a.put o.dst (if ok then .tuple #[klook enc z m k, .bool (kget m k).isSome] else klook enc z m k)) w) : wpList P ops Q (o :: rest) a w :=
  wpList_plain hgd fun K hK => by
    unfold Oper.wp execOp
    simp only [ho, hx, hy, Sem.run_bind, Sem.run_pure, run_lookupK mty kt et hm hk z hz h k ok, Result.andThen_ok]
    exact hK _ _ hn
theorem wpList_updateK (h : Holds w (HP.kmap q enc g m :: R)) (hgd : o.guard = none) (mty kt et : TypeId) (x y z : Operand) (ho : o.op = .mapUpdate mty x y z) (hx : a.eval x = .map (some g)) (k : Nat) (hy : a.eval y = .int q (k : Int)) (v : α) (hv : a.eval z = enc v)
    (hm : P.underlying mty = some (.map kt et)) (hk : P.underlying kt = some (.int q))
    (hn : ∀ w', Holds w' (HP.kmap q enc g (kput m k v) :: R) → wpList P ops Q rest (a.put o.dst undef) w') : wpList P ops Q (o :: rest) a w := by
  obtain ⟨w', hrun, hw'⟩ := run_updateK mty kt et hm hk h k v
  refine wpList_plain hgd fun K hK => ?_
  unfold Oper.wp
  simp [execOp, ho, hx, hy, hv, hrun, Result.andThen]
  exact hK _ _ (hn _ hw')
end
end Go.Proofs.Ytaieonajialenaa
