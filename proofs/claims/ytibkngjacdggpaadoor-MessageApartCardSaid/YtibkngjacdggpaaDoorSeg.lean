import Derived.Test.YtibkngjacdggpaaDoorSl
import Derived.MapKept
import Derived.BigQuiet
/- Maps with integer keys as pieces of memory. -/
namespace Go.Proofs.YtibkngjacdggpaaDoor
open Go.RowKit HP

section
variable {α : Type}
/-- what stands at a key -/
def kget : List (Nat × α) → Nat → Option α
  | [], _ => none
  | p :: m, k => if p.1 = k then some p.2 else kget m k
/-- a key is written -/
def kput : List (Nat × α) → Nat → α → List (Nat × α)
  | [], k, v => [(k, v)]
  | p :: m, k, v => if p.1 = k then (k, v) :: m else p :: kput m k v
theorem kget_put (m : List (Nat × α)) (k : Nat) (v : α) (j : Nat) : kget (kput m k v) j = if j = k then some v else kget m j := by
  induction m with
  | nil => simp only [kput, kget]; by_cases h : k = j <;> simp [h, eq_comm]
  | cons p m ih =>
    unfold kput
    by_cases h : p.1 = k
    · rw [if_pos h]
      simp only [kget]
      by_cases h2 : k = j
      · simp [h2]
      · rw [if_neg h2, if_neg (Ne.symm h2), if_neg (by rw [h]; exact h2)]
    · rw [if_neg h]
      simp only [kget, ih]
      by_cases h2 : p.1 = j
      · rw [if_pos h2, if_pos h2, if_neg (by rw [← h2]; exact h)]
      · rw [if_neg h2, if_neg h2]
theorem kput_len (m : List (Nat × α)) (k : Nat) (v : α) : (kput m k v).length ≤ m.length + 1 := by
  induction m with
  | nil => simp [kput]
  | cons p m ih => unfold kput; split <;> simp <;> omega
theorem kput_mem (m : List (Nat × α)) (k : Nat) (v : α) : ∀ p ∈ kput m k v, p ∈ m ∨ p = (k, v) := by
  induction m with
  | nil => intro p hp; simp [kput] at hp; exact .inr hp
  | cons q m ih =>
    intro p hp
    unfold kput at hp
    split at hp
    · rcases List.mem_cons.1 hp with h | h
      · exact .inr h
      · exact .inl (List.mem_cons_of_mem _ h)
    · rcases List.mem_cons.1 hp with h | h
      · exact .inl (by rw [h]; exact List.mem_cons_self)
      · rcases ih p h with h | h
        · exact .inl (List.mem_cons_of_mem _ h)
        · exact .inr h
theorem kget_mem (m : List (Nat × α)) (k : Nat) (v : α) (h : kget m k = some v) : (k, v) ∈ m := by
  induction m with
  | nil => cases h
  | cons p m ih =>
    unfold kget at h
    split at h
    · rename_i e; cases h; rw [← e]; exact List.mem_cons_self
    · exact List.mem_cons_of_mem _ (ih h)

def kents (q : IntKind) (enc : α → Value) (m : List (Nat × α)) (es : List MapEntry) : Prop := es.map (fun e => (e.key, e.val)) = m.map (fun p => (Value.int q (p.1 : Int), enc p.2))
theorem kents_find {q : IntKind} {enc : α → Value} (k : Nat) : ∀ (m : List (Nat × α)) (es : List MapEntry) (i : Nat), kents q enc m es →
    (kget m k = none ∧ Instr.findNow (.int q) (.int q (k : Int)) es i = some none ∧ ∀ v, kput m k v = m ++ [(k, v)]) ∨
    ∃ j e a, kget m k = some a ∧ Instr.findNow (.int q) (.int q (k : Int)) es i = some (some (i + j, enc a)) ∧ es[j]? = some e ∧ e.key = .int q (k : Int) ∧ ∀ v, kput m k v = m.modify j (fun _ => (k, v))
  | [], [], i, _ => .inl ⟨rfl, rfl, fun _ => rfl⟩
  | [], _ :: _, _, h => by simp [kents] at h
  | _ :: _, [], _, h => by simp [kents] at h
  | p :: m, e :: es, i, h => by
    simp only [kents, List.map_cons, List.cons.injEq, Prod.mk.injEq] at h
    obtain ⟨⟨h1, h2⟩, h3⟩ := h
    by_cases hk : p.1 = k
    · refine .inr ⟨0, e, p.2, by simp [kget, hk], ?_, rfl, by rw [h1, hk], fun v => by simp [kput, hk]⟩
      simp [Instr.findNow, Instr.sameNow, h1, h2, hk]
    · have hk' : ((k : Int) == (p.1 : Int)) = false := beq_eq_false_iff_ne.2 (by omega)
      rcases kents_find (q := q) (enc := enc) k m es (i + 1) h3 with ⟨a1, a2, a3⟩ | ⟨j, e', a, a1, a2, a3, a4, a5⟩
      · refine .inl ⟨by simp [kget, hk, a1], by simp [Instr.findNow, Instr.sameNow, h1, hk', a2], fun v => by simp [kput, hk, a3 v]⟩
      · refine .inr ⟨j + 1, e', a, by simp [kget, hk, a1], by simp [Instr.findNow, Instr.sameNow, h1, hk', a2]; omega, by simpa using a3, a4, fun v => by simp [kput, hk, a5 v]⟩
/-- block g is a map with the entries m -/
def HP.kmap (q : IntKind) (enc : α → Value) (g : Nat) (m : List (Nat × α)) : HP := ex fun x : Array MapEntry × Nat => cond (kents q enc m x.1.toList) (mapb g x.1 x.2)
variable {w : World} {R : List HP} {P : Program} {q : IntKind} {enc : α → Value} {g : Nat} {m : List (Nat × α)}
theorem Holds.kmap_new (h : Holds w R) : Holds (w.alloc (.map #[] 0)) (HP.kmap q enc w.heap.size ([] : List (Nat × α)) :: R) := Holds.mk_ex (#[], 0) (Holds.mk_cond rfl h.allocMap)
theorem Holds.kmap_at (h : Holds w (HP.kmap q enc g m :: R)) : ∃ es cl, MapB w g es cl ∧ kents q enc m es.toList := by
  obtain ⟨⟨es, cl⟩, h⟩ := h.ex_
  obtain ⟨hk, h⟩ := h.cond_
  obtain ⟨S, hm, _⟩ := h.head
  exact ⟨es, cl, hm, hk⟩
/-- the value of a lookup -/
def klook (enc : α → Value) (z : Value) (m : List (Nat × α)) (k : Nat) : Value := ((kget m k).map enc).getD z
theorem run_lookupK (mty kt et : TypeId) (hm : P.underlying mty = some (.map kt et)) (hk : P.underlying kt = some (.int q)) (z : Value) (hz : (zeroValue et).run P w = .ok z w)
    (h : Holds w (HP.kmap q enc g m :: R)) (k : Nat) (ok : Bool) :
    (Instr.lookup mty (.map (some g)) (.int q (k : Int)) ok).run P w = .ok (if ok then .tuple #[klook enc z m k, .bool (kget m k).isSome] else klook enc z m k) w := by
  obtain ⟨es, cl, hb, hkk⟩ := h.kmap_at
  have hc : (Instr.checkKey es.isEmpty 10000 kt (.int q (k : Int))).run P w = .ok () w := MapKept.run_checkKey (k := .int q (k : Int)) hk (by simp [MapKept.IsKey]) _ 9999
  rcases kents_find k m es.toList 0 hkk with ⟨a1, a2, _⟩ | ⟨j, e', a, a1, a2, _⟩
  · simp [Instr.lookup, run_underlying hm, MapKept.run_getObj_map hb, hc, MapKept.run_findKey hk a2, hz, Result.andThen, klook, a1]
  · simp [Instr.lookup, run_underlying hm, MapKept.run_getObj_map hb, hc, MapKept.run_findKey hk a2, Result.andThen, klook, a1]
theorem run_updateK (mty kt et : TypeId) (hm : P.underlying mty = some (.map kt et)) (hk : P.underlying kt = some (.int q)) (h : Holds w (HP.kmap q enc g m :: R)) (k : Nat) (a : α) :
    ∃ w', (Instr.mapUpdate mty (.map (some g)) (.int q (k : Int)) (enc a)).run P w = .ok () w' ∧ Holds w' (HP.kmap q enc g (kput m k a) :: R) := by
  obtain ⟨⟨es, cl⟩, h⟩ := h.ex_
  obtain ⟨hkk, h⟩ := h.cond_
  have hb : MapB w g es cl := by obtain ⟨S, hm, _⟩ := h.head; exact hm
  have hc : (Instr.checkKey false 10000 kt (.int q (k : Int))).run P w = .ok () w := MapKept.run_checkKey (k := .int q (k : Int)) hk (by simp [MapKept.IsKey]) _ 9999
  have key : ∀ es' cl', kents q enc (kput m k a) es'.toList → Holds { w with heap := w.heap.setIfInBounds g (.map es' cl') } (HP.kmap q enc g (kput m k a) :: R) := fun es' cl' hk' => by
    refine Holds.mk_ex (es', cl') (Holds.mk_cond hk' (h.change fun S hS => ⟨S, ⟨?_, hS.2⟩, ⟨rfl, rfl, rfl, by simp, fun j hj hn => ?_⟩, fun _ hk => .inl hk⟩))
    · have hlt : g < w.heap.size := hb.lt
      show (w.heap.setIfInBounds g _)[g]? = _
      simp [hlt]
    · have hne : g ≠ j := fun e => hn ((hS.2 j).2 e.symm)
      show (w.heap.setIfInBounds g _)[j]? = _
      simp [hne]
  rcases kents_find k m es.toList 0 hkk with ⟨a1, a2, a3⟩ | ⟨j, e', b, a1, a2, a4, a5, a6⟩
  · refine ⟨{ w with heap := w.heap.setIfInBounds g (.map (es.push { key := .int q (k : Int), val := enc a, born := cl }) (cl + 1)) }, by simp [Instr.mapUpdate, run_underlying hm, MapKept.run_getObj_map hb, hc, MapKept.run_findKey hk a2, MapKept.run_setObj_map _ hb, Result.andThen], ?_⟩
    refine key _ _ ?_
    rw [a3 a]
    unfold kents at hkk ⊢
    simp [hkk]
  · have hj : es[j]? = some e' := by simpa using a4
    have hks : (Instr.keyThatStays (.int q (k : Int)) (.int q (k : Int))).run P w = .ok (.int q (k : Int)) w := MapKept.run_keyThatStays (d := .int q) (by simp [MapKept.IsKey])
    refine ⟨{ w with heap := w.heap.setIfInBounds g (.map (es.modify j fun e => { e with key := .int q (k : Int), val := enc a }) cl) }, by simp [Instr.mapUpdate, run_underlying hm, MapKept.run_getObj_map hb, hc, MapKept.run_findKey hk a2, hj, a5, hks, MapKept.run_setObj_map _ hb, Result.andThen], ?_⟩
    refine key _ _ ?_
    rw [a6 a]
    unfold kents at hkk ⊢
    apply List.ext_getElem?
    intro i
    have hi := congrArg (fun l => l[i]?) hkk
    simp only [Array.toList_modify, List.getElem?_map, List.getElem?_modify] at hi ⊢
    by_cases e : j = i
    · subst e
      have hx : (Option.map (fun e => (e.key, e.val)) es.toList[j]?).isSome = true := by rw [a4]; rfl
      rw [hi] at hx
      cases hmj : m[j]? with
      | none => rw [hmj] at hx; cases hx
      | some p => rw [a4]; simp
    · simp [e]
      simpa using hi
end

section
variable {P : Program} {ops : Array Oper} {rest : List Oper} {o : Oper} {a : Act} {w : World} {Q : Exit → Act → World → Prop} {α : Type} {q : IntKind} {enc : α → Value} {g : Nat} {m : List (Nat × α)} {R : List HP}
theorem wpList_lookupK (h : Holds w (HP.kmap q enc g m :: R)) (hgd : o.guard = none) (mty kt et : TypeId) (x y : Operand) (ok : Bool) (ho : o.op = .lookup mty x y ok) (hx : a.eval x = .map (some g)) (k : Nat) (hy : a.eval y = .int q (k : Int))
    (hm : P.underlying mty = some (.map kt et)) (hk : P.underlying kt = some (.int q)) (z : Value) (hz : (zeroValue et).run P w = .ok z w)
    (hn : wpList P ops Q rest (a.put o.dst (if ok then .tuple #[klook enc z m k, .bool (kget m k).isSome] else klook enc z m k)) w) : wpList P ops Q (o :: rest) a w :=
  wpList_plain hgd fun K hK => by
    unfold Oper.wp execOp
    simp only [ho, hx, hy, Sem.run_bind, Sem.run_pure, run_lookupK mty kt et hm hk z hz h k ok, Result.andThen_ok]
    exact hK _ _ hn
theorem wpList_updateK (h : Holds w (HP.kmap q enc g m :: R)) (hgd : o.guard = none) (mty kt et : TypeId) (x y z : Operand) (ho : o.op = .mapUpdate mty x y z) (hx : a.eval x = .map (some g)) (k : Nat) (hy : a.eval y = .int q (k : Int)) (v : α) (hv : a.eval z = enc v)
    (hm : P.underlying mty = some (.map kt et)) (hk : P.underlying kt = some (.int q))
    (hn : ∀ w', Holds w' (HP.kmap q enc g (kput m k v) :: R) → wpList P ops Q rest (a.put o.dst undef) w') : wpList P ops Q (o :: rest) a w := by
  obtain ⟨w', hrun, hw'⟩ := run_updateK mty kt et hm hk h k v
  refine wpList_plain hgd fun K hK => ?_
  unfold Oper.wp
  simp [execOp, ho, hx, hy, hv, hrun, Result.andThen]
  exact hK _ _ (hn _ hw')
end
end Go.Proofs.YtibkngjacdggpaaDoor
/- A region that draws its order and only reads (its callees may make new memory), walked once in the order of the text, in a class of worlds of one's own. -/
namespace Go.Proofs.YtibkngjacdggpaaDoor
open Go.RowKit HP

section
variable {P : Program} {C : World → Prop} {ops : Array Oper} {o : Oper} {rest : List Oper} {a : Act}
theorem wp_region_quietC (C : World → Prop) {id : Nat} {Q : Exit → Act → World → Prop} {w : World} {l : List Oper} (hm : P.follows .mixedOrders = true) (hB : Region.lexB .any l.toArray = true) (hC : C { w with drawn := w.drawn + 1 })
    (h : wpQuiet P l.toArray C (fun a' => ∀ w', C w' → Q .normal a' w') l a) : (Code.region id l.toArray true).wp P Q a w :=
  wp_region_quiet (C := C) hm hB hC (by simpa using h)
theorem quietV {K : Act → Prop} (v : Value) (hv : ∀ w, C w → (execOp a.eval o).run P w = .ok (.value v) w) (h : K (a.put o.dst v)) : o.quiet P a C K := by
  refine ⟨v, fun w hw' => ?_, h⟩
  unfold Oper.quietAt
  rw [hv w hw']
  exact ⟨rfl, rfl⟩
theorem quietCall {K : Act → Prop} (v : Value) (f : FuncId) (args : Array Value) (he : ∀ w, C w → (execOp a.eval o).run P w = .ok (.enter f args) w) (hv : ∀ w, C w → Calls P f args w (fun e w' => e = .returned v ∧ C w'))
    (h : K (a.put o.dst v)) : o.quiet P a C K := by
  refine ⟨v, fun w hw' => ?_, h⟩
  unfold Oper.quietAt
  rw [he w hw']
  exact ⟨rfl, hv w hw'⟩
/-- a whole row is read -/
theorem quietLoad {K : Act → Prop}
    (ty : TypeId) (x : Operand) (ho : o.op = .load ty x) (b i : Nat) (hx : a.eval x = .pointer (some ⟨b, i, none⟩)) (cs : List Value) (d : TypeDesc) (hSr : ∀ w, C w → w.rangeAt b i cs)
    (hu : P.underlying ty = some d) (hd : d.isRow = true) (hin : (P.info? ty).map (·.size) = some cs.length)
    (h : K (a.put o.dst (.agg cs.toArray))) : o.quiet P a C K :=
  quietV (.agg cs.toArray) (fun w hw' => by
    unfold execOp
    simp only [ho, hx, Instr.loadAt, Instr.sureAddr, Sem.run_bind, Sem.run_pure, Result.andThen_ok, run_loadVar_mid w b i ty cs d (hSr w hw') hu hd hin]) h
end
end Go.Proofs.YtibkngjacdggpaaDoor
/- Blocks of segments: single values, and runs of bytes; operations on them in any world that holds the pieces L. -/
namespace Go.Proofs.YtibkngjacdggpaaDoor
open Go.RowKit HP

/-- a range in the midst of a block -/
theorem Blk.midS {w : World} {g : Nat} {t : TypeId} {cs : Array Value} (h : Blk w g t cs) (pre mid post : List Value) (he : cs.toList = pre ++ (mid ++ post)) : w.rangeAt g pre.length mid := fun j v hv => by
  have hj := List.getElem?_eq_some_iff.1 hv
  rw [h.cell, ← Array.getElem?_toList, he, List.getElem?_append_right (by omega), show pre.length + j - pre.length = j by omega, List.getElem?_append_left hj.1]
  exact hv
theorem putA_midS (pre mid mid' post : List Value) (hl : mid'.length = mid.length) : putA (pre ++ (mid ++ post)).toArray pre.length mid' = (pre ++ (mid' ++ post)).toArray := by
  simp only [putA, List.take_left, hl]
  rw [← List.drop_drop, List.drop_left, List.drop_left, List.append_assoc]
theorem set_midS (pre : List Value) (a b : Value) (post : List Value) : (pre ++ a :: post).toArray.setIfInBounds pre.length b = (pre ++ b :: post).toArray := by
  simp
inductive Sg where
  | o (v : Value)
  | b (n : Nat) (xs : List UInt8)
def Sg.len : Sg → Nat
  | .o _ => 1
  | .b n _ => n
def Sg.vals : Sg → List Value
  | .o v => [v]
  | .b _ xs => bcs xs
def flat : List Sg → List Value
  | [] => []
  | .o v :: l => v :: flat l
  | [.b _ xs] => bcs xs
  | .b _ xs :: s :: l => bcs xs ++ flat (s :: l)
theorem flat_cons (s : Sg) (l : List Sg) : flat (s :: l) = s.vals ++ flat l := by
  cases s with
  | o v => rfl
  | b n xs => cases l <;> simp [flat, Sg.vals]
theorem flat_append (l r : List Sg) : flat (l ++ r) = flat l ++ flat r := by
  induction l with
  | nil => rfl
  | cons s l ih => rw [List.cons_append, flat_cons, flat_cons, ih, List.append_assoc]
def SgOk : List Sg → Prop
  | [] => True
  | .o v :: l => v.oneCell' = true ∧ SgOk l
  | .b n xs :: l => xs.length = n ∧ SgOk l
def sglen : List Sg → Nat
  | [] => 0
  | s :: l => s.len + sglen l
theorem SgOk.append {l r : List Sg} : SgOk (l ++ r) ↔ SgOk l ∧ SgOk r := by
  induction l with
  | nil => simp [SgOk]
  | cons s l ih => cases s <;> simp [SgOk, ih, and_assoc]
theorem flat_len {l : List Sg} (h : SgOk l) : (flat l).length = sglen l := by
  induction l with
  | nil => rfl
  | cons s l ih =>
    rw [flat_cons, List.length_append]
    cases s with
    | o v => rw [ih h.2]; rfl
    | b n xs => rw [ih h.2]; show (bcs xs).length + _ = n + _; rw [length_bcs, h.1]
theorem flat_ones {l : List Sg} (h : SgOk l) : ∀ v ∈ flat l, v.oneCell' = true := by
  induction l with
  | nil => intro v hv; cases hv
  | cons s l ih =>
    rw [flat_cons]
    intro v hv
    rcases List.mem_append.1 hv with hv | hv
    · cases s with
      | o u => rw [List.mem_singleton.1 hv]; exact h.1
      | b n xs => exact bcs_one v hv
    · exact ih (by cases s <;> exact h.2) v hv
theorem sglen_append (l r : List Sg) : sglen (l ++ r) = sglen l + sglen r := by
  induction l with
  | nil => simp [sglen]
  | cons s l ih => simp [sglen, ih]; omega
/-- the first n cells, and the others -/
def splitSg : List Sg → Nat → Option (List Sg × List Sg)
  | [], n => match n with
    | 0 => some ([], [])
    | _ + 1 => none
  | s :: l, n => match n with
    | 0 => some ([], s :: l)
    | n + 1 => match s with
      | .o v => match splitSg l n with
        | some (a, r) => some (.o v :: a, r)
        | none => none
      | .b m xs => match Nat.ble m (n + 1) with
        | true => match splitSg l (n + 1 - m) with
          | some (a, r) => some (.b m xs :: a, r)
          | none => none
        | false => none
theorem splitSg_ok : ∀ {l : List Sg} {n : Nat} {a r : List Sg}, splitSg l n = some (a, r) → l = a ++ r ∧ sglen a = n := by
  intro l
  induction l with
  | nil =>
    intro n a r h
    cases n with
    | zero => simp [splitSg] at h; obtain ⟨rfl, rfl⟩ := h; exact ⟨rfl, rfl⟩
    | succ n => simp [splitSg] at h
  | cons s l ih =>
    intro n a r h
    cases n with
    | zero => simp [splitSg] at h; obtain ⟨rfl, rfl⟩ := h; exact ⟨rfl, rfl⟩
    | succ n =>
      cases s with
      | o v =>
        simp only [splitSg] at h
        split at h
        · rename_i a' r' hh
          cases h
          obtain ⟨h1, h2⟩ := ih hh
          exact ⟨by rw [h1]; rfl, by simp [sglen, Sg.len, h2]; omega⟩
        · cases h
      | b m xs =>
        simp only [splitSg] at h
        split at h
        · rename_i hb
          have hb' := Nat.le_of_ble_eq_true hb
          split at h
          · rename_i a' r' hh
            cases h
            obtain ⟨h1, h2⟩ := ih hh
            exact ⟨by rw [h1]; rfl, by simp [sglen, Sg.len, h2]; omega⟩
          · cases h
        · cases h
/-- ahead of off, n cells from there, and what is behind -/
def cutSg (l : List Sg) (off n : Nat) : Option (List Sg × List Sg × List Sg) :=
  match splitSg l off with
  | some (a, r) => match splitSg r n with
    | some (m, b) => some (a, m, b)
    | none => none
  | none => none
theorem cutSg_ok {l a m b : List Sg} {off n : Nat} (h : cutSg l off n = some (a, m, b)) : l = a ++ (m ++ b) ∧ sglen a = off ∧ sglen m = n := by
  unfold cutSg at h
  split at h
  · rename_i a' r hh
    obtain ⟨h1, h2⟩ := splitSg_ok hh
    split at h
    · rename_i m' b' hh2
      cases h
      obtain ⟨h3, h4⟩ := splitSg_ok hh2
      exact ⟨by rw [h1, h3], h2, h4⟩
    · cases h
  · cases h
theorem flat_cut {l a m b : List Sg} {off n : Nat} (hok : SgOk l) (h : cutSg l off n = some (a, m, b)) : flat l = flat a ++ (flat m ++ flat b) ∧ (flat a).length = off ∧ (flat m).length = n ∧ SgOk a ∧ SgOk m ∧ SgOk b := by
  obtain ⟨rfl, h2, h3⟩ := cutSg_ok h
  obtain ⟨h4, h5⟩ := SgOk.append.1 hok
  obtain ⟨h6, h7⟩ := SgOk.append.1 h5
  exact ⟨by rw [flat_append, flat_append], by rw [flat_len h4, h2], by rw [flat_len h6, h3], h4, h6, h7⟩

/-- how a state is laid out anew -/
theorem put_rules : (∀ (t : Array Value) (d : List Deferred) (v : Value), Act.put ⟨t, d⟩ none v = ⟨t, d⟩) ∧ (∀ (t : Array Value) (d : List Deferred) (i : Tmp) (v : Value), Act.put ⟨t, d⟩ (some i) v = ⟨t.setIfInBounds i v, d⟩) ∧
    (∀ (l : List Value) (i : Nat) (v : Value), l.toArray.setIfInBounds i v = (l.set i v).toArray) ∧ (∀ (x y : Value) (l : List Value), (x :: l).set 0 y = y :: l) ∧ (∀ (x y : Value) (l : List Value) (n : Nat), (x :: l).set (n + 1) y = x :: l.set n y) ∧
    (∀ (l : List Bool) (i : Nat) (v : Bool), l.toArray.setIfInBounds i v = (l.set i v).toArray) ∧ (∀ (x y : Bool) (l : List Bool), (x :: l).set 0 y = y :: l) ∧ (∀ (x y : Bool) (l : List Bool) (n : Nat), (x :: l).set (n + 1) y = x :: l.set n y) ∧
    (∀ (x y : Value), (if true = true then x else y) = x) ∧ (∀ (x y : Value), (if false = true then x else y) = y) :=
  ⟨fun _ _ _ => rfl, fun _ _ _ _ => rfl, fun _ _ _ => List.setIfInBounds_toArray _ _ _, fun _ _ _ => rfl, fun _ _ _ _ => rfl, fun _ _ _ => List.setIfInBounds_toArray _ _ _, fun _ _ _ => rfl, fun _ _ _ _ => rfl, fun _ _ => rfl, fun _ _ => rfl⟩
theorem rep_rules : (∀ l : List Oper, l.toArray.size = l.length) ∧ (∀ (x : Oper) (l : List Oper), (x :: l).length = l.length + 1) ∧ (([] : List Oper).length = 0) ∧ (∀ n, Array.replicate (n + 1) false = (Array.replicate n false).push false) ∧ (Array.replicate 0 false = ([] : List Bool).toArray) ∧
    (∀ (l : List Bool) (a : Bool), l.toArray.push a = (l ++ [a]).toArray) ∧ (∀ (x : Bool) (l r : List Bool), (x :: l) ++ r = x :: (l ++ r)) ∧ (∀ (l : List Bool), [] ++ l = l) :=
  ⟨fun _ => rfl, fun _ _ => rfl, rfl, fun _ => Array.replicate_succ, rfl, fun _ _ => by simp, fun _ _ _ => rfl, fun _ => rfl⟩
theorem era_rules : (∀ (x : HP) (l : List HP), (x :: l).eraseIdx 0 = l) ∧ (∀ (x : HP) (l : List HP) (n : Nat), (x :: l).eraseIdx (n + 1) = x :: l.eraseIdx n) := ⟨fun _ _ => rfl, fun _ _ _ => rfl⟩
theorem hps_rules : (∀ (x y : HP) (l : List HP), (x :: l).set 0 y = y :: l) ∧ (∀ (x y : HP) (l : List HP) (n : Nat), (x :: l).set (n + 1) y = x :: l.set n y) ∧
    (∀ (x : Sg) (l r : List Sg), (x :: l) ++ r = x :: (l ++ r)) ∧ (∀ (l : List Sg), [] ++ l = l) ∧ (∀ (l : List Sg), l ++ [] = l) ∧ (∀ (x : HP) (l : List HP), (x :: l).eraseIdx 0 = l) ∧ (∀ (x : HP) (l : List HP) (n : Nat), (x :: l).eraseIdx (n + 1) = x :: l.eraseIdx n) ∧
    (∀ (t : Array Value) (d : List Deferred) (i : Tmp), Act.eval ⟨t, d⟩ (.tmp i) = t.getD i undef) ∧ (∀ (t : Array Value) (d : List Deferred) (v : Value), Act.eval ⟨t, d⟩ (.const v) = v) ∧ (∀ (l : List Value) (i : Nat) (v : Value), l.toArray.getD i v = l.getD i v) ∧
    (∀ (x : Value) (l : List Value) (v : Value), (x :: l).getD 0 v = x) ∧ (∀ (x : Value) (l : List Value) (n : Nat) (v : Value), (x :: l).getD (n + 1) v = l.getD n v) :=
  ⟨fun _ _ _ => rfl, fun _ _ _ _ => rfl, fun _ _ _ => rfl, fun _ => rfl, fun _ => List.append_nil _, fun _ _ => rfl, fun _ _ _ => rfl, fun _ _ _ => rfl, fun _ _ _ => rfl, fun l i v => by simp, fun _ _ _ => rfl, fun _ _ _ _ => rfl⟩
/-- block g, of segments -/
def HP.sblk (g : Nat) (T : TypeId) (l : List Sg) : HP := cond (SgOk l) (blk g T (flat l).toArray)
theorem perm_set {L : List HP} {i : Nat} {P : HP} (hi : L[i]? = some P) (Q : HP) : (Q :: L.eraseIdx i).Perm (L.set i Q) := by
  induction L generalizing i with
  | nil => simp at hi
  | cons X L ih =>
    cases i with
    | zero => simp
    | succ i => exact (List.Perm.swap _ _ _).trans ((ih (i := i) (by simpa using hi)).cons X)
section
variable {w w' : World} {L R : List HP} {g : Nat} {T : TypeId} {S a m b : List Sg} {P Q : HP}
/-- piece i back to its place, as another one -/
theorem Holds.back {i : Nat} (h : Holds w (Q :: L.eraseIdx i)) (hi : L[i]? = some P) : Holds w (L.set i Q) := h.perm (perm_set hi Q)
theorem Holds.sblk_ok (h : Holds w L) (i : Nat) (hi : L[i]? = some (sblk g T S)) : SgOk S := ((h.pull i hi).cond_).1
theorem Holds.sblk_range (h : Holds w L) (i : Nat) (hi : L[i]? = some (sblk g T S)) {off n : Nat} (hc : cutSg S off n = some (a, m, b)) : w.rangeAt g off (flat m) := by
  obtain ⟨hok, h1⟩ := (h.pull i hi).cond_
  obtain ⟨h2, h3, h4, _⟩ := flat_cut hok hc
  have := Blk.midS h1.blk (flat a) (flat m) (flat b) (by simpa using h2)
  rwa [h3] at this
theorem Holds.sblk_cell (h : Holds w L) (i : Nat) (hi : L[i]? = some (sblk g T S)) {off : Nat} {v : Value} (hc : cutSg S off 1 = some (a, [.o v], b)) : w.cell? ⟨g, off, none⟩ = some v := by
  have := h.sblk_range i hi hc 0 v rfl
  simpa using this
theorem Holds.sblk_set (h : Holds w L) (i : Nat) (hi : L[i]? = some (sblk g T S)) {off : Nat} {u : Value} (hc : cutSg S off 1 = some (a, [.o u], b)) (v : Value) (hv : v.oneCell' = true) :
    Holds (w.setCell ⟨g, off, none⟩ v) (L.set i (sblk g T (a ++ .o v :: b))) := by
  obtain ⟨hok, h1⟩ := (h.pull i hi).cond_
  obtain ⟨h2, h3, h4, h5, h6, h7⟩ := flat_cut hok hc
  have h8 := h1.set_ off v
  refine Holds.back (i := i) (Holds.mk_cond (SgOk.append.2 ⟨h5, hv, h7⟩) ?_) hi
  have e : (flat S).toArray.setIfInBounds off v = (flat (a ++ .o v :: b)).toArray := by
    rw [h2, flat_append, ← h3]
    exact set_midS (flat a) u v (flat b)
  rwa [e] at h8
theorem Holds.sblk_free (h : Holds w L) (i : Nat) (hi : L[i]? = some (sblk g T S)) (off : Nat) : w.frozen? ⟨g, off, none⟩ = false := ((h.pull i hi).cond_).2.free off
theorem Holds.sblk_put (h : Holds w L) (i : Nat) (hi : L[i]? = some (sblk g T S)) {off n : Nat} (hc : cutSg S off n = some (a, m, b)) {M : List Sg} (hM : SgOk M) (hn : sglen M = n)
    (hb : Blk w' g T (putA (flat S).toArray off (flat M))) (hk : Kept w w' (· = g)) : Holds w' (L.set i (sblk g T (a ++ (M ++ b)))) := by
  obtain ⟨hok, h1⟩ := (h.pull i hi).cond_
  obtain ⟨h2, h3, h4, h5, h6, h7⟩ := flat_cut hok hc
  refine Holds.back (i := i) (Holds.mk_cond (SgOk.append.2 ⟨h5, SgOk.append.2 ⟨hM, h7⟩⟩) (h1.reblk ?_ hk)) hi
  have e : putA (flat S).toArray off (flat M) = (flat (a ++ (M ++ b))).toArray := by
    rw [h2, flat_append, flat_append, ← h3]
    exact putA_midS (flat a) (flat m) (flat M) (flat b) (by rw [h4, flat_len hM, hn])
  rwa [e] at hb
theorem Holds.sblk_new (h : Holds w L) (T : TypeId) (S : List Sg) (hS : SgOk S) : Holds (w.alloc (.cells (flat S).toArray T)) (sblk w.heap.size T S :: L) := Holds.mk_cond hS (h.alloc T _)
end

/-! ### operations that only read -/
/-- In every world with the pieces L the operation has the value v and leaves the world. -/
def RunsH (P : Program) (o : Oper) (a : Act) (L : List HP) (v : Value) : Prop := ∀ w, Holds w L → (execOp a.eval o).run P w = .ok (.value v) w
section
variable {P : Program} {ops : Array Oper} {rest : List Oper} {o : Oper} {a : Act} {w : World} {Q : Exit → Act → World → Prop} {L : List HP} {g : Nat} {T : TypeId} {S : List Sg}
theorem wpList_runs (h : Holds w L) (hw : Region.wanted o (yielded ops a.tmps) = true) {v : Value} (hr : RunsH P o a L v) (hn : wpList P ops Q rest (a.put o.dst v) w) : wpList P ops Q (o :: rest) a w :=
  wpList_wanted hw fun K hK => by
    unfold Oper.wp
    rw [hr w h]
    exact hK _ _ hn
theorem quiet_runs {K : Act → Prop} {v : Value} (hr : RunsH P o a L v) (h : K (a.put o.dst v)) : o.quiet P a (fun w => Holds w L) K := quietV v hr h
theorem runs_of {v : Value} (h : ∀ w, (execOp a.eval o).run P w = .ok (.value v) w) : RunsH P o a L v := fun w _ => h w
theorem run_loadVar_one {P : Program} {w : World} {ty : TypeId} {A : Addr} {v : Value} (hd : (P.underlying ty).map TypeDesc.isRow = some false) (hc : w.cell? A = some v) : (loadVar ty A).run P w = .ok v w := by
  cases hu : P.underlying ty with
  | none => rw [hu] at hd; cases hd
  | some d =>
    rw [hu] at hd
    have hd' : d.isRow = false := by simpa using hd
    cases d <;> simp [loadVar, isAgg, run_underlying hu, Result.andThen, hc] <;> simp [TypeDesc.isRow] at hd'
theorem runs_ld1 (i : Nat) {ty : TypeId} {x : Operand} (ho : o.op = .load ty x) {off : Nat} (hx : a.eval x = .pointer (some ⟨g, off, none⟩)) (hi : L[i]? = some (sblk g T S)) {a' b' : List Sg} {v : Value} (hc : cutSg S off 1 = some (a', [.o v], b'))
    (hd : (P.underlying ty).map TypeDesc.isRow = some false) : RunsH P o a L v := fun w hw => by
  unfold execOp
  simp only [ho, hx, Instr.loadAt, Instr.sureAddr, Sem.run_bind, Sem.run_pure, Result.andThen_ok, run_loadVar_one hd (hw.sblk_cell i hi hc)]
theorem runs_ldR (i : Nat) {ty : TypeId} {x : Operand} (ho : o.op = .load ty x) {off : Nat} (hx : a.eval x = .pointer (some ⟨g, off, none⟩)) (hi : L[i]? = some (sblk g T S)) {a' m b' : List Sg} {n : Nat} (hc : cutSg S off n = some (a', m, b'))
    {d : TypeDesc} (hu : P.underlying ty = some d) (hd : d.isRow = true) (hn : (P.info? ty).map (·.size) = some n) : RunsH P o a L (.agg (flat m).toArray) := fun w hw => by
  obtain ⟨h2, h3, h4, _⟩ := flat_cut (hw.sblk_ok i hi) hc
  unfold execOp
  simp only [ho, hx, Instr.loadAt, Instr.sureAddr, Sem.run_bind, Sem.run_pure, Result.andThen_ok, run_loadVar_mid w g off ty (flat m) d (hw.sblk_range i hi hc) hu hd (by rw [h4]; exact hn)]
/-- a field of a value -/
theorem runs_field1 {xT : TypeId} {x : Operand} {f : Nat} (ho : o.op = .field xT x f) (hx : a.eval x = .agg (flat S).toArray) (hok : SgOk S) {fs : Array Field} (hu : P.underlying xT = some (.struct fs)) {fd : Field} (hf : fs[f]? = some fd)
    {a' b' : List Sg} {v : Value} (hc : cutSg S fd.offset 1 = some (a', [.o v], b')) (hd : P.plainKey fd.type = true) : RunsH P o a L v := fun w _ => by
  obtain ⟨h2, h3, _⟩ := flat_cut hok hc
  have hp : (part fd.type (flat S).toArray fd.offset).run P w = .ok v w := run_part_plain w hd (by
    rw [List.getElem?_toArray, h2, List.getElem?_append_right (by omega), h3, Nat.sub_self]; rfl)
  unfold execOp
  simp [ho, hx, Instr.field, run_underlying hu, hf, asAgg, Result.andThen, hp]
theorem runs_fieldR {xT : TypeId} {x : Operand} {f : Nat} (ho : o.op = .field xT x f) (hx : a.eval x = .agg (flat S).toArray) (hok : SgOk S) {fs : Array Field} (hu : P.underlying xT = some (.struct fs)) {fd : Field} (hf : fs[f]? = some fd)
    {a' m b' : List Sg} {n : Nat} (hc : cutSg S fd.offset n = some (a', m, b')) (hd : (P.underlying fd.type).map TypeDesc.isRow = some true) (hn : (P.info? fd.type).map (·.size) = some n) : RunsH P o a L (.agg (flat m).toArray) := fun w _ => by
  obtain ⟨h2, h3, h4, _⟩ := flat_cut hok hc
  have hp : (part fd.type (flat S).toArray fd.offset).run P w = .ok (.agg (flat m).toArray) w := by
    cases hu2 : P.underlying fd.type with
    | none => rw [hu2] at hd; cases hd
    | some d =>
      rw [hu2] at hd
      have hd' : d.isRow = true := by simpa using hd
      cases hi : P.info? fd.type with
      | none => rw [hi] at hn; cases hn
      | some t =>
        rw [hi] at hn
        have hsz : t.size = n := by simpa using hn
        have he : (flat S).toArray.extract fd.offset (fd.offset + n) = (flat m).toArray := by
          apply Array.ext'
          simp only [List.extract_toArray, List.extract_eq_take_drop]
          rw [h2, ← h3, List.drop_left, show (flat a').length + n - (flat a').length = n by omega, ← h4, List.take_left]
        have he2 : List.take n (List.drop fd.offset (flat S)) = flat m := by rw [h2, ← h3, List.drop_left, ← h4, List.take_left]
        cases d <;> simp [TypeDesc.isRow] at hd' <;> simp [part, isAgg, run_underlying hu2, sizeOf, typeInfo, hi, Result.andThen, hsz, he2]
  unfold execOp
  simp [ho, hx, Instr.field, run_underlying hu, hf, asAgg, Result.andThen, hp]
/-- a map is asked -/
theorem runs_lookup {α : Type} {q : IntKind} {enc : α → Value} {m : List (Nat × α)} (i : Nat) {mty kt et : TypeId} {x y : Operand} {ok : Bool} (ho : o.op = .lookup mty x y ok) (hx : a.eval x = .map (some g)) (hi : L[i]? = some (kmap q enc g m)) {k : Nat} (hy : a.eval y = .int q (k : Int))
    (hm : P.underlying mty = some (.map kt et)) (hk : P.underlying kt = some (.int q)) (d : α) (hz : (P.info? et).map (·.zero) = some (some (enc d))) {c : α} (hc : (kget m k).getD d = c) {bo : Bool} (hb : (kget m k).isSome = bo) :
    RunsH P o a L (if ok then .tuple #[enc c, .bool bo] else enc c) := fun w hw => by
  have hz' : (zeroValue et).run P w = .ok (enc d) w := by
    cases h : P.info? et with
    | none => rw [h] at hz; cases hz
    | some t =>
      rw [h] at hz
      have hz2 : t.zero = some (enc d) := by simpa using hz
      simp [zeroValue, typeInfo, h, hz2, Result.andThen]
  have e : klook enc (enc d) m k = enc c := by rw [← hc]; unfold klook; cases kget m k <;> rfl
  unfold execOp
  simp only [ho, hx, hy, Sem.run_bind, Sem.run_pure, run_lookupK mty kt et hm hk (enc d) hz' (hw.pull i hi) k ok, Result.andThen_ok, e, hb]

/-! ### building a struct -/
theorem foldl_put {off : Nat} (vs : List Value) : ∀ (pre mid post : List Value) (j : Nat), mid.length = vs.length → pre.length = off + j → (vs.zipIdx j).foldl (fun (cs : Array Value) (c, j) => cs.setIfInBounds (off + j) c) (pre ++ (mid ++ post)).toArray = (pre ++ (vs ++ post)).toArray := by
  induction vs with
  | nil => intro pre mid post j hm _; rw [List.eq_nil_of_length_eq_zero hm]; rfl
  | cons v vs ih =>
    intro pre mid post j hm hp
    cases mid with
    | nil => cases hm
    | cons u mid =>
      simp only [List.zipIdx_cons, List.foldl_cons]
      have e : (pre ++ (u :: mid ++ post)).toArray.setIfInBounds (off + j) v = ((pre ++ [v]) ++ (mid ++ post)).toArray := by
        rw [← hp]
        simp
      rw [e, ih (pre ++ [v]) mid post (j + 1) (by simpa using hm) (by simp [hp]; omega)]
      simp
theorem fill_nil (p : Nat → Option (Nat × Nat)) (c : Array Value) : Instr.fill p c [] = some c := rfl
theorem fill_cons {p : Nat → Option (Nat × Nat)} {i off n : Nat} {v : Value} {r : List (Nat × Value)} {Z M a' m b' : List Sg} {X : Array Value} (hp : p i = some (off, n)) (hv : v.cells = (flat M).toArray) (hM : SgOk M) (hn : sglen M = n) (hZ : SgOk Z)
    (hc : cutSg Z off n = some (a', m, b')) (h : SgOk (a' ++ (M ++ b')) → Instr.fill p (flat (a' ++ (M ++ b'))).toArray r = some X) : Instr.fill p (flat Z).toArray ((i, v) :: r) = some X := by
  obtain ⟨h2, h3, h4, h5, h6, h7⟩ := flat_cut hZ hc
  have hl : v.cells.size = n := by rw [hv]; simp [flat_len hM, hn]
  have hz : (flat Z).toArray.size = (flat a').length + ((flat m).length + (flat b').length) := by rw [h2]; simp
  unfold Instr.fill
  simp only [hp]
  rw [if_neg (by rw [hl, hz, h3, h4]; simp)]
  have e : v.cells.zipIdx.foldl (fun cs (c, j) => cs.setIfInBounds (off + j) c) (flat Z).toArray = (flat (a' ++ (M ++ b'))).toArray := by
    rw [hv, h2, flat_append, flat_append, ← Array.foldl_toList, Array.toList_zipIdx]
    exact foldl_put (flat M) (flat a') (flat m) (flat b') 0 (by rw [h4, flat_len hM, hn]) (by rw [h3]; rfl)
  rw [e]
  exact h (SgOk.append.2 ⟨h5, SgOk.append.2 ⟨hM, h7⟩⟩)
theorem runs_build {t : TypeId} {parts : Array (Nat × Operand)} (ho : o.op = .build t parts) {fs : Array Field} (hu : P.underlying t = some (.struct fs)) (places : Array (Nat × Nat)) (hp : ∀ w, (fs.mapM fun f => do pure (f.offset, ← sizeOf f.type) : Sem (Array (Nat × Nat))).run P w = .ok places w)
    {zs M : List Sg} (hz : (P.info? t).map (·.zero) = some (some (.agg (flat zs).toArray))) (hf : Instr.fill (places[·]?) (flat zs).toArray (parts.toList.map fun (i, x) => (i, a.eval x)) = some (flat M).toArray) : RunsH P o a L (.agg (flat M).toArray) := fun w _ => by
  rw [← Array.toList_map] at hf
  have hz' : (zeroValue t).run P w = .ok (.agg (flat zs).toArray) w := by
    cases h : P.info? t with
    | none => rw [h] at hz; cases hz
    | some ti =>
      rw [h] at hz
      have hz2 : ti.zero = some (.agg (flat zs).toArray) := by simpa using hz
      simp [zeroValue, typeInfo, h, hz2, Result.andThen]
  have hb : ∀ (X : Array (Nat × Value)), Instr.fill (places[·]?) (flat zs).toArray X.toList = some (flat M).toArray → (Instr.build t X).run P w = .ok (.agg (flat M).toArray) w := fun X hX => by
    unfold Instr.build
    simp only [Sem.run_bind, hz', run_underlying hu, Result.andThen_ok]
    rw [hp w]
    simp only [Result.andThen_ok, Value.cells, hX]
    rfl
  unfold execOp
  simp only [ho, Sem.run_bind, hb _ hf, Result.andThen_ok]
  rfl

/-! ### operations that write -/
theorem wpList_st1 (h : Holds w L) (hgd : o.guard = none) {ty : TypeId} {x y : Operand} (ho : o.op = .store ty x y) {off : Nat} (hx : a.eval x = .pointer (some ⟨g, off, none⟩)) (i : Nat) (hi : L[i]? = some (sblk g T S)) {a' b' : List Sg} {u : Value} (hc : cutSg S off 1 = some (a', [.o u], b'))
    {v : Value} (hy : a.eval y = v) (h1 : v.oneCell' = true) (hsz : (P.info? ty).map (·.size) = some 1)
    (hn : ∀ w', Holds w' (L.set i (sblk g T (a' ++ .o v :: b'))) → wpList P ops Q rest (a.put o.dst undef) w') : wpList P ops Q (o :: rest) a w :=
  wpList_store_one hgd ty x y ho g off v hx hy h1 hsz u (h.sblk_cell i hi hc) (h.sblk_free i hi off) (hn _ (h.sblk_set i hi hc v h1))
theorem wpList_stR (h : Holds w L) (hgd : o.guard = none) {ty : TypeId} {x y : Operand} (ho : o.op = .store ty x y) {off : Nat} (hx : a.eval x = .pointer (some ⟨g, off, none⟩)) (i : Nat) (hi : L[i]? = some (sblk g T S)) {M : List Sg} (hy : a.eval y = .agg (flat M).toArray)
    {a' m b' : List Sg} {n : Nat} (hc : cutSg S off n = some (a', m, b')) (hM : SgOk M) (hl : sglen M = n) (hsz : (P.info? ty).map (·.size) = some n)
    (hn : ∀ w', Holds w' (L.set i (sblk g T (a' ++ (M ++ b')))) → wpList P ops Q rest (a.put o.dst undef) w') : wpList P ops Q (o :: rest) a w := by
  obtain ⟨hok, hb⟩ := (h.pull i hi).cond_
  obtain ⟨h2, h3, h4, h5, h6, h7⟩ := flat_cut hok hc
  refine wpList_store_blk hgd ty x y ho g off (flat M).toArray hx hy T (flat S).toArray hb.blk (by rw [hsz]; simp [flat_len hM, hl]) (by rw [h2]; simp [flat_len hM, hl]; omega) (flat_ones hM) fun w' hb' hk' => hn w' ?_
  exact h.sblk_put i hi hc hM hl hb' hk'
theorem run_box {w : World} {ty : TypeId} {v : Value} : (Instr.box ty v).run P w = .ok (.pointer (some ⟨w.heap.size, 0, none⟩)) (w.alloc (.cells v.cells ty)) := by
  simp [Instr.box, newVar, newRow, Result.andThen]
theorem wpList_box (h : Holds w L) (hgd : o.guard = none) {ty : TypeId} {x : Operand} (ho : o.op = .box ty x) {v : Value} (hx : a.eval x = v) {M : List Sg} (hv : v.cells = (flat M).toArray) (hM : SgOk M)
    (hn : ∀ g w', Holds w' (sblk g ty M :: L) → wpList P ops Q rest (a.put o.dst (.pointer (some ⟨g, 0, none⟩))) w') : wpList P ops Q (o :: rest) a w :=
  wpList_plain hgd fun K hK => by
    unfold Oper.wp execOp
    simp only [ho, hx, run_box, Sem.run_bind, Sem.run_pure, Result.andThen_ok]
    refine hK _ _ (hn _ _ ?_)
    rw [hv]
    exact h.sblk_new ty M hM
theorem run_alloc {w : World} {ty : TypeId} {z : Value} (hz : (P.info? ty).map (·.zero) = some (some z)) : (Instr.alloc ty true (.tuple #[])).run P w = .ok (.pointer (some ⟨w.heap.size, 0, none⟩)) (w.alloc (.cells z.cells ty)) := by
  cases h : P.info? ty with
  | none => rw [h] at hz; cases hz
  | some ti =>
    rw [h] at hz
    have hz2 : ti.zero = some z := by simpa using hz
    simp [Instr.alloc, zeroValue, typeInfo, h, hz2, newVar, newRow, Result.andThen]
theorem wpList_alloc (h : Holds w L) (hgd : o.guard = none) {ty : TypeId} (ho : o.op = .alloc ty) {z : Value} (hz : (P.info? ty).map (·.zero) = some (some z)) {M : List Sg} (hv : z.cells = (flat M).toArray) (hM : SgOk M)
    (hn : ∀ g w', Holds w' (sblk g ty M :: L) → wpList P ops Q rest (a.put o.dst (.pointer (some ⟨g, 0, none⟩))) w') : wpList P ops Q (o :: rest) a w :=
  wpList_plain hgd fun K hK => by
    unfold Oper.wp execOp
    simp only [ho, run_alloc hz, Sem.run_bind, Sem.run_pure, Result.andThen_ok]
    refine hK _ _ (hn _ _ ?_)
    rw [hv]
    exact h.sblk_new ty M hM
theorem wpList_makeMap {α : Type} (q : IntKind) (enc : α → Value) (h : Holds w L) (hgd : o.guard = none) {ty : TypeId} (ho : o.op = .makeMap ty none)
    (hn : ∀ g w', Holds w' (kmap q enc g ([] : List (Nat × α)) :: L) → wpList P ops Q rest (a.put o.dst (.map (some g))) w') : wpList P ops Q (o :: rest) a w :=
  wpList_plain hgd fun K hK => by
    have hr : (Instr.makeMap ty none).run P w = .ok (.map (some w.heap.size)) (w.alloc (.map #[] 0)) := by simp [Instr.makeMap, Result.andThen]
    unfold Oper.wp execOp
    simp only [ho, Option.map_none, hr, Sem.run_bind, Sem.run_pure, Result.andThen_ok]
    exact hK _ _ (hn _ _ h.kmap_new)
theorem wpList_updK {α : Type} {q : IntKind} {enc : α → Value} {m : List (Nat × α)} (h : Holds w L) (hgd : o.guard = none) {mty kt et : TypeId} {x y z : Operand} (ho : o.op = .mapUpdate mty x y z) (hx : a.eval x = .map (some g)) (i : Nat) (hi : L[i]? = some (kmap q enc g m))
    {k : Nat} (hy : a.eval y = .int q (k : Int)) (v : α) (hv : a.eval z = enc v) (hm : P.underlying mty = some (.map kt et)) (hk : P.underlying kt = some (.int q))
    (hn : ∀ w', Holds w' (L.set i (kmap q enc g (kput m k v))) → wpList P ops Q rest (a.put o.dst undef) w') : wpList P ops Q (o :: rest) a w :=
  wpList_updateK (h.pull i hi) hgd mty kt et x y z ho hx k hy v hv hm hk fun w' hw => hn w' (hw.back hi)
end

/-- []T{x} -/
theorem wpList_slice1 {P : Program} {ops : Array Oper} {rest : List Oper} {o : Oper} {a : Act} {w : World} {Q : Exit → Act → World → Prop} {L : List HP} (h : Holds w L) (hgd : o.guard = none) {t E : TypeId} {x : Operand} (ho : o.op = .buildSlice t 1 #[(0, x)]) (ht : P.underlying t = some (.slice E)) {z : Value} {n : Nat}
    (hi : (P.info? E).map (fun i => (i.zero, i.size)) = some (some z, n)) (hn0 : 0 < n) (hn1 : n ≤ 16777216) {M : List Sg} (hx : (a.eval x).cells = (flat M).toArray) (hM : SgOk M) (hl : sglen M = n)
    (hn : ∀ g w', Holds w' (sblk g E M :: L) → wpList P ops Q rest (a.put o.dst (.slice (some ⟨g, 0, none⟩) 1 1)) w') : wpList P ops Q (o :: rest) a w := by
  have hcs : (a.eval x).cells.size = n := by rw [hx]; simp [flat_len hM, hl]
  have hfill : ∀ Z : Array Value, Z.size = n → Instr.fill (fun i => some (i * n, n)) Z [(0, a.eval x)] = some (a.eval x).cells := fun Z hZ => by
    unfold Instr.fill
    simp only [Nat.zero_mul]
    rw [if_neg (by simp [hcs, hZ])]
    have e : (a.eval x).cells.zipIdx.foldl (fun cs (c, j) => cs.setIfInBounds (0 + j) c) Z = (a.eval x).cells := by
      rw [hx, ← Array.foldl_toList, Array.toList_zipIdx]
      have := foldl_put (off := 0) (flat M) [] Z.toList [] 0 (by rw [flat_len hM, hl, ← hZ]; simp) rfl
      simpa using this
    rw [e]
    rfl
  have hrun : (Instr.buildSlice t 1 #[(0, a.eval x)]).run P w = .ok (.slice (some ⟨w.heap.size, 0, none⟩) 1 1) (w.alloc (.cells (flat M).toArray E)) := by
    cases hq : P.info? E with
    | none => rw [hq] at hi; cases hi
    | some ti =>
      rw [hq] at hi
      have h2 : ti.zero = some z ∧ ti.size = n := by simpa using hi
      have hne : ¬ n = 0 := by omega
      have hle : ¬ 16777216 < n := by omega
      have hsz : (sizeOf E).run P w = .ok n w := by simp only [sizeOf, Sem.run_bind, run_typeInfo w hq, Result.andThen_ok, Sem.run_pure, h2.2]
      have hz : (zeroValue E).run P w = .ok z w := by simp [zeroValue, Sem.run_bind, run_typeInfo w hq, Result.andThen_ok, h2.1]
      have hf := hfill ((Array.range n).map (z.cells[· % z.cells.size]!)) (by simp)
      unfold Instr.buildSlice
      simp only [Sem.run_bind, run_underlying ht, Result.andThen_ok, hsz, Nat.one_mul, hne, if_false]
      rw [if_neg (by simpa using hle)]
      simp only [Sem.run_bind, hz, Sem.run_pure, Result.andThen_ok, hf]
      simp [newRow, hx, Result.andThen]
  exact wpList_plain hgd fun K hK => by
    unfold Oper.wp execOp
    simp only [ho, List.map_toArray, List.map_cons, List.map_nil, hrun, Sem.run_bind, Sem.run_pure, Result.andThen_ok]
    exact hK _ _ (hn _ _ (h.sblk_new E M hM))
/-! ### rows of elements -/
/-- the slice v owns a row of the elements l, each of sz cells -/
def HP.arr {α : Type} (E : TypeId) (sz : Nat) (enc : α → List Sg) (v : Value) (l : List α) : HP := cond (∀ x ∈ l, SgOk (enc x) ∧ sglen (enc x) = sz) (row E sz v l.length (l.flatMap fun x => flat (enc x)))
section
variable {P : Program} {ops : Array Oper} {rest : List Oper} {o : Oper} {a : Act} {w : World} {Q : Exit → Act → World → Prop} {L R : List HP} {α : Type} {E : TypeId} {sz : Nat} {enc : α → List Sg} {v : Value} {l : List α}
theorem Holds.arr_nil (h : Holds w R) (E : TypeId) (sz : Nat) (enc : α → List Sg) : Holds w (arr E sz enc (.slice none 0 0) ([] : List α) :: R) := Holds.mk_cond (fun _ h => by cases h) (h.nil_row E sz)
/-- its slice -/
theorem Holds.arr_form (h : Holds w L) (i : Nat) (hi : L[i]? = some (arr E sz enc v l)) : ∃ A c, v = .slice A l.length c ∧ l.length ≤ c ∧ c ≤ maxLen ∧ (l ≠ [] → ∃ g, A = some ⟨g, 0, none⟩) := by
  obtain ⟨hx, h⟩ := (h.pull i hi).cond_
  obtain ⟨S, hS, _⟩ := h.head
  rcases hS.2 with ⟨rfl, hn⟩ | ⟨g, c, cur, rfl, _, hg, h1, h2, h3, h4⟩
  · exact ⟨none, 0, by rw [hn], by omega, Nat.zero_le _, fun hl => absurd (List.length_eq_zero_iff.1 hn) hl⟩
  · exact ⟨some ⟨g, 0, none⟩, c, rfl, h1, h2, fun _ => ⟨g, rfl⟩⟩
theorem flatMap_at (hl : ∀ x ∈ l, (flat (enc x)).length = sz) : ∀ (k : Nat) (x : α), l[k]? = some x → ∃ pre post, (l.flatMap fun x => flat (enc x)) = pre ++ (flat (enc x) ++ post) ∧ pre.length = k * sz := by
  induction l with
  | nil => intro k x h; simp at h
  | cons y l ih =>
    intro k x h
    cases k with
    | zero =>
      obtain rfl : y = x := by simpa using h
      exact ⟨[], l.flatMap fun x => flat (enc x), by simp, by simp⟩
    | succ k =>
      obtain ⟨pre, post, h1, h2⟩ := ih (fun x hx => hl x (List.mem_cons_of_mem _ hx)) k x (by simpa using h)
      exact ⟨flat (enc y) ++ pre, post, by rw [List.flatMap_cons, h1]; simp, by simp [h2, hl y List.mem_cons_self, Nat.succ_mul]; omega⟩
theorem Holds.arr_range (h : Holds w L) (i : Nat) {g n c : Nat} (hi : L[i]? = some (arr E sz enc (.slice (some ⟨g, 0, none⟩) n c) l)) {k : Nat} {x : α} (hk : l[k]? = some x) : w.rangeAt g (k * sz) (flat (enc x)) := by
  obtain ⟨hx, h⟩ := (h.pull i hi).cond_
  obtain ⟨A', c', e', _, _, hr⟩ := h.row_form
  cases e'
  obtain ⟨pre, post, h1, h2⟩ := flatMap_at (fun x h => by rw [flat_len (hx x h).1, (hx x h).2]) k x hk
  intro j u hu
  have hj := (List.getElem?_eq_some_iff.1 hu).1
  obtain ⟨g', o', e, hc⟩ := hr (fun e => by rw [e] at h1; simp at h1; rw [h1.2.1] at hj; simp at hj)
  cases e
  have := hc (k * sz + j) u (by rw [h1, List.getElem?_append_right (by omega), h2, Nat.add_sub_cancel_left, List.getElem?_append_left hj]; exact hu)
  rwa [Nat.zero_add] at this
theorem runs_ldrowR (i : Nat) {ty : TypeId} {x : Operand} (ho : o.op = .load ty x) {g off n c : Nat} (hx : a.eval x = .pointer (some ⟨g, off, none⟩)) (hi : L[i]? = some (arr E sz enc (.slice (some ⟨g, 0, none⟩) n c) l)) {k : Nat} {y : α} (hk : l[k]? = some y) (hoff : off = k * sz)
    {d : TypeDesc} (hu : P.underlying ty = some d) (hd : d.isRow = true) (hn : (P.info? ty).map (·.size) = some sz) : RunsH P o a L (.agg (flat (enc y)).toArray) := fun w hw => by
  have hxs := ((hw.pull i hi).cond_).1 y (List.mem_of_getElem? hk)
  unfold execOp
  simp only [ho, hx, Instr.loadAt, Instr.sureAddr, Sem.run_bind, Sem.run_pure, Result.andThen_ok, run_loadVar_mid w g off ty (flat (enc y)) d (by rw [hoff]; exact hw.arr_range i hi hk) hu hd (by rw [flat_len hxs.1, hxs.2]; exact hn)]
theorem runs_ldrow1 (i : Nat) {ty : TypeId} {x : Operand} (ho : o.op = .load ty x) {g off n c : Nat} (hx : a.eval x = .pointer (some ⟨g, off, none⟩)) (hi : L[i]? = some (arr E 1 enc (.slice (some ⟨g, 0, none⟩) n c) l)) {k : Nat} {y : α} (hk : l[k]? = some y) (hoff : off = k)
    {v : Value} (he : enc y = [.o v]) (hd : (P.underlying ty).map TypeDesc.isRow = some false) : RunsH P o a L v := fun w hw => by
  have hr := hw.arr_range i hi hk 0 v (by rw [he]; rfl)
  unfold execOp
  simp only [ho, hx, Instr.loadAt, Instr.sureAddr, Sem.run_bind, Sem.run_pure, Result.andThen_ok, run_loadVar_one hd (show w.cell? ⟨g, off, none⟩ = some v by rw [hoff]; simpa using hr)]
/-- append of one element that lies in a block of its own -/
theorem wpList_app1 (h : Holds w L) (i j : Nat) (hgd : o.guard = none) {s x : Operand} {t : TypeId} (ho : o.op = .call { callee := .builtin .append, args := #[s, x], argTypes := #[t, t] }) (hs : a.eval s = v) (hi : L[i]? = some (arr E sz enc v l))
    {g c : Nat} (hx : a.eval x = .slice (some ⟨g, 0, none⟩) 1 c) {T : TypeId} (y : α) (hj : L[j]? = some (sblk g T (enc y))) (hy : SgOk (enc y)) (hlen : sglen (enc y) = sz)
    (ht : P.underlying t = some (.slice E)) (z : Value) (bytes : Nat) (hinf : (P.info? E).map (fun i => (i.zero, i.size, i.bytes)) = some (some z, sz, bytes)) (hzs : z.cells.size = sz) (hsz : 0 < sz) (h63 : l.length + 1 ≤ maxLen) (hb : (l.length + 1) * bytes ≤ 140737488355328)
    (hn : ∀ v' w', Holds w' (L.set i (arr E sz enc v' (l ++ [y]))) → wpList P ops Q rest (a.put o.dst v') w') : wpList P ops Q (o :: rest) a w := by
  obtain ⟨hxs, h1⟩ := (h.pull i hi).cond_
  have hr : RowRd w (some ⟨g, 0, none⟩) (flat (enc y)) := fun _ => ⟨g, 0, rfl, fun k u hu => by
    have := ((h.pull j hj).cond_).2.cells k
    rw [Nat.zero_add, this, List.getElem?_toArray]; exact hu⟩
  refine wpList_app_row hgd s x t E z sz bytes ho ht hinf hzs hsz v l.length _ h1 hs _ 1 c (flat (enc y)) (by rw [flat_len hy, hlen, Nat.one_mul]) hx hr (flat_ones hy) h63 hb fun v' w' hw => hn v' w' (Holds.back (i := i) (Holds.mk_cond ?_ ?_) hi)
  · intro x hx
    rcases List.mem_append.1 hx with hx | hx
    · exact hxs x hx
    · rw [List.mem_singleton.1 hx]; exact ⟨hy, hlen⟩
  · simpa using hw
/-- one element in a block of its own is a row of one -/
theorem Holds.sblk_arr1 (h : Holds w L) (i : Nat) {g : Nat} (y : α) (hi : L[i]? = some (sblk g E (enc y))) (hlen : sglen (enc y) = sz) : Holds w (L.set i (arr E sz enc (.slice (some ⟨g, 0, none⟩) 1 1) [y])) := by
  obtain ⟨hok, h1⟩ := (h.pull i hi).cond_
  refine Holds.back (i := i) (Holds.mk_cond (fun x hx => by rw [List.mem_singleton.1 hx]; exact ⟨hok, hlen⟩) (h1.turn fun S hS => ⟨S, ⟨?_, fun k => ?_⟩, fun _ h => h⟩)) hi
  · refine ⟨by simp [flat_len hok, hlen], .inr ⟨g, 1, (flat (enc y)).toArray, rfl, Nat.zero_le _, hS.1, Nat.le_refl _, by decide, by simp [flat_len hok, hlen], by simp [List.take_of_length_le, flat_len hok, hlen]⟩⟩
  · simp [Value.ownBlock, hS.2, eq_comm]
/-- results that lie in memory -/
theorem results_cellS {fn : Func} {p q : Tmp} {ty T : TypeId} {S : List Sg} {tmps : Array Value} {g : Nat} {d : TypeDesc} (h : fn.results = #[.cell p ty, .tmp q]) (hw : Holds w L) (i : Nat) (hi : L[i]? = some (sblk g T S)) (hp : tmps.getD p undef = .pointer (some ⟨g, 0, none⟩))
    (hu : P.underlying ty = some d) (hd : d.isRow = true) (hn : (P.info? ty).map (·.size) = some (sglen S)) : (results fn tmps).run P w = .ok (.tuple #[.agg (flat S).toArray, tmps.getD q undef]) w := by
  obtain ⟨hok, h1⟩ := (hw.pull i hi).cond_
  have hr : w.rangeAt g 0 (flat S) := Blk.midS h1.blk [] (flat S) [] (by simp)
  have hp' : tmps[p]?.getD undef = .pointer (some ⟨g, 0, none⟩) := by simpa using hp
  simp [results, h, hp', asAddr, run_loadVar_mid w g 0 ty (flat S) d hr hu hd (by rw [hn, flat_len hok])]
theorem results_cellS1 {fn : Func} {p : Tmp} {ty T : TypeId} {S : List Sg} {tmps : Array Value} {g : Nat} {d : TypeDesc} (h : fn.results = #[.cell p ty]) (hw : Holds w L) (i : Nat) (hi : L[i]? = some (sblk g T S)) (hp : tmps.getD p undef = .pointer (some ⟨g, 0, none⟩))
    (hu : P.underlying ty = some d) (hd : d.isRow = true) (hn : (P.info? ty).map (·.size) = some (sglen S)) : (results fn tmps).run P w = .ok (.agg (flat S).toArray) w := by
  obtain ⟨hok, h1⟩ := (hw.pull i hi).cond_
  have hr : w.rangeAt g 0 (flat S) := Blk.midS h1.blk [] (flat S) [] (by simp)
  have hp' : tmps[p]?.getD undef = .pointer (some ⟨g, 0, none⟩) := by simpa using hp
  simp [results, h, hp', asAddr, run_loadVar_mid w g 0 ty (flat S) d hr hu hd (by rw [hn, flat_len hok])]
end
end Go.Proofs.YtibkngjacdggpaaDoor
