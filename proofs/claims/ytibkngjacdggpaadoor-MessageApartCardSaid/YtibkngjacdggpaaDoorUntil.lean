/- A region that draws its order: a condition C on the world that need hold only until one operation e (a store to what the region reads) has come up. -/
import Derived.Test.YtibkngjacdggpaaDoorSeg
import Derived.OrdersHeld
namespace Go.Proofs.YtibkngjacdggpaaDoor
open Go.RowKit HP

section
variable {P : Program} {ops : Array Oper} {Q : Exit → Act → World → Prop} {md : Region.Mode} {C : World → Prop} {e : Nat}

/-- Whatever order is picked; C holds behind each operation until e has come up. -/
def wpAnyE (P : Program) (md : Region.Mode) (ops : Array Oper) (Q : Exit → Act → World → Prop) (C : World → Prop) (e : Nat) : Nat → Array Bool → Act → World → Prop
  | 0, listed, a, w => Region.ready md ops listed = [] ∧ Q .normal a w
  | fuel + 1, listed, a, w =>
    (Region.ready md ops listed = [] → Q .normal a w) ∧
    ∀ i ∈ Region.ready md ops listed, wpOp P ops Q i (fun a' w' => ((listed.setIfInBounds i true).getD e true = false → C w') ∧ wpAnyE P md ops Q C e fuel (listed.setIfInBounds i true) a' w') a w
theorem wpAny_of_until : ∀ (fuel : Nat) (listed : Array Bool) (a : Act) (w : World), wpAnyE P md ops Q C e fuel listed a w → wpAny P md ops Q fuel listed a w
  | 0, _, _, _, h => h
  | fuel + 1, _, _, _, h => ⟨h.1, fun i hi => wpOp_mono (fun a' w' h' => wpAny_of_until fuel _ a' w' h'.2) (h.2 i hi)⟩

/-- what has come up waited for what it had to -/
def Shutn (md : Region.Mode) (ops : Array Oper) (listed : Array Bool) : Prop := ∀ j oj, ops[j]? = some oj → listed.getD j true = true → ∀ ed ∈ oj.after, Region.binds md ed = true → listed.getD ed.on true = true
def shutB (md : Region.Mode) (l : List Oper) (listed : Array Bool) : Nat → Bool
  | k => match l with
    | [] => true
    | o :: r => (match listed.getD k true with
      | true => o.after.all fun ed => !(Region.binds md ed) || listed.getD ed.on true
      | false => true) && shutB md r listed (k + 1)
theorem shutB_at (listed : Array Bool) : ∀ (l : List Oper) (k : Nat), shutB md l listed k = true → ∀ j oj, l[j]? = some oj → listed.getD (k + j) true = true → ∀ ed ∈ oj.after, Region.binds md ed = true → listed.getD ed.on true = true := by
  intro l
  induction l with
  | nil => intro k _ j oj h; simp at h
  | cons o l ih =>
    intro k h j oj hj hl ed hed hb
    simp only [shutB, Bool.and_eq_true] at h
    cases j with
    | zero =>
      obtain rfl : o = oj := by simpa using hj
      have h1 := h.1
      rw [Nat.add_zero] at hl
      rw [hl] at h1
      simp only at h1
      rw [Array.all_eq_true_iff_forall_mem] at h1
      have h2 := h1 ed hed
      rw [hb] at h2
      simpa using h2
    | succ j => exact ih (k + 1) h.2 j oj (by simpa using hj) (by rw [show k + 1 + j = k + (j + 1) by omega]; exact hl) ed hed hb
theorem shutn_of {l : List Oper} {listed : Array Bool} (h : shutB md l listed 0 = true) : Shutn md l.toArray listed := fun j oj hj hl => shutB_at listed l 0 h j oj (by simpa using hj) (by simpa using hl)
theorem Shutn.step {listed : Array Bool} (h : Shutn md ops listed) {i : Nat} (hi : i ∈ Region.ready md ops listed) : Shutn md ops (listed.setIfInBounds i true) := fun j oj hj hl ed hed hb => by
  have key : listed.getD ed.on true = true := by
    by_cases hji : j = i
    · subst hji
      obtain ⟨_, oj', hoj, hall⟩ := mem_ready.1 hi
      rw [hj] at hoj
      cases hoj
      have h1 := hall ed hed hb
      rcases Nat.lt_or_ge ed.on listed.size with h' | h'
      · simp [h'] at h1 ⊢; exact h1
      · simp [h']
    · rw [getD_set_ne true (Ne.symm hji)] at hl
      exact h j oj hj hl ed hed hb
  by_cases hk : i = ed.on
  · rw [hk]
    rcases Nat.lt_or_ge ed.on listed.size with h' | h'
    · simp [h']
    · simp [h']
  · rw [getD_set_ne true hk]; exact key
/-- e waits for i -/
def waitsB (md : Region.Mode) (l : List Oper) (i : Nat) : Nat → Nat → Bool
  | 0, _ => false
  | f + 1, e => match nthOp l e with
    | none => false
    | some oe => oe.after.any fun ed => Region.binds md ed && (ed.on == i || waitsB md l i f ed.on)
theorem waits_listed {l : List Oper} {listed : Array Bool} (h : Shutn md l.toArray listed) {i : Nat} : ∀ (f e : Nat), waitsB md l i f e = true → listed.getD e true = true → listed.getD i true = true := by
  intro f
  induction f with
  | zero => intro e he; cases he
  | succ f ih =>
    intro e he hl
    unfold waitsB at he
    split at he
    · cases he
    · rename_i oe hoe
      rw [nthOp_eq] at hoe
      obtain ⟨ed, hed, hb⟩ := Array.any_eq_true'.1 he
      simp only [Bool.and_eq_true, Bool.or_eq_true, beq_iff_eq] at hb
      have h1 := h e oe (by simpa using hoe) hl ed hed hb.1
      rcases hb.2 with h2 | h2
      · rw [← h2]; exact h1
      · exact ih ed.on h2 h1

theorem wpAnyE_first {l : List Oper} {i f : Nat} {oi : Oper} {v : Value} (hi : l.toArray[i]? = some oi) (hsel : ∀ (j : Nat) (o : Oper) cs b, l.toArray[j]? = some o → o.op ≠ .select cs b)
    (hQ : ∀ c a w, Q (.panic c) (a.put oi.dst v) w → Q (.panic c) a w) (hwt : waitsB md l i f e = true) (hei : e ≠ i) :
    ∀ (fuel : Nat) (listed : Array Bool) (a : Act) (w : World),
      (∀ j oj, l.toArray[j]? = some oj → j ≠ i → listed.getD j true = false → (∀ e ∈ oj.after, Region.binds md e = true → e.on ≠ i) → oi.apart l.toArray oj = true) →
      Shutn md l.toArray listed → i ∈ Region.ready md l.toArray listed → YieldsIf P l.toArray C oi v a → C w →
      wpAnyE P md l.toArray Q C e fuel (listed.setIfInBounds i true) (a.put oi.dst v) w → wpAnyE P md l.toArray Q C e (fuel + 1) listed a w := by
  intro fuel
  induction fuel with
  | zero =>
    intro listed a w _ _ hr hy hS H
    refine ⟨fun h => (by rw [h] at hr; cases hr), fun j hj => ?_⟩
    by_cases hji : j = i
    · subst hji; exact hy.wpOp hi hS ⟨fun _ => hS, H⟩
    · have := ready_mono hj hji
      rw [H.1] at this
      cases this
  | succ fuel ih =>
    intro listed a w hfree hsh hr hy hS H
    refine ⟨fun h => (by rw [h] at hr; cases hr), fun j hj => ?_⟩
    by_cases hji : j = i
    · subst hji; exact hy.wpOp hi hS ⟨fun _ => hS, H⟩
    · have h1 := H.2 j (ready_mono hj hji)
      obtain ⟨hjun, oj, hoj, hall⟩ := mem_ready.1 hj
      have hiun := (mem_ready.1 hr).1
      have hsz : ∀ k, listed.getD k true = false → k < listed.size := fun k hk => by
        rcases Nat.lt_or_ge k listed.size with h' | h'
        · exact h'
        · simp [h'] at hk
      have hnot : ∀ e ∈ oj.after, Region.binds md e = true → e.on ≠ i := fun e he hb heq => by
        have h1 := hall e he hb
        rw [heq] at h1
        rcases Nat.lt_or_ge i listed.size with h' | h'
        · simp [h'] at hiun h1; rw [hiun] at h1; cases h1
        · simp [h'] at h1
      have h2 := wpOp_putIf hoj (hfree j oj hoj hji hjun hnot) (fun cs b => hsel i oi cs b hi) (fun cs b => hsel j oj cs b hoj) hQ hy h1
      have hfree' : ∀ k ok, l.toArray[k]? = some ok → k ≠ i → (listed.setIfInBounds j true).getD k true = false →
          (∀ e ∈ ok.after, Region.binds md e = true → e.on ≠ i) → oi.apart l.toArray ok = true := fun k ok hk hki hun hno => by
        refine hfree k ok hk hki ?_ hno
        by_cases hjk : j = k
        · subst hjk; exact hjun
        · rw [getD_set_ne true hjk] at hun; exact hun
      have hsh' := hsh.step hj
      have hiun' : (listed.setIfInBounds j true).getD i true = false := by rw [getD_set_ne true hji]; exact hiun
      have heun : (listed.setIfInBounds j true).getD e true = false := by
        cases h : (listed.setIfInBounds j true).getD e true with
        | false => rfl
        | true => rw [waits_listed hsh' f e hwt h] at hiun'; cases hiun'
      refine wpOp_mono (fun a' w' h3 => ?_) h2
      have hC : C w' := h3.2.1 (by rw [Array.setIfInBounds_comm _ _ (Ne.symm hji), getD_set_ne true (Ne.symm hei)]; exact heun)
      refine ⟨fun _ => hC, ih (listed.setIfInBounds j true) a' w' hfree' hsh' (ready_mono hr (Ne.symm hji)) h3.1 hC ?_⟩
      rw [Array.setIfInBounds_comm _ _ hji]
      exact h3.2.2
/-- number i is taken first -/
theorem takeE {l : List Oper} {L0 : List HP} (i : Nat) {oi : Oper} {v : Value} {fuel : Nat} {listed : Array Bool} {a : Act} {w : World} (hi : nthOp l i = some oi) (hw : Region.wanted oi (yielded l.toArray a.tmps) = true)
    (hy : RunsH P oi a L0 v) (hS : Holds w L0) (hq : (Region.noSelect l.toArray && (Region.free md l.toArray listed i && ((Region.ready md l.toArray listed).contains i && (waitsB md l i l.length e && (!(e == i) && shutB md l listed 0))))) = true)
    (hQ : ∀ c a w, Q (.panic c) (a.put oi.dst v) w → Q (.panic c) a w)
    (h : wpAnyE P md l.toArray Q (fun w => Holds w L0) e fuel (listed.setIfInBounds i true) (a.put oi.dst v) w) : wpAnyE P md l.toArray Q (fun w => Holds w L0) e (fuel + 1) listed a w := by
  simp only [Bool.and_eq_true, Bool.not_eq_true', beq_eq_false_iff_ne] at hq
  obtain ⟨hs, hf, hr, hwt, hei, hsh⟩ := hq
  have hi' : l.toArray[i]? = some oi := by rw [List.getElem?_toArray, ← nthOp_eq]; exact hi
  exact wpAnyE_first hi' (Region.noSelect_spec hs) hQ hwt hei fuel listed a w (Region.free_spec hi' hf) (shutn_of hsh) (by simpa using hr) (.inl ⟨hw, hy⟩) hS h
/-- .. its guard is false -/
theorem skipE {l : List Oper} {L0 : List HP} (i : Nat) {oi : Oper} {fuel : Nat} {listed : Array Bool} {a : Act} {w : World} (hi : nthOp l i = some oi) (hw : Region.wanted oi (yielded l.toArray a.tmps) = false) (hS : Holds w L0)
    (hq : (Region.noSelect l.toArray && (Region.free md l.toArray listed i && ((Region.ready md l.toArray listed).contains i && (waitsB md l i l.length e && (!(e == i) && shutB md l listed 0))))) = true)
    (hQ : ∀ c a w, Q (.panic c) (a.put oi.dst undef) w → Q (.panic c) a w)
    (h : wpAnyE P md l.toArray Q (fun w => Holds w L0) e fuel (listed.setIfInBounds i true) (a.put oi.dst undef) w) : wpAnyE P md l.toArray Q (fun w => Holds w L0) e (fuel + 1) listed a w := by
  simp only [Bool.and_eq_true, Bool.not_eq_true', beq_eq_false_iff_ne] at hq
  obtain ⟨hs, hf, hr, hwt, hei, hsh⟩ := hq
  have hi' : l.toArray[i]? = some oi := by rw [List.getElem?_toArray, ← nthOp_eq]; exact hi
  exact wpAnyE_first hi' (Region.noSelect_spec hs) hQ hwt hei fuel listed a w (Region.free_spec hi' hf) (shutn_of hsh) (by simpa using hr) (.inr ⟨hw, rfl⟩) hS h
/-- behind one operation K, and any other exit as Q says -/
def Behind (Q : Exit → Act → World → Prop) (K : Act → World → Prop) (ex : Exit) (a : Act) (w : World) : Prop :=
  match ex with
  | .normal => K a w
  | ex => Q ex a w
theorem behind_wp {o : Oper} {K : Act → World → Prop} {a : Act} {w : World} (h : wpList P ops (Behind Q K) [o] a w) :
    if Region.wanted o (yielded ops a.tmps) then o.wp P a w K Q ∨ (o.asks P a w ∧ LetsOut Q) else K (a.put o.dst undef) w := by
  unfold wpList at h
  split
  · rename_i hw
    rw [if_pos hw] at h
    rcases h with h | h
    · refine .inl ?_
      unfold Oper.wp at h ⊢
      generalize (execOp a.eval o).run P w = r at h ⊢
      cases r with
      | ok n w' =>
        cases n <;> exact h
      | halt x w' => cases x <;> exact h
    · exact .inr h
  · rename_i hw
    rw [if_neg hw] at h
    exact h
/-- the one operation that may come up, as a list of its own -/
theorem effE {l : List Oper} (i : Nat) {oi : Oper} {fuel : Nat} {listed : Array Bool} {a : Act} {w : World} (hi : nthOp l i = some oi) (hr : Region.ready md l.toArray listed = [i])
    (h : wpList P l.toArray (Behind Q fun a' w' => ((listed.setIfInBounds i true).getD e true = false → C w') ∧ wpAnyE P md l.toArray Q C e fuel (listed.setIfInBounds i true) a' w') [oi] a w) : wpAnyE P md l.toArray Q C e (fuel + 1) listed a w := by
  have hi' : l.toArray[i]? = some oi := by rw [List.getElem?_toArray, ← nthOp_eq]; exact hi
  refine ⟨fun h0 => (by rw [hr] at h0; cases h0), fun j hj => ?_⟩
  rw [hr] at hj
  obtain rfl := List.mem_singleton.1 hj
  unfold wpOp
  rw [hi']
  exact behind_wp h
/-- .. one of two -/
theorem eff2E {l : List Oper} (i j : Nat) {oi oj : Oper} {fuel : Nat} {listed : Array Bool} {a : Act} {w : World} (hi : nthOp l i = some oi) (hj : nthOp l j = some oj) (hr : Region.ready md l.toArray listed = [i, j])
    (h : wpList P l.toArray (Behind Q fun a' w' => ((listed.setIfInBounds i true).getD e true = false → C w') ∧ wpAnyE P md l.toArray Q C e fuel (listed.setIfInBounds i true) a' w') [oi] a w)
    (h2 : wpList P l.toArray (Behind Q fun a' w' => ((listed.setIfInBounds j true).getD e true = false → C w') ∧ wpAnyE P md l.toArray Q C e fuel (listed.setIfInBounds j true) a' w') [oj] a w) : wpAnyE P md l.toArray Q C e (fuel + 1) listed a w := by
  have hi' : l.toArray[i]? = some oi := by rw [List.getElem?_toArray, ← nthOp_eq]; exact hi
  have hj' : l.toArray[j]? = some oj := by rw [List.getElem?_toArray, ← nthOp_eq]; exact hj
  refine ⟨fun h0 => (by rw [hr] at h0; cases h0), fun k hk => ?_⟩
  rw [hr] at hk
  rcases List.mem_cons.1 hk with rfl | hk
  · unfold wpOp
    rw [hi']
    exact behind_wp h
  · obtain rfl := List.mem_singleton.1 hk
    unfold wpOp
    rw [hj']
    exact behind_wp h2
theorem wpList_behind {K : Act → World → Prop} {a : Act} {w : World} (h : K a w) : wpList P ops (Behind Q K) [] a w := h
/-- C still holds -/
theorem behindC {l : List Oper} {i fuel : Nat} {listed : Array Bool} {a : Act} {w : World} (hC : C w) (h : wpAnyE P md l.toArray Q C e fuel (listed.setIfInBounds i true) a w) :
    wpList P l.toArray (Behind Q fun a' w' => ((listed.setIfInBounds i true).getD e true = false → C w') ∧ wpAnyE P md l.toArray Q C e fuel (listed.setIfInBounds i true) a' w') [] a w := ⟨fun _ => hC, h⟩
/-- e has come up -/
theorem behindE {l : List Oper} {i fuel : Nat} {listed : Array Bool} {a : Act} {w : World} (he : (listed.setIfInBounds i true).getD e true = true) (h : wpAnyE P md l.toArray Q C e fuel (listed.setIfInBounds i true) a w) :
    wpList P l.toArray (Behind Q fun a' w' => ((listed.setIfInBounds i true).getD e true = false → C w') ∧ wpAnyE P md l.toArray Q C e fuel (listed.setIfInBounds i true) a' w') [] a w := ⟨fun h => (by rw [he] at h; cases h), h⟩
theorem doneE {listed : Array Bool} {a : Act} {w : World} (hr : Region.ready md ops listed = []) (h : Q .normal a w) : ∀ fuel, wpAnyE P md ops Q C e fuel listed a w
  | 0 => ⟨hr, h⟩
  | _ + 1 => ⟨fun _ => h, by rw [hr]; simp⟩
theorem wp_region_until {id : Nat} {a : Act} {w : World} {L : List HP} (L0 : List HP) (e : Nat) (hm : P.follows .mixedOrders = true) (hw : Holds w L)
    (h : ∀ w', Holds w' L → wpAnyE P .any ops Q (fun w => Holds w L0) e ops.size (Array.replicate ops.size false) a w') : (Code.region id ops true).wp P Q a w :=
  wp_region_any hm (wpAny_of_until _ _ _ _ (h _ hw.drew))
/-- .. C: the pieces but number k -/
theorem wp_region_untilD {id : Nat} {a : Act} {w : World} {L : List HP} (k e : Nat) (hm : P.follows .mixedOrders = true) (hw : Holds w L)
    (h : ∀ w', Holds w' L → wpAnyE P .any ops Q (fun w => Holds w (L.eraseIdx k)) e ops.size (Array.replicate ops.size false) a w') : (Code.region id ops true).wp P Q a w := wp_region_until _ e hm hw h
/-- .. C: the pieces -/
theorem wp_region_untilA {id : Nat} {a : Act} {w : World} {L : List HP} (e : Nat) (hm : P.follows .mixedOrders = true) (hw : Holds w L)
    (h : ∀ w', Holds w' L → wpAnyE P .any ops Q (fun w => Holds w L) e ops.size (Array.replicate ops.size false) a w') : (Code.region id ops true).wp P Q a w := wp_region_until _ e hm hw h
end
end Go.Proofs.YtibkngjacdggpaaDoor
