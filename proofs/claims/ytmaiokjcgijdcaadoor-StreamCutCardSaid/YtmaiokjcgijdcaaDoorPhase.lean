/- A region that draws its order, in which several operations that write may come up in any order: an invariant over which of them have come. -/
import Derived.Test.YtmaiokjcgijdcaaDoorSl
namespace Go.Proofs.YtmaiokjcgijdcaaDoor
open Go.RowKit HP

/-- what a slot holds: v if the operation has come, u if not -/
def Fl (b : Bool) (v u : Value) : Value := if b then v else u
theorem Fl_true (v u : Value) : Fl true v u = v := rfl
theorem Fl_false (v u : Value) : Fl false v u = u := rfl
/-- a piece that is there, or not yet -/
def HP.opt (b : Bool) (P : HP) : HP := if b then P else emp
theorem HP.opt_true (P : HP) : HP.opt true P = P := rfl
theorem HP.opt_false (P : HP) : HP.opt false P = emp := rfl
theorem Holds.emp_tail {w : World} {R : List HP} (h : Holds w (emp :: R)) : Holds w R := h.tail
theorem Holds.emp_cons {w : World} {R : List HP} (h : Holds w R) : Holds w (emp :: R) := by
  obtain ⟨S, h⟩ := h
  exact ⟨S, fun _ => False, S, fun _ h => h, h, fun _ h => h.elim, fun k => by simp⟩
/-- how many have not come -/
def cf (l : Array Bool) : Nat := l.toList.count false
theorem cf_list : ∀ (l : List Bool) (i : Nat), l[i]?.getD true = false → (l.set i true).count false + 1 = l.count false
  | [], i, h => by simp at h
  | b :: l, 0, h => by
    obtain rfl : b = false := by simpa using h
    simp
  | b :: l, i + 1, h => by
    have := cf_list l i (by simpa using h)
    cases b <;> simp only [List.set_cons_succ, List.count_cons] <;> simp <;> omega
theorem cf_set {l : Array Bool} {i : Nat} (h : l.getD i true = false) : cf (l.setIfInBounds i true) + 1 = cf l := by
  unfold cf
  rw [Array.toList_setIfInBounds]
  refine cf_list _ _ ?_
  simpa using h
theorem cf_pos {l : Array Bool} {i : Nat} (h : l.getD i true = false) : 0 < cf l := by have := cf_set h; omega
/-- an operation waits for those ahead of it alone -/
def acyc : List Oper → Nat → Bool
  | [], _ => true
  | o :: r, i => o.after.toList.all (fun e => decide (e.on < i)) && acyc r (i + 1)
theorem acyc_at : ∀ (l : List Oper) (k : Nat), acyc l k = true → ∀ i o, l[i]? = some o → ∀ e ∈ o.after, e.on < k + i
  | [], _, _, i, o, h => by simp at h
  | x :: l, k, ha, 0, o, h => by
    obtain rfl : x = o := by simpa using h
    simp only [acyc, Bool.and_eq_true, List.all_eq_true, decide_eq_true_eq] at ha
    intro e he
    exact ha.1 e (by simpa using he)
  | x :: l, k, ha, i + 1, o, h => by
    simp only [acyc, Bool.and_eq_true] at ha
    intro e he
    have := acyc_at l (k + 1) ha.2 i o (by simpa using h) e he
    omega
section
variable {P : Program} {md : Region.Mode} {l : List Oper} {Q : Exit → Act → World → Prop} {S : World → Prop}
theorem ready_some (ha : acyc l 0 = true) {listed : Array Bool} (hs : listed.size = l.length) {i : Nat} (h : listed.getD i true = false) : Region.ready md l.toArray listed ≠ [] := by
  induction i using Nat.strongRecOn with
  | _ i ih =>
    by_cases hp : ∃ j, j < i ∧ listed.getD j true = false
    · obtain ⟨j, hj, hf⟩ := hp
      exact ih j hj hf
    · intro e
      have hi : i < l.length := by
        rw [← hs]
        rcases Nat.lt_or_ge i listed.size with h' | h'
        · exact h'
        · simp [Array.getElem?_eq_none h'] at h
      have : i ∈ Region.ready md l.toArray listed := by
        refine mem_ready.2 ⟨h, l[i], by simp [hi], fun e he _ => ?_⟩
        have hlt := acyc_at l 0 ha i l[i] (by simp [hi]) e he
        have hlt2 : e.on < listed.size := by omega
        have hn : ¬ listed.getD e.on true = false := fun h' => hp ⟨e.on, by omega, h'⟩
        simp [hlt2] at hn ⊢
        exact hn
      rw [e] at this
      cases this
/-- each operation that may come up keeps J -/
def EachOp (P : Program) (md : Region.Mode) (l : List Oper) (Q : Exit → Act → World → Prop) (J : Array Bool → Act → World → Prop) (full listed : Array Bool) (a : Act) (w : World) : List Oper → Nat → Prop
  | [], _ => True
  | o :: r, i => (listed ≠ full → listed.getD i true = false → (o.after.toList.all fun e => !Region.binds md e || listed.getD e.on false) = true →
      Region.wanted o (yielded l.toArray a.tmps) = true ∧ ∀ K' : Act → World → Prop, Shut (∀ a w, J (listed.setIfInBounds i true) a w → K' a w) → Oper.wp P o a w K' Q) ∧ EachOp P md l Q J full listed a w r (i + 1)
theorem EachOp.at_ {J : Array Bool → Act → World → Prop} {full listed : Array Bool} {a : Act} {w : World} : ∀ (r : List Oper) (k : Nat), EachOp P md l Q J full listed a w r k → ∀ i o, r[i]? = some o →
    (listed ≠ full → listed.getD (k + i) true = false → (o.after.toList.all fun e => !Region.binds md e || listed.getD e.on false) = true →
      Region.wanted o (yielded l.toArray a.tmps) = true ∧ ∀ K' : Act → World → Prop, Shut (∀ a w, J (listed.setIfInBounds (k + i) true) a w → K' a w) → Oper.wp P o a w K' Q)
  | [], _, _, i, o, h => by simp at h
  | x :: r, k, ha, 0, o, h => by
    obtain rfl : x = o := by simpa using h
    exact ha.1
  | x :: r, k, ha, i + 1, o, h => by
    have := EachOp.at_ r (k + 1) ha.2 i o (by simpa using h)
    rwa [show k + 1 + i = k + (i + 1) by omega] at this
theorem wpAnyH_phase (J : Array Bool → Act → World → Prop) (late : Nat) (full : Array Bool) (ha : acyc l 0 = true) (hJ : ∀ listed a w, J listed a w → listed.size = l.length ∧ listed.getD late true = false ∧ S w)
    (hend : ∀ a w, J full a w → wpAnyH P md l.toArray Q S (cf full) full a w) (hstep : ∀ listed a w, J listed a w → EachOp P md l Q J full listed a w l 0) :
    ∀ (fuel : Nat) (listed : Array Bool) (a : Act) (w : World), fuel = cf listed → J listed a w → wpAnyH P md l.toArray Q S fuel listed a w
  | 0, listed, a, w, hf, h => by
    have := cf_pos (hJ _ _ _ h).2.1
    omega
  | fuel + 1, listed, a, w, hf, h => by
    by_cases hfull : listed = full
    · subst hfull
      rw [hf]
      exact hend _ _ h
    · obtain ⟨hs, hl, _⟩ := hJ _ _ _ h
      refine ⟨fun e => absurd e (ready_some ha hs hl), fun i hi => ?_⟩
      obtain ⟨hu, o, ho, hd⟩ := mem_ready.1 hi
      have ho' : l[i]? = some o := by simpa using ho
      have hd' : (o.after.toList.all fun e => !Region.binds md e || listed.getD e.on false) = true := by
        rw [List.all_eq_true]
        intro e he
        cases hb : Region.binds md e
        · rfl
        · rw [hd e (by simpa using he) hb]; rfl
      have h1 := (hstep _ _ _ h).at_ l 0 i o ho' hfull (by rwa [Nat.zero_add]) hd'
      rw [Nat.zero_add] at h1
      refine wpOp_step ho (fun K' hK => ?_)
      rw [if_pos h1.1]
      exact h1.2 K' (fun a' w' h' => hK a' w' ⟨(hJ _ _ _ h').2.2, wpAnyH_phase J late full ha hJ hend hstep fuel _ a' w' (by have := cf_set hu; omega) h'⟩)
theorem wp_app_sl {o : Oper} {a : Act} {K : Act → World → Prop} {w : World} {R : List HP} (s x : Operand) (t : TypeId)
    (ho : o.op = .call { callee := .builtin .append, args := #[s, x], argTypes := #[t, t] }) (ht : P.underlying t = some (.slice 5)) (hi : (P.info? 5).map (fun i => (i.zero, i.size, i.bytes)) = some (some (.int .u8 0), 1, 1))
    (v : Value) (xs : List UInt8) (hh : Holds w (own v xs :: R)) (hs : a.eval s = v) (A : Option Addr) (ys : List UInt8) (n c : Nat) (hn : Hid (n = ys.length)) (hx : a.eval x = .slice A n c) (hr : RD w A ys) (hb : xs.length + ys.length ≤ 140737488355328)
    (h : ∀ v' w', Holds w' (own v' (xs ++ ys) :: R) → K (a.put o.dst v') w') : o.wp P a w K Q := by
  obtain ⟨g, hr⟩ := hr
  exact wp_app_b w s x t ho ht hi v xs hh.ob hs g A ys n c hn.out hx hr hb fun v' w' h2 h3 h4 => h v' w' (hh.app h2 h3 h4)
theorem wpList_app_sl {ops : Array Oper} {rest : List Oper} {o : Oper} {a : Act} {w : World} {R : List HP} (hgd : o.guard = none) (s x : Operand) (t : TypeId)
    (ho : o.op = .call { callee := .builtin .append, args := #[s, x], argTypes := #[t, t] }) (ht : P.underlying t = some (.slice 5)) (hi : (P.info? 5).map (fun i => (i.zero, i.size, i.bytes)) = some (some (.int .u8 0), 1, 1))
    (v : Value) (xs : List UInt8) (hh : Holds w (own v xs :: R)) (hs : a.eval s = v) (A : Option Addr) (ys : List UInt8) (n c : Nat) (hn : Hid (n = ys.length)) (hx : a.eval x = .slice A n c) (hr : RD w A ys) (hb : xs.length + ys.length ≤ 140737488355328)
    (h : ∀ v' w', Holds w' (own v' (xs ++ ys) :: R) → wpList P ops Q rest (a.put o.dst v') w') : wpList P ops Q (o :: rest) a w :=
  wpList_plain hgd fun _ hK => wp_app_sl s x t ho ht hi v xs hh hs A ys n c hn hx hr hb fun v' w' h2 => hK _ _ (h v' w' h2)
/-- .. J told by the activation at which it begins -/
theorem wpAnyH_phaseA (J : Act → Array Bool → Act → World → Prop) (late : Nat) (full : Array Bool) (m : Nat) {fuel : Nat} {listed : Array Bool} {a : Act} {w : World} (ha : acyc l 0 = true) (hf : fuel = cf listed) (hm : cf full = m) (h0 : J a listed a w)
    (hJ : ∀ listed' a' w', J a listed' a' w' → listed'.size = l.length ∧ listed'.getD late true = false ∧ S w')
    (hend : ∀ a' w', J a full a' w' → wpAnyH P md l.toArray Q S m full a' w') (hstep : ∀ listed' a' w', J a listed' a' w' → EachOp P md l Q (J a) full listed' a' w' l 0) :
    wpAnyH P md l.toArray Q S fuel listed a w := wpAnyH_phase (J a) late full ha hJ (by rw [hm]; exact hend) hstep fuel listed a w hf h0
end
end Go.Proofs.YtmaiokjcgijdcaaDoor
