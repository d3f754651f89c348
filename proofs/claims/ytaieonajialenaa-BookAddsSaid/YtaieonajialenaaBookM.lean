/- A book and the row of the records that were added: the same answers (plain). -/
import Derived.Test.YtaieonajialenaaBookL
namespace Go.Proofs.Ytaieonajialenaa
open Go.RowKit HP

def foldS (first : List UInt8) (R : List Rec) : Bk := R.foldl Bk.say (Bk.new first)
theorem foldS_snoc (first : List UInt8) (R : List Rec) (r : Rec) : foldS first (R ++ [r]) = (foldS first R).say r := by
  unfold foldS; rw [List.foldl_append]; rfl
inductive Good (first : List UInt8) : List Rec → Prop
  | nil : Good first []
  | snoc {R : List Rec} {r : Rec} : Good first R → formedR r = true → (foldS first R).fits r = true → Good first (R ++ [r])
def isK (ks : Int → Bool) (id : Nat) (r : Rec) : Bool := r.id == id && ks r.kind
def k1 (k : Int) : Bool := k == 1
def k2 (k : Int) : Bool := k == 2
def k4 (k : Int) : Bool := k == 4
def k23 (k : Int) : Bool := k == 2 || k == 3
def k234 (k : Int) : Bool := k == 2 || (k == 3 || k == 4)
def rfind (ks : Int → Bool) (id : Nat) (R : List Rec) : Option Rec := R.find? (isK ks id)
theorem rfind_snoc (ks : Int → Bool) (id : Nat) (R : List Rec) (r : Rec) : rfind ks id (R ++ [r]) = (rfind ks id R).or (if isK ks id r = true then some r else none) := by
  unfold rfind
  rw [List.find?_append]
  congr 1
  simp [List.find?_cons]
  split <;> simp_all
section
variable {first : List UInt8} {R : List Rec}
theorem say_kind {k : Bk} {r : Rec} (h : formedR r = true) : (r.kind = 1 ∧ k.say r = { k with edits := k.edits ++ [r.ed] }) ∨ (r.kind = 2 ∧ k.say r = { k with votes := kput k.votes r.id r.vt, prep := r.id }) ∨ (r.kind = 3 ∧ k.say r = { k with votes := kput k.votes r.id r.vt }) ∨
    (r.kind = 4 ∧ k.say r = { k with ends := kput k.ends r.id r.commit, prep := if k.prep = r.id then 0 else k.prep, vers := if r.has = true then k.vers ++ [r.text] else k.vers }) := by
  have hF := (formedR_iff r).1 h
  have h1 := hF.k1
  have h4 := hF.k4
  unfold Bk.say
  by_cases e1 : r.kind = 1
  · exact .inl ⟨e1, by rw [if_pos e1]⟩
  · by_cases e2 : r.kind = 2
    · exact .inr (.inl ⟨e2, by rw [if_neg e1, if_pos e2]⟩)
    · by_cases e3 : r.kind = 3
      · exact .inr (.inr (.inl ⟨e3, by rw [if_neg e1, if_neg e2, if_pos e3]⟩))
      · exact .inr (.inr (.inr ⟨by omega, by rw [if_neg e1, if_neg e2, if_neg e3]⟩))
theorem has_kind {r : Rec} (h : formedR r = true) (hh : r.has = true) : r.kind = 4 := by
  have hF := (formedR_iff r).1 h
  have hb := hF.bare
  have h1 := hF.k1
  have h4 := hF.k4
  have h2 : r.has = (bareR r).has := congrArg Rec.has hb
  rw [hh] at h2
  unfold bareR at h2
  split at h2
  · cases h2
  · split at h2
    · cases h2
    · split at h2
      · cases h2
      · omega
theorem Good.votes (h : Good first R) (id : Nat) : kget (foldS first R).votes id = (rfind k23 id R).map Rec.vt := by
  induction h with
  | nil => rfl
  | @snoc R r hg hf hfit ih =>
    rw [foldS_snoc, rfind_snoc]
    rcases say_kind (k := foldS first R) hf with ⟨e, hs⟩ | ⟨e, hs⟩ | ⟨e, hs⟩ | ⟨e, hs⟩
    · rw [hs, show isK k23 id r = false by simp [isK, k23, e]]
      simpa using ih
    · have hfr : (foldS first R).fresh r.id = true := by
        unfold Bk.fits at hfit
        rw [if_neg (by rw [e]; decide), if_pos e] at hfit
        simp only [Bool.and_eq_true] at hfit
        exact hfit.1
      rw [hs]
      show kget (kput _ _ _) id = _
      rw [kget_put]
      by_cases hid : id = r.id
      · subst hid
        rw [if_pos rfl]
        have h0 := (Bk.fresh_iff hfr).1
        rw [ih] at h0
        rw [Option.map_eq_none_iff] at h0
        rw [h0, show isK k23 r.id r = true by simp [isK, k23, e]]
        rfl
      · rw [if_neg hid, ih, show isK k23 id r = false by simp [isK, Ne.symm hid]]
        simp
    · have hfr : (foldS first R).fresh r.id = true := by
        unfold Bk.fits at hfit
        rw [if_neg (by rw [e]; decide), if_neg (by rw [e]; decide), if_pos e] at hfit
        exact hfit
      rw [hs]
      show kget (kput _ _ _) id = _
      rw [kget_put]
      by_cases hid : id = r.id
      · subst hid
        rw [if_pos rfl]
        have h0 := (Bk.fresh_iff hfr).1
        rw [ih] at h0
        rw [Option.map_eq_none_iff] at h0
        rw [h0, show isK k23 r.id r = true by simp [isK, k23, e]]
        rfl
      · rw [if_neg hid, ih, show isK k23 id r = false by simp [isK, Ne.symm hid]]
        simp
    · rw [hs, show isK k23 id r = false by simp [isK, k23, e]]
      simpa using ih
theorem Good.ends (h : Good first R) (id : Nat) : kget (foldS first R).ends id = (rfind k4 id R).map Rec.commit := by
  induction h with
  | nil => rfl
  | @snoc R r hg hf hfit ih =>
    rw [foldS_snoc, rfind_snoc]
    rcases say_kind (k := foldS first R) hf with ⟨e, hs⟩ | ⟨e, hs⟩ | ⟨e, hs⟩ | ⟨e, hs⟩
    · rw [hs, show isK k4 id r = false by simp [isK, k4, e]]
      simpa using ih
    · rw [hs, show isK k4 id r = false by simp [isK, k4, e]]
      simpa using ih
    · rw [hs, show isK k4 id r = false by simp [isK, k4, e]]
      simpa using ih
    · have hfr : kget (foldS first R).ends r.id = none := by
        unfold Bk.fits at hfit
        rw [if_neg (by rw [e]; decide), if_neg (by rw [e]; decide), if_neg (by rw [e]; decide)] at hfit
        simp only [Bool.and_eq_true, Bool.not_eq_true', Option.isSome_eq_false_iff, Option.isNone_iff_eq_none] at hfit
        exact hfit.1
      rw [hs]
      show kget (kput _ _ _) id = _
      rw [kget_put]
      by_cases hid : id = r.id
      · subst hid
        rw [if_pos rfl]
        rw [ih] at hfr
        rw [Option.map_eq_none_iff] at hfr
        rw [hfr, show isK k4 r.id r = true by simp [isK, k4, e]]
        rfl
      · rw [if_neg hid, ih, show isK k4 id r = false by simp [isK, Ne.symm hid]]
        simp
theorem Good.vers (h : Good first R) : (foldS first R).vers = first :: (R.filter Rec.has).map Rec.text := by
  induction h with
  | nil => rfl
  | @snoc R r hg hf hfit ih =>
    rw [foldS_snoc, List.filter_append, List.map_append]
    rcases say_kind (k := foldS first R) hf with ⟨e, hs⟩ | ⟨e, hs⟩ | ⟨e, hs⟩ | ⟨e, hs⟩
    case' inr.inr.inr =>
      rw [hs]
      show (if r.has = true then _ else _) = _
      cases hh : r.has
      · simp [ih, hh]
      · simp [ih, hh]
    all_goals
      have hh : r.has = false := by
        cases hh : r.has with
        | false => rfl
        | true => have := has_kind hf hh; omega
      rw [hs]
      simpa [hh] using ih
theorem Good.edits (h : Good first R) : (foldS first R).edits = (R.filter fun r => r.kind == 1).map Rec.ed := by
  induction h with
  | nil => rfl
  | @snoc R r hg hf hfit ih =>
    rw [foldS_snoc, List.filter_append, List.map_append]
    rcases say_kind (k := foldS first R) hf with ⟨e, hs⟩ | ⟨e, hs⟩ | ⟨e, hs⟩ | ⟨e, hs⟩
    all_goals
      rw [hs]
      simp [ih, e]
theorem Good.edit (h : Good first R) (id : Nat) : (foldS first R).edit id = (rfind k1 id R).map Rec.ed := by
  induction h with
  | nil =>
    unfold Bk.edit
    split
    · rfl
    · rfl
  | @snoc R r hg hf hfit ih =>
    rw [foldS_snoc, rfind_snoc]
    rcases say_kind (k := foldS first R) hf with ⟨e, hs⟩ | ⟨e, hs⟩ | ⟨e, hs⟩ | ⟨e, hs⟩
    case' inl =>
      have hid : r.id = (foldS first R).edits.length + 1 := by
        unfold Bk.fits at hfit
        rw [if_pos e] at hfit
        simpa using hfit
      rw [hs]
      unfold Bk.edit at ih ⊢
      by_cases h0 : id = 0
      · rw [if_pos h0] at ih ⊢
        rw [show isK k1 id r = false by simp [isK, h0, hid]]
        simpa using ih
      · rw [if_neg h0] at ih ⊢
        by_cases hi : id = r.id
        · have hn : (foldS first R).edits[id - 1]? = none := List.getElem?_eq_none (by omega)
          rw [hn] at ih
          have h2 := (Option.map_eq_none_iff.1 ih.symm)
          rw [h2, show isK k1 id r = true by simp [isK, k1, e, hi]]
          show ((foldS first R).edits ++ [r.ed])[id - 1]? = _
          rw [List.getElem?_append_right (by omega), hi, hid]
          simp
        · rw [show isK k1 id r = false by simp [isK, Ne.symm hi]]
          show ((foldS first R).edits ++ [r.ed])[id - 1]? = _
          by_cases hl : id - 1 < (foldS first R).edits.length
          · rw [List.getElem?_append_left hl]
            simpa using ih
          · rw [List.getElem?_eq_none (by simp; omega)]
            rw [List.getElem?_eq_none (by omega)] at ih
            simpa using ih
    all_goals
      rw [hs, show isK k1 id r = false by simp [isK, k1, e]]
      simpa [Bk.edit] using ih
theorem Good.inv (h : Good first R) : (foldS first R).Inv := by
  induction h with
  | nil => exact Bk.new_inv first
  | snoc hg hf hfit ih => rw [foldS_snoc]; exact Bk.say_inv ih hf hfit
theorem fits_fresh {k : Bk} {r : Rec} (h : k.fits r = true) (hk : r.kind = 2 ∨ r.kind = 3) : k.fresh r.id = true := by
  unfold Bk.fits at h
  rcases hk with e | e
  · rw [if_neg (by rw [e]; decide), if_pos e] at h
    simp only [Bool.and_eq_true] at h
    exact h.1
  · rwa [if_neg (by rw [e]; decide), if_neg (by rw [e]; decide), if_pos e] at h
theorem Good.uniq (h : Good first R) {r : Rec} (hr : r ∈ R) (hk : r.kind = 2 ∨ r.kind = 3) : rfind k23 r.id R = some r := by
  induction h with
  | nil => cases hr
  | @snoc R r0 hg hf hfit ih =>
    rw [rfind_snoc]
    rcases List.mem_append.1 hr with hr | hr
    · rw [ih hr]; rfl
    · obtain rfl := List.mem_singleton.1 hr
      have h0 := (Bk.fresh_iff (fits_fresh hfit hk)).1
      rw [hg.votes, Option.map_eq_none_iff] at h0
      rw [h0, show isK k23 r.id r = true by rcases hk with e | e <;> simp [isK, k23, e]]
      rfl
theorem vt_yes (r : Rec) : r.vt.yes = (r.kind == 2) := by
  unfold Rec.vt
  split
  · rename_i h; simp [h]
  · rename_i h; simp [h]
theorem rfind_mem {ks : Int → Bool} {id : Nat} {R : List Rec} {r : Rec} (h : rfind ks id R = some r) : r ∈ R ∧ r.id = id ∧ ks r.kind = true := by
  have h1 := List.mem_of_find?_eq_some h
  have h2 := List.find?_some h
  simp only [isK, Bool.and_eq_true, beq_iff_eq] at h2
  exact ⟨h1, h2.1, h2.2⟩
theorem rfind_none {ks : Int → Bool} {id : Nat} {R : List Rec} : rfind ks id R = none ↔ ∀ r ∈ R, r.id = id → ks r.kind = false := by
  unfold rfind
  rw [List.find?_eq_none]
  simp [isK]
def rPrep (R : List Rec) : Nat := ((R.find? fun r => r.kind == 2 && (rfind k4 r.id R).isNone).map Rec.id).getD 0
theorem Good.prep (h : Good first R) : (foldS first R).prep = rPrep R := by
  have hi := h.inv
  unfold rPrep
  cases hf : R.find? fun r => r.kind == 2 && (rfind k4 r.id R).isNone with
  | none =>
    show _ = 0
    by_cases hp : (foldS first R).prep = 0
    · exact hp
    · exfalso
      obtain ⟨⟨v, hv, hy⟩, he⟩ := hi.prep hp
      rw [h.votes] at hv
      obtain ⟨r, hr, rfl⟩ := Option.map_eq_some_iff.1 hv
      rw [h.ends, Option.map_eq_none_iff] at he
      obtain ⟨hm, hid, _⟩ := rfind_mem hr
      rw [vt_yes] at hy
      have := List.find?_eq_none.1 hf r hm
      rw [hid, he, hy] at this
      simp at this
  | some r =>
    show _ = r.id
    have hm := List.mem_of_find?_eq_some hf
    have h2 := List.find?_some hf
    simp only [Bool.and_eq_true, beq_iff_eq, Option.isNone_iff_eq_none] at h2
    have hu := h.uniq hm (.inl h2.1)
    exact (hi.one r.id r.vt (by rw [h.votes, hu]; rfl) (by rw [vt_yes, h2.1]; rfl) (by rw [h.ends, h2.2]; rfl)).symm
def rFits (R : List Rec) (r : Rec) : Bool :=
  if r.kind = 1 then r.id == (R.filter fun r => r.kind == 1).length + 1
  else if r.kind = 2 then (rfind k234 r.id R).isNone && rPrep R == 0
  else if r.kind = 3 then (rfind k234 r.id R).isNone
  else (rfind k4 r.id R).isNone && (!r.has || (rfind k2 r.id R).isSome)
theorem Good.fresh (h : Good first R) (id : Nat) : (foldS first R).fresh id = (rfind k234 id R).isNone := by
  unfold Bk.fresh
  rw [h.votes, h.ends, Bool.eq_iff_iff]
  simp only [Option.isSome_map, Bool.and_eq_true, Bool.not_eq_true', Option.isSome_eq_false_iff, Option.isNone_iff_eq_none, rfind_none]
  constructor
  · rintro ⟨a, b⟩ r hr hid
    have h1 := a r hr hid
    have h2 := b r hr hid
    simp [k23, k4, k234] at h1 h2 ⊢
    exact ⟨h1.1, h1.2, h2⟩
  · intro a
    refine ⟨fun r hr hid => ?_, fun r hr hid => ?_⟩
    all_goals
      have h1 := a r hr hid
      simp [k23, k4, k234] at h1 ⊢
    · exact ⟨h1.1, h1.2.1⟩
    · exact h1.2.2
theorem Good.yes (h : Good first R) (id : Nat) : ((kget (foldS first R).votes id).getD Vt.zero).yes = (rfind k2 id R).isSome := by
  rw [h.votes]
  cases h2 : rfind k2 id R with
  | some r =>
    obtain ⟨hm, rfl, hk⟩ := rfind_mem h2
    have hk' : r.kind = 2 := by simpa [k2] using hk
    rw [h.uniq hm (.inl hk')]
    show r.vt.yes = true
    rw [vt_yes, hk']; rfl
  | none =>
    cases h3 : rfind k23 id R with
    | none => rfl
    | some r =>
      obtain ⟨hm, hid, hk⟩ := rfind_mem h3
      show r.vt.yes = false
      rw [vt_yes]
      exact rfind_none.1 h2 r hm hid
theorem Good.fits (h : Good first R) (r : Rec) : (foldS first R).fits r = rFits R r := by
  unfold Bk.fits rFits
  rw [h.edits, h.fresh, h.prep, h.yes, h.ends]
  simp
end
end Go.Proofs.Ytaieonajialenaa
