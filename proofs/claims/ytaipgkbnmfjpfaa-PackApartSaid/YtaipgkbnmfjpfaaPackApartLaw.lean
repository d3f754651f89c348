/- PackApart, the plain law: rows of the same kinds and sizes have the same bytes exactly if they are the same. -/
import Derived.Test.YtaipgkbnmfjpfaaPackLaw
namespace Go.Proofs.Ytaipgkbnmfjpfaa
open Go.RowKit

/-- Are two items of one kind the same? -/
def sameI (x y : Itm) : Bool := if x.kind = 0 then x.n == y.n else if x.kind = 1 then x.b == y.b else if x.kind = 2 then x.s.data.toList == y.s.data.toList else x.h == y.h
def alikeI (x y : Itm) : Prop := x.kind = y.kind ∧ x.size = y.size
theorem enc_same {x y : Itm} (h : alikeI x y) (hs : sameI x y = true) : encI x = encI y := by
  obtain ⟨hk, hz⟩ := h
  unfold sameI at hs
  unfold encI
  rw [hk] at hs ⊢
  rw [hz]
  split at hs
  · rename_i h0; simp only [beq_iff_eq] at hs; rw [if_pos h0, if_pos h0, hs]
  · rename_i h0
    rw [if_neg h0, if_neg h0]
    split at hs
    · rename_i h1; simp only [beq_iff_eq] at hs; rw [if_pos h1, if_pos h1, hs]
    · rename_i h1
      rw [if_neg h1, if_neg h1]
      split at hs
      · rename_i h2; simp only [beq_iff_eq] at hs; rw [if_pos h2, if_pos h2, hs]
      · rename_i h2; simp only [beq_iff_eq] at hs; rw [if_neg h2, if_neg h2, hs]
theorem enc_apart {x y : Itm} (hx : x.Ok) (hy : y.Ok) (h : alikeI x y) {b c r t : List UInt8} (hb : encI x = some b) (hc : encI y = some c) (he : b ++ r = c ++ t) : sameI x y = true ∧ r = t := by
  obtain ⟨hk, hz⟩ := h
  unfold sameI
  by_cases h0 : x.kind = 0
  · have e1 := back0 hx hb h0 r
    have e2 := back0 hy hc (hk ▸ h0) t
    rw [he, hz, e2] at e1
    simp only [Prod.mk.injEq, and_true] at e1
    rw [if_pos h0]
    exact ⟨by simp [e1.1], e1.2.symm⟩
  · rw [if_neg h0]
    by_cases h1 : x.kind = 1
    · have e1 := back1 hb h1 r
      have e2 := back1 hc (hk ▸ h1) t
      rw [he, e2] at e1
      simp only [Prod.mk.injEq, and_true] at e1
      rw [if_pos h1]
      exact ⟨by simp [e1.1], e1.2.symm⟩
    · rw [if_neg h1]
      by_cases h2 : x.kind = 2
      · have e1 := back2 hb h2 r
        have e2 := back2 hc (hk ▸ h2) t
        rw [he, e2] at e1
        simp only [Prod.mk.injEq, and_true] at e1
        rw [if_pos h2]
        exact ⟨by simp [e1.1], e1.2.symm⟩
      · rw [if_neg h2]
        have e1 := back3 hx hb h0 h1 h2 r
        have e2 := back3 hy hc (hk ▸ h0) (hk ▸ h1) (hk ▸ h2) t
        rw [he, e2] at e1
        simp only [Prod.mk.injEq, and_true] at e1
        exact ⟨by simp [e1.1], e1.2.symm⟩


/-- Are two rows of items the same, item by item? -/
def sameAll (l m : List Itm) : Bool := (l.zip m).all fun p => sameI p.1 p.2
theorem sameAll_snoc {l m : List Itm} {x y : Itm} (h : l.length = m.length) : sameAll (l ++ [x]) (m ++ [y]) = (sameAll l m && sameI x y) := by
  unfold sameAll
  rw [List.zip_append h, List.all_append]
  simp
/-- of the same kinds and sizes -/
def alikeAll : List Itm → List Itm → Prop
  | x :: l, y :: m => alikeI x y ∧ alikeAll l m
  | [], [] => True
  | _, _ => False
theorem alikeAll_snoc : ∀ {l m : List Itm} {x y : Itm}, alikeAll l m → alikeI x y → alikeAll (l ++ [x]) (m ++ [y])
  | [], [], _, _, _, h => ⟨h, trivial⟩
  | _ :: _, _ :: _, _, _, h, h' => ⟨h.1, alikeAll_snoc h.2 h'⟩
  | [], _ :: _, _, _, h, _ => h.elim
  | _ :: _, [], _, _, h, _ => h.elim
theorem enc_all_apart : ∀ {l m : List Itm}, (∀ x ∈ l, x.Ok) → (∀ y ∈ m, y.Ok) → alikeAll l m → badAll l = false → badAll m = false → (sameAll l m = true ↔ encAll l = encAll m)
  | [], [], _, _, _, _, _ => by simp [sameAll, encAll]
  | [], _ :: _, _, _, h, _, _ => h.elim
  | _ :: _, [], _, _, h, _, _ => h.elim
  | x :: l, y :: m, hx, hy, h, hb, hc => by
    have hbx : (encI x).isNone = false ∧ badAll l = false := by simpa [badAll] using hb
    have hby : (encI y).isNone = false ∧ badAll m = false := by simpa [badAll] using hc
    obtain ⟨b, hb1⟩ : ∃ b, encI x = some b := by cases he : encI x with | none => rw [he] at hbx; cases hbx.1 | some b => exact ⟨b, rfl⟩
    obtain ⟨c, hc1⟩ : ∃ c, encI y = some c := by cases he : encI y with | none => rw [he] at hby; cases hby.1 | some b => exact ⟨b, rfl⟩
    have ih := enc_all_apart (fun z hz => hx z (List.mem_cons_of_mem _ hz)) (fun z hz => hy z (List.mem_cons_of_mem _ hz)) h.2 hbx.2 hby.2
    have e1 : encAll (x :: l) = b ++ encAll l := by simp [encAll, hb1]
    have e2 : encAll (y :: m) = c ++ encAll m := by simp [encAll, hc1]
    have e3 : sameAll (x :: l) (y :: m) = (sameI x y && sameAll l m) := by simp [sameAll]
    rw [e1, e2, e3, Bool.and_eq_true]
    constructor
    · rintro ⟨h1, h2⟩
      have := enc_same h.1 h1
      rw [hb1, hc1] at this
      cases this
      rw [ih.1 h2]
    · intro he
      obtain ⟨h1, h2⟩ := enc_apart (hx x (by simp)) (hy y (by simp)) h.1 hb1 hc1 he
      exact ⟨h1, ih.2 h2⟩
theorem apart_eq {l m : List Itm} (hx : ∀ x ∈ l, x.Ok) (hy : ∀ y ∈ m, y.Ok) (h : alikeAll l m) (hb : badAll l = false) (hc : badAll m = false) : ((encAll l == encAll m) == sameAll l m) = true := by
  have := enc_all_apart hx hy h hb hc
  cases hs : sameAll l m <;> rw [hs] at this
  · have : ¬ encAll l = encAll m := fun e => by cases this.2 e
    simp [this]
  · simp [this.1 rfl]
end Go.Proofs.Ytaipgkbnmfjpfaa
