/- What came in: rows of records. -/
import Derived.Test.YtaieonajialenaaOpenRec
import Derived.Test.YtaieonajialenaaBookI
namespace Go.Proofs.Ytaieonajialenaa
open Go.RowKit Go.Deep Go.ChangeShapes Go.WideShapes

theorem flatMap_get {α : Type} {f : α → List Value} {sz : Nat} : ∀ {l : List α}, (∀ x ∈ l, (f x).length = sz) → ∀ {J : Nat} {u : Value}, (l.flatMap f)[J]? = some u → ∃ i x, l[i]? = some x ∧ i * sz ≤ J ∧ (f x)[J - i * sz]? = some u
  | [], _, J, u, h => by simp at h
  | y :: l, hl, J, u, h => by
    rw [List.flatMap_cons] at h
    have hy := hl y List.mem_cons_self
    by_cases hJ : J < sz
    · rw [List.getElem?_append_left (by omega)] at h
      exact ⟨0, y, rfl, by omega, by simpa using h⟩
    · rw [List.getElem?_append_right (by omega), hy] at h
      obtain ⟨i, x, h1, h2, h3⟩ := flatMap_get (fun x hx => hl x (List.mem_cons_of_mem _ hx)) h
      refine ⟨i + 1, x, by simpa using h1, by rw [Nat.succ_mul]; omega, ?_⟩
      rw [Nat.succ_mul, show J - (i * sz + sz) = J - sz - i * sz by omega]
      exact h3
section
variable {H : Type} {enc : TypeId × Value → H} {w : World} {base : Nat} {spare : Nat → Bool} {held : Bool} {fuel : Nat}
set_option maxRecDepth 100000 in
theorem open_recs {v : Value} {d : DataW H} {ps : List MemPlace} (hv : ∃ a len cap, v = .slice a len cap) (h : DataW.Trod enc Try.prog w base spare held 22 v d ps) :
    ∃ A n c l, v = .slice A n c ∧ Hid (n = l.length) ∧ n ≤ c ∧ c ≤ maxLen ∧ (∀ r ∈ l, r.Wf) ∧ RecsAt w A l := by
  obtain ⟨a, len, cap, rfl⟩ := hv
  obtain ⟨fuel, hf⟩ := h
  have hc : Try.prog.cellsOf 38 = 74 := by kernel_rfl
  rcases open_slice Try.underlying22 hf with ⟨he, hx⟩ | ⟨a', len', cap', m, n, D, Pl, he, hb, hl, hm, hmm, hxx, hx⟩
  · simp [Value.cells] at he
    obtain ⟨rfl, rfl, rfl⟩ := he
    exact ⟨none, 0, 0, [], rfl, rfl, Nat.le_refl _, by simp [maxLen], (fun _ h => (by cases h)), fun h => absurd rfl h⟩
  · simp [Value.cells] at he
    obtain ⟨rfl, rfl, rfl⟩ := he
    have hml : len ≤ m := by rw [hmm]; split <;> omega
    have hv : ∀ i, i < len → ∃ it : Rec, it.Wf ∧ ∀ j u, it.cells[j]? = some u → w.cell? (a'.add (i * 74 + j)) = some u := fun i hi => by
      obtain ⟨cs', h1, h2⟩ := hx i (by omega)
      rw [hc] at h1
      obtain ⟨it, hok, rfl⟩ := open_recC (.inr rfl) h2
      obtain ⟨_, hlen, hcell⟩ := World.cells?_some h1
      refine ⟨it, hok, fun j u hu => ?_⟩
      have hj : j < 74 := by have := (List.getElem?_eq_some_iff.1 hu).1; rw [Rec.length_cells hok.ok] at this; exact this
      have := hcell j hj
      rw [hu] at this
      rw [← this]
      congr 1
      unfold Addr.add
      by_cases hi0 : i * 74 = 0 <;> by_cases hj0 : j = 0 <;> simp [hi0, hj0, Nat.add_assoc]
    have hi : Inhabited Rec := ⟨Rec.zero⟩
    obtain ⟨B, hB⟩ := choose_lt hv
    have hmem : ∀ r ∈ (List.range len).map B, r.Wf := by
      intro p hp
      obtain ⟨i, hi, rfl⟩ := List.mem_map.1 hp
      exact (hB i (List.mem_range.1 hi)).1
    refine ⟨some a', len, cap, (List.range len).map B, rfl, by simp [Hid], hl, hm, hmem, ?_⟩
    intro hne
    have hpos : 0 < len := by
      rcases Nat.eq_zero_or_pos len with h0 | h0
      · subst h0; simp at hne
      · exact h0
    have hsp := add_spot (cell_plain ((hB 0 hpos).2 0 _ rfl))
    refine ⟨a'.block, a'.off, by rw [← hsp], fun J u hu => ?_⟩
    obtain ⟨i, x, h1, h2, h3⟩ := flatMap_get (fun x hx => Rec.length_cells (hmem x hx).ok) hu
    have hlt : i < len := by have := (List.getElem?_eq_some_iff.1 h1).1; simpa using this
    have hxB : x = B i := by
      rw [List.getElem?_map, List.getElem?_range hlt] at h1
      simpa using h1.symm
    subst hxB
    have h4 := (hB i hlt).2 _ _ h3
    rw [hsp, add_plain, show i * 74 + (J - i * 74) = J by omega] at h4
    exact h4
end
theorem Ent.sinceRecs {w0 : World} {A : Option Addr} {l : List Rec} {R : List HP} (h : RecsAt w0 A l) : Ent (HP.since w0 :: R) (fun w => RecsAt w A l) := fun _ hw => h.kept hw.since_kept
end Go.Proofs.Ytaieonajialenaa
