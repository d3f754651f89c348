/- What came in: items. -/
import Derived.Test.YtaipgkbnmfjpfaaOpen
import Derived.Test.YtaipgkbnmfjpfaaPackItm
namespace Go.Proofs.Ytaipgkbnmfjpfaa
open Go.RowKit Go.Deep Go.ChangeShapes Go.WideShapes

section
variable {H : Type} {enc : TypeId × Value → H} {w : World} {base : Nat} {spare : Nat → Bool} {held : Bool} {fuel : Nat}
theorem open_itemC {cs : List Value} {x : DataW H × List MemPlace} (h : DataW.trod enc Try.prog w base spare held fuel 38 cs = some x) : ∃ it : Itm, it.Ok ∧ cs = it.cells := by
  have hc : Try.prog.cellsOf 38 = 37 := by kernel_rfl
  obtain ⟨xs, m, rfl, rfl, hl, hxl, hx⟩ := DataW.trod_struct Try.underlying38 h
  rw [hc] at hl
  have e1 : Try.prog.cellsOf 5 = 1 := by kernel_rfl
  have e2 : Try.prog.cellsOf 35 = 1 := by kernel_rfl
  have e3 : Try.prog.cellsOf 3 = 1 := by kernel_rfl
  have e4 : Try.prog.cellsOf 4 = 1 := by kernel_rfl
  have e5 : Try.prog.cellsOf 9 = 1 := by kernel_rfl
  have e6 : Try.prog.cellsOf 36 = 32 := by kernel_rfl
  obtain ⟨y0, h0⟩ := trod_field hx hxl 0 0 1 rfl e1
  obtain ⟨y1, h1⟩ := trod_field hx hxl 1 1 1 rfl e2
  obtain ⟨y2, h2⟩ := trod_field hx hxl 2 2 1 rfl e3
  obtain ⟨y3, h3⟩ := trod_field hx hxl 3 3 1 rfl e4
  obtain ⟨y4, h4⟩ := trod_field hx hxl 4 4 1 rfl e5
  obtain ⟨y5, h5⟩ := trod_field hx hxl 5 5 32 rfl e6
  obtain ⟨k0, g0, _, w0⟩ := DataW.trod_int Try.underlying5 h0
  obtain ⟨k1, g1, _, w1⟩ := DataW.trod_int Try.underlying35 h1
  obtain ⟨k2, g2, _, w2⟩ := DataW.trod_int Try.underlying3 h2
  obtain ⟨k3, g3, _⟩ := DataW.trod_bool Try.underlying4 h3
  obtain ⟨k4, g4, _, w4⟩ := DataW.trod_string Try.underlying9 h4
  obtain ⟨hs, w5, g5⟩ := open_hashC h5
  obtain ⟨b0, rfl⟩ := u8_wf w0
  obtain ⟨b1, rfl, hb1⟩ := u64_wf w1
  have hb2 := i64_wf w2
  refine ⟨⟨b0, b1, k2, k3, k4, hs⟩, ⟨hb1, hb2.1, hb2.2, by simpa [maxLen] using w4, w5⟩, ?_⟩
  have key : cs = (cs.drop 0).take 1 ++ ((cs.drop 1).take 1 ++ ((cs.drop 2).take 1 ++ ((cs.drop 3).take 1 ++ ((cs.drop 4).take 1 ++ (cs.drop 5).take 32)))) := by
    have t : ∀ (n k : Nat), (cs.drop n).take k ++ cs.drop (n + k) = cs.drop n := fun n k => by
      rw [← List.drop_drop]; exact List.take_append_drop k (cs.drop n)
    have h5 : (cs.drop 5).take 32 = cs.drop 5 := List.take_of_length_le (by simp; omega)
    rw [h5, t 4 1, t 3 1, t 2 1, t 1 1, t 0 1]
    rfl
  rw [key, g0, g1, g2, g3, g4, g5]
  rfl

theorem open_items {t : TypeId} (ht : t = 28) {v : Value} {d : DataW H} {ps : List MemPlace} (hv : ∃ a len cap, v = .slice a len cap) (h : DataW.Trod enc Try.prog w base spare held t v d ps) :
    ∃ A n c g l, v = .slice A n c ∧ Hid (n = l.length) ∧ n ≤ c ∧ c ≤ maxLen ∧ Items w g A l ∧ (l ≠ [] → g < w.heap.size) ∧ (d = .nil ∧ n = 0 ∨ ∃ elems rest, d = .slice elems rest ∧ elems.length = n) := by
  subst ht
  obtain ⟨a, len, cap, rfl⟩ := hv
  obtain ⟨fuel, hf⟩ := h
  have hc : Try.prog.cellsOf 38 = 37 := by kernel_rfl
  rcases open_slice Try.underlying28 hf with ⟨he, hx⟩ | ⟨a', len', cap', m, n, D, Pl, he, hb, hl, hm, hmm, hxx, hx⟩
  · simp [Value.cells] at he
    obtain ⟨rfl, rfl, rfl⟩ := he
    simp only [Prod.mk.injEq] at hx
    exact ⟨none, 0, 0, 0, [], rfl, rfl, Nat.le_refl _, by simp [maxLen], fun h => absurd rfl h, fun h => absurd rfl h, .inl ⟨hx.1, rfl⟩⟩
  · simp [Value.cells] at he
    obtain ⟨rfl, rfl, rfl⟩ := he
    simp only [Prod.mk.injEq] at hxx
    have hml : len ≤ m := by rw [hmm]; split <;> omega
    have hv : ∀ i, i < len → ∃ it : Itm, it.Ok ∧ ∀ j u, it.cells[j]? = some u → w.cell? (a'.add (i * 37 + j)) = some u := fun i hi => by
      obtain ⟨cs', h1, h2⟩ := hx i (by omega)
      rw [hc] at h1
      obtain ⟨it, hok, rfl⟩ := open_itemC h2
      obtain ⟨_, hlen, hcell⟩ := World.cells?_some h1
      refine ⟨it, hok, fun j u hu => ?_⟩
      have hj : j < 37 := by
        have := (List.getElem?_eq_some_iff.1 hu).1
        rw [Itm.len it hok] at this; exact this
      have := hcell j hj
      rw [hu] at this
      rw [← this]
      congr 1
      unfold Addr.add
      by_cases hi0 : i * 37 = 0 <;> by_cases hj0 : j = 0 <;> simp [hi0, hj0, Nat.add_assoc]
    obtain ⟨B, hB⟩ := choose_lt hv
    refine ⟨some a', len, cap, a'.block, (List.range len).map B, rfl, by simp [Hid], hl, hm, ?_, ?_, .inr ⟨_, _, hxx.1, by simp⟩⟩
    · intro hne
      have hpos : 0 < len := by
        rcases Nat.eq_zero_or_pos len with h0 | h0
        · subst h0; simp at hne
        · exact h0
      have hsp := add_spot (cell_plain ((hB 0 hpos).2 0 _ rfl))
      refine ⟨a'.off, by rw [hsp], fun j hj => ?_⟩
      simp only [List.length_map, List.length_range] at hj
      have hBj := hB j hj
      simp only [List.getElem_map, List.getElem_range]
      refine ⟨fun i u hu => ?_, hBj.1⟩
      have := hBj.2 i u hu
      rw [hsp, add_plain] at this
      rw [← this]
      congr 2
      omega
    · intro hne
      have hpos : 0 < len := by
        rcases Nat.eq_zero_or_pos len with h0 | h0
        · subst h0; simp at hne
        · exact h0
      have := block_lt_of_cell ((hB 0 hpos).2 0 _ rfl)
      unfold Addr.add at this
      split at this <;> exact this
end
end Go.Proofs.Ytaipgkbnmfjpfaa
