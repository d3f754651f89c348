/- What came in: pieces. -/
import Derived.Test.YtmaiokjcgijdcaaDoorOpen
import Derived.Test.YtmaiokjcgijdcaaDoorSl
namespace Go.Proofs.YtmaiokjcgijdcaaDoor
open Go.RowKit Go.Deep Go.ChangeShapes Go.WideShapes

section
variable {H : Type} {enc : TypeId × Value → H} {w : World} {base : Nat} {spare : Nat → Bool} {held : Bool} {fuel : Nat}
theorem open_pieceC {cs : List Value} {x : DataW H × List MemPlace} (h : DataW.trod enc Tryd.prog w base spare held fuel 54 cs = some x) : ∃ p : PC, p.Ok w ∧ cs = p.cells := by
  have hc : Tryd.prog.cellsOf 54 = 3 := by kernel_rfl
  obtain ⟨xs, m, rfl, rfl, hl, hxl, hx⟩ := DataW.trod_struct Tryd.underlying54 h
  rw [hc] at hl
  have e1 : Tryd.prog.cellsOf 5 = 1 := by kernel_rfl
  have e2 : Tryd.prog.cellsOf 22 = 1 := by kernel_rfl
  obtain ⟨y0, h0⟩ := trod_field hx hxl 0 0 1 rfl e1
  obtain ⟨y1, h1⟩ := trod_field hx hxl 1 1 1 rfl e2
  obtain ⟨y2, h2⟩ := trod_field hx hxl 2 2 1 rfl e2
  obtain ⟨k0, g0, _, w0⟩ := DataW.trod_int Tryd.underlying5 h0
  obtain ⟨b0, rfl⟩ := u8_wf w0
  obtain ⟨A, n, c, g, xs1, g1, hn, hc1, hm1, hr1, -⟩ := open_bytesC h1
  obtain ⟨B, m2, d, g', ys1, g2, hm, hd1, hm2, hr2, -⟩ := open_bytesC h2
  refine ⟨⟨b0, A, n, c, xs1, B, m2, d, ys1⟩, ⟨hn, hc1, hm1, ⟨g, hr1⟩, hm, hd1, hm2, ⟨g', hr2⟩⟩, ?_⟩
  have key : cs = (cs.drop 0).take 1 ++ ((cs.drop 1).take 1 ++ (cs.drop 2).take 1) := by
    have t : ∀ (n k : Nat), (cs.drop n).take k ++ cs.drop (n + k) = cs.drop n := fun n k => by
      rw [← List.drop_drop]; exact List.take_append_drop k (cs.drop n)
    have h5 : (cs.drop 2).take 1 = cs.drop 2 := List.take_of_length_le (by simp; omega)
    rw [h5, t 1 1, t 0 1]
    rfl
  rw [key, g0, g1, g2]
  rfl

set_option maxRecDepth 100000 in
theorem open_pieces {v : Value} {d : DataW H} {ps : List MemPlace} (hv : ∃ a len cap, v = .slice a len cap) (h : DataW.Trod enc Tryd.prog w base spare held 52 v d ps) :
    ∃ A n c l, v = .slice A n c ∧ Hid (n = l.length) ∧ n ≤ c ∧ c ≤ maxLen ∧ PcRd w A l := by
  obtain ⟨a, len, cap, rfl⟩ := hv
  obtain ⟨fuel, hf⟩ := h
  have hc : Tryd.prog.cellsOf 54 = 3 := by kernel_rfl
  rcases open_slice Tryd.underlying52 hf with ⟨he, hx⟩ | ⟨a', len', cap', m, n, D, Pl, he, hb, hl, hm, hmm, hxx, hx⟩
  · simp [Value.cells] at he
    obtain ⟨rfl, rfl, rfl⟩ := he
    exact ⟨none, 0, 0, [], rfl, rfl, Nat.le_refl _, by simp [maxLen], ⟨fun h => absurd rfl h, fun _ h => by cases h⟩⟩
  · simp [Value.cells] at he
    obtain ⟨rfl, rfl, rfl⟩ := he
    have hml : len ≤ m := by rw [hmm]; split <;> omega
    have hv : ∀ i, i < len → ∃ it : PC, it.Ok w ∧ ∀ j u, it.cells[j]? = some u → w.cell? (a'.add (i * 3 + j)) = some u := fun i hi => by
      obtain ⟨cs', h1, h2⟩ := hx i (by omega)
      rw [hc] at h1
      obtain ⟨it, hok, rfl⟩ := open_pieceC h2
      obtain ⟨_, hlen, hcell⟩ := World.cells?_some h1
      refine ⟨it, hok, fun j u hu => ?_⟩
      have hj : j < 3 := (List.getElem?_eq_some_iff.1 hu).1
      have := hcell j hj
      rw [hu] at this
      rw [← this]
      congr 1
      unfold Addr.add
      by_cases hi0 : i * 3 = 0 <;> by_cases hj0 : j = 0 <;> simp [hi0, hj0, Nat.add_assoc]
    have hi : Inhabited PC := ⟨⟨0, none, 0, 0, [], none, 0, 0, []⟩⟩
    obtain ⟨B, hB⟩ := choose_lt hv
    refine ⟨some a', len, cap, (List.range len).map B, rfl, by simp [Hid], hl, hm, ?_, ?_⟩
    · intro hne
      have hpos : 0 < len := by
        rcases Nat.eq_zero_or_pos len with h0 | h0
        · subst h0; simp at hne
        · exact h0
      have hsp := add_spot (cell_plain ((hB 0 hpos).2 0 _ rfl))
      refine ⟨a'.block, a'.off, by rw [← hsp], fun j hj => ?_⟩
      simp only [List.length_map, List.length_range] at hj
      have hBj := (hB j hj).2
      simp only [List.getElem_map, List.getElem_range]
      have h0 := hBj 0 _ rfl
      have h1 := hBj 1 _ rfl
      have h2 := hBj 2 _ rfl
      rw [hsp, add_plain] at h0 h1 h2
      exact ⟨h0, h1, h2⟩
    · intro p hp
      obtain ⟨i, hi, rfl⟩ := List.mem_map.1 hp
      exact (hB i (List.mem_range.1 hi)).1
end
end Go.Proofs.YtmaiokjcgijdcaaDoor
