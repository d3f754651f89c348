/- What came in: slices of slices of bytes. -/
import Derived.Test.YtmaiokjcgijdcaaDoorOpen
import Derived.Test.YtmaiokjcgijdcaaDoorParts
namespace Go.Proofs.YtmaiokjcgijdcaaDoor
open Go.RowKit Go.Deep Go.ChangeShapes Go.WideShapes

theorem open_partsC {H : Type} {enc : TypeId × Value → H} {w : World} {base : Nat} {spare : Nat → Bool} {held : Bool} {fuel : Nat} {cs : List Value} {x : DataW H × List MemPlace} (h : DataW.trod enc Tryd.prog w base spare held fuel 41 cs = some x) :
    ∃ A n c l, cs = [.slice A n c] ∧ Hid (n = l.length) ∧ n ≤ c ∧ PRd w A l ∧ (x = (.nil, []) ∧ n = 0 ∨ ∃ elems rest ps, x = (.slice elems rest, ps) ∧ elems.length = n ∧ ∀ s ∈ l, s.n = 0 ∨ ∃ es rs, .slice es rs ∈ elems ∧ es.length = s.n) := by
  have hc1 : Tryd.prog.cellsOf 22 = 1 := by kernel_rfl
  rcases open_slice1 Tryd.underlying41 hc1 h with ⟨rfl, rfl⟩ | ⟨a, len, cap, m, fu, V, D, Pl, rfl, hb, hl, hm, hmm, rfl, hx⟩
  · exact ⟨none, 0, 0, [], rfl, rfl, Nat.le_refl _, ⟨fun h => absurd rfl h, fun s hs => by cases hs⟩, .inl ⟨rfl, rfl⟩⟩
  · have hml : len ≤ m := by rw [hmm]; split <;> omega
    have hi : Inhabited BS := ⟨⟨none, 0, 0, []⟩⟩
    have hv : ∀ i, i < m → ∃ b : BS, V i = b.val ∧ b.Ok w ∧ (b.n = 0 ∨ ∃ es rs, D i = .slice es rs ∧ es.length = b.n) := fun i hi => by
      obtain ⟨A, n, c, g, xs, hv, hn, hc, -, hr, hd⟩ := open_bytesC (hx i hi).2
      refine ⟨⟨A, n, c, xs⟩, by simpa [BS.val] using hv, ⟨hn, hc, g, hr⟩, ?_⟩
      rcases hd with ⟨-, h0⟩ | ⟨es, rs, ps, hd, he, -⟩
      · exact .inl h0
      · exact .inr ⟨es, rs, (Prod.mk.inj hd).1, he⟩
    obtain ⟨B, hB⟩ := choose_lt hv
    refine ⟨some a, len, cap, (List.range len).map B, rfl, by unfold Hid; simp, hl, ⟨?_, ?_⟩, .inr ⟨_, _, _, rfl, by simp, ?_⟩⟩
    · intro hne
      have hpos : 0 < len := by
        rcases Nat.eq_zero_or_pos len with h0 | h0
        · subst h0; simp at hne
        · exact h0
      have hsp := add_spot (cell_plain (hx 0 (by omega)).1)
      refine ⟨a.block, a.off, by rw [← hsp], fun j hj => ?_⟩
      simp only [List.length_map, List.length_range] at hj
      have := (hx j (by omega)).1
      rw [hsp, add_plain] at this
      rw [this, (hB j (by omega)).1]
      simp
    · intro s hs
      obtain ⟨i, hi, rfl⟩ := List.mem_map.1 hs
      have := List.mem_range.1 hi
      exact (hB i (by omega)).2.1
    · intro s hs
      obtain ⟨i, hi, rfl⟩ := List.mem_map.1 hs
      have hlt := List.mem_range.1 hi
      rcases (hB i (by omega)).2.2 with h0 | ⟨es, rs, hd, he⟩
      · exact .inl h0
      · exact .inr ⟨es, rs, List.mem_map.2 ⟨i, hi, hd⟩, he⟩
theorem weights_mem_all {H : Type} {P : Program} {e : TypeId} {d : DataW H} {n : Nat} (hn : n ∈ d.weights P e) : ∀ {l : List (DataW H)}, d ∈ l → n ∈ DataW.weightsAll P e l
  | [], h => by cases h
  | x :: r, h => by
    simp only [DataW.weightsAll, List.mem_append]
    rcases List.mem_cons.1 h with rfl | h
    · exact .inl hn
    · exact .inr (weights_mem_all hn h)
/-- a slice's slices are bounded, too -/
theorem sized_inner {H : Type} {P : Program} {ts : List TypeId} {ds : List (DataW H)} (h : (DataW.weightsEach P ts ds).all (· ≤ reachBytes) = true) {j : Nat} {t e f : TypeId} {elems spare es rs : List (DataW H)} (ht : ts[j]? = some t)
    (hd : ds[j]? = some (.slice elems spare)) (hu : P.underlying t = some (.slice e)) (hu2 : P.underlying e = some (.slice f)) (hm : .slice es rs ∈ elems) : (es.length + rs.length) * P.bytesOf f ≤ reachBytes := by
  have h1 : (es.length + rs.length) * P.bytesOf f ∈ DataW.weightsAll P e elems := weights_mem_all (by simp [DataW.weights, hu2]) hm
  have := List.all_eq_true.1 h _ (DataW.weights_mem_each ht hd ((es.length + rs.length) * P.bytesOf f) (by simp [DataW.weights, hu, h1]))
  simpa using this
end Go.Proofs.YtmaiokjcgijdcaaDoor
