/- pack's writer and reader as pieces of memory. -/
import Derived.Test.YtibkngjacdggpaaSl
import Derived.Test.YtibkngjacdggpaaPackR
namespace Go.Proofs.Ytibkngjacdggpaa
open Go.RowKit HP



section
variable {w w' : World} {R : List HP} {b : Nat} {s : List UInt8 × Bool}

































end

/-- A reader in block r: what is left, and whether it is bad. -/
def RdH (T : TypeId) (r : Nat) (s : List UInt8 × Bool) : HP := ex fun x : Option Addr × Nat × Nat => cond (Hid (x.2.1 = s.1.length) ∧ x.2.1 ≤ x.2.2) (sep (blk r T #[.slice x.1 x.2.1 x.2.2, .bool s.2]) (rb x.1 s.1))
section
variable {w w' : World} {R : List HP} {r : Nat} {T : TypeId} {s : List UInt8 × Bool}
theorem Holds.rd (h : Holds w (RdH T r s :: R)) : ∃ g, Rd T w r g s ∧ g ≠ w.heap.size ∧ ∀ w' s', Rd T w' r g s' → Kept w w' (· = r) → s'.1.length ≤ s.1.length → Holds w' (RdH T r s' :: R) := by
  obtain ⟨⟨A, n, c⟩, h⟩ := h.ex_
  obtain ⟨⟨hn, hc⟩, h⟩ := h.cond_
  obtain ⟨_, S1, S2, hS, h2, hd, hs⟩ := id h
  obtain ⟨Sa, Sb, ha, ⟨g0, hg0, hgs⟩, hd2, hs2⟩ := hS
  have hr : r < w.heap.size := ha.1.lt
  have key : ∃ g, Rd T w r g s ∧ g ≠ w.heap.size ∧ (s.1 ≠ [] → g = g0) := by
    by_cases hx : s.1 = []
    · refine ⟨w.heap.size + 1, ⟨by omega, A, n, c, ha.1, hn, hc, by rw [hx]; exact RB.nil _ _ _⟩, by omega, fun h => absurd hx h⟩
    · refine ⟨g0, ⟨?_, A, n, c, ha.1, hn, hc, hg0⟩, ?_, fun _ => rfl⟩
      · intro e
        exact hd2 r ((ha.2 r).2 rfl) ((hgs r).2 ⟨e.symm, hx⟩)
      · have := hg0.lt hx; omega
  obtain ⟨g, h1, h3, h4⟩ := key
  refine ⟨g, h1, h3, fun w' s' hr' hk hl => ?_⟩
  refine h.change fun S hS => ?_
  obtain ⟨Sa, Sb, ha, ⟨g1, hg1, hgs1⟩, hd2, hs2⟩ := hS
  obtain ⟨hne, A', n', c', hB, hn', hc', hrb⟩ := hr'
  have hgg : s.1 ≠ [] → g1 = g := fun hx => by
    obtain ⟨o, e, _⟩ := hg1 hx
    obtain ⟨_, A2, n2, c2, hB2, _, _, hrb2⟩ := h1
    have e2 : (#[.slice A n c, .bool s.2] : Array Value) = #[.slice A2 n2 c2, .bool s.2] := by
      have ha' := ha.1; have hB2' := hB2
      unfold Blk at ha' hB2'
      rw [ha'] at hB2'
      injection hB2' with e3
      injection e3
    obtain ⟨o2, e3, _⟩ := hrb2 hx
    simp at e2
    obtain ⟨rfl, _, _⟩ := e2
    have e5 := e.symm.trans e3
    simp at e5
    exact e5.1
  have hx' : s'.1 ≠ [] → s.1 ≠ [] := fun hx e => hx (List.eq_nil_of_length_eq_zero (by rw [e] at hl; simpa using hl))
  refine ⟨fun k => k = r ∨ (k = g ∧ s'.1 ≠ []), ⟨(A', n', c'), ⟨hn', hc'⟩, fun k => k = r, fun k => k = g ∧ s'.1 ≠ [], ⟨hB, fun _ => Iff.rfl⟩, ⟨g, hrb, fun _ => Iff.rfl⟩, fun k hk hv => hne (by rw [← hk, hv.1]), fun _ => Iff.rfl⟩,
    hk.mono fun k _ hk => (hs2 k).2 (.inl ((ha.2 k).2 hk)), fun k hk => ?_⟩
  rcases hk with hk | ⟨hk, hx⟩
  · exact .inl ((hs2 k).2 (.inl ((ha.2 k).2 hk)))
  · exact .inl ((hs2 k).2 (.inr ((hgs1 k).2 ⟨by rw [hgg (hx' hx)]; exact hk, hx' hx⟩)))
theorem Holds.rd_c1 (h : Holds w (RdH T r s :: R)) : w.cell? ⟨r, 1, none⟩ = some (.bool s.2) := by obtain ⟨g, h, _⟩ := h.rd; exact h.c1
theorem rnumber_sl (k : Int) (h : Holds w (RdH 57 r s :: R)) (hb : s.1.length ≤ 140737488355328) :
    Calls Try.prog 9 #[.pointer (some ⟨r, 0, none⟩), .int .i64 k] w fun e w' => e = .returned (.int .u64 (rnum s k).1) ∧ Holds w' (RdH 57 r (rnum s k).2 :: R) := by
  obtain ⟨g, hr, _, hs⟩ := h.rd
  exact (rnumber_any r g s k w hr hb).mono fun e w' ⟨he, h1, h2⟩ => ⟨he, hs _ _ h1 h2 (rnum_len s k)⟩
theorem rtruth_len (s : List UInt8 × Bool) : (rtruth s).2.1.length ≤ s.1.length := by
  have h := rnum_len s 1
  simp only [rtruth]
  split <;> exact h
theorem rtruth_sl (h : Holds w (RdH 57 r s :: R)) (hb : s.1.length ≤ 140737488355328) :
    Calls Try.prog 11 #[.pointer (some ⟨r, 0, none⟩)] w fun e w' => e = .returned (.bool (rtruth s).1) ∧ Holds w' (RdH 57 r (rtruth s).2 :: R) := by
  obtain ⟨g, hr, _, hs⟩ := h.rd
  exact (rtruth_any r g s w hr hb).mono fun e w' ⟨he, h1, h2⟩ => ⟨he, hs _ _ h1 h2 (rtruth_len s)⟩
theorem rtext_sl (h : Holds w (RdH 57 r s :: R)) (hb : s.1.length ≤ 140737488355328) :
    Calls Try.prog 23 #[.pointer (some ⟨r, 0, none⟩)] w fun e w' => e = .returned (.string (strOf (rtext s).1)) ∧ Holds w' (RdH 57 r (rtext s).2 :: R) := by
  obtain ⟨g, hr, _, hs⟩ := h.rd
  exact (rtext_any r g s w hr hb).mono fun e w' ⟨he, h1, h2⟩ => ⟨he, hs _ _ h1 h2 (Nat.le_trans (rtake_len _ _) (rnum_len s 2))⟩
theorem rhash_sl (h : Holds w (RdH 57 r s :: R)) (hb : s.1.length ≤ 140737488355328) :
    Calls Try.prog 12 #[.pointer (some ⟨r, 0, none⟩)] w fun e w' => e = .returned (.agg (bcs (rhash s).1).toArray) ∧ Holds w' (RdH 57 r (rhash s).2 :: R) := by
  obtain ⟨g, hr, hg, hs⟩ := h.rd
  exact (rhash_any r g s w hr hb hg).mono fun e w' ⟨he, h1, h2⟩ => ⟨he, hs _ _ h1 h2 (rtake_len _ _)⟩
theorem rdone_sl (h : Holds w (RdH 57 r s :: R)) :
    Calls Try.prog 13 #[.pointer (some ⟨r, 0, none⟩)] w fun e w' => e = .returned (.bool (!s.2 && s.1.length == 0)) ∧ w = w' := by
  obtain ⟨g, hr, _, _⟩ := h.rd
  exact rdone_any r g s w hr




/-- a reader of its own bytes -/
theorem read_sl (A : Option Addr) (n c : Nat) (xs : List UInt8) (h : Holds w R) (hn : Hid (n = xs.length)) (hr : RD w A xs) (hb : xs.length ≤ 140737488355328) :
    Calls Try.prog 8 #[.slice A n c] w fun e w' => ∃ r, e = .returned (.pointer (some ⟨r, 0, none⟩)) ∧ Holds w' (RdH 57 r (xs, false) :: R) := by
  obtain ⟨g, hr⟩ := hr
  refine (read_any A g n c xs w hn hr hb).mono fun e w' ⟨r, g', he, hrd, hk, h1, h2⟩ => ⟨r, he, ?_⟩
  obtain ⟨hne, A', m, c', hB, hm, hc, hx⟩ := hrd
  refine h.new_ ⟨fun k => k = r ∨ (k = g' ∧ xs ≠ []), ⟨(A', m, c'), ⟨hm, hc⟩, fun k => k = r, fun k => k = g' ∧ xs ≠ [], ⟨hB, fun _ => Iff.rfl⟩, ⟨g', hx, fun _ => Iff.rfl⟩, fun k hk hv => hne (by rw [← hk, hv.1]), fun _ => Iff.rfl⟩, hk, fun k hk => ?_⟩
  rcases hk with hk | ⟨hk, _⟩ <;> omega
end
end Go.Proofs.Ytibkngjacdggpaa
