/- pack's writer and reader as pieces of memory. -/
import Derived.Test.YtibkngjacdggpaaDoorSl
import Derived.Test.YtibkngjacdggpaaDoorPackR
namespace Go.Proofs.YtibkngjacdggpaaDoor
open Go.RowKit HP

/-- A writer in block b: what it holds, and whether it is bad. -/
def WrH (b : Nat) (s : List UInt8 × Bool) : HP := ex fun v => sep (blk b 70 #[v, .bool s.2]) (own v s.1)
section
variable {w w' : World} {R : List HP} {b : Nat} {s : List UInt8 × Bool}
theorem Holds.wr (h : Holds w (WrH b s :: R)) : ∃ v, Wr w b v s.1 s.2 ∧ ∀ w' v' s', Wr w' b v' s'.1 s'.2 → WStep w w' b v v' → Holds w' (WrH b s' :: R) := by
  obtain ⟨v, h⟩ := h.ex_
  have h2 := h.sep_
  refine ⟨v, ⟨h2.blk, h2.tail.ob⟩, fun w' v' s' hw hst => ?_⟩
  have hne := hw.ne
  refine h.change fun S hS => ?_
  obtain ⟨S1, S2, h1, h2, hd, hs⟩ := hS
  refine ⟨fun k => k = b ∨ v'.ownBlock = some k, ⟨v', fun k => k = b, fun k => v'.ownBlock = some k, ⟨hw.1, fun _ => Iff.rfl⟩, ⟨hw.2, fun _ => Iff.rfl⟩, fun k hk hv => hne k hv hk, fun _ => Iff.rfl⟩, hst.kept.mono fun k _ hk => ?_, fun k hk => ?_⟩
  · rcases hk with hk | hk
    · exact (hs k).2 (.inl ((h1.2 k).2 hk))
    · exact (hs k).2 (.inr ((h2.2 k).2 hk.symm))
  · rcases hk with hk | hk
    · exact .inl ((hs k).2 (.inl ((h1.2 k).2 hk)))
    · rcases hst.place with e | ⟨g, hg, e⟩
      · exact .inl ((hs k).2 (.inr ((h2.2 k).2 (by rw [← e]; exact hk))))
      · rw [e] at hk; cases hk; exact .inr hg
theorem Holds.wr_c1 (h : Holds w (WrH b s :: R)) : w.cell? ⟨b, 1, none⟩ = some (.bool s.2) := by obtain ⟨v, h, _⟩ := h.wr; exact h.c1
/-- a zero Writer -/
theorem Holds.wr_new (h : Holds w (HP.blk b 70 #[.slice none 0 0, .bool false] :: R)) : Holds w (WrH b ([], false) :: R) := by
  refine Holds.mk_ex (.slice none 0 0) (Holds.join ?_)
  exact (h.nil_own).perm (.swap _ _ _)

theorem number_sl (n : Nat) (hn : n < 18446744073709551616) (k : Int) (h : Holds w (WrH b s :: R)) (hbd : s.1.length + 8 ≤ 140737488355328) :
    Calls Tryd.prog 46 #[.pointer (some ⟨b, 0, none⟩), .int .u64 n, .int .i64 k] w fun e w' => e = .returned (.tuple #[]) ∧ Holds w' (WrH b (wnum s n k) :: R) := by
  obtain ⟨v, hw, hs⟩ := h.wr
  exact (number_any b v s n hn k w hw hbd).mono fun e w' ⟨he, v', h1, h2⟩ => ⟨he, hs _ _ _ h1 h2⟩
theorem bytes_sl (h : Holds w (WrH b s :: R)) (hbd : s.1.length ≤ 140737488355328) :
    Calls Tryd.prog 51 #[.pointer (some ⟨b, 0, none⟩)] w fun e w' => ∃ v', e = .returned v' ∧ Holds w' (own v' (wbytes s) :: WrH b s :: R) := by
  obtain ⟨v, hw, _⟩ := h.wr
  exact (bytes_any b v s w hw hbd).mono fun e w' ⟨v', he, h1⟩ => ⟨v', he, h.fresh h1⟩
theorem truth_sl (t : Bool) (h : Holds w (WrH b s :: R)) (hbd : s.1.length + 8 ≤ 140737488355328) : Calls Tryd.prog 48 #[.pointer (some ⟨b, 0, none⟩), .bool t] w fun e w' => e = .returned (.tuple #[]) ∧ Holds w' (WrH b (wtruth s t) :: R) := by
  obtain ⟨v, hw, hs⟩ := h.wr
  exact (truth_any b v s t w hw hbd).mono fun e w' ⟨he, v', h1, h2⟩ => ⟨he, hs _ _ _ h1 h2⟩
theorem text_sl (t : ByteArray) (ht : t.size ≤ 9223372036854775807) (h : Holds w (WrH b s :: R)) (hbd : s.1.length + 70000 ≤ 140737488355328) : Calls Tryd.prog 80 #[.pointer (some ⟨b, 0, none⟩), .string t] w fun e w' => e = .returned (.tuple #[]) ∧ Holds w' (WrH b (wtext s t.data.toList) :: R) := by
  obtain ⟨v, hw, hs⟩ := h.wr
  exact (text_any b v s t w hw hbd ht).mono fun e w' ⟨he, v', h1, h2⟩ => ⟨he, hs _ _ _ h1 h2⟩
theorem hash_sl (hs : List UInt8) (h32 : hs.length = 32) (h : Holds w (WrH b s :: R)) (hbd : s.1.length + 32 ≤ 140737488355328) : Calls Tryd.prog 49 #[.pointer (some ⟨b, 0, none⟩), .agg (bcs hs).toArray] w fun e w' => e = .returned (.tuple #[]) ∧ Holds w' (WrH b (whash s hs) :: R) := by
  obtain ⟨v, hw, hst⟩ := h.wr
  exact (hash_any b v s hs h32 w hw hbd).mono fun e w' ⟨he, v', h1, h2⟩ => ⟨he, hst _ _ _ h1 h2⟩
end

/-- A reader in block r: what is left, and whether it is bad. -/
def RdH (T : TypeId) (r : Nat) (s : List UInt8 × Bool) : HP := ex fun x : Option Addr × Nat × Nat => cond (Hid (x.2.1 = s.1.length) ∧ x.2.1 ≤ x.2.2) (sep (blk r T #[.slice x.1 x.2.1 x.2.2, .bool s.2]) (rb x.1 s.1))
section
variable {w w' : World} {R : List HP} {r : Nat} {T : TypeId} {s : List UInt8 × Bool}
theorem Holds.rd (h : Holds w (RdH T r s :: R)) : ∃ g, Rd T w r g s ∧ g ≠ w.heap.size ∧ ∀ w' s', Rd T w' r g s' → Kept w w' (· = r) → s'.1.length ≤ s.1.length → Holds w' (RdH T r s' :: R) := by
  obtain ⟨⟨A, n, c⟩, h⟩ := h.ex_
  obtain ⟨⟨hn, hc⟩, h⟩ := h.cond_
  obtain ⟨_, S1, S2, hS, h2, hd, hs⟩ := id h
  obtain ⟨Sa, Sb, ha, ⟨g0, hg0, hgs⟩, hd2, hs2⟩ := hS
  have hr : r < w.heap.size := ha.1.lt
  have key : ∃ g, Rd T w r g s ∧ g ≠ w.heap.size ∧ (s.1 ≠ [] → g = g0) := by
    by_cases hx : s.1 = []
    · refine ⟨w.heap.size + 1, ⟨by omega, A, n, c, ha.1, hn, hc, by rw [hx]; exact RB.nil _ _ _⟩, by omega, fun h => absurd hx h⟩
    · refine ⟨g0, ⟨?_, A, n, c, ha.1, hn, hc, hg0⟩, ?_, fun _ => rfl⟩
      · intro e
        exact hd2 r ((ha.2 r).2 rfl) ((hgs r).2 ⟨e.symm, hx⟩)
      · have := hg0.lt hx; omega
  obtain ⟨g, h1, h3, h4⟩ := key
  refine ⟨g, h1, h3, fun w' s' hr' hk hl => ?_⟩
  refine h.change fun S hS => ?_
  obtain ⟨Sa, Sb, ha, ⟨g1, hg1, hgs1⟩, hd2, hs2⟩ := hS
  obtain ⟨hne, A', n', c', hB, hn', hc', hrb⟩ := hr'
  have hgg : s.1 ≠ [] → g1 = g := fun hx => by
    obtain ⟨o, e, _⟩ := hg1 hx
    obtain ⟨_, A2, n2, c2, hB2, _, _, hrb2⟩ := h1
    have e2 : (#[.slice A n c, .bool s.2] : Array Value) = #[.slice A2 n2 c2, .bool s.2] := by
      have ha' := ha.1; have hB2' := hB2
      unfold Blk at ha' hB2'
      rw [ha'] at hB2'
      injection hB2' with e3
      injection e3
    obtain ⟨o2, e3, _⟩ := hrb2 hx
    simp at e2
    obtain ⟨rfl, _, _⟩ := e2
    have e5 := e.symm.trans e3
    simp at e5
    exact e5.1
  have hx' : s'.1 ≠ [] → s.1 ≠ [] := fun hx e => hx (List.eq_nil_of_length_eq_zero (by rw [e] at hl; simpa using hl))
  refine ⟨fun k => k = r ∨ (k = g ∧ s'.1 ≠ []), ⟨(A', n', c'), ⟨hn', hc'⟩, fun k => k = r, fun k => k = g ∧ s'.1 ≠ [], ⟨hB, fun _ => Iff.rfl⟩, ⟨g, hrb, fun _ => Iff.rfl⟩, fun k hk hv => hne (by rw [← hk, hv.1]), fun _ => Iff.rfl⟩,
    hk.mono fun k _ hk => (hs2 k).2 (.inl ((ha.2 k).2 hk)), fun k hk => ?_⟩
  rcases hk with hk | ⟨hk, hx⟩
  · exact .inl ((hs2 k).2 (.inl ((ha.2 k).2 hk)))
  · exact .inl ((hs2 k).2 (.inr ((hgs1 k).2 ⟨by rw [hgg (hx' hx)]; exact hk, hx' hx⟩)))
theorem Holds.rd_c1 (h : Holds w (RdH T r s :: R)) : w.cell? ⟨r, 1, none⟩ = some (.bool s.2) := by obtain ⟨g, h, _⟩ := h.rd; exact h.c1
theorem rnumber_sl (k : Int) (h : Holds w (RdH 134 r s :: R)) (hb : s.1.length ≤ 140737488355328) :
    Calls Tryd.prog 95 #[.pointer (some ⟨r, 0, none⟩), .int .i64 k] w fun e w' => e = .returned (.int .u64 (rnum s k).1) ∧ Holds w' (RdH 134 r (rnum s k).2 :: R) := by
  obtain ⟨g, hr, _, hs⟩ := h.rd
  exact (rnumber_any r g s k w hr hb).mono fun e w' ⟨he, h1, h2⟩ => ⟨he, hs _ _ h1 h2 (rnum_len s k)⟩
theorem rtruth_len (s : List UInt8 × Bool) : (rtruth s).2.1.length ≤ s.1.length := by
  have h := rnum_len s 1
  simp only [rtruth]
  split <;> exact h
theorem rtruth_sl (h : Holds w (RdH 134 r s :: R)) (hb : s.1.length ≤ 140737488355328) :
    Calls Tryd.prog 97 #[.pointer (some ⟨r, 0, none⟩)] w fun e w' => e = .returned (.bool (rtruth s).1) ∧ Holds w' (RdH 134 r (rtruth s).2 :: R) := by
  obtain ⟨g, hr, _, hs⟩ := h.rd
  exact (rtruth_any r g s w hr hb).mono fun e w' ⟨he, h1, h2⟩ => ⟨he, hs _ _ h1 h2 (rtruth_len s)⟩
theorem rtext_sl (h : Holds w (RdH 134 r s :: R)) (hb : s.1.length ≤ 140737488355328) :
    Calls Tryd.prog 107 #[.pointer (some ⟨r, 0, none⟩)] w fun e w' => e = .returned (.string (strOf (rtext s).1)) ∧ Holds w' (RdH 134 r (rtext s).2 :: R) := by
  obtain ⟨g, hr, _, hs⟩ := h.rd
  exact (rtext_any r g s w hr hb).mono fun e w' ⟨he, h1, h2⟩ => ⟨he, hs _ _ h1 h2 (Nat.le_trans (rtake_len _ _) (rnum_len s 2))⟩
theorem rhash_sl (h : Holds w (RdH 134 r s :: R)) (hb : s.1.length ≤ 140737488355328) :
    Calls Tryd.prog 98 #[.pointer (some ⟨r, 0, none⟩)] w fun e w' => e = .returned (.agg (bcs (rhash s).1).toArray) ∧ Holds w' (RdH 134 r (rhash s).2 :: R) := by
  obtain ⟨g, hr, hg, hs⟩ := h.rd
  exact (rhash_any r g s w hr hb hg).mono fun e w' ⟨he, h1, h2⟩ => ⟨he, hs _ _ h1 h2 (rtake_len _ _)⟩
theorem rdone_sl (h : Holds w (RdH 134 r s :: R)) :
    Calls Tryd.prog 99 #[.pointer (some ⟨r, 0, none⟩)] w fun e w' => e = .returned (.bool (!s.2 && s.1.length == 0)) ∧ w = w' := by
  obtain ⟨g, hr, _, _⟩ := h.rd
  exact rdone_any r g s w hr




/-- a reader of its own bytes -/
theorem read_sl (A : Option Addr) (n c : Nat) (xs : List UInt8) (h : Holds w R) (hn : Hid (n = xs.length)) (hr : RD w A xs) (hb : xs.length ≤ 140737488355328) :
    Calls Tryd.prog 94 #[.slice A n c] w fun e w' => ∃ r, e = .returned (.pointer (some ⟨r, 0, none⟩)) ∧ Holds w' (RdH 134 r (xs, false) :: R) := by
  obtain ⟨g, hr⟩ := hr
  refine (read_any A g n c xs w hn hr hb).mono fun e w' ⟨r, g', he, hrd, hk, h1, h2⟩ => ⟨r, he, ?_⟩
  obtain ⟨hne, A', m, c', hB, hm, hc, hx⟩ := hrd
  refine h.new_ ⟨fun k => k = r ∨ (k = g' ∧ xs ≠ []), ⟨(A', m, c'), ⟨hm, hc⟩, fun k => k = r, fun k => k = g' ∧ xs ≠ [], ⟨hB, fun _ => Iff.rfl⟩, ⟨g', hx, fun _ => Iff.rfl⟩, fun k hk hv => hne (by rw [← hk, hv.1]), fun _ => Iff.rfl⟩, hk, fun k hk => ?_⟩
  rcases hk with hk | ⟨hk, _⟩ <;> omega
end
end Go.Proofs.YtibkngjacdggpaaDoor
