/- pack: the reader. -/
import Derived.Test.YtmaiokjcgijdcaaDoorPack
import Derived.Test.YtmaiokjcgijdcaaDoorBase
namespace Go.Proofs.YtmaiokjcgijdcaaDoor
open Go.RowKit

/-- A reader (of type T: its bytes, and whether it is bad) that stands in block r; its bytes lie in block g. -/
def Rd (T : TypeId) (w : World) (r g : Nat) (s : List UInt8 × Bool) : Prop := g ≠ r ∧ ∃ A n c, Blk w r T #[.slice A n c, .bool s.2] ∧ Hid (n = s.1.length) ∧ n ≤ c ∧ RB w g A s.1
theorem Rd.kept {T : TypeId} {w w' : World} {r g : Nat} {s : List UInt8 × Bool} {L : Nat → Prop} (h : Rd T w r g s) (hk : Kept w w' L) (hr : ¬ L r) (hg : ¬ L g) : Rd T w' r g s := by
  obtain ⟨hn, A, n, c, hb, hl, hc, hx⟩ := h
  exact ⟨hn, A, n, c, hb.kept hk hr, hl, hc, hx.kept hk hg⟩
theorem Rd.c1 {T : TypeId} {w : World} {r g : Nat} {s : List UInt8 × Bool} (h : Rd T w r g s) : w.cell? ⟨r, 1, none⟩ = some (.bool s.2) := by
  obtain ⟨hn, A, n, c, hb, hl, hc, hx⟩ := h
  exact hb.cell_ rfl
theorem Rd.f1 {T : TypeId} {w : World} {r g : Nat} {s : List UInt8 × Bool} (h : Rd T w r g s) : w.frozen? ⟨r, 1, none⟩ = false := by
  obtain ⟨hn, A, n, c, hb, hl, hc, hx⟩ := h
  exact hb.frozen 1
theorem Rd.setBad {T : TypeId} {w : World} {r g : Nat} {s : List UInt8 × Bool} (h : Rd T w r g s) : Rd T (w.setCell ⟨r, 1, none⟩ (.bool true)) r g (s.1, true) ∧ Kept w (w.setCell ⟨r, 1, none⟩ (.bool true)) (· = r) := by
  obtain ⟨hn, A, n, c, hb, hl, hc, hx⟩ := h
  exact ⟨⟨hn, A, n, c, hb.set_ 1 _, hl, hc, hx.far hn _⟩, (Kept.refl w (· = r)).set1 1 _⟩












/-- What take gives, and what is left. -/
def rtake (s : List UInt8 × Bool) (n : Nat) : List UInt8 × (List UInt8 × Bool) :=
  if s.2 then ([], s) else if s.1.length < n then ([], (s.1, true)) else (s.1.take n, (s.1.drop n, false))
/-- A call on a reader that gives bytes. -/
def TPost (T : TypeId) (w : World) (r g : Nat) (o : List UInt8 × (List UInt8 × Bool)) (e : Ending) (w' : World) : Prop :=
  ∃ A m c, e = .returned (.slice A m c) ∧ Hid (m = o.1.length) ∧ m ≤ c ∧ RB w' g A o.1 ∧ Rd T w' r g o.2 ∧ Kept w w' (· = r)

theorem Rd.cut {T : TypeId} {w : World} {r g m c n : Nat} {rest : List UInt8} {A A' : Option Addr} {m' c' : Nat} {bad : Bool} (hne : g ≠ r) (hB : Blk w r T #[.slice A m c, .bool bad]) (hm : Hid (m = rest.length)) (hc : m ≤ c) (hx : RB w g A rest) (hlt : n ≤ m)
    (hA : (if c = n then A else A.map (·.add n)) = A') (hm' : m' = m - n) (hc' : c' = c - n) :
    Rd T (w.setCell ⟨r, 0, none⟩ (.slice A' m' c')) r g (rest.drop n, bad) ∧ Kept w (w.setCell ⟨r, 0, none⟩ (.slice A' m' c')) (· = r) := by
  subst hm'; subst hc'; subst hA
  exact ⟨⟨hne, _, _, _, hB.set_ 0 _, by rw [hm.out]; exact (List.length_drop ..).symm, by omega, (hx.drop (by rw [← hm.out]; exact hlt) (by rw [← hm.out]; exact hc)).far hne _⟩, (Kept.refl w (· = r)).set1 0 _⟩
theorem take_any (r g : Nat) (s : List UInt8 × Bool) (n : Nat) (w : World) (h : Rd 95 w r g s) (hb : s.1.length ≤ 140737488355328) (hn : n ≤ 140737488355328) :
    Calls Tryd.prog 52 #[.pointer (some ⟨r, 0, none⟩), .int .i64 n] w (TPost 95 w r g (rtake s n)) := by
  obtain ⟨rest, bad⟩ := s
  have c1 := h.c1
  have f1 := h.f1
  cases bad with
  | true =>
    go_enter Tryd.func52, Tryd.ntmps52
    go_wp2
    go_returns
    exact ⟨none, 0, 0, rfl, rfl, Nat.le_refl _, RB.nil _ _ _, h, Kept.refl _ _⟩
  | false =>
    have h' := h
    obtain ⟨hne, A, m, c, hB, hm, hc, hx⟩ := h'
    have c0 : w.cell? ⟨r, 0, none⟩ = some (.slice A m c) := hB.cell_ rfl
    have f0 := hB.frozen 0
    have hmb : m ≤ 140737488355328 := by rw [hm.out]; exact hb
    by_cases hlt : m < n
    · have e : rtake (rest, false) n = ([], (rest, true)) := by unfold rtake; rw [if_neg (by simp), if_pos (by rw [← hm.out]; exact hlt)]
      rw [e]
      clear e
      go_enter Tryd.func52, Tryd.ntmps52
      go_wp2
      go_returns
      obtain ⟨h1, h2⟩ := h.setBad
      exact ⟨none, 0, 0, rfl, rfl, Nat.le_refl _, RB.nil _ _ _, h1, h2⟩
    · have e : rtake (rest, false) n = (rest.take n, (rest.drop n, false)) := by unfold rtake; rw [if_neg (by simp), if_neg (by rw [← hm.out]; exact hlt)]
      rw [e]
      clear e
      have hlen : n ≤ rest.length := by rw [← hm.out]; omega
      have HL := Lib.hid (List.length_take_of_le hlen); clear hlen
      by_cases hcn : c = n
      · have HX2 := Lib.hid (Rd.cut (T := 95) (m' := 0) (c' := 0) (A' := A) hne hB hm hc hx (Nat.le_of_not_lt hlt) (by simp [hcn]) (by omega) (by omega))
        have hx2 := Lib.hid (hx.take n)
        subst hcn
        go_enter Tryd.func52, Tryd.ntmps52
        go_wp2
        go_returns
        obtain ⟨h1, h2⟩ := HX2.out
        exact ⟨A, c, c, rfl, HL.out.symm, Nat.le_refl _, hx2.out.far hne _, h1, h2⟩
      · have HX2 := Lib.hid (Rd.cut (T := 95) (m' := m - n) (c' := c - n) (A' := A.map (·.add n)) hne hB hm hc hx (Nat.le_of_not_lt hlt) (by simp [hcn]) rfl rfl)
        have hx2 := Lib.hid (hx.take n)
        go_enter Tryd.func52, Tryd.ntmps52
        go_wp2
        go_returns
        obtain ⟨h1, h2⟩ := HX2.out
        exact ⟨A, n, c, rfl, HL.out.symm, by omega, hx2.out.far hne _, h1, h2⟩

/-- What Number gives. -/
def rnum (s : List UInt8 × Bool) (k : Int) : Nat × (List UInt8 × Bool) :=
  if szB k then (unbe (rtake s k.toNat).1, (rtake s k.toNat).2) else (0, (s.1, true))

theorem rnumber_any (r g : Nat) (s : List UInt8 × Bool) (k : Int) (w : World) (h : Rd 95 w r g s) (hb : s.1.length ≤ 140737488355328) :
    Calls Tryd.prog 45 #[.pointer (some ⟨r, 0, none⟩), .int .i64 k] w fun e w' => e = .returned (.int .u64 (rnum s k).1) ∧ Rd 95 w' r g (rnum s k).2 ∧ Kept w w' (· = r) := by
  by_cases hs : szB k = true
  · have hk := szB_cases hs
    have e1 : rnum s k = (unbe (rtake s k.toNat).1, (rtake s k.toNat).2) := by unfold rnum; rw [if_pos hs]
    rw [e1]
    clear e1
    obtain ⟨kn, rfl⟩ : ∃ kn : Nat, k = kn := ⟨k.toNat, by omega⟩
    have ht := take_any r g s kn w h hb (by omega)
    have hl : (rtake s kn).1.length ≤ 8 := by
      unfold rtake; split <;> (try split) <;> simp <;> omega
    simp only [Int.toNat_natCast]
    generalize rtake s kn = o at ht hl ⊢
    have HT := Lib.hid ht; clear ht h hk
    go_enter Tryd.func45, Tryd.ntmps45
    go_wp2_with (first | (go_at_call 40; refine (sized_ok _ _).mono ?_; rintro e w' ⟨rfl, rfl⟩) | (go_at_call 52; refine HT.out.mono ?_; rintro e w1 ⟨A, m, c, rfl, hm, hc, hx, hrd, hkk⟩))
    have hm8 : m ≤ 8 := by rw [hm.out]; exact hl
    go_loop [4, 19] (fun t i => ∃ j : Nat, j ≤ m ∧ i = .int .i64 j ∧ t = .int .u64 (unbe (o.1.take j) : Nat)) (fun _ i => m - (intOf i).toNat)
    case atStart => exact ⟨0, by omega, rfl, rfl⟩
    case round =>
      obtain ⟨j, hj, rfl, rfl⟩ := hrel
      by_cases hlt : j < m
      · have hjl : j < o.1.length := by rw [← hm.out]; exact hlt
        obtain ⟨off, rfl, hcell⟩ := hx.cell hjl
        have HJ := Lib.hid hjl; clear hjl
        have hu : ((unbe (o.1.take j) : Nat) : Int) < 72057594037927936 := by
          have := unbe_lt8 (o.1.take j) 7 (by simp; omega)
          have h2 : (256 : Nat) ^ 7 = 72057594037927936 := by decide
          rw [h2] at this; omega
        generalize hy : o.1.getD j 0 = y at hcell
        unfold bc at hcell
        have hy2 : (y.toNat : Int) < 256 := by have := y.toNat_lt; omega
        have HY := Lib.hid hy; clear hy
        go_wp2
        go_round
        case rel =>
          refine ⟨j + 1, by omega, by go_num, ?_⟩
          rw [or_shl8 _ _ hu hy2, take_snoc HJ.out, unbe_snoc, HY.out]
        case measure => simp [intOf]; omega
      · go_wp2
        go_returns
        rw [List.take_of_length_le (by rw [← hm.out]; omega)]
        exact ⟨rfl, hrd, hkk⟩
  · have e1 : rnum s k = (0, (s.1, true)) := by unfold rnum; rw [if_neg hs]
    rw [e1]
    have hs' : szB k = false := by simpa using hs
    have f1 := h.f1
    have c1 := h.c1
    have H := Lib.hid h.setBad
    clear e1 hs
    go_enter Tryd.func45, Tryd.ntmps45
    go_wp2_with (go_at_call 40; refine (sized_ok _ _).mono ?_; rintro e w' ⟨rfl, rfl⟩)
    go_returns
    exact ⟨rfl, H.out⟩
theorem rnumber_nil (k : Int) (w : World) : Calls Tryd.prog 45 #[.pointer none, .int .i64 k] w fun e w' => e = .returned (.int .u64 0) ∧ w = w' := by
  have ht : Calls Tryd.prog 52 #[.pointer none, .int .i64 k] w fun e w' => e = .returned (.slice none 0 0) ∧ w = w' := by
    go_enter Tryd.func52, Tryd.ntmps52
    go_wp2
    go_returns
    exact ⟨rfl, rfl⟩
  have HT := Lib.hid ht; clear ht
  by_cases hs : szB k = true
  · go_enter Tryd.func45, Tryd.ntmps45
    go_wp2_with (first | (go_at_call 40; refine (sized_ok _ _).mono ?_; rintro e w' ⟨rfl, rfl⟩) | (go_at_call 52; refine HT.out.mono ?_; rintro e w1 ⟨rfl, rfl⟩))
    refine wp_loop_rounds 1 ?_
    rw [rounds_succ]
    go_wp2
    go_returns
    exact ⟨rfl, rfl⟩
  · have hs' : szB k = false := by simpa using hs
    clear hs
    go_enter Tryd.func45, Tryd.ntmps45
    go_wp2_with (first | (go_at_call 40; refine (sized_ok _ _).mono ?_; rintro e w' ⟨rfl, rfl⟩))
    go_returns
    exact ⟨rfl, rfl⟩
theorem rtake_nil (k : Int) (w : World) : Calls Tryd.prog 52 #[.pointer none, .int .i64 k] w fun e w' => e = .returned (.slice none 0 0) ∧ w = w' := by
  go_enter Tryd.func52, Tryd.ntmps52
  go_wp2
  go_returns
  exact ⟨rfl, rfl⟩

theorem rtake_len (s : List UInt8 × Bool) (n : Nat) : (rtake s n).2.1.length ≤ s.1.length := by
  unfold rtake; split <;> (try split) <;> simp
theorem rnum_len (s : List UInt8 × Bool) (k : Int) : (rnum s k).2.1.length ≤ s.1.length := by
  unfold rnum; split
  · exact rtake_len _ _
  · simp
theorem rtake_le (s : List UInt8 × Bool) (n : Nat) : (rtake s n).1.length ≤ n := by
  unfold rtake; split <;> (try split) <;> simp <;> omega
theorem rnum_lt (s : List UInt8 × Bool) (k : Nat) : (rnum s k).1 < 256 ^ k := by
  unfold rnum; split
  · exact unbe_lt8 _ _ (by simpa using rtake_le s k)
  · exact Nat.pow_pos (by omega)

theorem ret_bool {a b : Bool} (h : a = b) : Ending.returned (.bool a) = .returned (.bool b) := by rw [h]
theorem castB (n m : Nat) : ((n : Int) == (m : Int)) = (n == m) := by
  rw [Bool.eq_iff_iff]; simp; omega
/-- What Truth gives. -/
def rtruth (s : List UInt8 × Bool) : Bool × (List UInt8 × Bool) :=
  let o := rnum s 1
  (o.1 == 1, if 1 < o.1 then (o.2.1, true) else o.2)





























/-- What Text gives. -/
def rtext (s : List UInt8 × Bool) : List UInt8 × (List UInt8 × Bool) := rtake (rnum s 2).2 (rnum s 2).1





































































theorem read_any (A : Option Addr) (g n c : Nat) (xs : List UInt8) (w : World) (hn : Hid (n = xs.length)) (hr : RB w g A xs) (hb : xs.length ≤ 140737488355328) :
    Calls Tryd.prog 44 #[.slice A n c] w fun e w' => ∃ r g', e = .returned (.pointer (some ⟨r, 0, none⟩)) ∧ Rd 95 w' r g' (xs, false) ∧ Kept w w' No ∧ w.heap.size ≤ r ∧ w.heap.size ≤ g' := by
  go_enter Tryd.func44, Tryd.ntmps44
  go_wp2_with (go_at_call 36; refine (clone_any A g n c xs _ hn hr hb).mono ?_; rintro e w1 ⟨v', rfl, hf⟩; have HF := Lib.hid hf; clear hf; obtain ⟨A2, n2, c2, rfl, hn2, hc2, hx2, hnone⟩ := HF.out.1.form)
  go_returns
  obtain ⟨h1, h2, h3⟩ := HF.out
  have hlt := h2.size
  refine ⟨w1.heap.size, if xs = [] then w1.heap.size + 1 else (Value.slice A2 n2 c2).ownBlock.getD 0, rfl, ⟨?_, A2, n2, c2, Blk.new _ _ _, hn2, hc2, ?_⟩, h2.alloc _, hlt, ?_⟩
  · split
    · omega
    · rename_i hx
      have := hx2.lt hx
      omega
  · by_cases hx : xs = []
    · subst hx; exact RB.nil _ _ _
    · rw [if_neg hx]; exact hx2.alloc _
  · split
    · omega
    · rename_i hx
      cases ho : (Value.slice A2 n2 c2).ownBlock with
      | none => exact absurd (hnone.out ho).2 hx
      | some k => exact h3 k ho

/-- What Hash gives. -/
def padTo (n : Nat) (xs : List UInt8) : List UInt8 := xs ++ zeros (n - xs.length)
theorem length_padTo {n : Nat} {xs : List UInt8} (h : xs.length ≤ n) : (padTo n xs).length = n := by simp [padTo]; omega
theorem putA_pad (n : Nat) (xs : List UInt8) : putA (bcs (zeros n)).toArray 0 (bcs (xs.take n)) = (bcs (padTo n (xs.take n))).toArray := by
  simp [putA, padTo, bcs_append]
  simp [bcs, zeros]
def rhash (s : List UInt8 × Bool) : List UInt8 × (List UInt8 × Bool) := (padTo 32 (rtake s 32).1, (rtake s 32).2)














































































end Go.Proofs.YtmaiokjcgijdcaaDoor
