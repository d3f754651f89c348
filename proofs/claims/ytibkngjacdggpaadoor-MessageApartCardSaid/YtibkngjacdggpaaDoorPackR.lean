/- pack: the reader. -/
import Derived.Test.YtibkngjacdggpaaDoorPack
import Derived.Test.YtibkngjacdggpaaDoorBase
namespace Go.Proofs.YtibkngjacdggpaaDoor
open Go.RowKit

/-- A reader (of type T: its bytes, and whether it is bad) that stands in block r; its bytes lie in block g. -/
def Rd (T : TypeId) (w : World) (r g : Nat) (s : List UInt8 × Bool) : Prop := g ≠ r ∧ ∃ A n c, Blk w r T #[.slice A n c, .bool s.2] ∧ Hid (n = s.1.length) ∧ n ≤ c ∧ RB w g A s.1
theorem Rd.kept {T : TypeId} {w w' : World} {r g : Nat} {s : List UInt8 × Bool} {L : Nat → Prop} (h : Rd T w r g s) (hk : Kept w w' L) (hr : ¬ L r) (hg : ¬ L g) : Rd T w' r g s := by
  obtain ⟨hn, A, n, c, hb, hl, hc, hx⟩ := h
  exact ⟨hn, A, n, c, hb.kept hk hr, hl, hc, hx.kept hk hg⟩
theorem Rd.c1 {T : TypeId} {w : World} {r g : Nat} {s : List UInt8 × Bool} (h : Rd T w r g s) : w.cell? ⟨r, 1, none⟩ = some (.bool s.2) := by
  obtain ⟨hn, A, n, c, hb, hl, hc, hx⟩ := h
  exact hb.cell_ rfl
theorem Rd.f1 {T : TypeId} {w : World} {r g : Nat} {s : List UInt8 × Bool} (h : Rd T w r g s) : w.frozen? ⟨r, 1, none⟩ = false := by
  obtain ⟨hn, A, n, c, hb, hl, hc, hx⟩ := h
  exact hb.frozen 1
theorem Rd.setBad {T : TypeId} {w : World} {r g : Nat} {s : List UInt8 × Bool} (h : Rd T w r g s) : Rd T (w.setCell ⟨r, 1, none⟩ (.bool true)) r g (s.1, true) ∧ Kept w (w.setCell ⟨r, 1, none⟩ (.bool true)) (· = r) := by
  obtain ⟨hn, A, n, c, hb, hl, hc, hx⟩ := h
  exact ⟨⟨hn, A, n, c, hb.set_ 1 _, hl, hc, hx.far hn _⟩, (Kept.refl w (· = r)).set1 1 _⟩

theorem rbad_ok (r : Nat) (bad : Bool) (w : World) (h : w.cell? ⟨r, 1, none⟩ = some (.bool bad)) : Calls Tryd.prog 108 #[.pointer (some ⟨r, 0, none⟩)] w fun e w' => e = .returned (.bool bad) ∧ w = w' := by
  go_enter Tryd.func108, Tryd.ntmps108
  go_wp2
  go_returns
  exact ⟨rfl, rfl⟩
theorem rbad_nil (w : World) : Calls Tryd.prog 108 #[.pointer none] w fun e w' => e = .returned (.bool true) ∧ w = w' := by
  go_enter Tryd.func108, Tryd.ntmps108
  go_wp2
  go_returns
  exact ⟨rfl, rfl⟩

/-- What take gives, and what is left. -/
def rtake (s : List UInt8 × Bool) (n : Nat) : List UInt8 × (List UInt8 × Bool) :=
  if s.2 then ([], s) else if s.1.length < n then ([], (s.1, true)) else (s.1.take n, (s.1.drop n, false))
/-- A call on a reader that gives bytes. -/
def TPost (T : TypeId) (w : World) (r g : Nat) (o : List UInt8 × (List UInt8 × Bool)) (e : Ending) (w' : World) : Prop :=
  ∃ A m c, e = .returned (.slice A m c) ∧ Hid (m = o.1.length) ∧ m ≤ c ∧ RB w' g A o.1 ∧ Rd T w' r g o.2 ∧ Kept w w' (· = r)

theorem Rd.cut {T : TypeId} {w : World} {r g m c n : Nat} {rest : List UInt8} {A A' : Option Addr} {m' c' : Nat} {bad : Bool} (hne : g ≠ r) (hB : Blk w r T #[.slice A m c, .bool bad]) (hm : Hid (m = rest.length)) (hc : m ≤ c) (hx : RB w g A rest) (hlt : n ≤ m)
    (hA : (if c = n then A else A.map (·.add n)) = A') (hm' : m' = m - n) (hc' : c' = c - n) :
    Rd T (w.setCell ⟨r, 0, none⟩ (.slice A' m' c')) r g (rest.drop n, bad) ∧ Kept w (w.setCell ⟨r, 0, none⟩ (.slice A' m' c')) (· = r) := by
  subst hm'; subst hc'; subst hA
  exact ⟨⟨hne, _, _, _, hB.set_ 0 _, by rw [hm.out]; exact (List.length_drop ..).symm, by omega, (hx.drop (by rw [← hm.out]; exact hlt) (by rw [← hm.out]; exact hc)).far hne _⟩, (Kept.refl w (· = r)).set1 0 _⟩
theorem take_any (r g : Nat) (s : List UInt8 × Bool) (n : Nat) (w : World) (h : Rd 134 w r g s) (hb : s.1.length ≤ 140737488355328) (hn : n ≤ 140737488355328) :
    Calls Tryd.prog 106 #[.pointer (some ⟨r, 0, none⟩), .int .i64 n] w (TPost 134 w r g (rtake s n)) := by
  obtain ⟨rest, bad⟩ := s
  have c1 := h.c1
  have f1 := h.f1
  cases bad with
  | true =>
    go_enter Tryd.func106, Tryd.ntmps106
    go_wp2
    go_returns
    exact ⟨none, 0, 0, rfl, rfl, Nat.le_refl _, RB.nil _ _ _, h, Kept.refl _ _⟩
  | false =>
    have h' := h
    obtain ⟨hne, A, m, c, hB, hm, hc, hx⟩ := h'
    have c0 : w.cell? ⟨r, 0, none⟩ = some (.slice A m c) := hB.cell_ rfl
    have f0 := hB.frozen 0
    have hmb : m ≤ 140737488355328 := by rw [hm.out]; exact hb
    by_cases hlt : m < n
    · have e : rtake (rest, false) n = ([], (rest, true)) := by unfold rtake; rw [if_neg (by simp), if_pos (by rw [← hm.out]; exact hlt)]
      rw [e]
      clear e
      go_enter Tryd.func106, Tryd.ntmps106
      go_wp2
      go_returns
      obtain ⟨h1, h2⟩ := h.setBad
      exact ⟨none, 0, 0, rfl, rfl, Nat.le_refl _, RB.nil _ _ _, h1, h2⟩
    · have e : rtake (rest, false) n = (rest.take n, (rest.drop n, false)) := by unfold rtake; rw [if_neg (by simp), if_neg (by rw [← hm.out]; exact hlt)]
      rw [e]
      clear e
      have hlen : n ≤ rest.length := by rw [← hm.out]; omega
      have HL := Lib.hid (List.length_take_of_le hlen); clear hlen
      by_cases hcn : c = n
      · have HX2 := Lib.hid (Rd.cut (T := 134) (m' := 0) (c' := 0) (A' := A) hne hB hm hc hx (Nat.le_of_not_lt hlt) (by simp [hcn]) (by omega) (by omega))
        have hx2 := Lib.hid (hx.take n)
        subst hcn
        go_enter Tryd.func106, Tryd.ntmps106
        go_wp2
        go_returns
        obtain ⟨h1, h2⟩ := HX2.out
        exact ⟨A, c, c, rfl, HL.out.symm, Nat.le_refl _, hx2.out.far hne _, h1, h2⟩
      · have HX2 := Lib.hid (Rd.cut (T := 134) (m' := m - n) (c' := c - n) (A' := A.map (·.add n)) hne hB hm hc hx (Nat.le_of_not_lt hlt) (by simp [hcn]) rfl rfl)
        have hx2 := Lib.hid (hx.take n)
        go_enter Tryd.func106, Tryd.ntmps106
        go_wp2
        go_returns
        obtain ⟨h1, h2⟩ := HX2.out
        exact ⟨A, n, c, rfl, HL.out.symm, by omega, hx2.out.far hne _, h1, h2⟩

/-- What Number gives. -/
def rnum (s : List UInt8 × Bool) (k : Int) : Nat × (List UInt8 × Bool) :=
  if szB k then (unbe (rtake s k.toNat).1, (rtake s k.toNat).2) else (0, (s.1, true))

theorem rnumber_any (r g : Nat) (s : List UInt8 × Bool) (k : Int) (w : World) (h : Rd 134 w r g s) (hb : s.1.length ≤ 140737488355328) :
    Calls Tryd.prog 95 #[.pointer (some ⟨r, 0, none⟩), .int .i64 k] w fun e w' => e = .returned (.int .u64 (rnum s k).1) ∧ Rd 134 w' r g (rnum s k).2 ∧ Kept w w' (· = r) := by
  by_cases hs : szB k = true
  · have hk := szB_cases hs
    have e1 : rnum s k = (unbe (rtake s k.toNat).1, (rtake s k.toNat).2) := by unfold rnum; rw [if_pos hs]
    rw [e1]
    clear e1
    obtain ⟨kn, rfl⟩ : ∃ kn : Nat, k = kn := ⟨k.toNat, by omega⟩
    have ht := take_any r g s kn w h hb (by omega)
    have hl : (rtake s kn).1.length ≤ 8 := by
      unfold rtake; split <;> (try split) <;> simp <;> omega
    simp only [Int.toNat_natCast]
    generalize rtake s kn = o at ht hl ⊢
    have HT := Lib.hid ht; clear ht h hk
    go_enter Tryd.func95, Tryd.ntmps95
    go_wp2_with (first | (go_at_call 79; refine (sized_ok _ _).mono ?_; rintro e w' ⟨rfl, rfl⟩) | (go_at_call 106; refine HT.out.mono ?_; rintro e w1 ⟨A, m, c, rfl, hm, hc, hx, hrd, hkk⟩))
    have hm8 : m ≤ 8 := by rw [hm.out]; exact hl
    go_loop [4, 19] (fun t i => ∃ j : Nat, j ≤ m ∧ i = .int .i64 j ∧ t = .int .u64 (unbe (o.1.take j) : Nat)) (fun _ i => m - (intOf i).toNat)
    case atStart => exact ⟨0, by omega, rfl, rfl⟩
    case round =>
      obtain ⟨j, hj, rfl, rfl⟩ := hrel
      by_cases hlt : j < m
      · have hjl : j < o.1.length := by rw [← hm.out]; exact hlt
        obtain ⟨off, rfl, hcell⟩ := hx.cell hjl
        have HJ := Lib.hid hjl; clear hjl
        have hu : ((unbe (o.1.take j) : Nat) : Int) < 72057594037927936 := by
          have := unbe_lt8 (o.1.take j) 7 (by simp; omega)
          have h2 : (256 : Nat) ^ 7 = 72057594037927936 := by decide
          rw [h2] at this; omega
        generalize hy : o.1.getD j 0 = y at hcell
        unfold bc at hcell
        have hy2 : (y.toNat : Int) < 256 := by have := y.toNat_lt; omega
        have HY := Lib.hid hy; clear hy
        go_wp2
        go_round
        case rel =>
          refine ⟨j + 1, by omega, by go_num, ?_⟩
          rw [or_shl8 _ _ hu hy2, take_snoc HJ.out, unbe_snoc, HY.out]
        case measure => simp [intOf]; omega
      · go_wp2
        go_returns
        rw [List.take_of_length_le (by rw [← hm.out]; omega)]
        exact ⟨rfl, hrd, hkk⟩
  · have e1 : rnum s k = (0, (s.1, true)) := by unfold rnum; rw [if_neg hs]
    rw [e1]
    have hs' : szB k = false := by simpa using hs
    have f1 := h.f1
    have c1 := h.c1
    have H := Lib.hid h.setBad
    clear e1 hs
    go_enter Tryd.func95, Tryd.ntmps95
    go_wp2_with (go_at_call 79; refine (sized_ok _ _).mono ?_; rintro e w' ⟨rfl, rfl⟩)
    go_returns
    exact ⟨rfl, H.out⟩
theorem rnumber_nil (k : Int) (w : World) : Calls Tryd.prog 95 #[.pointer none, .int .i64 k] w fun e w' => e = .returned (.int .u64 0) ∧ w = w' := by
  have ht : Calls Tryd.prog 106 #[.pointer none, .int .i64 k] w fun e w' => e = .returned (.slice none 0 0) ∧ w = w' := by
    go_enter Tryd.func106, Tryd.ntmps106
    go_wp2
    go_returns
    exact ⟨rfl, rfl⟩
  have HT := Lib.hid ht; clear ht
  by_cases hs : szB k = true
  · go_enter Tryd.func95, Tryd.ntmps95
    go_wp2_with (first | (go_at_call 79; refine (sized_ok _ _).mono ?_; rintro e w' ⟨rfl, rfl⟩) | (go_at_call 106; refine HT.out.mono ?_; rintro e w1 ⟨rfl, rfl⟩))
    refine wp_loop_rounds 1 ?_
    rw [rounds_succ]
    go_wp2
    go_returns
    exact ⟨rfl, rfl⟩
  · have hs' : szB k = false := by simpa using hs
    clear hs
    go_enter Tryd.func95, Tryd.ntmps95
    go_wp2_with (first | (go_at_call 79; refine (sized_ok _ _).mono ?_; rintro e w' ⟨rfl, rfl⟩))
    go_returns
    exact ⟨rfl, rfl⟩
theorem rtake_nil (k : Int) (w : World) : Calls Tryd.prog 106 #[.pointer none, .int .i64 k] w fun e w' => e = .returned (.slice none 0 0) ∧ w = w' := by
  go_enter Tryd.func106, Tryd.ntmps106
  go_wp2
  go_returns
  exact ⟨rfl, rfl⟩

theorem rtake_len (s : List UInt8 × Bool) (n : Nat) : (rtake s n).2.1.length ≤ s.1.length := by
  unfold rtake; split <;> (try split) <;> simp
theorem rnum_len (s : List UInt8 × Bool) (k : Int) : (rnum s k).2.1.length ≤ s.1.length := by
  unfold rnum; split
  · exact rtake_len _ _
  · simp
theorem rtake_le (s : List UInt8 × Bool) (n : Nat) : (rtake s n).1.length ≤ n := by
  unfold rtake; split <;> (try split) <;> simp <;> omega
theorem rnum_lt (s : List UInt8 × Bool) (k : Nat) : (rnum s k).1 < 256 ^ k := by
  unfold rnum; split
  · exact unbe_lt8 _ _ (by simpa using rtake_le s k)
  · exact Nat.pow_pos (by omega)

theorem ret_bool {a b : Bool} (h : a = b) : Ending.returned (.bool a) = .returned (.bool b) := by rw [h]
theorem castB (n m : Nat) : ((n : Int) == (m : Int)) = (n == m) := by
  rw [Bool.eq_iff_iff]; simp; omega
/-- What Truth gives. -/
def rtruth (s : List UInt8 × Bool) : Bool × (List UInt8 × Bool) :=
  let o := rnum s 1
  (o.1 == 1, if 1 < o.1 then (o.2.1, true) else o.2)
theorem rtruth_any (r g : Nat) (s : List UInt8 × Bool) (w : World) (h : Rd 134 w r g s) (hb : s.1.length ≤ 140737488355328) :
    Calls Tryd.prog 97 #[.pointer (some ⟨r, 0, none⟩)] w fun e w' => e = .returned (.bool (rtruth s).1) ∧ Rd 134 w' r g (rtruth s).2 ∧ Kept w w' (· = r) := by
  have hn := rnumber_any r g s 1 w h hb
  unfold rtruth
  generalize rnum s 1 = o at hn ⊢
  have HN := Lib.hid hn; clear hn h hb
  obtain ⟨n, s'⟩ := o
  by_cases h1 : 1 < n
  · have e1 : (n == 1) = false := by simp; omega
    simp only [h1, if_true, e1]
    clear e1
    have h1' : (1 : Int) < (n : Int) := by omega
    go_enter Tryd.func97, Tryd.ntmps97
    go_wp2_with (go_at_call 95; refine HN.out.mono ?_; rintro e w1 ⟨rfl, hr, hk⟩; have f1 := hr.f1; have c1 := hr.c1; have HP := Lib.hid hr.setBad)
    go_returns
    obtain ⟨h2, h3⟩ := HP.out
    exact ⟨ret_bool (by simp; omega), h2, hk.trans h3 (by simp)⟩
  · have h1' : ¬ (1 : Int) < (n : Int) := by omega
    simp only [h1, if_false]
    go_enter Tryd.func97, Tryd.ntmps97
    go_wp2_with (go_at_call 95; refine HN.out.mono ?_; rintro e w1 ⟨rfl, hr, hk⟩)
    go_returns
    exact ⟨ret_bool (castB n 1), hr, hk⟩
theorem rtruth_nil (w : World) : Calls Tryd.prog 97 #[.pointer none] w fun e w' => e = .returned (.bool false) ∧ w = w' := by
  go_enter Tryd.func97, Tryd.ntmps97
  go_wp2_with (go_at_call 95; refine (rnumber_nil _ _).mono ?_; rintro e w1 ⟨rfl, rfl⟩)
  go_returns
  exact ⟨rfl, rfl⟩

/-- What Text gives. -/
def rtext (s : List UInt8 × Bool) : List UInt8 × (List UInt8 × Bool) := rtake (rnum s 2).2 (rnum s 2).1
theorem rtext_any (r g : Nat) (s : List UInt8 × Bool) (w : World) (h : Rd 134 w r g s) (hb : s.1.length ≤ 140737488355328) :
    Calls Tryd.prog 107 #[.pointer (some ⟨r, 0, none⟩)] w fun e w' => e = .returned (.string (strOf (rtext s).1)) ∧ Rd 134 w' r g (rtext s).2 ∧ Kept w w' (· = r) := by
  have hn := rnumber_any r g s 2 w h hb
  have hlt : (rnum s 2).1 < 65536 := rnum_lt s 2
  have hle := rnum_len s 2
  have ht := fun w1 (h : Rd 134 w1 r g (rnum s 2).2) => take_any r g (rnum s 2).2 (rnum s 2).1 w1 h (by omega) (by omega)
  unfold rtext
  have hlt' : (rnum s 2).1 < 65536 := hlt
  generalize rnum s 2 = o at hn hlt' ht ⊢
  clear hlt hle
  have HN := Lib.hid hn; have HT := Lib.hid ht; clear hn h hb ht
  obtain ⟨n, s'⟩ := o
  simp only at hlt' HN HT
  go_enter Tryd.func107, Tryd.ntmps107
  go_wp2_with (first | (go_at_call 95; refine HN.out.mono ?_; rintro e w1 ⟨rfl, hr, hk⟩) |
     (go_at_call 106; refine (HT.out _ hr).mono ?_; rintro e w2 ⟨A, m, c, rfl, hm, hc, hx, hrd, hkk⟩; have hcv := run_conv_str (P := Tryd.prog) w2 23 9 Tryd.underlying23 Tryd.underlying5 Tryd.underlying9 g A _ m c hm.out hx))
  generalize rtake s' n = o at hm hx hrd hcv ⊢
  go_ret
  exact ⟨rfl, hrd, hk.trans hkk (by simp)⟩
theorem rtext_nil (w : World) : Calls Tryd.prog 107 #[.pointer none] w fun e w' => e = .returned (.string (strOf [])) ∧ w = w' := by
  have hcv := run_conv_str (P := Tryd.prog) w 23 9 Tryd.underlying23 Tryd.underlying5 Tryd.underlying9 0 none [] 0 0 rfl (RB.nil _ _ _)
  go_enter Tryd.func107, Tryd.ntmps107
  go_wp2_with (first | (go_at_call 95; refine (rnumber_nil _ _).mono ?_; rintro e w1 ⟨rfl, rfl⟩) | (go_at_call 106; refine (rtake_nil _ _).mono ?_; rintro e w1 ⟨rfl, rfl⟩))
  go_returns
  exact ⟨rfl, rfl⟩























theorem rdone_any (r g : Nat) (s : List UInt8 × Bool) (w : World) (h : Rd 134 w r g s) :
    Calls Tryd.prog 99 #[.pointer (some ⟨r, 0, none⟩)] w fun e w' => e = .returned (.bool (!s.2 && s.1.length == 0)) ∧ w = w' := by
  have c1 := h.c1
  obtain ⟨hne, A, m, c, hB, hm, hc, hx⟩ := h
  have c0 : w.cell? ⟨r, 0, none⟩ = some (.slice A m c) := hB.cell_ rfl
  obtain ⟨rest, bad⟩ := s
  rw [← hm.out]
  cases bad
  · go_enter Tryd.func99, Tryd.ntmps99
    go_wp2_with (go_at_call 108; refine (rbad_ok r _ _ c1).mono ?_; rintro e w1 ⟨rfl, rfl⟩)
    go_returns
    exact ⟨ret_bool (castB m 0), rfl⟩
  · go_enter Tryd.func99, Tryd.ntmps99
    go_wp2_with (go_at_call 108; refine (rbad_ok r _ _ c1).mono ?_; rintro e w1 ⟨rfl, rfl⟩)
    go_returns
    exact ⟨rfl, rfl⟩
theorem rdone_nil (w : World) : Calls Tryd.prog 99 #[.pointer none] w fun e w' => e = .returned (.bool false) ∧ w = w' := by
  go_enter Tryd.func99, Tryd.ntmps99
  go_wp2_with (go_at_call 108; refine (rbad_nil _).mono ?_; rintro e w1 ⟨rfl, rfl⟩)
  go_returns
  exact ⟨rfl, rfl⟩
theorem read_any (A : Option Addr) (g n c : Nat) (xs : List UInt8) (w : World) (hn : Hid (n = xs.length)) (hr : RB w g A xs) (hb : xs.length ≤ 140737488355328) :
    Calls Tryd.prog 94 #[.slice A n c] w fun e w' => ∃ r g', e = .returned (.pointer (some ⟨r, 0, none⟩)) ∧ Rd 134 w' r g' (xs, false) ∧ Kept w w' No ∧ w.heap.size ≤ r ∧ w.heap.size ≤ g' := by
  go_enter Tryd.func94, Tryd.ntmps94
  go_wp2_with (go_at_call 57; refine (clone_any A g n c xs _ hn hr hb).mono ?_; rintro e w1 ⟨v', rfl, hf⟩; have HF := Lib.hid hf; clear hf; obtain ⟨A2, n2, c2, rfl, hn2, hc2, hx2, hnone⟩ := HF.out.1.form)
  go_returns
  obtain ⟨h1, h2, h3⟩ := HF.out
  have hlt := h2.size
  refine ⟨w1.heap.size, if xs = [] then w1.heap.size + 1 else (Value.slice A2 n2 c2).ownBlock.getD 0, rfl, ⟨?_, A2, n2, c2, Blk.new _ _ _, hn2, hc2, ?_⟩, h2.alloc _, hlt, ?_⟩
  · split
    · omega
    · rename_i hx
      have := hx2.lt hx
      omega
  · by_cases hx : xs = []
    · subst hx; exact RB.nil _ _ _
    · rw [if_neg hx]; exact hx2.alloc _
  · split
    · omega
    · rename_i hx
      cases ho : (Value.slice A2 n2 c2).ownBlock with
      | none => exact absurd (hnone.out ho).2 hx
      | some k => exact h3 k ho

/-- What Hash gives. -/
def padTo (n : Nat) (xs : List UInt8) : List UInt8 := xs ++ zeros (n - xs.length)
theorem length_padTo {n : Nat} {xs : List UInt8} (h : xs.length ≤ n) : (padTo n xs).length = n := by simp [padTo]; omega
theorem putA_pad (n : Nat) (xs : List UInt8) : putA (bcs (zeros n)).toArray 0 (bcs (xs.take n)) = (bcs (padTo n (xs.take n))).toArray := by
  simp [putA, padTo, bcs_append]
  simp [bcs, zeros]
def rhash (s : List UInt8 × Bool) : List UInt8 × (List UInt8 × Bool) := (padTo 32 (rtake s 32).1, (rtake s 32).2)
set_option maxRecDepth 100000 in
theorem rhash_any (r g : Nat) (s : List UInt8 × Bool) (w : World) (h : Rd 134 w r g s) (hb : s.1.length ≤ 140737488355328) (hgs : g ≠ w.heap.size) :
    Calls Tryd.prog 98 #[.pointer (some ⟨r, 0, none⟩)] w fun e w' => e = .returned (.agg (bcs (rhash s).1).toArray) ∧ Rd 134 w' r g (rhash s).2 ∧ Kept w w' (· = r) := by
  have hr : r < w.heap.size := by obtain ⟨_, A, n, c, hB, _⟩ := h; exact hB.lt
  have hB := Blk.new w 22 (bcs (zeros 32)).toArray
  have hk := (Kept.refl w No).alloc (.cells (bcs (zeros 32)).toArray 22)
  have h0 : Rd 134 (w.alloc (.cells (bcs (zeros 32)).toArray 22)).drew r g s := h.kept hk.drew (fun h => h) (fun h => h)
  have ht := take_any r g s 32 _ h0 hb (by omega)
  have hle := rtake_le s 32
  unfold rhash
  generalize rtake s 32 = o at ht hle ⊢
  have HT := Lib.hid ht
  have HB := Lib.hid hB; have HK := Lib.hid hk
  clear ht h h0 hB hk
  go_enter Tryd.func98, Tryd.ntmps98
  go_wp2_with fail
  change Code.wp _ _ _ _ (w.alloc (.cells (bcs (zeros 32)).toArray 22))
  generalize w.alloc (.cells (bcs (zeros 32)).toArray 22) = W at HT HB HK ⊢
  have hrs : r ≠ w.heap.size := by omega
  have hfit : ∀ {m : Nat}, 0 + min m 32 ≤ (bcs (zeros 32)).toArray.size := by intro m; simp; omega
  go_region_held3 (fun _ => True) (trivial) (first
    | (go_at_call 106; refine HT.out.mono ?_; rintro e w1 ⟨A, m, c, rfl, hm, hc, hx, hrd, hkk⟩)
    | (refine step_copy_b rfl (.tmp 3) (.tmp 5) 23 23 rfl Tryd.underlying23 Tryd.infoByte w.heap.size 0 (some ⟨w.heap.size, 0, none⟩) 32 32 rfl 22 _ ((HB.out.drew).kept hkk (fun e => hrs e.symm)) g A o.1 m c rfl hm.out hx (fun _ => rfl) hfit ?_
       intro w2 hB2 hk2))
  rw [List.take_of_length_le hle] at hB2
  rw [show putA (bcs (zeros 32)).toArray 0 (bcs o.1) = (bcs (padTo 32 o.1)).toArray by have := putA_pad 32 o.1; rwa [List.take_of_length_le hle] at this] at hB2
  have hl := length_padTo hle
  have hrd2 := hrd.kept hk2 hrs hgs
  have hkf : Kept w w2 (· = r) := ((HK.out.drew.mono (L := (· = r)) (fun _ _ h => h.elim)).trans (L := (· = r)) hkk (fun k _ h => h.elim id id)).trans hk2 (fun k hk h => h.elim id (fun e => by omega))
  obtain ⟨out, hout⟩ : ∃ out, out = padTo 32 o.1 := ⟨_, rfl⟩
  rw [← hout] at hB2 hl
  have HO := Lib.hid hout; clear hout
  have hsz : (Tryd.prog.info? 22).map (·.size) = some (bcs out).toArray.size := by rw [Tryd.sizeHash]; simp [hl]
  have hsz2 : (Tryd.prog.info? 22).map (·.size) = some (bcs out).length := by rw [Tryd.sizeHash]; simp [hl]
  have HS := Lib.hid hsz; have HS2 := Lib.hid hsz2; have HL := Lib.hid hl; have HR := Lib.hid hrd2; have HF := Lib.hid hkf; have HBB := Lib.hid hB2
  clear hsz hsz2 hl hrd2 hkf hB2 hrd hkk hk2 hx hm
  go_wp2_with (first
    | (with_reducible refine wpList_load_mid rfl 22 (.tmp 2) rfl w.heap.size 0 rfl (bcs out) _ HBB.out.range Tryd.underlying22 rfl HS2.out ?_)
    | (with_reducible refine wpList_store_blk rfl 22 (.tmp 2) (.tmp 7) rfl w.heap.size 0 (bcs out).toArray rfl rfl 22 (bcs out).toArray HBB.out HS.out (by simp) bcs_one ?_
       intro w3 hB3 hk3))
  have hB4 : Blk w3 w.heap.size 22 (bcs out).toArray := by
    have := putA_all (bcs out).toArray (bcs out) (by simp)
    simpa [this] using hB3
  refine bodyPost_ret (results_cell_row rfl _ _ w.heap.size 22 (bcs out).toArray (0, 0) _ rfl hB4 Tryd.underlying22 rfl HS.out) rfl ?_
  exact ⟨by rw [HO.out], HR.out.kept hk3 hrs hgs, HF.out.trans hk3 (fun k hk h => h.elim id (fun e => by omega))⟩
set_option maxRecDepth 100000 in
theorem rhash_nil (w : World) :
    Calls Tryd.prog 98 #[.pointer none] w fun e w' => e = .returned (.agg (bcs (zeros 32)).toArray) ∧ Kept w w' No := by
  have hB := Blk.new w 22 (bcs (zeros 32)).toArray
  have hk := (Kept.refl w No).alloc (.cells (bcs (zeros 32)).toArray 22)
  have HB := Lib.hid hB; have HK := Lib.hid hk
  clear hB hk
  go_enter Tryd.func98, Tryd.ntmps98
  go_wp2_with fail
  change Code.wp _ _ _ _ (w.alloc (.cells (bcs (zeros 32)).toArray 22))
  generalize w.alloc (.cells (bcs (zeros 32)).toArray 22) = W at HB HK ⊢
  have hfit : 0 + min 0 32 ≤ (bcs (zeros 32)).toArray.size := by simp
  go_region_held3 (fun _ => True) (trivial) (first
    | (go_at_call 106; refine (rtake_nil _ _).mono ?_; rintro e w1 ⟨rfl, rfl⟩)
    | (refine step_copy_b rfl (.tmp 3) (.tmp 5) 23 23 rfl Tryd.underlying23 Tryd.infoByte w.heap.size 0 (some ⟨w.heap.size, 0, none⟩) 32 32 rfl 22 _ HB.out.drew 0 none [] 0 0 rfl rfl (RB.nil _ _ _) (fun _ => rfl) hfit ?_
       intro w2 hB2 hk2))
  rw [show putA (bcs (zeros 32)).toArray 0 (bcs (([] : List UInt8).take 32)) = (bcs (zeros 32)).toArray by simp [bcs, putA_nil]] at hB2
  have hz : (zeros 32).length = 32 := length_zeros 32
  have hsz : (Tryd.prog.info? 22).map (·.size) = some (bcs (zeros 32)).toArray.size := by rw [Tryd.sizeHash]; simp
  have hsz2 : (Tryd.prog.info? 22).map (·.size) = some (bcs (zeros 32)).length := by rw [Tryd.sizeHash]; simp
  obtain ⟨out, hout⟩ : ∃ out, out = zeros 32 := ⟨_, rfl⟩
  rw [← hout] at hB2 hz hsz hsz2
  have HS := Lib.hid hsz; have HS2 := Lib.hid hsz2; have HL := Lib.hid hz; have HBB := Lib.hid hB2; have HO := Lib.hid hout; have HK2 := Lib.hid hk2
  clear hsz hsz2 hz hB2 hout hk2 hfit
  go_wp2_with (first
    | (with_reducible refine wpList_load_mid rfl 22 (.tmp 2) rfl w.heap.size 0 rfl (bcs out) _ HBB.out.range Tryd.underlying22 rfl HS2.out ?_)
    | (with_reducible refine wpList_store_blk rfl 22 (.tmp 2) (.tmp 7) rfl w.heap.size 0 (bcs out).toArray rfl rfl 22 (bcs out).toArray HBB.out HS.out (by simp) bcs_one ?_
       intro w3 hB3 hk3))
  have hB4 : Blk w3 w.heap.size 22 (bcs out).toArray := by
    have := putA_all (bcs out).toArray (bcs out) (by simp)
    simpa [this] using hB3
  refine bodyPost_ret (results_cell_row rfl _ _ w.heap.size 22 (bcs out).toArray (0, 0) _ rfl hB4 Tryd.underlying22 rfl HS.out) rfl ?_
  exact ⟨by rw [HO.out], ((HK.out.drew).trans HK2.out (L := No) (fun k hk h => h.elim id (fun e => by omega))).trans hk3 (fun k hk h => h.elim id (fun e => by omega))⟩
end Go.Proofs.YtibkngjacdggpaaDoor
