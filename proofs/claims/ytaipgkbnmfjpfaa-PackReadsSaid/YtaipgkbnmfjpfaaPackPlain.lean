/- pack: what the law reads beside the reader. -/
import Derived.Test.YtaipgkbnmfjpfaaPackR
namespace Go.Proofs.Ytaipgkbnmfjpfaa
open Go.RowKit

theorem pltake_any (r g : Nat) (s : List UInt8 × Bool) (n : Nat) (w : World) (h : Rd 34 w r g s) (hb : s.1.length ≤ 140737488355328) (hn : n ≤ 140737488355328) :
    Calls Try.prog 19 #[.pointer (some ⟨r, 0, none⟩), .int .i64 n] w (TPost 34 w r g (rtake s n)) := by
  obtain ⟨rest, bad⟩ := s
  have c1 := h.c1
  have f1 := h.f1
  cases bad with
  | true =>
    go_enter Try.func19, Try.ntmps19
    go_wp2
    go_returns
    obtain ⟨h1, h2⟩ := h.setBad
    exact ⟨none, 0, 0, rfl, rfl, Nat.le_refl _, RB.nil _ _ _, h1, h2⟩
  | false =>
    have h' := h
    obtain ⟨hne, A, m, c, hB, hm, hc, hx⟩ := h'
    have c0 : w.cell? ⟨r, 0, none⟩ = some (.slice A m c) := hB.cell_ rfl
    have f0 := hB.frozen 0
    have hmb : m ≤ 140737488355328 := by rw [hm.out]; exact hb
    by_cases hlt : m < n
    · have e : rtake (rest, false) n = ([], (rest, true)) := by unfold rtake; rw [if_neg (by simp), if_pos (by rw [← hm.out]; exact hlt)]
      rw [e]
      clear e
      go_enter Try.func19, Try.ntmps19
      go_wp2
      go_returns
      obtain ⟨h1, h2⟩ := h.setBad
      exact ⟨none, 0, 0, rfl, rfl, Nat.le_refl _, RB.nil _ _ _, h1, h2⟩
    · have e : rtake (rest, false) n = (rest.take n, (rest.drop n, false)) := by unfold rtake; rw [if_neg (by simp), if_neg (by rw [← hm.out]; exact hlt)]
      rw [e]
      clear e
      have hlen : n ≤ rest.length := by rw [← hm.out]; omega
      have HL := Lib.hid (List.length_take_of_le hlen); clear hlen
      by_cases hcn : c = n
      · have HX2 := Lib.hid (Rd.cut (T := 34) (m' := 0) (c' := 0) (A' := A) hne hB hm hc hx (Nat.le_of_not_lt hlt) (by simp [hcn]) (by omega) (by omega))
        have hx2 := Lib.hid (hx.take n)
        subst hcn
        go_enter Try.func19, Try.ntmps19
        go_wp2
        go_returns
        obtain ⟨h1, h2⟩ := HX2.out
        exact ⟨A, c, c, rfl, HL.out.symm, Nat.le_refl _, hx2.out.far hne _, h1, h2⟩
      · have HX2 := Lib.hid (Rd.cut (T := 34) (m' := m - n) (c' := c - n) (A' := A.map (·.add n)) hne hB hm hc hx (Nat.le_of_not_lt hlt) (by simp [hcn]) rfl rfl)
        have hx2 := Lib.hid (hx.take n)
        go_enter Try.func19, Try.ntmps19
        go_wp2
        go_returns
        obtain ⟨h1, h2⟩ := HX2.out
        exact ⟨A, n, c, rfl, HL.out.symm, by omega, hx2.out.far hne _, h1, h2⟩

theorem plnumber_any (r g : Nat) (s : List UInt8 × Bool) (k : Int) (w : World) (h : Rd 34 w r g s) (hb : s.1.length ≤ 140737488355328) :
    Calls Try.prog 16 #[.pointer (some ⟨r, 0, none⟩), .int .i64 k] w fun e w' => e = .returned (.int .u64 (rnum s k).1) ∧ Rd 34 w' r g (rnum s k).2 ∧ Kept w w' (· = r) := by
  by_cases hs : szB k = true
  · have e1 : rnum s k = (unbe (rtake s k.toNat).1, (rtake s k.toNat).2) := by unfold rnum; rw [if_pos hs]
    rw [e1]
    clear e1
    rcases szB_cases hs with rfl | rfl | rfl | rfl
    · have ht : Calls Try.prog 19 #[.pointer (some ⟨r, 0, none⟩), .int .i64 1] w (TPost 34 w r g (rtake s 1)) := pltake_any r g s 1 w h hb (by omega)
      rw [show (1 : Int).toNat = 1 from rfl]
      have hl : (rtake s 1).1.length ≤ 8 := by
        have := rtake_le s 1
        omega
      generalize rtake s 1 = o at ht hl ⊢
      have HT := Lib.hid ht; clear ht h hs
      go_enter Try.func16, Try.ntmps16
      go_wp2_with (go_at_call 19; refine HT.out.mono ?_; rintro e w1 ⟨A, m, c, rfl, hm, hc, hx, hrd, hkk⟩)
      have hm8 : m ≤ 8 := by rw [hm.out]; exact hl
      go_loop [5, 30] (fun t i => ∃ j : Nat, j ≤ m ∧ i = .int .i64 j ∧ t = .int .u64 (unbe (o.1.take j) : Nat)) (fun _ i => m - (intOf i).toNat)
      case atStart => exact ⟨0, by omega, rfl, rfl⟩
      case round =>
        obtain ⟨j, hj, rfl, rfl⟩ := hrel
        by_cases hlt : j < m
        · have hjl : j < o.1.length := by rw [← hm.out]; exact hlt
          obtain ⟨off, rfl, hcell⟩ := hx.cell hjl
          have HJ := Lib.hid hjl; clear hjl
          have hu : ((unbe (o.1.take j) : Nat) : Int) < 72057594037927936 := by
            have := unbe_lt8 (o.1.take j) 7 (by simp; omega)
            have h2 : (256 : Nat) ^ 7 = 72057594037927936 := by decide
            rw [h2] at this; omega
          generalize hy : o.1.getD j 0 = y at hcell
          unfold bc at hcell
          have hy2 : (y.toNat : Int) < 256 := by have := y.toNat_lt; omega
          have HY := Lib.hid hy; clear hy
          go_wp2
          go_round
          case rel =>
            refine ⟨j + 1, by omega, by go_num, ?_⟩
            rw [or_shl8 _ _ hu hy2, take_snoc HJ.out, unbe_snoc, HY.out]
          case measure => simp [intOf]; omega
        · go_wp2
          go_returns
          rw [List.take_of_length_le (by rw [← hm.out]; omega)]
          exact ⟨rfl, hrd, hkk⟩
    · have ht : Calls Try.prog 19 #[.pointer (some ⟨r, 0, none⟩), .int .i64 2] w (TPost 34 w r g (rtake s 2)) := pltake_any r g s 2 w h hb (by omega)
      rw [show (2 : Int).toNat = 2 from rfl]
      have hl : (rtake s 2).1.length ≤ 8 := by
        have := rtake_le s 2
        omega
      generalize rtake s 2 = o at ht hl ⊢
      have HT := Lib.hid ht; clear ht h hs
      go_enter Try.func16, Try.ntmps16
      go_wp2_with (go_at_call 19; refine HT.out.mono ?_; rintro e w1 ⟨A, m, c, rfl, hm, hc, hx, hrd, hkk⟩)
      have hm8 : m ≤ 8 := by rw [hm.out]; exact hl
      go_loop [5, 30] (fun t i => ∃ j : Nat, j ≤ m ∧ i = .int .i64 j ∧ t = .int .u64 (unbe (o.1.take j) : Nat)) (fun _ i => m - (intOf i).toNat)
      case atStart => exact ⟨0, by omega, rfl, rfl⟩
      case round =>
        obtain ⟨j, hj, rfl, rfl⟩ := hrel
        by_cases hlt : j < m
        · have hjl : j < o.1.length := by rw [← hm.out]; exact hlt
          obtain ⟨off, rfl, hcell⟩ := hx.cell hjl
          have HJ := Lib.hid hjl; clear hjl
          have hu : ((unbe (o.1.take j) : Nat) : Int) < 72057594037927936 := by
            have := unbe_lt8 (o.1.take j) 7 (by simp; omega)
            have h2 : (256 : Nat) ^ 7 = 72057594037927936 := by decide
            rw [h2] at this; omega
          generalize hy : o.1.getD j 0 = y at hcell
          unfold bc at hcell
          have hy2 : (y.toNat : Int) < 256 := by have := y.toNat_lt; omega
          have HY := Lib.hid hy; clear hy
          go_wp2
          go_round
          case rel =>
            refine ⟨j + 1, by omega, by go_num, ?_⟩
            rw [or_shl8 _ _ hu hy2, take_snoc HJ.out, unbe_snoc, HY.out]
          case measure => simp [intOf]; omega
        · go_wp2
          go_returns
          rw [List.take_of_length_le (by rw [← hm.out]; omega)]
          exact ⟨rfl, hrd, hkk⟩
    · have ht : Calls Try.prog 19 #[.pointer (some ⟨r, 0, none⟩), .int .i64 4] w (TPost 34 w r g (rtake s 4)) := pltake_any r g s 4 w h hb (by omega)
      rw [show (4 : Int).toNat = 4 from rfl]
      have hl : (rtake s 4).1.length ≤ 8 := by
        have := rtake_le s 4
        omega
      generalize rtake s 4 = o at ht hl ⊢
      have HT := Lib.hid ht; clear ht h hs
      go_enter Try.func16, Try.ntmps16
      go_wp2_with (go_at_call 19; refine HT.out.mono ?_; rintro e w1 ⟨A, m, c, rfl, hm, hc, hx, hrd, hkk⟩)
      have hm8 : m ≤ 8 := by rw [hm.out]; exact hl
      go_loop [5, 30] (fun t i => ∃ j : Nat, j ≤ m ∧ i = .int .i64 j ∧ t = .int .u64 (unbe (o.1.take j) : Nat)) (fun _ i => m - (intOf i).toNat)
      case atStart => exact ⟨0, by omega, rfl, rfl⟩
      case round =>
        obtain ⟨j, hj, rfl, rfl⟩ := hrel
        by_cases hlt : j < m
        · have hjl : j < o.1.length := by rw [← hm.out]; exact hlt
          obtain ⟨off, rfl, hcell⟩ := hx.cell hjl
          have HJ := Lib.hid hjl; clear hjl
          have hu : ((unbe (o.1.take j) : Nat) : Int) < 72057594037927936 := by
            have := unbe_lt8 (o.1.take j) 7 (by simp; omega)
            have h2 : (256 : Nat) ^ 7 = 72057594037927936 := by decide
            rw [h2] at this; omega
          generalize hy : o.1.getD j 0 = y at hcell
          unfold bc at hcell
          have hy2 : (y.toNat : Int) < 256 := by have := y.toNat_lt; omega
          have HY := Lib.hid hy; clear hy
          go_wp2
          go_round
          case rel =>
            refine ⟨j + 1, by omega, by go_num, ?_⟩
            rw [or_shl8 _ _ hu hy2, take_snoc HJ.out, unbe_snoc, HY.out]
          case measure => simp [intOf]; omega
        · go_wp2
          go_returns
          rw [List.take_of_length_le (by rw [← hm.out]; omega)]
          exact ⟨rfl, hrd, hkk⟩
    · have ht : Calls Try.prog 19 #[.pointer (some ⟨r, 0, none⟩), .int .i64 8] w (TPost 34 w r g (rtake s 8)) := pltake_any r g s 8 w h hb (by omega)
      rw [show (8 : Int).toNat = 8 from rfl]
      have hl : (rtake s 8).1.length ≤ 8 := by
        have := rtake_le s 8
        omega
      generalize rtake s 8 = o at ht hl ⊢
      have HT := Lib.hid ht; clear ht h hs
      go_enter Try.func16, Try.ntmps16
      go_wp2_with (go_at_call 19; refine HT.out.mono ?_; rintro e w1 ⟨A, m, c, rfl, hm, hc, hx, hrd, hkk⟩)
      have hm8 : m ≤ 8 := by rw [hm.out]; exact hl
      go_loop [5, 30] (fun t i => ∃ j : Nat, j ≤ m ∧ i = .int .i64 j ∧ t = .int .u64 (unbe (o.1.take j) : Nat)) (fun _ i => m - (intOf i).toNat)
      case atStart => exact ⟨0, by omega, rfl, rfl⟩
      case round =>
        obtain ⟨j, hj, rfl, rfl⟩ := hrel
        by_cases hlt : j < m
        · have hjl : j < o.1.length := by rw [← hm.out]; exact hlt
          obtain ⟨off, rfl, hcell⟩ := hx.cell hjl
          have HJ := Lib.hid hjl; clear hjl
          have hu : ((unbe (o.1.take j) : Nat) : Int) < 72057594037927936 := by
            have := unbe_lt8 (o.1.take j) 7 (by simp; omega)
            have h2 : (256 : Nat) ^ 7 = 72057594037927936 := by decide
            rw [h2] at this; omega
          generalize hy : o.1.getD j 0 = y at hcell
          unfold bc at hcell
          have hy2 : (y.toNat : Int) < 256 := by have := y.toNat_lt; omega
          have HY := Lib.hid hy; clear hy
          go_wp2
          go_round
          case rel =>
            refine ⟨j + 1, by omega, by go_num, ?_⟩
            rw [or_shl8 _ _ hu hy2, take_snoc HJ.out, unbe_snoc, HY.out]
          case measure => simp [intOf]; omega
        · go_wp2
          go_returns
          rw [List.take_of_length_le (by rw [← hm.out]; omega)]
          exact ⟨rfl, hrd, hkk⟩
  · have e1 : rnum s k = (0, (s.1, true)) := by unfold rnum; rw [if_neg hs]
    rw [e1]
    have hs' : szB k = false := by simpa using hs
    have f1 := h.f1
    have c1 := h.c1
    have H := Lib.hid h.setBad
    have hk1 : (k != 1) = true := bne_iff_ne.2 fun e => hs (by rw [e]; rfl)
    have hk2 : (k != 2) = true := bne_iff_ne.2 fun e => hs (by rw [e]; rfl)
    have hk4 : (k != 4) = true := bne_iff_ne.2 fun e => hs (by rw [e]; rfl)
    have hk8 : (k != 8) = true := bne_iff_ne.2 fun e => hs (by rw [e]; rfl)
    clear e1 hs hs'
    go_enter Try.func16, Try.ntmps16
    go_wp2
    go_returns
    exact ⟨rfl, H.out⟩
end Go.Proofs.Ytaipgkbnmfjpfaa
