/- slices.Equal over bytes; a frame's length and its beginning. -/
import Derived.Test.YtmaiokjcgijdcaaDoorFrameA
import Derived.Test.YtmaiokjcgijdcaaDoorSlPack
namespace Go.Proofs.YtmaiokjcgijdcaaDoor
open Go.RowKit HP

theorem u8_ne {x y : UInt8} (h : x ≠ y) : (((x.toNat : Int) == (y.toNat : Int)) : Bool) = false := by
  rw [beq_eq_false_iff_ne]
  intro e
  exact h (UInt8.toNat.inj (by omega))
set_option maxRecDepth 100000 in
theorem equal_ok (A : Option Addr) (n c : Nat) (xs : List UInt8) (A' : Option Addr) (n' c' : Nat) (ys : List UInt8) (w : World) (hr : RD w A xs) (hn : Hid (n = xs.length)) (hr' : RD w A' ys) (hn' : Hid (n' = ys.length)) (hb : n ≤ 140737488355328) (hb' : n' ≤ 140737488355328) :
    Calls Tryd.prog 35 #[.slice A n c, .slice A' n' c'] w fun e w' => e = .returned (.bool (xs == ys)) ∧ ∃ q, w' = w.drewN q := by
  by_cases hnm : n = n'
  · subst hnm
    obtain ⟨g, hx⟩ := hr
    obtain ⟨g', hy⟩ := hr'
    go_enter Tryd.func35, Tryd.ntmps35
    go_wp2
    go_loopw [13] (fun i wr => ∃ k q : Nat, k ≤ n ∧ i = .int .i64 k ∧ wr = w.drewN q ∧ Hid (xs.take k = ys.take k)) (fun i _ => n - (intOf i).toNat)
    case atStart => exact ⟨0, 0, by omega, rfl, rfl, by unfold Hid; simp⟩
    case round =>
      obtain ⟨k, q, hk, rfl, rfl, heq⟩ := hrel
      by_cases hlt : k < n
      · obtain ⟨o, rfl, g1⟩ := hx.cell (j := k) (by rw [← hn.out]; exact hlt)
        obtain ⟨o', rfl, g2⟩ := hy.cell (j := k) (by rw [← hn'.out]; exact hlt)
        have h1 := Lib.hid (take_snoc (xs := xs) (j := k) (by rw [← hn.out]; exact hlt))
        have h2 := Lib.hid (take_snoc (xs := ys) (j := k) (by rw [← hn'.out]; exact hlt))
        have HX := Lib.hid hx; have HY := Lib.hid hy
        generalize xs.getD k 0 = x at g1 h1
        generalize ys.getD k 0 = y at g2 h2
        clear hx hy
        simp only [bc] at g1 g2
        by_cases hxy : x = y
        · subst hxy
          go_wp2_with fail
          go_quiet (fail)
          go_wp2
          refine ⟨⟨k + 1, _, by omega, by simp, rfl, by unfold Hid; rw [h1.out, h2.out, heq.out]⟩, by simp only [intOf, Int.toNat_natCast]; omega⟩
        · have hne := u8_ne hxy
          have HF : Hid ((xs == ys) = false) := by
            unfold Hid
            rw [beq_eq_false_iff_ne]
            intro e
            rw [e, h2.out] at h1
            have := List.append_cancel_left h1.out
            exact hxy (by simpa using this.symm)
          have hneI : ((x.toNat : Int) ≠ (y.toNat : Int)) := by simpa using hne
          clear hxy
          go_wp2_with fail
          go_quiet (fail)
          go_wp2
          go_returns
          exact ⟨by rw [HF.out]; rfl, _, World.drewN_drewN _ _ _⟩
      · obtain rfl : k = n := by omega
        have HF : Hid ((xs == ys) = true) := by
          unfold Hid
          rw [beq_iff_eq]
          have := heq.out
          rwa [List.take_of_length_le (by rw [← hn.out]; omega), List.take_of_length_le (by rw [← hn'.out]; omega)] at this
        go_wp2
        go_returns
        exact ⟨by rw [HF.out]; rfl, q, rfl⟩
  · have HF : Hid ((xs == ys) = false) := by
      unfold Hid
      rw [beq_eq_false_iff_ne]
      intro e
      exact hnm (by rw [hn.out, hn'.out, e])
    have hnI : ¬ ((n : Int) = (n' : Int)) := by omega
    go_enter Tryd.func35, Tryd.ntmps35
    go_wp2
    go_returns
    exact ⟨by rw [HF.out]; rfl, 0, rfl⟩

/-- xs[a:a+k] -/
theorem RB.mid {w : World} {g o : Nat} {xs : List UInt8} (h : RB w g (some ⟨g, o, none⟩) xs) (a k : Nat) : RB w g (some ⟨g, o + a, none⟩) ((xs.drop a).take k) := fun hx => by
  have hne : xs ≠ [] := by intro e; subst e; simp at hx
  obtain ⟨o', ho, hc⟩ := h hne
  obtain rfl : o = o' := by simpa using ho
  refine ⟨o + a, rfl, fun j hj => ?_⟩
  simp only [List.length_take, List.length_drop] at hj
  rw [Nat.add_assoc, hc (a + j) (by omega)]
  simp [List.getD, show j < k by omega]
/-- a slice that is not empty has its address -/
theorem RD.addr {w : World} {A : Option Addr} {xs : List UInt8} (h : RD w A xs) (hne : xs ≠ []) : ∃ g o, A = some ⟨g, o, none⟩ ∧ RB w g (some ⟨g, o, none⟩) xs := by
  obtain ⟨g, h⟩ := h
  obtain ⟨o, rfl, hc⟩ := h hne
  exact ⟨g, o, rfl, fun _ => ⟨o, rfl, hc⟩⟩
theorem ne_nil_of_len {n : Nat} {xs : List UInt8} (hn : Hid (n = xs.length)) (h : 0 < n) : xs ≠ [] := by
  intro e; subst e; have := hn.out; simp at this; omega
theorem rnum2 (xs : List UInt8) (h : xs.length = 2) : (rnum (xs, false) 2).1 = unbe xs := by
  simp [rnum, szB, rtake, h, List.take_of_length_le]
set_option maxRecDepth 100000 in
theorem flen_ok (A : Option Addr) (n c : Nat) (xs : List UInt8) (w : World) (R : List HP) (hh : Holds w R) (hr : RD w A xs) (hn : Hid (n = xs.length)) (hc : n ≤ c) (h6 : 6 ≤ n) (hb : n ≤ 140737488355328) :
    Calls Tryd.prog 34 #[.slice A n c] w fun e w' => e = .returned (.int .i64 (lenF xs)) ∧ Holds w' R := by
  obtain ⟨g, o, rfl, hx⟩ := hr.addr (ne_nil_of_len hn (by omega))
  have h2 : ((xs.drop 4).take 2).length = 2 := by have := hn.out; simp; omega
  have HRE := Lib.hid (read_sl (some ⟨g, o + 4, none⟩) 2 (c - 4) ((xs.drop 4).take 2) hh h2.symm ⟨g, hx.mid 4 2⟩ (by omega))
  have HRN := Lib.hid (fun r w' (h : Holds w' (RdH 95 r ((xs.drop 4).take 2, false) :: R)) => rnumber_sl 2 h (by simp only; omega))
  have hlt : lenF xs < 65536 := by
    have := unbe_lt ((xs.drop 4).take 2)
    rw [h2] at this
    exact this
  rw [show (rnum ((xs.drop 4).take 2, false) 2).1 = lenF xs from rnum2 _ h2] at HRN
  generalize lenF xs = m at HRN hlt
  clear hh hx hr
  go_enter Tryd.func34, Tryd.ntmps34
  go_wp2_with (first
    | (go_at_call 44; (with_reducible refine HRE.out.mono ?_); rintro e w1 ⟨r, rfl, hh1⟩; have HH1 := Lib.hid hh1; clear hh1)
    | (go_at_call 45; (with_reducible refine (HRN.out _ _ HH1.out).mono ?_); rintro e w2 ⟨rfl, hh2⟩; have HH2 := Lib.hid hh2.tail; clear hh2))
  go_returns
  exact ⟨rfl, HH2.out⟩
end Go.Proofs.YtmaiokjcgijdcaaDoor
