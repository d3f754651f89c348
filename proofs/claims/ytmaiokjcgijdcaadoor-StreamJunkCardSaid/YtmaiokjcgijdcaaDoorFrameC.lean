/- whether a frame may begin so -/
import Derived.Test.YtmaiokjcgijdcaaDoorFrameB
namespace Go.Proofs.YtmaiokjcgijdcaaDoor
open Go.RowKit HP

theorem magX (xs : List UInt8) (m : Nat) (hm : m ≤ 3) : ((strOf xs).toList == (ByteArray.extract { data := #[114, 100, 1] } 0 m).toList) = (xs == magB.take m) := by
  have h : (ByteArray.extract { data := #[114, 100, 1] } 0 m).toList = magB.take m := by
    obtain rfl | rfl | rfl | rfl : m = 0 ∨ m = 1 ∨ m = 2 ∨ m = 3 := by omega
    all_goals decide +kernel
  rw [h, strOf_list]
theorem begins3 {xs : List UInt8} (h : (xs.take 3 == magB.take 3) = false) (h3 : 3 ≤ xs.length) : beginsF xs = false := by
  unfold beginsF
  rw [show min xs.length 3 = 3 by omega, h]
  rfl
theorem begins_few {xs : List UInt8} (h3 : xs.length ≤ 3) : beginsF xs = (xs.take xs.length == magB.take xs.length) := by
  unfold beginsF
  rw [show min xs.length 3 = xs.length by omega, show decide (3 < xs.length) = false by simp; omega, if_neg (by omega), if_neg (by omega), List.take_of_length_le h3, List.take_length]
  simp
theorem begins_many {xs : List UInt8} (h : (xs.take 3 == magB.take 3) = true) (h4 : 4 ≤ xs.length) :
    beginsF xs = (!(xs.getD 3 0 == 0) && (if 6 ≤ xs.length then decide (lenF xs ≤ 1000) else if 4 < xs.length then decide ((xs.getD 4 0).toNat ≤ 3) else true)) := by
  unfold beginsF
  rw [show min xs.length 3 = 3 by omega, h, show decide (3 < xs.length) = true by simp; omega]
  simp
theorem u8_zero {x : UInt8} (h : x ≠ 0) : ¬ ((x.toNat : Int) = 0) := by
  intro e
  exact h (UInt8.toNat.inj (by simpa using e))
set_option maxRecDepth 100000 in
theorem begins_ok (A : Option Addr) (n c : Nat) (xs : List UInt8) (w : World) (R : List HP) (hh : Holds w R) (hr : Ent R fun w => RD w A xs) (hn : Hid (n = xs.length)) (hc : n ≤ c) (hb : n ≤ 140737488355328) :
    Calls Tryd.prog 18 #[.slice A n c] w fun e w' => e = .returned (.bool (beginsF xs)) ∧ Holds w' R := by
  have hrw := hr _ hh
  have hcv : ∀ m k, m ≤ n → (convert 22 9 (.slice A m c)).run Tryd.prog (w.drewN k) = .ok (.string (strOf (xs.take m))) (w.drewN k) := fun m k hm =>
    conv_rd (w := w.drewN k) (by rw [List.length_take, ← hn.out]; omega) ((hr _ (hh.drewN k)).take m)
  have HH := Lib.hid hh
  rcases Nat.lt_or_ge n 4 with h3 | h3
  · have hx := magX (xs.take n) n (by omega)
    have hcvn := fun k => hcv n k (Nat.le_refl n)
    have hbf := begins_few (xs := xs) (by rw [← hn.out]; omega)
    rw [← hn.out] at hbf
    clear hcv hh hr hrw hn
    have hx0 : (strOf []).toList.isEmpty = true := by rw [strOf_list]; rfl
    cases hp : (xs.take n == magB.take n)
    · rw [hp] at hx hbf
      have HF := Lib.hid hbf
      have hn0 : n ≠ 0 := by intro e; subst e; simp at hp
      clear hbf hp
      obtain rfl | rfl | rfl : n = 1 ∨ n = 2 ∨ n = 3 := by omega
      all_goals
        go_enter Tryd.func18, Tryd.ntmps18
        go_wp2_with fail
        go_quiet (fail)
        go_wp2
        go_returns
        exact ⟨by rw [HF.out]; rfl, HH.out.drewN _⟩
    · rw [hp] at hx hbf
      have HF := Lib.hid hbf
      clear hbf hp
      obtain rfl | rfl | rfl | rfl : n = 0 ∨ n = 1 ∨ n = 2 ∨ n = 3 := by omega
      all_goals
        go_enter Tryd.func18, Tryd.ntmps18
        go_wp2_with fail
        go_quiet (fail)
        go_wp2
        go_returns
        exact ⟨by rw [HF.out]; rfl, HH.out.drewN _⟩
  · have hcv3 := fun k => hcv 3 k (by omega)
    have hc3 : 3 ≤ c := by omega
    have hx := magX (xs.take 3) 3 (by omega)
    have hl4 : 4 ≤ xs.length := by rw [← hn.out]; exact h3
    have hnI : (3 : Int) < n := by omega
    have hnI2 : ¬ ((n : Int) ≤ 3) := by omega
    have HR := Lib.hid hr
    obtain ⟨g, o, rfl, hrb⟩ := hrw.addr (ne_nil_of_len hn (by omega))
    clear hcv hr hrw hh
    cases hp : (xs.take 3 == magB.take 3)
    · rw [hp] at hx
      have HF := Lib.hid (begins3 hp (by omega))
      clear hp hl4 hrb
      go_enter Tryd.func18, Tryd.ntmps18
      go_wp2_with fail
      go_quiet (fail)
      go_wp2
      go_returns
      exact ⟨by rw [HF.out]; rfl, HH.out.drewN _⟩
    · rw [hp] at hx
      have hbm := begins_many hp hl4
      rw [← hn.out] at hbm
      obtain ⟨o', ho, c3⟩ := hrb.cell (j := 3) (by omega)
      obtain rfl : o = o' := by simpa using ho
      simp only [bc] at c3
      clear hp ho
      by_cases h0 : xs.getD 3 0 = 0
      · rw [h0] at c3 hbm
        have HF : Hid (beginsF xs = false) := by unfold Hid; rw [hbm]; rfl
        clear hbm hrb
        go_enter Tryd.func18, Tryd.ntmps18
        go_wp2_with fail
        go_quiet (fail)
        go_wp2
        go_returns
        exact ⟨by rw [HF.out]; rfl, HH.out.drewN _⟩
      · have h0I := u8_zero h0
        rw [show (xs.getD 3 0 == 0) = false from beq_eq_false_iff_ne.2 h0] at hbm
        generalize xs.getD 3 0 = x3 at c3 h0I
        clear h0
        rcases Nat.lt_or_ge n 6 with h6 | h6
        · obtain rfl | rfl : n = 4 ∨ n = 5 := by omega
          · have HF : Hid (beginsF xs = true) := by unfold Hid; rw [hbm]; rfl
            clear hbm hrb
            go_enter Tryd.func18, Tryd.ntmps18
            go_wp2_with fail
            go_quiet (fail)
            go_wp2
            go_returns
            exact ⟨by rw [HF.out]; rfl, HH.out.drewN _⟩
          · obtain ⟨o', ho, c4⟩ := hrb.cell (j := 4) (by have := hn.out; omega)
            obtain rfl : o = o' := by simpa using ho
            simp only [bc] at c4
            have HF : Hid (beginsF xs = decide ((xs.getD 4 0).toNat ≤ 3)) := by unfold Hid; rw [hbm]; rfl
            clear hbm hrb ho
            generalize xs.getD 4 0 = x4 at c4 HF
            have hx4 : (x4.toNat : Int) < 256 := by have := x4.toNat_lt; omega
            go_enter Tryd.func18, Tryd.ntmps18
            go_wp2_with fail
            go_quiet (fail)
            go_wp2
            go_returns
            refine ⟨?_, HH.out.drewN _⟩
            rw [HF.out]
            exact ret_bool (decide_eq_decide.2 (by omega))
        · have HL := Lib.hid (fun k => flen_ok (some ⟨g, o, none⟩) n c xs (w.drewN k) R (HH.out.drewN k) (HR.out _ (HH.out.drewN k)) hn hc h6 hb)
          have HF : Hid (beginsF xs = decide (lenF xs ≤ 1000)) := by unfold Hid; rw [hbm, if_pos h6]; simp
          clear hbm hrb
          generalize lenF xs = m at HL HF
          go_enter Tryd.func18, Tryd.ntmps18
          go_wp2_with fail
          go_quiet (fail)
          go_wp2_with (go_at_call 34; (with_reducible refine (HL.out _).mono ?_); rintro e w1 ⟨rfl, hh1⟩; have HH1 := Lib.hid hh1; clear hh1)
          go_returns
          refine ⟨?_, HH1.out⟩
          rw [HF.out]
          exact ret_bool (decide_eq_decide.2 (by omega))
end Go.Proofs.YtmaiokjcgijdcaaDoor
