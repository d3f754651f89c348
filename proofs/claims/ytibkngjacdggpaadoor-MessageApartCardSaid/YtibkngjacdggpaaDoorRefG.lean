/- the reference: whether bytes may begin a frame -/
import Derived.Test.YtibkngjacdggpaaDoorRefF
namespace Go.Proofs.YtibkngjacdggpaaDoor
open Go.RowKit HP

theorem u8_neI {x : UInt8} {k : Nat} (h : x ≠ UInt8.ofNat k) (hk : k < 256) : ¬ ((x.toNat : Int) = k) := by
  intro e
  exact h (UInt8.toNat.inj (by rw [UInt8.toNat_ofNat']; omega))
theorem take_mag {xs : List UInt8} {k : Nat} (hk : k < xs.length) (h3 : k < 3) (ht : xs.take k = magB.take k) (hx : xs.getD k 0 = magB.getD k 0) : xs.take (k + 1) = magB.take (k + 1) := by
  rw [List.take_succ_eq_append_getElem hk, List.take_succ_eq_append_getElem (show k < magB.length from h3), ht]
  congr 2
  simpa [List.getD, hk, show k < magB.length from h3] using hx
set_option maxRecDepth 100000 in
set_option maxHeartbeats 1000000 in
theorem rbegins_ok (A : Option Addr) (n c : Nat) (xs : List UInt8) (w : World) (R : List HP) (hh : Holds w R) (hr : Ent R fun w => RD w A xs) (hn : Hid (n = xs.length)) (hc : n ≤ c) (hb : n ≤ 140737488355328) :
    Calls Tryd.prog 100 #[.slice A n c] w fun e w' => e = .returned (.bool (beginsF xs)) ∧ Holds w' R := by
  have HR := Lib.hid hr; have HH := Lib.hid hh
  clear hr hh
  go_enter Tryd.func100, Tryd.ntmps100
  go_wp2
  go_loopw [3] (fun v wr => ∃ k : Nat, k ≤ n ∧ k ≤ 3 ∧ v = .int .i64 k ∧ Hid (xs.take k = magB.take k) ∧ Holds wr R) (fun v _ => 3 - (intOf v).toNat)
  case atStart => exact ⟨0, by omega, by omega, rfl, rfl, HH.out⟩
  case round =>
    obtain ⟨k, hk, hk3, rfl, htk, hq⟩ := hrel
    by_cases hlt : k < n ∧ k < 3
    · obtain ⟨hkn, hk33⟩ := hlt
      have hrw := HR.out _ hq
      obtain ⟨g, o, rfl, -⟩ := hrw.addr (ne_nil_of_len hn (by omega))
      have ck := hrw.cellAt (j := k) (by rw [← hn.out]; exact hkn)
      have HB := Lib.hid hq
      clear hq hrw
      by_cases hx : xs.getD k 0 = magB.getD k 0
      · have HT := Lib.hid (take_mag (by rw [← hn.out]; exact hkn) hk33 htk.out hx)
        rw [hx] at ck
        clear hx htk
        obtain rfl | rfl | rfl : k = 0 ∨ k = 1 ∨ k = 2 := by omega
        all_goals
          have ck2 : wr.cell? _ = some (.int .u8 _) := ck
          simp only [Nat.add_zero, show ((magB.getD 0 0).toNat : Int) = 114 from rfl, show ((magB.getD 1 0).toNat : Int) = 100 from rfl, show ((magB.getD 2 0).toNat : Int) = 1 from rfl] at ck2
          clear ck
          go_wp2_with fail
          go_quiet (fail)
          go_wp2
          go_roundw
          case rel => first | exact ⟨1, by omega, by omega, rfl, HT, HB.out.drewN _⟩ | exact ⟨2, by omega, by omega, rfl, HT, HB.out.drewN _⟩ | exact ⟨3, by omega, by omega, rfl, HT, HB.out.drewN _⟩
          case measure => simp [intOf]
      · have HF := Lib.hid (begins_no (by rw [← hn.out]; exact hkn) hk33 hx)
        clear htk
        obtain rfl | rfl | rfl : k = 0 ∨ k = 1 ∨ k = 2 := by omega
        · have hxI : (((xs.getD 0 0).toNat : Int) != (({ data := #[114, 100, 1] } : ByteArray)[0].toNat : Int)) = true := by
            rw [show ((({ data := #[114, 100, 1] } : ByteArray)[0].toNat : Int)) = 114 from rfl]
            simpa using u8_neI (k := 114) hx (by decide)
          generalize xs.getD 0 0 = y at ck hxI hx
          have ck2 : wr.cell? ⟨g, o, none⟩ = some (.int .u8 (y.toNat : Int)) := ck
          clear ck hx
          go_wp2_with fail
          go_quiet (fail)
          go_wp2
          go_returns
          exact ⟨by rw [HF.out]; rfl, HB.out.drewN _⟩
        · have hxI : (((xs.getD 1 0).toNat : Int) != (({ data := #[114, 100, 1] } : ByteArray)[1].toNat : Int)) = true := by
            rw [show ((({ data := #[114, 100, 1] } : ByteArray)[1].toNat : Int)) = 100 from rfl]
            simpa using u8_neI (k := 100) hx (by decide)
          generalize xs.getD 1 0 = y at ck hxI hx
          clear hx
          go_wp2_with fail
          go_quiet (fail)
          go_wp2
          go_returns
          exact ⟨by rw [HF.out]; rfl, HB.out.drewN _⟩
        · have hxI : (((xs.getD 2 0).toNat : Int) != (({ data := #[114, 100, 1] } : ByteArray)[2].toNat : Int)) = true := by
            rw [show ((({ data := #[114, 100, 1] } : ByteArray)[2].toNat : Int)) = 1 from rfl]
            simpa using u8_neI (k := 1) hx (by decide)
          generalize xs.getD 2 0 = y at ck hxI hx
          clear hx
          go_wp2_with fail
          go_quiet (fail)
          go_wp2
          go_returns
          exact ⟨by rw [HF.out]; rfl, HB.out.drewN _⟩
    · rcases Nat.lt_or_ge n 4 with h4 | h4
      · have HF : Hid (beginsF xs = true) := by
          unfold Hid
          rw [begins_few (by rw [← hn.out]; omega), ← hn.out]
          obtain rfl : k = n := by omega
          rw [htk.out]; simp
        have HB := Lib.hid hq
        clear htk hq
        obtain rfl : k = n := by omega
        obtain rfl | rfl | rfl | rfl : k = 0 ∨ k = 1 ∨ k = 2 ∨ k = 3 := by omega
        all_goals
          go_wp2
          go_returns
          exact ⟨by rw [HF.out]; rfl, HB.out⟩
      · obtain rfl : k = 3 := by omega
        have hl4 : 4 ≤ xs.length := by rw [← hn.out]; exact h4
        have hbm := begins_many (by rw [htk.out]; simp) hl4
        rw [← hn.out] at hbm
        have hrw := HR.out _ hq
        obtain ⟨g, o, rfl, -⟩ := hrw.addr (ne_nil_of_len hn (by omega))
        have c3 := hrw.cellAt (j := 3) (by omega)
        have hnI2 : ¬ ((n : Int) < 3) := by omega
        by_cases h0 : xs.getD 3 0 = 0
        · rw [h0] at c3 hbm
          have HF : Hid (beginsF xs = false) := by unfold Hid; rw [hbm]; rfl
          have HB := Lib.hid hq
          clear hbm hrw htk hq h0
          have c32 : wr.cell? ⟨g, o + 3, none⟩ = some (.int .u8 0) := c3
          clear c3
          go_wp2
          go_returns
          exact ⟨by rw [HF.out]; rfl, HB.out⟩
        · have h0I : (((xs.getD 3 0).toNat : Int) == 0) = false := by simpa using u8_zero h0
          rw [show (xs.getD 3 0 == 0) = false from beq_eq_false_iff_ne.2 h0] at hbm
          generalize xs.getD 3 0 = x3 at c3 h0I
          clear h0 htk
          rcases Nat.lt_or_ge n 6 with h6 | h6
          · obtain rfl | rfl : n = 4 ∨ n = 5 := by omega
            · have HF : Hid (beginsF xs = true) := by unfold Hid; rw [hbm]; rfl
              have HB := Lib.hid hq
              clear hbm hrw hq
              go_wp2
              go_returns
              exact ⟨by rw [HF.out]; rfl, HB.out⟩
            · have c4 := hrw.cellAt (j := 4) (by rw [← hn.out]; omega)
              have HF : Hid (beginsF xs = decide ((xs.getD 4 0).toNat ≤ 3)) := by unfold Hid; rw [hbm]; rfl
              have HB := Lib.hid hq
              clear hbm hrw hq
              generalize xs.getD 4 0 = x4 at c4 HF
              have hx4 : (x4.toNat : Int) < 256 := by have := x4.toNat_lt; omega
              go_wp2
              all_goals
                go_returns
                refine ⟨?_, HB.out⟩
                rw [HF.out]
                exact ret_bool (by simp; omega)
          · have H2 : Hid (2 = ((xs.drop 4).take 2).length) := by unfold Hid; have := hn.out; simp; omega
            have HL := Lib.hid (rof_ok (some ⟨g, o + 4, none⟩) 2 (c - 4) ((xs.drop 4).take 2) wr (hrw.mid 4 2) H2 (by omega))
            have HF : Hid (beginsF xs = decide (unbe ((xs.drop 4).take 2) ≤ 1000)) := by unfold Hid; rw [hbm, if_pos h6]; rfl
            have hlt := unbe_lt8 ((xs.drop 4).take 2) 2 (by simp; omega)
            have hlt2 : (unbe ((xs.drop 4).take 2) : Int) < 65536 := by
              rw [show (256 : Nat) ^ 2 = 65536 by decide] at hlt
              omega
            have HB := Lib.hid hq
            clear hbm hrw hq hlt
            generalize unbe ((xs.drop 4).take 2) = m at HL HF hlt2
            have hcI : (4 : Int) ≤ c := by omega
            have hc4 : ¬ c = 4 := by omega
            clear hlt2
            go_wp2_with (go_at_call 62; (with_reducible refine HL.out.mono ?_); rintro e w1 ⟨rfl, rfl⟩)
            all_goals
              go_returns
              refine ⟨?_, HB.out⟩
              rw [HF.out]
              exact ret_bool (by simp; omega)
end Go.Proofs.YtibkngjacdggpaaDoor
