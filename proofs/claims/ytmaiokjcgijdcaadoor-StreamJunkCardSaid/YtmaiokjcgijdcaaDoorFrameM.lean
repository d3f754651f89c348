/- the frame laws: FrameBack, FrameTurned -/
import Derived.Test.YtmaiokjcgijdcaaDoorFrameL
namespace Go.Proofs.YtmaiokjcgijdcaaDoor
open Go.RowKit HP

theorem walk_of {P : Program} {f : FuncId} {args : Array Value} {w : World} {v : Value} (h : Calls P f args w fun e w' => e = .returned v ∧ Holds w' [since w]) : Calls P f args w fun e w' => e = .returned v ∧ Kept w w' No :=
  h.mono fun _ _ ⟨he, hw⟩ => ⟨he, hw.since_kept⟩
/-- an owned slice of bytes: a cell of it, and a store into it -/
theorem Holds.own_at {w : World} {R : List HP} {A : Option Addr} {n c k : Nat} {xs : List UInt8} (h : Holds w (own (.slice A n c) xs :: R)) (hk : k < xs.length) :
    ∃ g, A = some ⟨g, 0, none⟩ ∧ w.cell? ⟨g, k, none⟩ = some (.int .u8 ((xs.getD k 0).toNat : Int)) ∧ w.frozen? ⟨g, k, none⟩ = false ∧ ∀ y : UInt8, Holds (w.setCell ⟨g, k, none⟩ (.int .u8 (y.toNat : Int))) (own (.slice A n c) (xs.set k y) :: R) := by
  obtain ⟨S, hS⟩ := h.head
  rcases hS.1.2 with ⟨_, hx⟩ | ⟨g, cap, cur, hv, hg0, hgg, hnc, hcm, hsz, htk⟩
  · have : xs = [] := by cases xs with | nil => rfl | cons a l => simp at hx
    subst this; simp at hk
  · simp only [Value.slice.injEq] at hv
    obtain ⟨rfl, rfl, rfl⟩ := hv
    rw [Nat.mul_one] at hsz htk
    have hkc : k < cur.size := by rw [hsz]; omega
    have hck : cur[k]? = some (bc (xs.getD k 0)) := by
      have h1 : (cur.toList.take xs.length)[k]? = some (bc (xs.getD k 0)) := by rw [htk, bcs_get]; simp [List.getD, hk]
      rw [List.getElem?_take, if_pos hk] at h1
      simpa using h1
    refine ⟨g, rfl, ?_, frozen_of_row w g k cur 5 hgg, fun y => ?_⟩
    · rw [cell_of_row w g k cur 5 (0, 0) hgg]; exact hck
    · refine h.change fun S hS => ?_
      refine ⟨S, ⟨⟨by simp, .inr ⟨g, c, cur.setIfInBounds k (bc y), by simp, Nat.zero_le _, heap_setCell_same w g k cur 5 (bc y) hgg, by simpa using hnc, hcm, by simp [hsz], ?_⟩⟩, hS.2⟩, Kept.set_ (Kept.refl _ _) (p := ⟨g, k, none⟩) (.inl ((hS.2 g).2 rfl)) _, fun _ hk => .inl hk⟩
      rw [Nat.mul_one, Array.toList_setIfInBounds, List.length_set, List.take_set, htk]
      simp [bcs, List.map_set]
set_option maxRecDepth 100000 in
set_option maxHeartbeats 2000000 in
theorem frameTurned_ok (t : UInt8) (A : Option Addr) (n c : Nat) (xs : List UInt8) (u : Nat) (by_ : UInt8) (hu : u < 18446744073709551616) (w : World) (R : List HP) (hh : Holds w R) (hr : Ent R fun w => RD w A xs) (hn : Hid (n = xs.length)) (hc : n ≤ c) (hb : n ≤ 140737488355000) (hk : Ent R KF) :
    Calls Tryd.prog 6 #[.int .u8 (t.toNat : Int), .slice A n c, .int .u64 u, .int .u8 (by_.toNat : Int)] w fun e w' => e = .returned (.bool true) ∧ Holds w' R := by
  have HAW := Lib.hid (fun w' (h : Holds w' R) => frawake_ok w' _ h hk)
  have HH := Lib.hid hh
  by_cases h3 : 1000 < n
  · clear hr hk hh
    go_enter Tryd.func6, Tryd.ntmps6
    go_wp2_with (first
      | (go_at_call 12; (with_reducible refine (HAW.out _ HH.out).mono ?_); rintro e w1 ⟨rfl, hh1⟩; have HH1 := Lib.hid hh1; clear hh1)
      | (go_at_call 12; (with_reducible refine (HAW.out _ HH1.out).mono ?_); rintro e w2 ⟨rfl, hh2⟩; have HH2 := Lib.hid hh2; clear hh2))
    go_returns
    exact ⟨rfl, HH2.out⟩
  · by_cases h0 : t = 0
    · have h0I : (t.toNat : Int) = 0 := by rw [h0]; rfl
      rw [h0I]
      clear hr hk hh h0 h0I
      go_enter Tryd.func6, Tryd.ntmps6
      go_wp2_with (first
        | (go_at_call 12; (with_reducible refine (HAW.out _ HH.out).mono ?_); rintro e w1 ⟨rfl, hh1⟩; have HH1 := Lib.hid hh1; clear hh1)
        | (go_at_call 12; (with_reducible refine (HAW.out _ HH1.out).mono ?_); rintro e w2 ⟨rfl, hh2⟩; have HH2 := Lib.hid hh2; clear hh2))
      go_returns
      exact ⟨rfl, HH2.out⟩
    · have h0I : ((t.toNat : Int) == 0) = false := by simpa using u8_zero h0
      have HE := Lib.hid (fun w' (h : Holds w' R) => rencode_ok t A n c xs w' _ h hr hn hc (by omega))
      rw [show encF t xs = (encB t xs, 0) by unfold encF; rw [if_neg h0, if_neg (by rw [← hn.out]; omega)]] at HE
      obtain ⟨N, hN⟩ : ∃ N, Hid (10 + n = N) := ⟨_, rfl⟩
      have hN1 : N ≤ 1010 := by have := hN.out; omega
      have hN0 : 0 < N := by have := hN.out; omega
      have hl : (encB t xs).length = N := by rw [← hN.out]; simp [hn.out]
      generalize encB t xs = L at HE hl
      obtain ⟨k, hk0⟩ : ∃ k, Hid (u % N = k) := ⟨_, rfl⟩
      have hkn : k < N := by rw [← hk0.out]; exact Nat.mod_lt _ hN0
      have hkI : (u : Int) % (N : Int) = (k : Int) := by rw [← hk0.out]; omega
      have hkT : (u : Int).tmod (N : Int) = (k : Int) := by rw [Int.tmod_eq_emod_of_nonneg (by omega)]; exact hkI
      have HL := Lib.hid hl
      have HD := Lib.hid (fun w' A1 c1 (xs' : List UInt8) (h : Holds w' (own (.slice A1 N c1) xs' :: R)) (hn1 : Hid (N = xs'.length)) (hc1 : N ≤ c1) => frameDecodes_ok A1 N c1 xs' w' _ h Ent.own hn1 hc1 (by omega) (hk.cons _))
      have hwr : IntKind.u64.wrap (N : Int) = (N : Int) := by rw [IntKind.wrap_u64]; omega
      clear hr hk hh hl
      go_enter Tryd.func6, Tryd.ntmps6
      go_wp2_with (first
        | (go_at_call 12; (with_reducible refine (HAW.out _ HH.out).mono ?_); rintro e w1 ⟨rfl, hh1⟩; have HH1 := Lib.hid hh1; clear hh1)
        | (go_at_call 14; (with_reducible refine (HE.out _ HH1.out).mono ?_); rintro e w2 ⟨v2, rfl, hh2⟩; obtain ⟨A2, n2, c2, rfl, hn2, hc2, -⟩ := hh2.own_form
           obtain rfl : n2 = N := hn2.out.trans HL.out
           obtain ⟨g, rfl, hcell, hfree, hset⟩ := hh2.own_at (k := k) (by rw [HL.out]; exact hkn)
           have hby : ∃ y : UInt8, Hid ((((L.getD k 0).toNat : Int) + (by_.toNat : Int)) % 256 = (y.toNat : Int)) := ⟨L.getD k 0 + by_, by unfold Hid; rw [UInt8.toNat_add]; omega⟩
           obtain ⟨y, hy⟩ := hby
           generalize L.getD k 0 = x at hcell hy
           have hx1 : (x.toNat : Int) < 256 := by have := x.toNat_lt; omega
           have hb1 : (by_.toNat : Int) < 256 := by have := by_.toNat_lt; omega
           have HS : Hid (Holds (w2.setCell ⟨g, k, none⟩ (.int .u8 (((x.toNat : Int) + (by_.toNat : Int)) % 256))) (own (.slice (some ⟨g, 0, none⟩) n2 c2) (L.set k y) :: R)) := by unfold Hid; rw [hy.out]; exact hset y
           have HLS := Lib.hid (show n2 = (L.set k y).length by simp [HL.out]); clear hh2 hset hn2)
        | (go_at_call 4; (with_reducible refine (HD.out _ _ _ _ HS.out HLS hc2).mono ?_); rintro e w3 ⟨rfl, hh3⟩; have HH3 := Lib.hid hh3; clear hh3))
      go_returns
      exact ⟨rfl, HH3.out.tail⟩
set_option maxRecDepth 100000 in
set_option maxHeartbeats 2000000 in
theorem frameBack_ok (t : UInt8) (A : Option Addr) (n c : Nat) (xs : List UInt8) (B : Option Addr) (m d : Nat) (ys : List UInt8) (u : Nat) (hu : u < 18446744073709551616) (w : World) (R : List HP) (hh : Holds w R)
    (hr : Ent R fun w => RD w A xs) (hn : Hid (n = xs.length)) (hc : n ≤ c) (hb : n ≤ 140737488355000) (hr' : Ent R fun w => RD w B ys) (hm : Hid (m = ys.length)) (_ : m ≤ d) (hb' : m ≤ 140737488355000) (hk : Ent R KF) :
    Calls Tryd.prog 5 #[.int .u8 (t.toNat : Int), .slice A n c, .slice B m d, .int .u64 u] w fun e w' => e = .returned (.bool true) ∧ Holds w' R := by
  have HAW := Lib.hid (fun w' (h : Holds w' R) => frawake_ok w' _ h hk)
  have HH := Lib.hid hh
  by_cases h3 : 1000 < n
  · clear hr hk hh hr'
    go_enter Tryd.func5, Tryd.ntmps5
    go_wp2_with (first
      | (go_at_call 12; (with_reducible refine (HAW.out _ HH.out).mono ?_); rintro e w1 ⟨rfl, hh1⟩; have HH1 := Lib.hid hh1; clear hh1)
      | (go_at_call 12; (with_reducible refine (HAW.out _ HH1.out).mono ?_); rintro e w2 ⟨rfl, hh2⟩; have HH2 := Lib.hid hh2; clear hh2))
    go_returns
    exact ⟨rfl, HH2.out⟩
  by_cases h4 : 1000 < m
  · clear hr hk hh hr'
    go_enter Tryd.func5, Tryd.ntmps5
    go_wp2_with (first
      | (go_at_call 12; (with_reducible refine (HAW.out _ HH.out).mono ?_); rintro e w1 ⟨rfl, hh1⟩; have HH1 := Lib.hid hh1; clear hh1)
      | (go_at_call 12; (with_reducible refine (HAW.out _ HH1.out).mono ?_); rintro e w2 ⟨rfl, hh2⟩; have HH2 := Lib.hid hh2; clear hh2))
    go_returns
    exact ⟨rfl, HH2.out⟩
  by_cases h0 : t = 0
  · have h0I : (t.toNat : Int) = 0 := by rw [h0]; rfl
    rw [h0I]
    clear hr hk hh h0 h0I hr'
    go_enter Tryd.func5, Tryd.ntmps5
    go_wp2_with (first
      | (go_at_call 12; (with_reducible refine (HAW.out _ HH.out).mono ?_); rintro e w1 ⟨rfl, hh1⟩; have HH1 := Lib.hid hh1; clear hh1)
      | (go_at_call 12; (with_reducible refine (HAW.out _ HH1.out).mono ?_); rintro e w2 ⟨rfl, hh2⟩; have HH2 := Lib.hid hh2; clear hh2))
    go_returns
    exact ⟨rfl, HH2.out⟩
  have h0I : ((t.toNat : Int) == 0) = false := by simpa using u8_zero h0
  have hx1000 : xs.length ≤ 1000 := by rw [← hn.out]; omega
  have HE := Lib.hid (fun w' (h : Holds w' R) => fencode_ok t A n c xs w' _ h hr hn hc (by omega) hk)
  rw [show encF t xs = (encB t xs, 0) by unfold encF; rw [if_neg h0, if_neg (by omega)]] at HE
  obtain ⟨N, hN⟩ : ∃ N, Hid (10 + n = N) := ⟨_, rfl⟩
  have hN1 : N ≤ 1010 := by have := hN.out; omega
  have hN0 : 0 < N := by have := hN.out; omega
  have hl : (encB t xs).length = N := by rw [← hN.out]; simp [hn.out]
  have hde := dec_enc t xs ys h0 hx1000
  rw [← hn.out, hN.out] at hde
  obtain ⟨k, hk0⟩ : ∃ k, Hid (u % N = k) := ⟨_, rfl⟩
  have hkn : k < N := by rw [← hk0.out]; exact Nat.mod_lt _ hN0
  have hdc := dec_cut t xs h0 hx1000 k (by rw [← hn.out, hN.out]; exact hkn)
  generalize encB t xs = L at HE hl hde hdc
  have hkI : (u : Int) % (N : Int) = (k : Int) := by rw [← hk0.out]; omega
  have hkT : (u : Int).tmod (N : Int) = (k : Int) := by rw [Int.tmod_eq_emod_of_nonneg (by omega)]; exact hkI
  have hNB : ((N : Int) != (n : Int) + 10) = false := by
    rw [bne_eq_false_iff_eq]
    have := hN.out; omega
  have HL := Lib.hid hl
  have HD := Lib.hid (fun w' P A1 n1 c1 (h : Holds w' (own (.slice A1 n1 c1) (L ++ ys) :: P :: R)) (hn1 : Hid (n1 = (L ++ ys).length)) (hc1 : n1 ≤ c1) => fdecode_ok A1 n1 c1 (L ++ ys) w' _ h Ent.own hn1 hc1 (by rw [hn1.out, List.length_append, hl, ← hm.out]; omega) (hk.cons _ |>.cons _))
  rw [hde] at HD
  have HKL : Hid (k = (L.take k).length) := by unfold Hid; rw [List.length_take, hl]; omega
  have HC := Lib.hid (fun w' P1 P2 P3 A1 c1 (h : Holds w' (P1 :: P2 :: P3 :: own (.slice A1 N c1) L :: R)) (hc1 : N ≤ c1) => fdecode_ok A1 k c1 (L.take k) w' _ h (fun w'' h'' => (h''.tail.tail.tail.own_rd).take k) HKL (by omega) (by omega) (hk.cons _ |>.cons _ |>.cons _ |>.cons _))
  rw [hdc.1] at HC
  have HG := Lib.hid (fun w' P1 P2 P3 P4 P5 A1 c1 (h : Holds w' (P1 :: P2 :: P3 :: P4 :: P5 :: own (.slice A1 N c1) L :: R)) (hc1 : N ≤ c1) => begins_ok A1 k c1 (L.take k) w' _ h (fun w'' h'' => (h''.tail.tail.tail.tail.tail.own_rd).take k) HKL (by omega) (by omega))
  rw [hdc.2] at HG
  have hwr : IntKind.u64.wrap (N : Int) = (N : Int) := by rw [IntKind.wrap_u64]; omega
  have HR' := Lib.hid hr'; have HR := Lib.hid hr
  clear hr hk hh hl hr' hde hdc hk0
  go_enter Tryd.func5, Tryd.ntmps5
  go_wp2_with (first
    | (go_at_call 12; (with_reducible refine (HAW.out _ HH.out).mono ?_); rintro e w1 ⟨rfl, hh1⟩; have HH1 := Lib.hid hh1; clear hh1)
    | (go_at_call 13; (with_reducible refine (HE.out _ HH1.out).mono ?_); rintro e w2 ⟨v2, rfl, hh2⟩; obtain ⟨A2, n2, c2, rfl, hn2, hc2, -⟩ := hh2.own_form
       obtain rfl : n2 = N := hn2.out.trans HL.out
       have HH2 := Lib.hid hh2
       have HH3 := Lib.hid ((hh2.alloc 5 #[]).own_of_cells (xs := []) (n := 0) (cap := 0) rfl (Nat.le_refl _) (by decide) rfl rfl)
       clear hh2)
    | (at_builtin; refine wpList_app_sl rfl (.tmp 53) (.tmp 54) 22 rfl Tryd.underlying22 Tryd.infoByte _ _ HH3.out rfl A2 L n2 c2 hn2 rfl HH3.out.tail.own_rd (by rw [HL.out]; simp; omega) ?_
       intro v4 w4 hh4
       rw [List.nil_append] at hh4
       have HH4 := Lib.hid hh4; clear hh4)
    | (at_builtin; refine wpList_app_sl rfl (.tmp 55) (.tmp 56) 22 rfl Tryd.underlying22 Tryd.infoByte _ _ HH4.out rfl B ys m d hm rfl (HR'.out _ HH4.out.tail.tail) (by rw [HL.out, ← hm.out]; omega) ?_
       intro v5 w5 hh5
       obtain ⟨A5, n5, c5, rfl, hn5, hc5, -⟩ := hh5.own_form
       have HH5 := Lib.hid hh5; clear hh5)
    | (go_at_call 15; (with_reducible refine (HD.out _ _ _ _ _ HH5.out hn5 hc5).mono ?_); rintro e w6 ⟨v6, rfl, hh6⟩; obtain ⟨A6, n6, c6, rfl, hn6, hc6, -⟩ := hh6.own_form
       have HH6 := Lib.hid (hh6.alloc 28 #[.int .u8 (t.toNat : Int), .slice A6 n6 c6]); clear hh6)
    | (go_at_call 15; (with_reducible refine (HC.out _ _ _ _ _ _ HH6.out hc2).mono ?_); rintro e w7 ⟨v7, rfl, hh7⟩; obtain ⟨A7, n7, c7, rfl, hn7, hc7, -⟩ := hh7.own_form
       have hh8 := hh7.alloc 28 #[.int .u8 0, .slice A7 n7 c7]
       have c0 := (hh8.pull 2 rfl).cells 0; have c1 := (hh8.pull 2 rfl).cells 1
       have hcv6 : (convert 22 9 (.slice A6 n6 c6)).run Tryd.prog (w7.alloc (.cells #[.int .u8 0, .slice A7 n7 c7] 28)) = .ok (.string (strOf xs)) _ := conv_rd hn6.out (hh8.pull 3 rfl).own_rd
       have hcvA : (convert 22 9 (.slice A n c)).run Tryd.prog (w7.alloc (.cells #[.int .u8 0, .slice A7 n7 c7] 28)) = .ok (.string (strOf xs)) _ := conv_rd hn.out (HR.out _ hh8.tail.tail.tail.tail.tail.tail)
       have HH8 := Lib.hid hh8; clear hh7 hh8)
    | (go_at_call 18; (with_reducible refine (HG.out _ _ _ _ _ _ _ _ HH8.out hc2).mono ?_); rintro e w9 ⟨rfl, hh9⟩; have HH9 := Lib.hid hh9; clear hh9))
  go_returns
  exact ⟨rfl, HH9.out.tail.tail.tail.tail.tail.tail⟩
end Go.Proofs.YtmaiokjcgijdcaaDoor
