/- the frame laws: Same, awake, FrameEncodes, FrameDecodes -/
import Derived.Test.YtmaiokjcgijdcaaDoorRefI
import Derived.Test.YtmaiokjcgijdcaaDoorShaSums
namespace Go.Proofs.YtmaiokjcgijdcaaDoor
open Go.RowKit HP

set_option maxRecDepth 100000 in
set_option maxHeartbeats 1000000 in
theorem same_ok (t : UInt8) (A : Option Addr) (n c : Nat) (A' : Option Addr) (n' c' : Nat) (xs : List UInt8) (w : World) (R : List HP) (hh : Holds w R) (hr : Ent R fun w => RD w A xs) (hn : Hid (n = xs.length)) (hr' : Ent R fun w => RD w A' xs) (hn' : Hid (n' = xs.length)) :
    Calls Tryd.prog 17 #[.agg #[.int .u8 (t.toNat : Int), .slice A n c], .agg #[.int .u8 (t.toNat : Int), .slice A' n' c']] w fun e w' => e = .returned (.bool true) ∧ Holds w' R := by
  have hh2 := (hh.alloc 28 #[.int .u8 (t.toNat : Int), .slice A n c]).alloc 30 #[.int .u8 (t.toNat : Int), .slice A' n' c']
  have hcv1 : (convert 22 9 (.slice A n c)).run Tryd.prog ((w.alloc (.cells #[.int .u8 (t.toNat : Int), .slice A n c] 28)).alloc (.cells #[.int .u8 (t.toNat : Int), .slice A' n' c'] 30)) = .ok (.string (strOf xs)) _ := conv_rd hn.out (hr _ hh2.tail.tail)
  have hcv2 : (convert 22 9 (.slice A' n' c')).run Tryd.prog ((w.alloc (.cells #[.int .u8 (t.toNat : Int), .slice A n c] 28)).alloc (.cells #[.int .u8 (t.toNat : Int), .slice A' n' c'] 30)) = .ok (.string (strOf xs)) _ := conv_rd hn'.out (hr' _ hh2.tail.tail)
  have HH := Lib.hid hh2.tail.tail
  clear hh hh2 hr hr'
  go_enter Tryd.func17, Tryd.ntmps17
  go_wp2
  go_returns
  exact ⟨rfl, HH.out⟩

set_option maxRecDepth 100000 in
set_option maxHeartbeats 1000000 in
theorem frawake_ok (w : World) (R : List HP) (hh : Holds w R) (hk : Ent R KF) : Calls Tryd.prog 12 #[] w fun e w' => e = .returned (.bool true) ∧ Holds w' R := by
  have HE := Lib.hid (fencode_ok 1 none 0 0 [] w R hh (fun w _ => RD.nil w _) rfl (by omega) (by omega) hk)
  rw [show encF 1 [] = (encB 1 [], 0) from rfl, show (((1 : UInt8).toNat : Nat) : Int) = 1 from rfl] at HE
  have hl : (encB 1 []).length = 10 := by simp
  generalize encB 1 [] = L at HE hl
  have HL := Lib.hid hl
  have HB := Lib.hid (fun w' R' (h : Holds w' R') => begins_ok none 0 0 [] w' R' h (fun w _ => RD.nil w _) rfl (by omega) (by omega))
  rw [show beginsF [] = true from rfl] at HB
  have HX := Lib.hid (fun w' g R' (h : Holds w' (rb (some ⟨g, 0, none⟩) [120] :: R')) => begins_ok (some ⟨g, 0, none⟩) 1 1 [120] w' _ h Ent.rb rfl (by omega) (by omega))
  rw [show beginsF [120] = false from rfl] at HX
  have hcm : ∀ (w' : World), (convert 22 22 (.slice (some ⟨w'.heap.size, 0, none⟩) 1 1)).run Tryd.prog (w'.alloc (.cells #[.int .u8 120] 5)) = .ok (.slice (some ⟨w'.heap.size, 0, none⟩) 1 1) ((w'.alloc (.cells #[.int .u8 120] 5)).freeze ⟨w'.heap.size, 1, none⟩ 1) := fun w' =>
    run_convert_mark _ 22 5 _ #[.int .u8 120] 1 1 Tryd.underlying22 Tryd.underlying5 (heap_alloc_new w' _)
  have HM := Lib.hid (fun w' R' (h : Holds w' R') => show Holds ((w'.alloc (.cells #[.int .u8 120] 5)).freeze ⟨w'.heap.size, 1, none⟩ 1) (rb (some ⟨w'.heap.size, 0, none⟩) [120] :: R') from (h.alloc 5 #[.int .u8 120]).mark (xs := [120]) rfl)
  clear hh hl hk
  go_enter Tryd.func12, Tryd.ntmps12
  go_wp2_with (first
    | (go_at_call 13; (with_reducible refine HE.out.mono ?_); rintro e w1 ⟨v1, rfl, hh1⟩; obtain ⟨A1, n1, c1, rfl, hn1, hc1, -⟩ := hh1.own_form; obtain rfl : n1 = 10 := hn1.out.trans HL.out; have HH1 := Lib.hid hh1; clear hh1 hn1)
    | (go_at_call 18; (with_reducible refine (HB.out _ _ HH1.out).mono ?_); rintro e w2 ⟨rfl, hh2⟩; have HH2 := Lib.hid hh2; clear hh2)
    | (go_at_call 18; (with_reducible refine (HX.out _ _ _ (HM.out _ _ HH2.out)).mono ?_); rintro e w3 ⟨rfl, hh3⟩; have HH3 := Lib.hid hh3; clear hh3))
  go_returns
  exact ⟨rfl, HH3.out.tail.tail⟩

set_option maxRecDepth 100000 in
set_option maxHeartbeats 1000000 in
theorem frameEncodes_ok (t : UInt8) (A : Option Addr) (n c : Nat) (xs : List UInt8) (w : World) (R : List HP) (hh : Holds w R) (hr : Ent R fun w => RD w A xs) (hn : Hid (n = xs.length)) (hc : n ≤ c) (hb : n ≤ 140737488355000) (hk : Ent R KF) :
    Calls Tryd.prog 3 #[.int .u8 (t.toNat : Int), .slice A n c] w fun e w' => e = .returned (.bool true) ∧ Holds w' R := by
  have HAW := Lib.hid (fun w' (h : Holds w' R) => frawake_ok w' _ h hk)
  have HE := Lib.hid (fun w' (h : Holds w' R) => fencode_ok t A n c xs w' _ h hr hn hc (by omega) hk)
  have HR := Lib.hid (fun w' P (h : Holds w' (P :: R)) => rencode_ok t A n c xs w' _ h (hr.cons _) hn hc (by omega))
  generalize encF t xs = q at HE HR
  obtain ⟨L, e0⟩ := q
  have HH := Lib.hid hh
  clear hr hk hh
  by_cases h3 : 3000 < n
  · go_enter Tryd.func3, Tryd.ntmps3
    go_wp2_with (first
      | (go_at_call 12; (with_reducible refine (HAW.out _ HH.out).mono ?_); rintro e w1 ⟨rfl, hh1⟩; have HH1 := Lib.hid hh1; clear hh1)
      | (go_at_call 12; (with_reducible refine (HAW.out _ HH1.out).mono ?_); rintro e w2 ⟨rfl, hh2⟩; have HH2 := Lib.hid hh2; clear hh2))
    go_returns
    exact ⟨rfl, HH2.out⟩
  · go_enter Tryd.func3, Tryd.ntmps3
    go_wp2_with (first
      | (go_at_call 12; (with_reducible refine (HAW.out _ HH.out).mono ?_); rintro e w1 ⟨rfl, hh1⟩; have HH1 := Lib.hid hh1; clear hh1)
      | (go_at_call 13; (with_reducible refine (HE.out _ HH1.out).mono ?_); rintro e w2 ⟨v2, rfl, hh2⟩; obtain ⟨A2, n2, c2, rfl, hn2, hc2, -⟩ := hh2.own_form; have HH2 := Lib.hid hh2; clear hh2)
      | (go_at_call 14; (with_reducible refine (HR.out _ _ HH2.out).mono ?_); rintro e w3 ⟨v3, rfl, hh3⟩; obtain ⟨A3, n3, c3, rfl, hn3, hc3, hr3⟩ := hh3.own_form
         have hcv2 : (convert 22 9 (.slice A2 n2 c2)).run Tryd.prog w3 = .ok (.string (strOf L)) w3 := conv_rd hn2.out hh3.tail.own_rd
         have hcv3 : (convert 22 9 (.slice A3 n3 c3)).run Tryd.prog w3 = .ok (.string (strOf L)) w3 := conv_rd hn3.out hr3
         have HH3 := Lib.hid hh3; clear hh3 hr3))
    go_returns
    exact ⟨rfl, HH3.out.tail.tail⟩

set_option maxRecDepth 100000 in
set_option maxHeartbeats 1000000 in
theorem frameDecodes_ok (A : Option Addr) (n c : Nat) (xs : List UInt8) (w : World) (R : List HP) (hh : Holds w R) (hr : Ent R fun w => RD w A xs) (hn : Hid (n = xs.length)) (hc : n ≤ c) (hb : n ≤ 140737488355000) (hk : Ent R KF) :
    Calls Tryd.prog 4 #[.slice A n c] w fun e w' => e = .returned (.bool true) ∧ Holds w' R := by
  have HAW := Lib.hid (fun w' (h : Holds w' R) => frawake_ok w' _ h hk)
  have HE := Lib.hid (fun w' (h : Holds w' R) => fdecode_ok A n c xs w' _ h hr hn hc (by omega) hk)
  have HR := Lib.hid (fun w' P Q (h : Holds w' (P :: Q :: R)) => rdecode_ok A n c xs w' _ h (hr.cons _ |>.cons _) hn hc (by omega))
  have HB := Lib.hid (fun w' P1 P2 P3 P4 (h : Holds w' (P1 :: P2 :: P3 :: P4 :: R)) => begins_ok A n c xs w' _ h (hr.cons _ |>.cons _ |>.cons _ |>.cons _) hn hc (by omega))
  have HC := Lib.hid (fun w' P1 P2 P3 P4 (h : Holds w' (P1 :: P2 :: P3 :: P4 :: R)) => rbegins_ok A n c xs w' _ h (hr.cons _ |>.cons _ |>.cons _ |>.cons _) hn hc (by omega))
  generalize beginsF xs = bg at HB HC
  generalize decF xs = q at HE HR
  obtain ⟨t, L, m, e0⟩ := q
  have HH := Lib.hid hh
  clear hr hk hh
  by_cases h3 : 3000 < n
  · go_enter Tryd.func4, Tryd.ntmps4
    go_wp2_with (first
      | (go_at_call 12; (with_reducible refine (HAW.out _ HH.out).mono ?_); rintro e w1 ⟨rfl, hh1⟩; have HH1 := Lib.hid hh1; clear hh1)
      | (go_at_call 12; (with_reducible refine (HAW.out _ HH1.out).mono ?_); rintro e w2 ⟨rfl, hh2⟩; have HH2 := Lib.hid hh2; clear hh2))
    go_returns
    exact ⟨rfl, HH2.out⟩
  · go_enter Tryd.func4, Tryd.ntmps4
    go_wp2_with (first
      | (go_at_call 12; (with_reducible refine (HAW.out _ HH.out).mono ?_); rintro e w1 ⟨rfl, hh1⟩; have HH1 := Lib.hid hh1; clear hh1)
      | (go_at_call 15; (with_reducible refine (HE.out _ HH1.out).mono ?_); rintro e w2 ⟨v2, rfl, hh2⟩; obtain ⟨A2, n2, c2, rfl, hn2, hc2, -⟩ := hh2.own_form; have HH2 := Lib.hid (hh2.alloc 28 #[.int .u8 (t.toNat : Int), .slice A2 n2 c2]); clear hh2)
      | (go_at_call 16; (with_reducible refine (HR.out _ _ _ HH2.out).mono ?_); rintro e w3 ⟨v3, rfl, hh3⟩; obtain ⟨A3, n3, c3, rfl, hn3, hc3, -⟩ := hh3.own_form
         have hh4 := hh3.alloc 30 #[.int .u8 (t.toNat : Int), .slice A3 n3 c3]
         have c0 := (hh4.pull 2 rfl).cells 0; have c1 := (hh4.pull 2 rfl).cells 1
         have HH3 := Lib.hid hh4; clear hh3 hh4)
      | (go_at_call 17; (with_reducible refine (same_ok t A2 n2 c2 A3 n3 c3 L _ _ HH3.out ((Ent.own.cons _).cons _ |>.cons _) hn2 (Ent.own.cons _) hn3).mono ?_); rintro e w5 ⟨rfl, hh5⟩; have HH5 := Lib.hid hh5; clear hh5)
      | (go_at_call 18; (with_reducible refine (HB.out _ _ _ _ _ HH5.out).mono ?_); rintro e w6 ⟨rfl, hh6⟩; have HH6 := Lib.hid hh6; clear hh6)
      | (go_at_call 19; (with_reducible refine (HC.out _ _ _ _ _ HH6.out).mono ?_); rintro e w7 ⟨rfl, hh7⟩; have HH7 := Lib.hid hh7; clear hh7))
    go_returns
    exact ⟨rfl, HH7.out.tail.tail.tail.tail⟩
end Go.Proofs.YtmaiokjcgijdcaaDoor
