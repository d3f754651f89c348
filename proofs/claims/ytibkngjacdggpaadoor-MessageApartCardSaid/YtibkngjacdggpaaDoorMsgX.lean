/- The reference's OfFrame: other types; all of it. -/
import Derived.Test.YtibkngjacdggpaaDoorMsgX1
import Derived.Test.YtibkngjacdggpaaDoorMsgX2
import Derived.Test.YtibkngjacdggpaaDoorMsgX3
namespace Go.Proofs.YtibkngjacdggpaaDoor
set_option linter.unusedSimpArgs false
set_option linter.unusedVariables false
open Go.RowKit HP

set_option maxRecDepth 100000 in
set_option maxHeartbeats 16000000 in
theorem rOfFrame_k0 (t : UInt8) (A : Option Addr) (n c : Nat) (xs : List UInt8) (w : World) (R : List HP) (hh : Holds w R) (hr : Ent R fun w => RD w A xs) (hn : Hid (n = xs.length)) (hc : n ≤ c) (hb : n ≤ 1000) (hsel : t.toNat ≤ 6 ∧ ¬ t.toNat = 1 ∧ ¬ t.toNat = 2 ∧ ¬ t.toNat = 3 ∧ ¬ t.toNat = 6) :
    Calls Tryd.prog 76 #[.agg #[.int .u8 (t.toNat : Int), .slice A n c]] w fun e w' => e = .returned (.tuple #[.agg (flat (decM t xs).1.segs).toArray, .int .i64 (decM t xs).2]) ∧ Holds w' R := by
  have HW := Lib.hid hh
  have HR := Lib.hid hr
  have HZ := Lib.hid (Msg.segs_ok Msg.zero_ok)
  have hZ := HZ.out
  have HXL : Hid (xs.length ≤ 1000) := by unfold Hid; rw [← hn.out]; exact hb
  have HEQ : Hid (refOf t xs = decM t xs) := refOf_eq t xs (by have := HXL.out; omega)
  have HFO : SgOk [.o (.int .u8 (t.toNat : Int)), .o (.slice A n c)] := ⟨rfl, rfl, trivial⟩
  have hrw := hr w hh
  have HK1 : Hid ((Tryd.f62.name == "runtime.NumGoroutine" || Tryd.f62.body.isNone) = false) := by unfold Hid; kernel_rfl
  clear hh hr
  by_cases h6 : n < 6
  · have d6 : decide ((n : Int) < 6) = true := decide_eq_true (by omega)
    have hmi : decide (6 < (t.toNat : Int)) = false := decide_eq_false (by omega)
    have HFD : Hid (decM t xs = (Msg.zero, 2)) := by
      unfold Hid
      rw [← HEQ.out]
      unfold refOf
      rw [if_neg (fun h => by have := h.2.1; rw [← hn.out] at this; omega)]
    clear hrw
    go_enter Tryd.func76, Tryd.ntmps76
    go_wp2_with (first
      | go_skip
      | (refine wpList_runs HW.out rfl (runs_ld1 1 rfl rfl rfl rfl (by kernel_rfl)) ?_; simp only [put_rules])
      | (refine wpList_box HW.out rfl rfl rfl (M := [.o (.int .u8 (t.toNat : Int)), .o (.slice A n c)]) rfl HFO (fun gf w' hw' => ?_)
         clear HW; have HW := Lib.hid hw'; clear hw'; (try simp only [hps_rules] at HW); (try simp only [put_rules]))
      | (refine wpList_alloc HW.out rfl (ty := 42) rfl (z := .agg (flat Msg.zero.segs).toArray) (by kernel_rfl) (M := Msg.zero.segs) rfl hZ (fun g2 w' hw' => ?_)
         clear HW; have HW := Lib.hid hw'; clear hw'; (try simp only [hps_rules] at HW); (try simp only [put_rules]))
      | (refine wpList_runs HW.out rfl (runs_build (zs := Msg.zero.segs) (M := Msg.zero.segs) rfl Tryd.underlying42 #[(0, 1), (1, 1), (2, 1), (3, 1), (4, 1), (5, 35), (40, 1), (41, 1), (42, 32), (74, 32), (106, 1)] (fun w => by kernel_rfl) (by kernel_rfl) rfl) ?_; simp only [put_rules])
      | (refine wpList_stA HW.out rfl (ty := 42) (n := 107) rfl rfl 0 rfl (M := Msg.zero.segs) rfl HZ.out (by kernel_rfl) (by kernel_rfl) (by kernel_rfl) (fun w' hw' => ?_)
         clear HW; have HW := Lib.hid hw'; clear hw'; (try simp only [hps_rules] at HW); (try simp only [put_rules]))
      | (refine bodyPost_ret (results_cellS rfl HW.out 0 rfl rfl Tryd.underlying42 rfl (by kernel_rfl)) rfl ?_
         rw [HFD.out]
         exact ⟨rfl, HW.out.tail.tail⟩))
  obtain ⟨g, o, rfl⟩ := hrw.addrW (by intro e; have := hn.out; rw [e] at this; simp at this; omega)
  have d6 : decide ((n : Int) < 6) = false := decide_eq_false (by omega)
  have HN6 : Hid (6 ≤ xs.length) := by unfold Hid; rw [← hn.out]; omega
  obtain ⟨m, hm⟩ : ∃ m, t.toNat = m := ⟨_, rfl⟩
  have HM := Lib.hid hm
  obtain ⟨b0, hb0⟩ : ∃ x, Hid ((xs.getD 0 0).toNat = x) := ⟨_, rfl⟩
  obtain ⟨b1, hb1⟩ : ∃ x, Hid ((xs.getD 1 0).toNat = x) := ⟨_, rfl⟩
  obtain ⟨idv, hid⟩ : ∃ m, Hid (unbe ((xs.drop 2).take 4) = m) := ⟨_, rfl⟩
  have HMM0 : Hid (mm0 t xs = { Msg.zero with kind := (m : Int), frm := (b0 : Int), to := (b1 : Int), id := idv }) := by unfold Hid mm0; rw [hm, hb0.out, hb1.out, hid.out]
  have hm256 : m < 256 := by rw [← hm]; exact t.toNat_lt
  have hb0l : b0 < 256 := by rw [← hb0.out]; exact (xs.getD 0 0).toNat_lt
  have hb1l : b1 < 256 := by rw [← hb1.out]; exact (xs.getD 1 0).toNat_lt
  have H0 : Hid (∀ w, Holds w R → w.cell? ⟨g, o, none⟩ = some (.int .u8 (b0 : Int))) := fun w hw => by
    have := (HR.out w hw).cellW (j := 0) (by rw [← hn.out]; omega)
    rwa [hb0.out, Nat.add_zero] at this
  have H1 : Hid (∀ w, Holds w R → w.cell? ⟨g, o + 1, none⟩ = some (.int .u8 (b1 : Int))) := fun w hw => by
    have := (HR.out w hw).cellW (j := 1) (by rw [← hn.out]; omega)
    rwa [hb1.out] at this
  have HOF : Hid (∀ w L, Holds w (L ++ R) → Calls Tryd.prog 62 #[.slice (some ⟨g, o + 2, none⟩) 4 (c - 2)] w fun e w' => e = .returned (.int .u64 (idv : Int)) ∧ Holds w' (L ++ R)) := fun w L hw => by
    have hR : Holds w R := hw.of_appendM
    have := rofM (some ⟨g, o + 2, none⟩) 4 (c - 2) ((xs.drop 2).take 4) w _ hw ((HR.out w hR).midW 2 4) (by unfold Hid; have := hn.out; simp; omega) (by omega)
    rwa [hid.out] at this
  have hw0 : IntKind.i64.wrap (m : Int) = (m : Int) := by simp [IntKind.wrap, IntKind.signed, IntKind.bits]; omega
  have hw1 : IntKind.i64.wrap (b0 : Int) = (b0 : Int) := by simp [IntKind.wrap, IntKind.signed, IntKind.bits]; omega
  have hw2 : IntKind.i64.wrap (b1 : Int) = (b1 : Int) := by simp [IntKind.wrap, IntKind.signed, IntKind.bits]; omega
  have hn0 : 0 < n := by omega
  have hn1 : 1 < n := by omega
  have hnI0 : (0 : Int) < (n : Int) := by omega
  have hnI1 : (1 : Int) < (n : Int) := by omega
  have hcI6 : (6 : Int) ≤ (c : Int) := by omega
  have hc2 : ¬ c = 2 := by omega
  have hI : (Msg.Ok { Msg.zero with kind := (m : Int), frm := (b0 : Int), to := (b1 : Int), id := idv }) := ⟨Ed.zero_ok, length_zeros 32, length_zeros 32⟩
  have HSI := Lib.hid (Msg.segs_ok hI)
  have HBB : Hid (∀ (oo : Oper) (a : Act) (L : List HP) (x y z u : Operand), oo.op = .build 42 #[(0, x), (1, y), (2, z), (3, u)] → a.eval x = .int .i64 (m : Int) → a.eval y = .int .i64 (b0 : Int) → a.eval z = .int .i64 (b1 : Int) → a.eval u = .int .u64 (idv : Int) → RunsH Tryd.prog oo a L (.agg (flat (Msg.segs { Msg.zero with kind := (m : Int), frm := (b0 : Int), to := (b1 : Int), id := idv })).toArray)) := fun oo a L x y z u ho hx hy hz hu => by
    refine runs_build (zs := Msg.zero.segs) (M := Msg.segs { Msg.zero with kind := (m : Int), frm := (b0 : Int), to := (b1 : Int), id := idv }) ho Tryd.underlying42 #[(0, 1), (1, 1), (2, 1), (3, 1), (4, 1), (5, 35), (40, 1), (41, 1), (42, 32), (74, 32), (106, 1)] (fun w => by kernel_rfl) (by kernel_rfl) ?_
    simp only [List.map_cons, List.map_nil, hx, hy, hz, hu]
    refine fill_cons (off := 0) (n := 1) (M := [.o (.int .i64 (m : Int))]) rfl rfl ⟨rfl, trivial⟩ rfl HZ.out rfl (fun h1 => ?_)
    refine fill_cons (off := 1) (n := 1) (M := [.o (.int .i64 (b0 : Int))]) rfl rfl ⟨rfl, trivial⟩ rfl h1 rfl (fun h2 => ?_)
    refine fill_cons (off := 2) (n := 1) (M := [.o (.int .i64 (b1 : Int))]) rfl rfl ⟨rfl, trivial⟩ rfl h2 rfl (fun h3 => ?_)
    refine fill_cons (off := 3) (n := 1) (M := [.o (.int .u64 (idv : Int))]) rfl rfl ⟨rfl, trivial⟩ rfl h3 rfl (fun h4 => ?_)
    rfl
  rw [hm] at HFO
  have hmi : decide (6 < (m : Int)) = false := decide_eq_false (by omega)
  clear hrw hI hm
  rw [HM.out]
  go_enter Tryd.func76, Tryd.ntmps76
  go_wp2_with (first
    | go_skip
    | (refine wpList_runs HW.out rfl (runs_ld1 1 rfl rfl rfl rfl (by kernel_rfl)) ?_; simp only [put_rules])
    | (refine wpList_box HW.out rfl rfl rfl (M := [.o (.int .u8 (m : Int)), .o (.slice (some ⟨g, o, none⟩) n c)]) rfl HFO (fun gf w' hw' => ?_)
       clear HW; have HW := Lib.hid hw'; clear hw'; (try simp only [hps_rules] at HW); (try simp only [put_rules]))
    | (refine wpList_alloc HW.out rfl (ty := 42) rfl (z := .agg (flat Msg.zero.segs).toArray) (by kernel_rfl) (M := Msg.zero.segs) rfl hZ (fun g2 w' hw' => ?_)
       clear HW; have HW := Lib.hid hw'; clear hw'; (try simp only [hps_rules] at HW); (try simp only [put_rules])))
  refine wp_region_untilA 16 (by kernel_rfl) HW.out (fun w' hw' => ?_)
  clear HW; have HW := Lib.hid hw'; have HC := Lib.hid hw'; clear hw'
  simp only [rep_rules]
  first
  | (refine takeE 0 rfl rfl (runs_ld1 1 rfl rfl rfl rfl (by kernel_rfl)) HC.out (by kernel_rfl) (fun _ _ _ h => h) ?_)
  | (refine takeE 0 rfl rfl ((runs_cellE (ty := 5) rfl rfl (fun w hw => H0.out w hw.tail.tail) (by kernel_rfl))) HC.out (by kernel_rfl) (fun _ _ _ h => h) ?_)
  | (refine takeE 0 rfl rfl ((runs_cellE (ty := 5) rfl rfl (fun w hw => H1.out w hw.tail.tail) (by kernel_rfl))) HC.out (by kernel_rfl) (fun _ _ _ h => h) ?_)
  | (refine takeE 0 (v := ?_) rfl rfl (runs_of fun w => ?_) HC.out (by kernel_rfl) (fun _ _ _ h => h) ?_
     rotate_left
     · go_simp <;> (try with_reducible rfl))
  try simp only [put_rules]
  first
  | (refine takeE 1 rfl rfl (runs_ld1 1 rfl rfl rfl rfl (by kernel_rfl)) HC.out (by kernel_rfl) (fun _ _ _ h => h) ?_)
  | (refine takeE 1 rfl rfl ((runs_cellE (ty := 5) rfl rfl (fun w hw => H0.out w hw.tail.tail) (by kernel_rfl))) HC.out (by kernel_rfl) (fun _ _ _ h => h) ?_)
  | (refine takeE 1 rfl rfl ((runs_cellE (ty := 5) rfl rfl (fun w hw => H1.out w hw.tail.tail) (by kernel_rfl))) HC.out (by kernel_rfl) (fun _ _ _ h => h) ?_)
  | (refine takeE 1 (v := ?_) rfl rfl (runs_of fun w => ?_) HC.out (by kernel_rfl) (fun _ _ _ h => h) ?_
     rotate_left
     · go_simp <;> (try with_reducible rfl))
  try simp only [put_rules]
  first
  | (refine takeE 2 rfl rfl (runs_ld1 1 rfl rfl rfl rfl (by kernel_rfl)) HC.out (by kernel_rfl) (fun _ _ _ h => h) ?_)
  | (refine takeE 2 rfl rfl ((runs_cellE (ty := 5) rfl rfl (fun w hw => H0.out w hw.tail.tail) (by kernel_rfl))) HC.out (by kernel_rfl) (fun _ _ _ h => h) ?_)
  | (refine takeE 2 rfl rfl ((runs_cellE (ty := 5) rfl rfl (fun w hw => H1.out w hw.tail.tail) (by kernel_rfl))) HC.out (by kernel_rfl) (fun _ _ _ h => h) ?_)
  | (refine takeE 2 (v := ?_) rfl rfl (runs_of fun w => ?_) HC.out (by kernel_rfl) (fun _ _ _ h => h) ?_
     rotate_left
     · go_simp <;> (try with_reducible rfl))
  try simp only [put_rules]
  first
  | (refine takeE 3 rfl rfl (runs_ld1 1 rfl rfl rfl rfl (by kernel_rfl)) HC.out (by kernel_rfl) (fun _ _ _ h => h) ?_)
  | (refine takeE 3 rfl rfl ((runs_cellE (ty := 5) rfl rfl (fun w hw => H0.out w hw.tail.tail) (by kernel_rfl))) HC.out (by kernel_rfl) (fun _ _ _ h => h) ?_)
  | (refine takeE 3 rfl rfl ((runs_cellE (ty := 5) rfl rfl (fun w hw => H1.out w hw.tail.tail) (by kernel_rfl))) HC.out (by kernel_rfl) (fun _ _ _ h => h) ?_)
  | (refine takeE 3 (v := ?_) rfl rfl (runs_of fun w => ?_) HC.out (by kernel_rfl) (fun _ _ _ h => h) ?_
     rotate_left
     · go_simp <;> (try with_reducible rfl))
  try simp only [put_rules]
  first
  | (refine takeE 4 rfl rfl (runs_ld1 1 rfl rfl rfl rfl (by kernel_rfl)) HC.out (by kernel_rfl) (fun _ _ _ h => h) ?_)
  | (refine takeE 4 rfl rfl ((runs_cellE (ty := 5) rfl rfl (fun w hw => H0.out w hw.tail.tail) (by kernel_rfl))) HC.out (by kernel_rfl) (fun _ _ _ h => h) ?_)
  | (refine takeE 4 rfl rfl ((runs_cellE (ty := 5) rfl rfl (fun w hw => H1.out w hw.tail.tail) (by kernel_rfl))) HC.out (by kernel_rfl) (fun _ _ _ h => h) ?_)
  | (refine takeE 4 (v := ?_) rfl rfl (runs_of fun w => ?_) HC.out (by kernel_rfl) (fun _ _ _ h => h) ?_
     rotate_left
     · go_simp <;> (try with_reducible rfl))
  try simp only [put_rules]
  first
  | (refine takeE 5 rfl rfl (runs_ld1 1 rfl rfl rfl rfl (by kernel_rfl)) HC.out (by kernel_rfl) (fun _ _ _ h => h) ?_)
  | (refine takeE 5 rfl rfl ((runs_cellE (ty := 5) rfl rfl (fun w hw => H0.out w hw.tail.tail) (by kernel_rfl))) HC.out (by kernel_rfl) (fun _ _ _ h => h) ?_)
  | (refine takeE 5 rfl rfl ((runs_cellE (ty := 5) rfl rfl (fun w hw => H1.out w hw.tail.tail) (by kernel_rfl))) HC.out (by kernel_rfl) (fun _ _ _ h => h) ?_)
  | (refine takeE 5 (v := ?_) rfl rfl (runs_of fun w => ?_) HC.out (by kernel_rfl) (fun _ _ _ h => h) ?_
     rotate_left
     · go_simp <;> (try with_reducible rfl))
  try simp only [put_rules]
  first
  | (refine takeE 6 rfl rfl (runs_ld1 1 rfl rfl rfl rfl (by kernel_rfl)) HC.out (by kernel_rfl) (fun _ _ _ h => h) ?_)
  | (refine takeE 6 rfl rfl ((runs_cellE (ty := 5) rfl rfl (fun w hw => H0.out w hw.tail.tail) (by kernel_rfl))) HC.out (by kernel_rfl) (fun _ _ _ h => h) ?_)
  | (refine takeE 6 rfl rfl ((runs_cellE (ty := 5) rfl rfl (fun w hw => H1.out w hw.tail.tail) (by kernel_rfl))) HC.out (by kernel_rfl) (fun _ _ _ h => h) ?_)
  | (refine takeE 6 (v := ?_) rfl rfl (runs_of fun w => ?_) HC.out (by kernel_rfl) (fun _ _ _ h => h) ?_
     rotate_left
     · go_simp <;> (try with_reducible rfl))
  try simp only [put_rules]
  first
  | (refine takeE 7 rfl rfl (runs_ld1 1 rfl rfl rfl rfl (by kernel_rfl)) HC.out (by kernel_rfl) (fun _ _ _ h => h) ?_)
  | (refine takeE 7 rfl rfl ((runs_cellE (ty := 5) rfl rfl (fun w hw => H0.out w hw.tail.tail) (by kernel_rfl))) HC.out (by kernel_rfl) (fun _ _ _ h => h) ?_)
  | (refine takeE 7 rfl rfl ((runs_cellE (ty := 5) rfl rfl (fun w hw => H1.out w hw.tail.tail) (by kernel_rfl))) HC.out (by kernel_rfl) (fun _ _ _ h => h) ?_)
  | (refine takeE 7 (v := ?_) rfl rfl (runs_of fun w => ?_) HC.out (by kernel_rfl) (fun _ _ _ h => h) ?_
     rotate_left
     · go_simp <;> (try with_reducible rfl))
  try simp only [put_rules]
  first
  | (refine takeE 8 rfl rfl (runs_ld1 1 rfl rfl rfl rfl (by kernel_rfl)) HC.out (by kernel_rfl) (fun _ _ _ h => h) ?_)
  | (refine takeE 8 rfl rfl ((runs_cellE (ty := 5) rfl rfl (fun w hw => H0.out w hw.tail.tail) (by kernel_rfl))) HC.out (by kernel_rfl) (fun _ _ _ h => h) ?_)
  | (refine takeE 8 rfl rfl ((runs_cellE (ty := 5) rfl rfl (fun w hw => H1.out w hw.tail.tail) (by kernel_rfl))) HC.out (by kernel_rfl) (fun _ _ _ h => h) ?_)
  | (refine takeE 8 (v := ?_) rfl rfl (runs_of fun w => ?_) HC.out (by kernel_rfl) (fun _ _ _ h => h) ?_
     rotate_left
     · go_simp <;> (try with_reducible rfl))
  try simp only [put_rules]
  first
  | (refine takeE 9 rfl rfl (runs_ld1 1 rfl rfl rfl rfl (by kernel_rfl)) HC.out (by kernel_rfl) (fun _ _ _ h => h) ?_)
  | (refine takeE 9 rfl rfl ((runs_cellE (ty := 5) rfl rfl (fun w hw => H0.out w hw.tail.tail) (by kernel_rfl))) HC.out (by kernel_rfl) (fun _ _ _ h => h) ?_)
  | (refine takeE 9 rfl rfl ((runs_cellE (ty := 5) rfl rfl (fun w hw => H1.out w hw.tail.tail) (by kernel_rfl))) HC.out (by kernel_rfl) (fun _ _ _ h => h) ?_)
  | (refine takeE 9 (v := ?_) rfl rfl (runs_of fun w => ?_) HC.out (by kernel_rfl) (fun _ _ _ h => h) ?_
     rotate_left
     · go_simp <;> (try with_reducible rfl))
  try simp only [put_rules]
  first
  | (refine takeE 10 rfl rfl (runs_ld1 1 rfl rfl rfl rfl (by kernel_rfl)) HC.out (by kernel_rfl) (fun _ _ _ h => h) ?_)
  | (refine takeE 10 rfl rfl ((runs_cellE (ty := 5) rfl rfl (fun w hw => H0.out w hw.tail.tail) (by kernel_rfl))) HC.out (by kernel_rfl) (fun _ _ _ h => h) ?_)
  | (refine takeE 10 rfl rfl ((runs_cellE (ty := 5) rfl rfl (fun w hw => H1.out w hw.tail.tail) (by kernel_rfl))) HC.out (by kernel_rfl) (fun _ _ _ h => h) ?_)
  | (refine takeE 10 (v := ?_) rfl rfl (runs_of fun w => ?_) HC.out (by kernel_rfl) (fun _ _ _ h => h) ?_
     rotate_left
     · go_simp <;> (try with_reducible rfl))
  try simp only [put_rules]
  first
  | (refine takeE 11 rfl rfl (runs_ld1 1 rfl rfl rfl rfl (by kernel_rfl)) HC.out (by kernel_rfl) (fun _ _ _ h => h) ?_)
  | (refine takeE 11 rfl rfl ((runs_cellE (ty := 5) rfl rfl (fun w hw => H0.out w hw.tail.tail) (by kernel_rfl))) HC.out (by kernel_rfl) (fun _ _ _ h => h) ?_)
  | (refine takeE 11 rfl rfl ((runs_cellE (ty := 5) rfl rfl (fun w hw => H1.out w hw.tail.tail) (by kernel_rfl))) HC.out (by kernel_rfl) (fun _ _ _ h => h) ?_)
  | (refine takeE 11 (v := ?_) rfl rfl (runs_of fun w => ?_) HC.out (by kernel_rfl) (fun _ _ _ h => h) ?_
     rotate_left
     · go_simp <;> (try with_reducible rfl))
  try simp only [put_rules]
  first
  | (refine takeE 12 rfl rfl (runs_ld1 1 rfl rfl rfl rfl (by kernel_rfl)) HC.out (by kernel_rfl) (fun _ _ _ h => h) ?_)
  | (refine takeE 12 rfl rfl ((runs_cellE (ty := 5) rfl rfl (fun w hw => H0.out w hw.tail.tail) (by kernel_rfl))) HC.out (by kernel_rfl) (fun _ _ _ h => h) ?_)
  | (refine takeE 12 rfl rfl ((runs_cellE (ty := 5) rfl rfl (fun w hw => H1.out w hw.tail.tail) (by kernel_rfl))) HC.out (by kernel_rfl) (fun _ _ _ h => h) ?_)
  | (refine takeE 12 (v := ?_) rfl rfl (runs_of fun w => ?_) HC.out (by kernel_rfl) (fun _ _ _ h => h) ?_
     rotate_left
     · go_simp <;> (try with_reducible rfl))
  try simp only [put_rules]
  refine wpAnyE_phaseA (fun a0 listed a w' => ∃ (b13 b14 b15 : Bool) (g15 : Nat),
    listed = #[true, true, true, true, true, true, true, true, true, true, true, true, true, b13, b14, b15, false] ∧
    a = ((a0.put (some 34) (Fl b13 (.int .u64 (idv : Int)) undef)).put (some 35) (Fl b14 (.agg (flat (Msg.segs { Msg.zero with kind := (m : Int), frm := (b0 : Int), to := (b1 : Int), id := idv })).toArray) undef)).put (some 5) (Fl b15 (.pointer (some ⟨g15, 0, none⟩)) undef) ∧
    (b14 = true → b13 = true) ∧
    Holds w' (opt b15 (sblk g15 42 Msg.zero.segs) :: sblk g2 42 Msg.zero.segs :: sblk gf 100 [.o (.int .u8 (m : Int)), .o (.slice (some ⟨g, o, none⟩) n c)] :: R))
    16 #[true, true, true, true, true, true, true, true, true, true, true, true, true, true, true, true, false] 1 (by kernel_rfl) (by kernel_rfl) (by kernel_rfl) ?h0 ?hJ ?hend ?hstep
  case h0 => exact ⟨false, false, false, 0, rfl, rfl, fun h => h, HC.out.emp_cons⟩
  case hJ =>
    rintro _ _ _ ⟨_, _, _, _, rfl, -, -, h⟩
    exact ⟨rfl, rfl, h.tail⟩
  case hstep =>
    rintro _ _ w1 ⟨b13, b14, b15, g15, rfl, rfl, h1413, hh⟩
    refine ⟨fun hne hun hdep => ?_, fun hne hun hdep => ?_, fun hne hun hdep => ?_, fun hne hun hdep => ?_, fun hne hun hdep => ?_, fun hne hun hdep => ?_, fun hne hun hdep => ?_, fun hne hun hdep => ?_, fun hne hun hdep => ?_, fun hne hun hdep => ?_, fun hne hun hdep => ?_, fun hne hun hdep => ?_, fun hne hun hdep => ?_, fun hne hun hdep => ?_, fun hne hun hdep => ?_, fun hne hun hdep => ?_, fun hne hun hdep => ?_, trivial⟩
    all_goals (try exact Bool.noConfusion (show true = false from hun))
    · obtain rfl : b13 = false := hun
      obtain rfl : b14 = false := by cases b14 with | false => rfl | true => exact (h1413 rfl).symm
      refine ⟨rfl, fun K hK => ?_⟩
      clear hne hdep
      simp only [Act.put, List.setIfInBounds_toArray, List.set_cons_zero, List.set_cons_succ]
      refine wp_callG 62 rfl Tryd.func62 HK1.out (al := [.slice (some ⟨g, o + 2, none⟩) 4 (c - 2)]) rfl (HOF.out w1 [_, _, _] hh) ?_
      rintro ex w2 ⟨rfl, hh2⟩
      exact ⟨_, rfl, hK.out _ _ ⟨true, false, b15, g15, rfl, rfl, fun _ => rfl, hh2⟩⟩
    · obtain rfl : b14 = false := hun
      obtain rfl : b13 = true := by cases b13 with | true => rfl | false => exact Bool.noConfusion (show false = true from hdep)
      refine ⟨rfl, fun K hK => ?_⟩
      clear hne hdep
      simp only [Act.put, List.setIfInBounds_toArray, List.set_cons_zero, List.set_cons_succ, Fl_true]
      refine wp_runsM hh (HBB.out _ _ _ _ _ _ _ rfl rfl rfl rfl rfl) ?_
      exact hK.out _ _ ⟨true, true, b15, g15, rfl, rfl, fun _ => rfl, hh⟩
    · obtain rfl : b15 = false := hun
      refine ⟨rfl, fun K hK => ?_⟩
      clear hne hdep
      simp only [Act.put, List.setIfInBounds_toArray, List.set_cons_zero, List.set_cons_succ]
      refine wp_allocR hh.tail rfl (z := .agg (flat Msg.zero.segs).toArray) (by kernel_rfl) (M := Msg.zero.segs) rfl HZ.out (fun g w' hw' => ?_)
      exact hK.out _ _ ⟨b13, b14, true, g, rfl, rfl, h1413, hw'⟩
    all_goals
      exfalso
      clear hh
      revert hne hdep h1413
      cases b13 <;> cases b14 <;> cases b15 <;> intro h1413 hne hdep <;> first | exact absurd rfl hne | exact Bool.noConfusion (show false = true from hdep) | exact Bool.noConfusion (h1413 rfl)
  rintro _ w1 ⟨b13, b14, b15, g15, hl, rfl, -, hh⟩
  simp only [Array.mk.injEq, List.cons.injEq, true_and, and_true] at hl
  obtain ⟨rfl, rfl, rfl⟩ := hl
  have hk2 : Holds w1 (sblk g15 42 Msg.zero.segs :: sblk g2 42 Msg.zero.segs :: sblk gf 100 [.o (.int .u8 (m : Int)), .o (.slice (some ⟨g, o, none⟩) n c)] :: R) := hh
  clear hh HW HC
  have HW := Lib.hid hk2
  clear hk2
  simp only [Act.put, List.setIfInBounds_toArray, List.set_cons_zero, List.set_cons_succ, Fl_true]
  refine effE 16 rfl (by kernel_rfl) ?_
  refine wpList_stA HW.out rfl (ty := 42) (n := 107) rfl rfl 0 rfl (M := Msg.segs { Msg.zero with kind := (m : Int), frm := (b0 : Int), to := (b1 : Int), id := idv }) rfl HSI.out (by kernel_rfl) (by kernel_rfl) (by kernel_rfl) (fun w' hw' => ?_)
  clear HW; have HW := Lib.hid hw'; clear hw'; (try simp only [hps_rules] at HW); (try simp only [put_rules])
  refine wpList_behind (And.intro (fun h => Bool.noConfusion (show true = false from h)) ?_)
  refine doneE (by kernel_rfl) ?_ _
  clear hw0 hw1 hw2 HBB HOF H0 H1 HK1 d6 hmi hc2 hcI6 HSI
  have HMK : Hid (¬ m = 1 ∧ ¬ m = 2 ∧ ¬ m = 3 ∧ ¬ m = 6) := by unfold Hid; rw [← HM.out]; exact hsel.2
  have e1 : ((m : Int) == 1) = false := beq_eq_false_iff_ne.2 (by have := HMK.out; omega)
  have e2 : ((m : Int) == 2) = false := beq_eq_false_iff_ne.2 (by have := HMK.out; omega)
  have e3 : ((m : Int) == 3) = false := beq_eq_false_iff_ne.2 (by have := HMK.out; omega)
  have e6 : ((m : Int) == 6) = false := beq_eq_false_iff_ne.2 (by have := HMK.out; omega)
  clear hsel
  go_wp2_with (first
    | go_skip
    | (refine wpList_runs HW.out rfl (runs_ldA 0 (ty := 42) (n := 107) rfl rfl rfl (by kernel_rfl) Tryd.underlying42 rfl (by kernel_rfl)) ?_; simp only [put_rules])
    | (refine wpList_runs HW.out rfl (runs_ld1 0 rfl rfl rfl rfl (by kernel_rfl)) ?_; simp only [put_rules]))
  obtain ⟨rr, HRR⟩ : ∃ rr : Msg, Hid (({ Msg.zero with kind := (m : Int), frm := (b0 : Int), to := (b1 : Int), id := idv } : Msg) = rr) := ⟨_, rfl⟩
  have HPA : Hid (mParse t xs = rr) := by
    unfold Hid mParse
    rw [HM.out, HMM0.out, ← HRR.out]
    rw [if_neg (fun h => by have := h.1; have := HMK.out; omega), if_neg (fun h => by have := h.1; have := HMK.out; omega), if_neg (fun h => by have := h.1; have := HMK.out; omega), if_neg (fun h => by have := h.1; have := HMK.out; omega)]
  have HX : Hid (Holds _ (sblk g15 42 (Msg.segs { Msg.zero with kind := (m : Int), frm := (b0 : Int), to := (b1 : Int), id := idv }) :: sblk g2 42 Msg.zero.segs :: sblk gf 100 [.o (.int .u8 (m : Int)), .o (.slice (some ⟨g, o, none⟩) n c)] :: R)) := HW
  rw [HRR.out] at HX
  clear HW
  have HW := Lib.hid HX.out
  clear HX
  (try rw [HRR.out])
  have HWF : Hid rr.Wf := by have := mParse_wf t xs HXL.out; rw [HPA.out] at this; exact this
  have hrr := Msg.segs_ok HWF.out.ok
  have HLN : Hid (sglen rr.segs = 107) := by unfold Hid; rw [← flat_len hrr]; exact Msg.length_segs HWF.out.ok
  have HKB : Hid (rr.kb = t) := kb_of (by rw [← HPA.out]; exact mParse_kind t xs)
  obtain ⟨fb, HFB⟩ : ∃ b, Hid (formedM rr = b) := ⟨_, rfl⟩
  obtain ⟨Y, q, HY⟩ : ∃ Y q, Hid (encF t xs = (Y, q)) := ⟨_, _, rfl⟩
  have HEY : Hid (∀ w L, Holds w (L ++ R) → Calls Tryd.prog 68 #[.agg #[.int .u8 (m : Int), .slice (some ⟨g, o, none⟩) n c]] w fun e w' => ∃ A n c, e = .returned (.tuple #[.slice A n c, .int .i64 (q : Int)]) ∧ Hid (n = Y.length) ∧ n ≤ c ∧ Holds w' (own (.slice A n c) Y :: (L ++ R))) := fun w L hw => by
    have := rencodeS t (some ⟨g, o, none⟩) n c xs w (L ++ R) hw (fun w hw => HR.out w hw.of_appendM) hn hc hb HY.out
    rwa [HM.out] at this
  cases fb
  · have HFD : Hid (decM t xs = (Msg.zero, 2)) := by
      unfold Hid
      rw [← HEQ.out]
      unfold refOf
      rw [if_neg (fun h => by have h2 := h.2.2.1; rw [HPA.out, show formedM rr = false from HFB.out] at h2; exact Bool.noConfusion h2)]
    have HEN : Hid (∀ w L, Holds w L → Calls Tryd.prog 36 #[.agg (flat rr.segs).toArray] w fun e w' => ∃ A n c, e = .returned (.tuple #[.slice A n c, .int .i64 1]) ∧ Hid (n = ([] : List UInt8).length) ∧ n ≤ c ∧ Holds w' (own (.slice A n c) [] :: L)) := fun w L hw => rWriteS rr HWF.out w L hw HFB.out
    go_wp2_with (first
      | go_skip
      | (refine wpList_runs HW.out rfl (runs_ldA 0 (ty := 42) (n := 107) rfl rfl rfl HLN.out Tryd.underlying42 rfl (by kernel_rfl)) ?_; simp only [put_rules])
      | (refine wpList_runs HW.out rfl (runs_ldA 2 (ty := 100) (n := 2) rfl rfl rfl (by kernel_rfl) Tryd.underlying100 rfl (by kernel_rfl)) ?_; simp only [put_rules])
      | (go_at_call 36; have hc := HEN.out _ _ HW.out; with_reducible refine hc.mono ?_; clear hc
         rintro e wz ⟨Av, nv, cv, rfl, hnv, hcv, hw'⟩
         replace hw' : Holds wz (_ :: _ :: _ :: own (.slice Av nv cv) _ :: R) := hw'.push_ 3 (by simp)
         clear HW; have HW := Lib.hid hw'; clear hw')
      | (go_at_call 68; have hc := HEY.out _ [_, _, _, _] HW.out; refine hc.mono ?_; clear hc
         rintro e wz ⟨Au, nu, cu, rfl, hnu, hcu, hw'⟩
         replace hw' : Holds wz (_ :: _ :: _ :: _ :: own (.slice Au nu cu) _ :: R) := hw'.push_ 4 (by simp)
         clear HW; have HW := Lib.hid hw'; clear hw')
      | (refine wpList_runs HW.out rfl (runs_build (zs := Msg.zero.segs) (M := Msg.zero.segs) rfl Tryd.underlying42 #[(0, 1), (1, 1), (2, 1), (3, 1), (4, 1), (5, 35), (40, 1), (41, 1), (42, 32), (74, 32), (106, 1)] (fun w => by kernel_rfl) (by kernel_rfl) rfl) ?_; simp only [put_rules])
      | (refine wpList_stA HW.out rfl (ty := 42) (n := 107) rfl rfl 1 rfl (M := Msg.zero.segs) rfl HZ.out (by kernel_rfl) (by kernel_rfl) (by kernel_rfl) (fun w' hw' => ?_)
         clear HW; have HW := Lib.hid hw'; clear hw'; (try simp only [hps_rules] at HW); (try simp only [put_rules]))
      | (refine bodyPost_ret (results_cellS rfl HW.out 1 rfl rfl Tryd.underlying42 rfl (by kernel_rfl)) rfl ?_
         rw [HFD.out]
         exact ⟨rfl, HW.out.tail.tail.tail.tail.tail⟩))
  have HF := Lib.hid ((formedM_iff rr).1 HFB.out)
  have hY : encF t xs = (encB t xs, 0) := by
    unfold encF
    rw [if_neg (fun e => by have h1 := HF.out.k1; rw [← HPA.out, mParse_kind t xs, e] at h1; simp at h1), if_neg (by have := HXL.out; omega)]
  obtain ⟨rfl, rfl⟩ := Prod.mk.inj (HY.out.symm.trans hY)
  clear hY HY
  obtain ⟨X, HX⟩ : ∃ x, Hid (encB rr.kb (encM rr) = x) := ⟨_, rfl⟩
  obtain ⟨Y, HYY⟩ : ∃ x, Hid (encB t xs = x) := ⟨_, rfl⟩
  rw [HYY.out] at HEY
  have HEN : Hid (∀ w L, Holds w L → Calls Tryd.prog 36 #[.agg (flat rr.segs).toArray] w fun e w' => ∃ A n c, e = .returned (.tuple #[.slice A n c, .int .i64 0]) ∧ Hid (n = X.length) ∧ n ≤ c ∧ Holds w' (own (.slice A n c) X :: L)) := fun w L hw => by
    have := rWriteS rr HWF.out w L hw HFB.out
    rw [if_pos rfl, if_pos rfl, HX.out] at this
    exact this
  by_cases hxy : X = Y
  · have HFD : Hid (decM t xs = (rr, 0)) := by
      unfold Hid
      rw [← HEQ.out]
      unfold refOf
      rw [HPA.out, if_pos ⟨by have h1 := HF.out.k6; rw [← HPA.out, mParse_kind t xs] at h1; omega, HN6.out, HFB.out, by
        have := HX.out.trans (hxy.trans HYY.out.symm)
        rw [HKB.out] at this
        exact encB_inj this⟩]
    clear HX HYY
    subst hxy
    go_wp2_with (first
      | go_skip
      | (refine wpList_runs HW.out rfl (runs_ldA 0 (ty := 42) (n := 107) rfl rfl rfl HLN.out Tryd.underlying42 rfl (by kernel_rfl)) ?_; simp only [put_rules])
      | (refine wpList_runs HW.out rfl (runs_ldA 2 (ty := 100) (n := 2) rfl rfl rfl (by kernel_rfl) Tryd.underlying100 rfl (by kernel_rfl)) ?_; simp only [put_rules])
      | (go_at_call 36; have hc := HEN.out _ _ HW.out; with_reducible refine hc.mono ?_; clear hc
         rintro e wz ⟨Av, nv, cv, rfl, hnv, hcv, hw'⟩
         replace hw' : Holds wz (_ :: _ :: _ :: own (.slice Av nv cv) _ :: R) := hw'.push_ 3 (by simp)
         clear HW; have HW := Lib.hid hw'; clear hw')
      | (go_at_call 68; have hc := HEY.out _ [_, _, _, _] HW.out; refine hc.mono ?_; clear hc
         rintro e wz ⟨Au, nu, cu, rfl, hnu, hcu, hw'⟩
         replace hw' : Holds wz (_ :: _ :: _ :: _ :: own (.slice Au nu cu) _ :: R) := hw'.push_ 4 (by simp)
         clear HW; have HW := Lib.hid hw'; clear hw')
      | (refine wpList_runs HW.out rfl (runs_b2s (A := Av) (n := nv) (c := cv) rfl rfl hnv (fun w hw => (hw.pull 3 rfl).own_rd)) ?_; simp only [put_rules])
      | (refine wpList_runs HW.out rfl (runs_b2s (A := Au) (n := nu) (c := cu) rfl rfl hnu (fun w hw => (hw.pull 4 rfl).own_rd)) ?_; simp only [put_rules])
      | (refine wpList_stA HW.out rfl (ty := 42) (n := 107) rfl rfl 1 rfl (M := Msg.segs rr) rfl hrr (by kernel_rfl) HLN.out (by kernel_rfl) (fun w' hw' => ?_)
         clear HW; have HW := Lib.hid hw'; clear hw'; (try simp only [hps_rules] at HW); (try simp only [put_rules]))
      | (refine bodyPost_ret (results_cellS rfl HW.out 1 rfl rfl Tryd.underlying42 rfl (by kernel_rfl)) rfl ?_
         rw [HFD.out]
         exact ⟨rfl, HW.out.tail.tail.tail.tail.tail⟩))
  · have HFD : Hid (decM t xs = (Msg.zero, 2)) := by
      unfold Hid
      rw [← HEQ.out]
      unfold refOf
      rw [if_neg (fun h => by
        have h2 := h.2.2.2
        rw [HPA.out] at h2
        exact hxy (by rw [← HX.out, ← HYY.out, HKB.out, h2]))]
    have hs0 : ((strOf X).toList == (strOf Y).toList) = false := by rw [strOf_list, strOf_list]; exact beq_eq_false_iff_ne.2 hxy
    go_wp2_with (first
      | go_skip
      | (refine wpList_runs HW.out rfl (runs_ldA 0 (ty := 42) (n := 107) rfl rfl rfl HLN.out Tryd.underlying42 rfl (by kernel_rfl)) ?_; simp only [put_rules])
      | (refine wpList_runs HW.out rfl (runs_ldA 2 (ty := 100) (n := 2) rfl rfl rfl (by kernel_rfl) Tryd.underlying100 rfl (by kernel_rfl)) ?_; simp only [put_rules])
      | (go_at_call 36; have hc := HEN.out _ _ HW.out; with_reducible refine hc.mono ?_; clear hc
         rintro e wz ⟨Av, nv, cv, rfl, hnv, hcv, hw'⟩
         replace hw' : Holds wz (_ :: _ :: _ :: own (.slice Av nv cv) _ :: R) := hw'.push_ 3 (by simp)
         clear HW; have HW := Lib.hid hw'; clear hw')
      | (go_at_call 68; have hc := HEY.out _ [_, _, _, _] HW.out; refine hc.mono ?_; clear hc
         rintro e wz ⟨Au, nu, cu, rfl, hnu, hcu, hw'⟩
         replace hw' : Holds wz (_ :: _ :: _ :: _ :: own (.slice Au nu cu) _ :: R) := hw'.push_ 4 (by simp)
         clear HW; have HW := Lib.hid hw'; clear hw')
      | (refine wpList_runs HW.out rfl (runs_b2s (A := Av) (n := nv) (c := cv) rfl rfl hnv (fun w hw => (hw.pull 3 rfl).own_rd)) ?_; simp only [put_rules])
      | (refine wpList_runs HW.out rfl (runs_b2s (A := Au) (n := nu) (c := cu) rfl rfl hnu (fun w hw => (hw.pull 4 rfl).own_rd)) ?_; simp only [put_rules])
      | (refine wpList_runs HW.out rfl (runs_build (zs := Msg.zero.segs) (M := Msg.zero.segs) rfl Tryd.underlying42 #[(0, 1), (1, 1), (2, 1), (3, 1), (4, 1), (5, 35), (40, 1), (41, 1), (42, 32), (74, 32), (106, 1)] (fun w => by kernel_rfl) (by kernel_rfl) rfl) ?_; simp only [put_rules])
      | (refine wpList_stA HW.out rfl (ty := 42) (n := 107) rfl rfl 1 rfl (M := Msg.zero.segs) rfl HZ.out (by kernel_rfl) (by kernel_rfl) (by kernel_rfl) (fun w' hw' => ?_)
         clear HW; have HW := Lib.hid hw'; clear hw'; (try simp only [hps_rules] at HW); (try simp only [put_rules]))
      | (refine bodyPost_ret (results_cellS rfl HW.out 1 rfl rfl Tryd.underlying42 rfl (by kernel_rfl)) rfl ?_
         rw [HFD.out]
         exact ⟨rfl, HW.out.tail.tail.tail.tail.tail⟩))

set_option maxRecDepth 100000 in
set_option maxHeartbeats 16000000 in
theorem rOfFrame_big (t : UInt8) (A : Option Addr) (n c : Nat) (xs : List UInt8) (w : World) (R : List HP) (hh : Holds w R) (hr : Ent R fun w => RD w A xs) (hn : Hid (n = xs.length)) (hc : n ≤ c) (hb : n ≤ 1000) (hsel : 6 < t.toNat) :
    Calls Tryd.prog 76 #[.agg #[.int .u8 (t.toNat : Int), .slice A n c]] w fun e w' => e = .returned (.tuple #[.agg (flat (decM t xs).1.segs).toArray, .int .i64 (decM t xs).2]) ∧ Holds w' R := by
  have HW := Lib.hid hh
  have HR := Lib.hid hr
  have HZ := Lib.hid (Msg.segs_ok Msg.zero_ok)
  have hZ := HZ.out
  have HXL : Hid (xs.length ≤ 1000) := by unfold Hid; rw [← hn.out]; exact hb
  have HEQ : Hid (refOf t xs = decM t xs) := refOf_eq t xs (by have := HXL.out; omega)
  have HFO : SgOk [.o (.int .u8 (t.toNat : Int)), .o (.slice A n c)] := ⟨rfl, rfl, trivial⟩
  have hrw := hr w hh
  have HK1 : Hid ((Tryd.f62.name == "runtime.NumGoroutine" || Tryd.f62.body.isNone) = false) := by unfold Hid; kernel_rfl
  clear hh hr
  have hmi : decide (6 < (t.toNat : Int)) = true := decide_eq_true (by omega)
  have HFD : Hid (decM t xs = (Msg.zero, 2)) := by
    unfold Hid
    rw [← HEQ.out]
    unfold refOf
    rw [if_neg (fun h => by have := h.1; omega)]
  clear hrw
  go_enter Tryd.func76, Tryd.ntmps76
  go_wp2_with (first
    | go_skip
    | (refine wpList_runs HW.out rfl (runs_ld1 1 rfl rfl rfl rfl (by kernel_rfl)) ?_; simp only [put_rules])
    | (refine wpList_box HW.out rfl rfl rfl (M := [.o (.int .u8 (t.toNat : Int)), .o (.slice A n c)]) rfl HFO (fun gf w' hw' => ?_)
       clear HW; have HW := Lib.hid hw'; clear hw'; (try simp only [hps_rules] at HW); (try simp only [put_rules]))
    | (refine wpList_alloc HW.out rfl (ty := 42) rfl (z := .agg (flat Msg.zero.segs).toArray) (by kernel_rfl) (M := Msg.zero.segs) rfl hZ (fun g2 w' hw' => ?_)
       clear HW; have HW := Lib.hid hw'; clear hw'; (try simp only [hps_rules] at HW); (try simp only [put_rules]))
    | (refine wpList_runs HW.out rfl (runs_build (zs := Msg.zero.segs) (M := Msg.zero.segs) rfl Tryd.underlying42 #[(0, 1), (1, 1), (2, 1), (3, 1), (4, 1), (5, 35), (40, 1), (41, 1), (42, 32), (74, 32), (106, 1)] (fun w => by kernel_rfl) (by kernel_rfl) rfl) ?_; simp only [put_rules])
    | (refine wpList_stA HW.out rfl (ty := 42) (n := 107) rfl rfl 0 rfl (M := Msg.zero.segs) rfl HZ.out (by kernel_rfl) (by kernel_rfl) (by kernel_rfl) (fun w' hw' => ?_)
       clear HW; have HW := Lib.hid hw'; clear hw'; (try simp only [hps_rules] at HW); (try simp only [put_rules]))
    | (refine bodyPost_ret (results_cellS rfl HW.out 0 rfl rfl Tryd.underlying42 rfl (by kernel_rfl)) rfl ?_
       rw [HFD.out]
       exact ⟨rfl, HW.out.tail.tail⟩))
theorem rOfFrame_ok (t : UInt8) (A : Option Addr) (n c : Nat) (xs : List UInt8) (w : World) (R : List HP) (hh : Holds w R) (hr : Ent R fun w => RD w A xs) (hn : Hid (n = xs.length)) (hc : n ≤ c) (hb : n ≤ 1000) :
    Calls Tryd.prog 76 #[.agg #[.int .u8 (t.toNat : Int), .slice A n c]] w fun e w' => e = .returned (.tuple #[.agg (flat (decM t xs).1.segs).toArray, .int .i64 (decM t xs).2]) ∧ Holds w' R := by
  by_cases h6 : 6 < t.toNat
  · exact rOfFrame_big t A n c xs w R hh hr hn hc hb h6
  by_cases h1 : t.toNat = 1
  · exact rOfFrame_k1 t A n c xs w R hh hr hn hc hb h1
  by_cases h2 : t.toNat = 2
  · exact rOfFrame_k2 t A n c xs w R hh hr hn hc hb h2
  by_cases h3 : t.toNat = 3
  · exact rOfFrame_k3 t A n c xs w R hh hr hn hc hb h3
  by_cases h4 : t.toNat = 6
  · exact rOfFrame_k6 t A n c xs w R hh hr hn hc hb h4
  exact rOfFrame_k0 t A n c xs w R hh hr hn hc hb ⟨by omega, h1, h2, h3, h4⟩
end Go.Proofs.YtibkngjacdggpaaDoor
