/- The reference's DecodeRecord: kind 1. -/
import Derived.Test.YtaieonajialenaaRecXh
namespace Go.Proofs.Ytaieonajialenaa
open Go.RowKit HP

set_option maxRecDepth 100000 in
set_option maxHeartbeats 16000000 in
theorem rDecodeRec_k1 (A : Option Addr) (n c : Nat) (xs : List UInt8) (w : World) (R : List HP) (hh : Holds w R) (hr : Ent R fun w => RD w A xs) (hn : Hid (n = xs.length)) (hc : n ≤ c) (hb : n ≤ 140737488351232) (hsel : (xs.getD 0 0).toNat = 1) :
    Calls Try.prog 38 #[.slice A n c] w fun e w' => e = .returned (.tuple #[.agg (flat (decR xs).1.segs).toArray, .int .i64 (decR xs).2]) ∧ Holds w' R := by
  have HW := Lib.hid hh
  have HR := Lib.hid hr
  have HZ := Lib.hid (Rec.segs_ok Rec.zero_ok)
  have HLB : Hid (xs.length ≤ 140737488355328) := by unfold Hid; rw [← hn.out]; omega
  have hrw := hr w hh
  have HK1 : Hid ((Try.f88.name == "runtime.NumGoroutine" || Try.f88.body.isNone) = false) := by unfold Hid; kernel_rfl
  clear hh hr
  by_cases h5 : n < 5
  · have HFD : Hid (decR xs = (Rec.zero, 2)) := by
      unfold Hid
      rw [← refDec_eq xs HLB.out]
      unfold refDec
      rw [if_neg (fun h => by have := h.1; rw [← hn.out] at this; omega)]
    have d5 : decide ((n : Int) < 5) = true := decide_eq_true (by omega)
    rw [HFD.out]
    clear hrw
    go_enter Try.func38, Try.ntmps38
    go_wp2_with (first
      | go_skip
      | (refine wpList_alloc HW.out rfl (ty := 38) rfl (z := .agg (flat Rec.zero.segs).toArray) (by kernel_rfl) (M := Rec.zero.segs) rfl HZ.out (fun g2 w' hw' => ?_)
         clear HW; have HW := Lib.hid hw'; clear hw'; (try simp only [hps_rules] at HW); (try simp only [put_rules]))
      | (refine wpList_runs HW.out rfl (runs_build (zs := Rec.zero.segs) (M := Rec.zero.segs) rfl Try.underlying38 #[(0, 1), (1, 1), (2, 1), (3, 35), (38, 32), (70, 1), (71, 1), (72, 1), (73, 1)] (fun w => by kernel_rfl) (by kernel_rfl) rfl) ?_; simp only [put_rules])
      | (refine wpList_stR HW.out rfl (ty := 38) (n := 74) rfl rfl 0 rfl (M := Rec.segs Rec.zero) rfl rfl HZ.out rfl (by kernel_rfl) (fun w' hw' => ?_)
         clear HW; have HW := Lib.hid hw'; clear hw'; (try simp only [hps_rules] at HW); (try simp only [put_rules])))
    refine bodyPost_ret (results_cellS rfl HW.out 0 rfl rfl Try.underlying38 rfl (by kernel_rfl)) rfl ?_
    exact ⟨rfl, HW.out.tail⟩
  obtain ⟨g, o, rfl⟩ := hrw.addrW (by intro e; have := hn.out; rw [e] at this; simp at this; omega)
  have d5 : decide ((n : Int) < 5) = false := decide_eq_false (by omega)
  have HN5 : Hid (5 ≤ xs.length) := by unfold Hid; rw [← hn.out]; omega
  obtain ⟨b0, hb0⟩ : ∃ x, Hid (xs.getD 0 0 = x) := ⟨_, rfl⟩
  obtain ⟨m, hm⟩ : ∃ m, b0.toNat = m := ⟨_, rfl⟩
  obtain ⟨idv, hid⟩ : ∃ m, Hid (unbe ((xs.drop 1).take 4) = m) := ⟨_, rfl⟩
  have hm256 : m < 256 := by rw [← hm]; exact b0.toNat_lt
  have HR0 : Hid (rr0 xs = { Rec.zero with kind := (m : Int), id := idv }) := by unfold Hid rr0; rw [hb0.out, hm, hid.out]
  have HG0 : Hid ((xs.getD 0 0).toNat = m) := by unfold Hid; rw [hb0.out, hm]
  have hidl : idv < 18446744073709551616 := by
    rw [← hid.out]
    exact Nat.lt_of_lt_of_le (unbe_lt8 _ 8 (by simp; omega)) (by decide)
  have H0 : Hid (∀ w, Holds w R → w.cell? ⟨g, o, none⟩ = some (.int .u8 (m : Int))) := fun w hw => by
    have := (HR.out w hw).cellW (j := 0) (by rw [← hn.out]; omega)
    rwa [HG0.out, Nat.add_zero] at this
  have HOF : Hid (∀ w L, Holds w (L ++ R) → Calls Try.prog 88 #[.slice (some ⟨g, o + 1, none⟩) 4 (c - 1)] w fun e w' => e = .returned (.int .u64 (idv : Int)) ∧ Holds w' (L ++ R)) := fun w L hw => by
    have hR : Holds w R := hw.of_append
    have := rofS (some ⟨g, o + 1, none⟩) 4 (c - 1) ((xs.drop 1).take 4) w _ hw ((HR.out w hR).midW 1 4) (by unfold Hid; have := hn.out; simp; omega) (by omega)
    rwa [hid.out] at this
  have hw0 : IntKind.i64.wrap (m : Int) = (m : Int) := by simp [IntKind.wrap, IntKind.signed, IntKind.bits]; omega
  have hn0 : 0 < n := by omega
  have hn5g : 5 ≤ n := by omega
  have hnI0 : (0 : Int) < (n : Int) := by omega
  have hcI5 : (5 : Int) ≤ (c : Int) := by omega
  have hc1 : ¬ c = 1 := by omega
  have hI : (Rec.Ok { Rec.zero with kind := (m : Int), id := idv }) := ⟨Ed.zero_ok, length_zeros 32⟩
  have HSI := Lib.hid (Rec.segs_ok hI)
  have HBB : Hid (∀ (oo : Oper) (a : Act) (L : List HP) (x y : Operand), oo.op = .build 38 #[(0, x), (1, y)] → a.eval x = .int .i64 (m : Int) → a.eval y = .int .u64 (idv : Int) → RunsH Try.prog oo a L (.agg (flat (Rec.segs { Rec.zero with kind := (m : Int), id := idv })).toArray)) := fun oo a L x y ho hx hy => by
    refine runs_build (zs := Rec.zero.segs) (M := Rec.segs { Rec.zero with kind := (m : Int), id := idv }) ho Try.underlying38 #[(0, 1), (1, 1), (2, 1), (3, 35), (38, 32), (70, 1), (71, 1), (72, 1), (73, 1)] (fun w => by kernel_rfl) (by kernel_rfl) ?_
    simp only [List.map_cons, List.map_nil, hx, hy]
    refine fill_cons (off := 0) (n := 1) (M := [.o (.int .i64 (m : Int))]) rfl rfl ⟨rfl, trivial⟩ rfl HZ.out rfl (fun h1 => ?_)
    refine fill_cons (off := 1) (n := 1) (M := [.o (.int .u64 (idv : Int))]) rfl rfl ⟨rfl, trivial⟩ rfl h1 rfl (fun h2 => ?_)
    rfl
  clear hrw hm h5 hI hb0
  go_enter Try.func38, Try.ntmps38
  go_wp2_with (first
    | go_skip
    | (refine wpList_alloc HW.out rfl (ty := 38) rfl (z := .agg (flat Rec.zero.segs).toArray) (by kernel_rfl) (M := Rec.zero.segs) rfl HZ.out (fun g2 w' hw' => ?_)
       clear HW; have HW := Lib.hid hw'; clear hw'; (try simp only [hps_rules] at HW); (try simp only [put_rules])))
  refine wp_region_untilA 9 (by kernel_rfl) HW.out (fun w' hw' => ?_)
  clear HW; have HW := Lib.hid hw'; have HC := Lib.hid hw'; clear hw'
  simp only [rep_rules]
  first
  | (refine takeE 0 rfl rfl ((runs_cellE (ty := 5) rfl rfl (fun w hw => H0.out w hw.tail) (by kernel_rfl))) HC.out (by kernel_rfl) (fun _ _ _ h => h) ?_)
  | (refine takeE 0 (v := ?_) rfl rfl (runs_of fun w => ?_) HC.out (by kernel_rfl) (fun _ _ _ h => h) ?_
     rotate_left
     · go_simp <;> (try with_reducible rfl))
  try simp only [put_rules]
  first
  | (refine takeE 1 rfl rfl ((runs_cellE (ty := 5) rfl rfl (fun w hw => H0.out w hw.tail) (by kernel_rfl))) HC.out (by kernel_rfl) (fun _ _ _ h => h) ?_)
  | (refine takeE 1 (v := ?_) rfl rfl (runs_of fun w => ?_) HC.out (by kernel_rfl) (fun _ _ _ h => h) ?_
     rotate_left
     · go_simp <;> (try with_reducible rfl))
  try simp only [put_rules]
  first
  | (refine takeE 2 rfl rfl ((runs_cellE (ty := 5) rfl rfl (fun w hw => H0.out w hw.tail) (by kernel_rfl))) HC.out (by kernel_rfl) (fun _ _ _ h => h) ?_)
  | (refine takeE 2 (v := ?_) rfl rfl (runs_of fun w => ?_) HC.out (by kernel_rfl) (fun _ _ _ h => h) ?_
     rotate_left
     · go_simp <;> (try with_reducible rfl))
  try simp only [put_rules]
  first
  | (refine takeE 3 rfl rfl ((runs_cellE (ty := 5) rfl rfl (fun w hw => H0.out w hw.tail) (by kernel_rfl))) HC.out (by kernel_rfl) (fun _ _ _ h => h) ?_)
  | (refine takeE 3 (v := ?_) rfl rfl (runs_of fun w => ?_) HC.out (by kernel_rfl) (fun _ _ _ h => h) ?_
     rotate_left
     · go_simp <;> (try with_reducible rfl))
  try simp only [put_rules]
  first
  | (refine takeE 4 rfl rfl ((runs_cellE (ty := 5) rfl rfl (fun w hw => H0.out w hw.tail) (by kernel_rfl))) HC.out (by kernel_rfl) (fun _ _ _ h => h) ?_)
  | (refine takeE 4 (v := ?_) rfl rfl (runs_of fun w => ?_) HC.out (by kernel_rfl) (fun _ _ _ h => h) ?_
     rotate_left
     · go_simp <;> (try with_reducible rfl))
  try simp only [put_rules]
  first
  | (refine takeE 5 rfl rfl ((runs_cellE (ty := 5) rfl rfl (fun w hw => H0.out w hw.tail) (by kernel_rfl))) HC.out (by kernel_rfl) (fun _ _ _ h => h) ?_)
  | (refine takeE 5 (v := ?_) rfl rfl (runs_of fun w => ?_) HC.out (by kernel_rfl) (fun _ _ _ h => h) ?_
     rotate_left
     · go_simp <;> (try with_reducible rfl))
  try simp only [put_rules]
  refine wpAnyE_phaseA (fun a0 listed a w' => ∃ (b6 b7 b8 : Bool) (g8 : Nat),
    listed = #[true, true, true, true, true, true, b6, b7, b8, false] ∧
    a = ((a0.put (some 18) (Fl b6 (.int .u64 (idv : Int)) undef)).put (some 19) (Fl b7 (.agg (flat (Rec.segs { Rec.zero with kind := (m : Int), id := idv })).toArray) undef)).put (some 4) (Fl b8 (.pointer (some ⟨g8, 0, none⟩)) undef) ∧
    (b7 = true → b6 = true) ∧
    Holds w' (opt b8 (sblk g8 38 Rec.zero.segs) :: sblk g2 38 Rec.zero.segs :: R))
    9 #[true, true, true, true, true, true, true, true, true, false] 1 (by kernel_rfl) (by kernel_rfl) (by kernel_rfl) ?h0 ?hJ ?hend ?hstep
  case h0 => exact ⟨false, false, false, 0, rfl, rfl, fun h => h, HC.out.emp_cons⟩
  case hJ =>
    rintro _ _ _ ⟨_, _, _, _, rfl, -, -, h⟩
    exact ⟨rfl, rfl, h.tail⟩
  case hstep =>
    rintro _ _ w1 ⟨b6, b7, b8, g8, rfl, rfl, h76, hh⟩
    refine ⟨fun hne hun hdep => ?_, fun hne hun hdep => ?_, fun hne hun hdep => ?_, fun hne hun hdep => ?_, fun hne hun hdep => ?_, fun hne hun hdep => ?_, fun hne hun hdep => ?_, fun hne hun hdep => ?_, fun hne hun hdep => ?_, fun hne hun hdep => ?_, trivial⟩
    all_goals (try exact Bool.noConfusion (show true = false from hun))
    · obtain rfl : b6 = false := hun
      obtain rfl : b7 = false := by cases b7 with | false => rfl | true => exact (h76 rfl).symm
      refine ⟨rfl, fun K hK => ?_⟩
      clear hne hdep
      simp only [Act.put, List.setIfInBounds_toArray, List.set_cons_zero, List.set_cons_succ]
      refine wp_callG 88 rfl Try.func88 HK1.out (al := [.slice (some ⟨g, o + 1, none⟩) 4 (c - 1)]) rfl (HOF.out w1 [_, _] hh) ?_
      rintro ex w2 ⟨rfl, hh2⟩
      exact ⟨_, rfl, hK.out _ _ ⟨true, false, b8, g8, rfl, rfl, fun _ => rfl, hh2⟩⟩
    · obtain rfl : b7 = false := hun
      obtain rfl : b6 = true := by cases b6 with | true => rfl | false => exact Bool.noConfusion (show false = true from hdep)
      refine ⟨rfl, fun K hK => ?_⟩
      clear hne hdep
      simp only [Act.put, List.setIfInBounds_toArray, List.set_cons_zero, List.set_cons_succ, Fl_true]
      refine wp_runs hh (HBB.out _ _ _ _ _ rfl rfl rfl) ?_
      exact hK.out _ _ ⟨true, true, b8, g8, rfl, rfl, fun _ => rfl, hh⟩
    · obtain rfl : b8 = false := hun
      refine ⟨rfl, fun K hK => ?_⟩
      clear hne hdep
      simp only [Act.put, List.setIfInBounds_toArray, List.set_cons_zero, List.set_cons_succ]
      refine wp_allocR hh.tail rfl (z := .agg (flat Rec.zero.segs).toArray) (by kernel_rfl) (M := Rec.zero.segs) rfl HZ.out (fun g w' hw' => ?_)
      exact hK.out _ _ ⟨b6, b7, true, g, rfl, rfl, h76, hw'⟩
    all_goals
      exfalso
      clear hh
      revert hne hdep h76
      cases b6 <;> cases b7 <;> cases b8 <;> intro h76 hne hdep <;> first | exact absurd rfl hne | exact Bool.noConfusion (show false = true from hdep) | exact Bool.noConfusion (h76 rfl)
  rintro _ w1 ⟨b6, b7, b8, g8, hl, rfl, -, hh⟩
  simp only [Array.mk.injEq, List.cons.injEq, true_and, and_true] at hl
  obtain ⟨rfl, rfl, rfl⟩ := hl
  have hk2 : Holds w1 (sblk g8 38 Rec.zero.segs :: sblk g2 38 Rec.zero.segs :: R) := hh
  clear hh HW HC
  have HW := Lib.hid hk2
  clear hk2
  simp only [Act.put, List.setIfInBounds_toArray, List.set_cons_zero, List.set_cons_succ, Fl_true]
  refine effE 9 rfl (by kernel_rfl) ?_
  refine wpList_stR HW.out rfl (ty := 38) (n := 74) rfl rfl 0 rfl (M := Rec.segs { Rec.zero with kind := (m : Int), id := idv }) rfl rfl HSI.out rfl (by kernel_rfl) (fun w' hw' => ?_)
  clear HW; have HW := Lib.hid hw'; clear hw'; (try simp only [hps_rules] at HW); (try simp only [put_rules])
  refine wpList_behind (And.intro (fun h => Bool.noConfusion (show true = false from h)) ?_)
  refine doneE (by kernel_rfl) ?_ _
  have hedw : ∀ ys k, ys.length ≤ 140737488355328 → (rEd ys k).1.Wf := fun ys k hy => by
    refine ⟨rEd_ok ys k, ?_⟩
    unfold rEd
    split
    · simp [Ed.zero, maxLen]
    · simp [maxLen]; omega
  have HEDW := Lib.hid hedw
  clear hedw HK1 HOF HBB H0
  have hm1 : m = 1 := by rw [← HG0.out]; exact hsel
  clear hsel
  · skip
    have e1 : ((m : Int) == 1) = true := by rw [hm1]; rfl
    have HMM := Lib.hid hm1
    clear hm1
    obtain ⟨ed, hed⟩ : ∃ q, (rEd (xs.drop 5) 0).1 = q := ⟨_, rfl⟩
    obtain ⟨ok1, hok⟩ : ∃ q, (rEd (xs.drop 5) 0).2 = q := ⟨_, rfl⟩
    have HED : Hid (rEd (xs.drop 5) 0 = (ed, ok1)) := by unfold Hid; rw [← hed, ← hok]
    have HEW : Hid (ed.Wf) := by rw [← hed]; exact HEDW.out _ _ (by have := HLB.out; simp; omega)
    have HPA : Hid (rParse xs = ({ Rec.zero with kind := (m : Int), id := idv, ed := ed }, ok1)) := by
      unfold Hid rParse
      rw [HG0.out, if_pos HMM.out, HR0.out, HED.out]
    have HWF : Hid (Rec.Wf { Rec.zero with kind := (m : Int), id := idv, ed := ed }) := recX_wf hm256 hidl (by decide) HEW.out (length_zeros 32) (by decide) (by decide) (by decide)
    clear hed hok
    by_cases hc5 : c = 5
    · obtain rfl : n = 5 := by omega
      subst hc5
      have hd : xs.drop 5 = [] := List.drop_eq_nil_of_le (by rw [← hn.out]; exact Nat.le_refl 5)
      rw [hd] at HED
      obtain ⟨rfl, rfl⟩ : Ed.zero = ed ∧ false = ok1 := by
        have := HED.out
        unfold rEd at this
        rw [if_pos (by simp)] at this
        simpa using this
      have HCE : Hid (∀ P1 P2 w, Holds w (P1 :: P2 :: R) → Calls Try.prog 89 #[.slice (some ⟨g, o, none⟩) 0 0, .int .i64 0] w fun e w' => e = .returned (.tuple #[Ed.val Ed.zero, .bool false]) ∧ Holds w' (P1 :: P2 :: R)) := fun P1 P2 w hw => by
        have := redit_okR (some ⟨g, o, none⟩) 0 0 [] 0 (by decide) w (P1 :: P2 :: R) hw (fun w hw => RD.nil _ _) (rfl) (by omega) (by omega)
        rw [HED.out] at this
        exact this
      have HFD : Hid (decR xs = (Rec.zero, 2)) := by
        unfold Hid
        rw [← refDec_eq xs HLB.out]
        unfold refDec
        rw [if_neg (fun h => by have h2 := h.2.1; rw [HPA.out] at h2; exact Bool.noConfusion (show false = true from h2))]
      obtain ⟨fb, HFB⟩ : ∃ b, Hid (formedR { Rec.zero with kind := (m : Int), id := idv, ed := Ed.zero } = b) := ⟨_, rfl⟩
      obtain ⟨ec, HEC⟩ : ∃ q, Hid ((if fb = true then (0 : Int) else 1) = q) := ⟨_, rfl⟩
      obtain ⟨cs, HCS⟩ : ∃ q, Hid ((if fb = true then encR { Rec.zero with kind := (m : Int), id := idv, ed := Ed.zero } else []) = q) := ⟨_, rfl⟩
      have HEN : Hid (∀ w L, Holds w L → Calls Try.prog 34 #[.agg (flat (Rec.segs { Rec.zero with kind := (m : Int), id := idv, ed := Ed.zero })).toArray] w fun e w' => ∃ A n c, e = .returned (.tuple #[.slice A n c, .int .i64 ec]) ∧ Hid (n = cs.length) ∧ n ≤ c ∧ Holds w' (own (.slice A n c) cs :: L)) := fun w L hw => by
        have := rEncodeRecS _ HWF.out w L hw HFB.out
        rw [HEC.out, HCS.out] at this
        exact this
      go_wp2_with (first
        | go_skip
        | (refine wpList_runs HW.out rfl (runs_ldR 0 (ty := 38) (n := 74) (m := Rec.segs { Rec.zero with kind := (m : Int), id := idv, ed := Ed.zero }) rfl rfl rfl rfl Try.underlying38 rfl (by kernel_rfl)) ?_; simp only [put_rules])
        | (refine wpList_runs HW.out rfl (runs_ld1 0 rfl rfl rfl rfl (by kernel_rfl)) ?_; simp only [put_rules])
        | (go_at_call 89; have hc := HCE.out _ _ _ HW.out; with_reducible refine hc.mono ?_; clear hc
           rintro e wq ⟨rfl, hw'⟩
           clear HW; have HW := Lib.hid hw'; clear hw')
        | (refine wpList_stR HW.out rfl (ty := 35) (n := 35) rfl rfl 0 rfl (M := Ed.segs Ed.zero) rfl rfl (Ed.segs_ok HEW.out.ok) rfl (by kernel_rfl) (fun w' hw' => ?_)
           replace hw' : Holds w' (sblk _ 38 (Rec.segs { Rec.zero with kind := (m : Int), id := idv, ed := Ed.zero }) :: _ :: R) := hw'
           clear HW; have HW := Lib.hid hw'; clear hw'; (try simp only [put_rules]))
        | (go_at_call 34; have hc := HEN.out _ _ HW.out; with_reducible refine hc.mono ?_; clear hc
           rintro e wz ⟨Av, nv, cv, rfl, hnv, hcv, hw'⟩
           replace hw' : Holds wz (_ :: _ :: own (.slice Av nv cv) _ :: R) := hw'.push_ 2 (by simp)
           clear HW; have HW := Lib.hid hw'; clear hw')
        | (refine wpList_runs HW.out rfl (runs_build (zs := Rec.zero.segs) (M := Rec.zero.segs) rfl Try.underlying38 #[(0, 1), (1, 1), (2, 1), (3, 35), (38, 32), (70, 1), (71, 1), (72, 1), (73, 1)] (fun w => by kernel_rfl) (by kernel_rfl) rfl) ?_; simp only [put_rules])
        | (refine wpList_stR HW.out rfl (ty := 38) (n := 74) rfl rfl 1 rfl (M := Rec.segs Rec.zero) rfl rfl HZ.out rfl (by kernel_rfl) (fun w' hw' => ?_)
           clear HW; have HW := Lib.hid hw'; clear hw'; (try simp only [hps_rules] at HW); (try simp only [put_rules])))
      refine bodyPost_ret (results_cellS rfl HW.out 1 rfl rfl Try.underlying38 rfl (by kernel_rfl)) rfl ?_
      rw [HFD.out]
      exact ⟨rfl, HW.out.tail.tail.tail⟩
    have HCE : Hid (∀ P1 P2 w, Holds w (P1 :: P2 :: R) → Calls Try.prog 89 #[.slice (some ⟨g, o + 5, none⟩) (n - 5) (c - 5), .int .i64 0] w fun e w' => e = .returned (.tuple #[Ed.val ed, .bool ok1]) ∧ Holds w' (P1 :: P2 :: R)) := fun P1 P2 w hw => by
      have := redit_okR (some ⟨g, o + 5, none⟩) (n - 5) (c - 5) (xs.drop 5) 0 (by decide) w (P1 :: P2 :: R) hw (fun w hw => (HR.out w hw.tail.tail).fromW 5) (by unfold Hid; have := hn.out; simp; omega) (by omega) (by omega)
      rw [HED.out] at this
      exact this
    cases ok1
    · skip
      have HFD : Hid (decR xs = (Rec.zero, 2)) := by
        unfold Hid
        rw [← refDec_eq xs HLB.out]
        unfold refDec
        rw [if_neg (fun h => by have h2 := h.2.1; rw [HPA.out] at h2; exact Bool.noConfusion (show false = true from h2))]
      obtain ⟨fb, HFB⟩ : ∃ b, Hid (formedR { Rec.zero with kind := (m : Int), id := idv, ed := ed } = b) := ⟨_, rfl⟩
      obtain ⟨ec, HEC⟩ : ∃ q, Hid ((if fb = true then (0 : Int) else 1) = q) := ⟨_, rfl⟩
      obtain ⟨cs, HCS⟩ : ∃ q, Hid ((if fb = true then encR { Rec.zero with kind := (m : Int), id := idv, ed := ed } else []) = q) := ⟨_, rfl⟩
      have HEN : Hid (∀ w L, Holds w L → Calls Try.prog 34 #[.agg (flat (Rec.segs { Rec.zero with kind := (m : Int), id := idv, ed := ed })).toArray] w fun e w' => ∃ A n c, e = .returned (.tuple #[.slice A n c, .int .i64 ec]) ∧ Hid (n = cs.length) ∧ n ≤ c ∧ Holds w' (own (.slice A n c) cs :: L)) := fun w L hw => by
        have := rEncodeRecS _ HWF.out w L hw HFB.out
        rw [HEC.out, HCS.out] at this
        exact this
      go_wp2_with (first
        | go_skip
        | (refine wpList_runs HW.out rfl (runs_ldR 0 (ty := 38) (n := 74) (m := Rec.segs { Rec.zero with kind := (m : Int), id := idv, ed := ed }) rfl rfl rfl rfl Try.underlying38 rfl (by kernel_rfl)) ?_; simp only [put_rules])
        | (refine wpList_runs HW.out rfl (runs_ld1 0 rfl rfl rfl rfl (by kernel_rfl)) ?_; simp only [put_rules])
        | (go_at_call 89; have hc := HCE.out _ _ _ HW.out; with_reducible refine hc.mono ?_; clear hc
           rintro e wq ⟨rfl, hw'⟩
           clear HW; have HW := Lib.hid hw'; clear hw')
        | (refine wpList_stR HW.out rfl (ty := 35) (n := 35) rfl rfl 0 rfl (M := Ed.segs ed) rfl rfl (Ed.segs_ok HEW.out.ok) rfl (by kernel_rfl) (fun w' hw' => ?_)
           replace hw' : Holds w' (sblk _ 38 (Rec.segs { Rec.zero with kind := (m : Int), id := idv, ed := ed }) :: _ :: R) := hw'
           clear HW; have HW := Lib.hid hw'; clear hw'; (try simp only [put_rules]))
        | (go_at_call 34; have hc := HEN.out _ _ HW.out; with_reducible refine hc.mono ?_; clear hc
           rintro e wz ⟨Av, nv, cv, rfl, hnv, hcv, hw'⟩
           replace hw' : Holds wz (_ :: _ :: own (.slice Av nv cv) _ :: R) := hw'.push_ 2 (by simp)
           clear HW; have HW := Lib.hid hw'; clear hw')
        | (refine wpList_runs HW.out rfl (runs_build (zs := Rec.zero.segs) (M := Rec.zero.segs) rfl Try.underlying38 #[(0, 1), (1, 1), (2, 1), (3, 35), (38, 32), (70, 1), (71, 1), (72, 1), (73, 1)] (fun w => by kernel_rfl) (by kernel_rfl) rfl) ?_; simp only [put_rules])
        | (refine wpList_stR HW.out rfl (ty := 38) (n := 74) rfl rfl 1 rfl (M := Rec.segs Rec.zero) rfl rfl HZ.out rfl (by kernel_rfl) (fun w' hw' => ?_)
           clear HW; have HW := Lib.hid hw'; clear hw'; (try simp only [hps_rules] at HW); (try simp only [put_rules])))
      refine bodyPost_ret (results_cellS rfl HW.out 1 rfl rfl Try.underlying38 rfl (by kernel_rfl)) rfl ?_
      rw [HFD.out]
      exact ⟨rfl, HW.out.tail.tail.tail⟩
    · skip
      obtain ⟨fb, HFB⟩ : ∃ b, Hid (formedR { Rec.zero with kind := (m : Int), id := idv, ed := ed } = b) := ⟨_, rfl⟩
      cases fb
      · skip
        have HFD : Hid (decR xs = (Rec.zero, 2)) := by
          unfold Hid
          rw [← refDec_eq xs HLB.out]
          unfold refDec
          rw [if_neg (fun h => by have h2 := h.2.2.1; rw [HPA.out] at h2; rw [show formedR _ = false from HFB.out] at h2; exact Bool.noConfusion h2)]
        have HEN : Hid (∀ w L, Holds w L → Calls Try.prog 34 #[.agg (flat (Rec.segs { Rec.zero with kind := (m : Int), id := idv, ed := ed })).toArray] w fun e w' => ∃ A n c, e = .returned (.tuple #[.slice A n c, .int .i64 1]) ∧ Hid (n = ([] : List UInt8).length) ∧ n ≤ c ∧ Holds w' (own (.slice A n c) [] :: L)) := fun w L hw => rEncodeRecS _ HWF.out w L hw HFB.out
        go_wp2_with (first
          | go_skip
          | (refine wpList_runs HW.out rfl (runs_ldR 0 (ty := 38) (n := 74) (m := Rec.segs { Rec.zero with kind := (m : Int), id := idv, ed := ed }) rfl rfl rfl rfl Try.underlying38 rfl (by kernel_rfl)) ?_; simp only [put_rules])
          | (refine wpList_runs HW.out rfl (runs_ld1 0 rfl rfl rfl rfl (by kernel_rfl)) ?_; simp only [put_rules])
          | (go_at_call 89; have hc := HCE.out _ _ _ HW.out; with_reducible refine hc.mono ?_; clear hc
             rintro e wq ⟨rfl, hw'⟩
             clear HW; have HW := Lib.hid hw'; clear hw')
          | (refine wpList_stR HW.out rfl (ty := 35) (n := 35) rfl rfl 0 rfl (M := Ed.segs ed) rfl rfl (Ed.segs_ok HEW.out.ok) rfl (by kernel_rfl) (fun w' hw' => ?_)
             replace hw' : Holds w' (sblk _ 38 (Rec.segs { Rec.zero with kind := (m : Int), id := idv, ed := ed }) :: _ :: R) := hw'
             clear HW; have HW := Lib.hid hw'; clear hw'; (try simp only [put_rules]))
          | (go_at_call 34; have hc := HEN.out _ _ HW.out; with_reducible refine hc.mono ?_; clear hc
             rintro e wz ⟨Av, nv, cv, rfl, hnv, hcv, hw'⟩
             replace hw' : Holds wz (_ :: _ :: own (.slice Av nv cv) _ :: R) := hw'.push_ 2 (by simp)
             clear HW; have HW := Lib.hid hw'; clear hw')
          | (refine wpList_runs HW.out rfl (runs_build (zs := Rec.zero.segs) (M := Rec.zero.segs) rfl Try.underlying38 #[(0, 1), (1, 1), (2, 1), (3, 35), (38, 32), (70, 1), (71, 1), (72, 1), (73, 1)] (fun w => by kernel_rfl) (by kernel_rfl) rfl) ?_; simp only [put_rules])
          | (refine wpList_stR HW.out rfl (ty := 38) (n := 74) rfl rfl 1 rfl (M := Rec.segs Rec.zero) rfl rfl HZ.out rfl (by kernel_rfl) (fun w' hw' => ?_)
             clear HW; have HW := Lib.hid hw'; clear hw'; (try simp only [hps_rules] at HW); (try simp only [put_rules])))
        refine bodyPost_ret (results_cellS rfl HW.out 1 rfl rfl Try.underlying38 rfl (by kernel_rfl)) rfl ?_
        rw [HFD.out]
        exact ⟨rfl, HW.out.tail.tail.tail⟩
      obtain ⟨X, HX⟩ : ∃ x, Hid (encR { Rec.zero with kind := (m : Int), id := idv, ed := ed } = x) := ⟨_, rfl⟩
      have HEN : Hid (∀ w L, Holds w L → Calls Try.prog 34 #[.agg (flat (Rec.segs { Rec.zero with kind := (m : Int), id := idv, ed := ed })).toArray] w fun e w' => ∃ A n c, e = .returned (.tuple #[.slice A n c, .int .i64 0]) ∧ Hid (n = X.length) ∧ n ≤ c ∧ Holds w' (own (.slice A n c) X :: L)) := fun w L hw => by
        have := rEncodeRecS _ HWF.out w L hw HFB.out
        rw [if_pos rfl, if_pos rfl, HX.out] at this
        exact this
      by_cases hxx : X = xs
      · have HFD : Hid (decR xs = ({ Rec.zero with kind := (m : Int), id := idv, ed := ed }, 0)) := by
          unfold Hid
          rw [← refDec_eq xs HLB.out]
          unfold refDec
          rw [HPA.out, if_pos ⟨HN5.out, rfl, HFB.out, HX.out.trans hxx⟩]
        have HSF := Lib.hid (Rec.segs_ok HWF.out.ok)
        subst hxx
        go_wp2_with (first
          | go_skip
          | (refine wpList_runs HW.out rfl (runs_ldR 0 (ty := 38) (n := 74) (m := Rec.segs { Rec.zero with kind := (m : Int), id := idv, ed := ed }) rfl rfl rfl rfl Try.underlying38 rfl (by kernel_rfl)) ?_; simp only [put_rules])
          | (refine wpList_runs HW.out rfl (runs_ld1 0 rfl rfl rfl rfl (by kernel_rfl)) ?_; simp only [put_rules])
          | (go_at_call 89; have hc := HCE.out _ _ _ HW.out; with_reducible refine hc.mono ?_; clear hc
             rintro e wq ⟨rfl, hw'⟩
             clear HW; have HW := Lib.hid hw'; clear hw')
          | (refine wpList_stR HW.out rfl (ty := 35) (n := 35) rfl rfl 0 rfl (M := Ed.segs ed) rfl rfl (Ed.segs_ok HEW.out.ok) rfl (by kernel_rfl) (fun w' hw' => ?_)
             replace hw' : Holds w' (sblk _ 38 (Rec.segs { Rec.zero with kind := (m : Int), id := idv, ed := ed }) :: _ :: R) := hw'
             clear HW; have HW := Lib.hid hw'; clear hw'; (try simp only [put_rules]))
          | (go_at_call 34; have hc := HEN.out _ _ HW.out; with_reducible refine hc.mono ?_; clear hc
             rintro e wz ⟨Av, nv, cv, rfl, hnv, hcv, hw'⟩
             replace hw' : Holds wz (_ :: _ :: own (.slice Av nv cv) _ :: R) := hw'.push_ 2 (by simp)
             clear HW; have HW := Lib.hid hw'; clear hw')
          | (refine wpList_runs HW.out rfl (runs_b2s (A := Av) (n := nv) (c := cv) rfl rfl hnv (fun w hw => (hw.pull 2 rfl).own_rd)) ?_; simp only [put_rules])
          | (refine wpList_runs HW.out rfl (runs_b2s (A := some ⟨g, o, none⟩) (n := n) (c := c) (xs := X) rfl rfl hn (fun w hw => HR.out w hw.tail.tail.tail)) ?_; simp only [put_rules])
          | (refine wpList_runs HW.out rfl (runs_build (zs := Rec.zero.segs) (M := Rec.zero.segs) rfl Try.underlying38 #[(0, 1), (1, 1), (2, 1), (3, 35), (38, 32), (70, 1), (71, 1), (72, 1), (73, 1)] (fun w => by kernel_rfl) (by kernel_rfl) rfl) ?_; simp only [put_rules])
          | (refine wpList_stR HW.out rfl (ty := 38) (n := 74) rfl rfl 1 rfl (M := Rec.segs { Rec.zero with kind := (m : Int), id := idv, ed := ed }) rfl rfl HSF.out rfl (by kernel_rfl) (fun w' hw' => ?_)
             clear HW; have HW := Lib.hid hw'; clear hw'; (try simp only [hps_rules] at HW); (try simp only [put_rules])))
        refine bodyPost_ret (results_cellS rfl HW.out 1 rfl rfl Try.underlying38 rfl (by kernel_rfl)) rfl ?_
        rw [HFD.out]
        exact ⟨rfl, HW.out.tail.tail.tail⟩
      · skip
        have HFD : Hid (decR xs = (Rec.zero, 2)) := by
          unfold Hid
          rw [← refDec_eq xs HLB.out]
          unfold refDec
          rw [if_neg (fun h => by have h2 := h.2.2.2; rw [HPA.out] at h2; exact hxx (HX.out.symm.trans h2))]
        have hs0 : ((strOf X).toList == (strOf xs).toList) = false := by rw [strOf_list, strOf_list]; exact beq_eq_false_iff_ne.2 hxx
        go_wp2_with (first
          | go_skip
          | (refine wpList_runs HW.out rfl (runs_ldR 0 (ty := 38) (n := 74) (m := Rec.segs { Rec.zero with kind := (m : Int), id := idv, ed := ed }) rfl rfl rfl rfl Try.underlying38 rfl (by kernel_rfl)) ?_; simp only [put_rules])
          | (refine wpList_runs HW.out rfl (runs_ld1 0 rfl rfl rfl rfl (by kernel_rfl)) ?_; simp only [put_rules])
          | (go_at_call 89; have hc := HCE.out _ _ _ HW.out; with_reducible refine hc.mono ?_; clear hc
             rintro e wq ⟨rfl, hw'⟩
             clear HW; have HW := Lib.hid hw'; clear hw')
          | (refine wpList_stR HW.out rfl (ty := 35) (n := 35) rfl rfl 0 rfl (M := Ed.segs ed) rfl rfl (Ed.segs_ok HEW.out.ok) rfl (by kernel_rfl) (fun w' hw' => ?_)
             replace hw' : Holds w' (sblk _ 38 (Rec.segs { Rec.zero with kind := (m : Int), id := idv, ed := ed }) :: _ :: R) := hw'
             clear HW; have HW := Lib.hid hw'; clear hw'; (try simp only [put_rules]))
          | (go_at_call 34; have hc := HEN.out _ _ HW.out; with_reducible refine hc.mono ?_; clear hc
             rintro e wz ⟨Av, nv, cv, rfl, hnv, hcv, hw'⟩
             replace hw' : Holds wz (_ :: _ :: own (.slice Av nv cv) _ :: R) := hw'.push_ 2 (by simp)
             clear HW; have HW := Lib.hid hw'; clear hw')
          | (refine wpList_runs HW.out rfl (runs_b2s (A := Av) (n := nv) (c := cv) rfl rfl hnv (fun w hw => (hw.pull 2 rfl).own_rd)) ?_; simp only [put_rules])
          | (refine wpList_runs HW.out rfl (runs_b2s (A := some ⟨g, o, none⟩) (n := n) (c := c) (xs := xs) rfl rfl hn (fun w hw => HR.out w hw.tail.tail.tail)) ?_; simp only [put_rules])
          | (refine wpList_runs HW.out rfl (runs_build (zs := Rec.zero.segs) (M := Rec.zero.segs) rfl Try.underlying38 #[(0, 1), (1, 1), (2, 1), (3, 35), (38, 32), (70, 1), (71, 1), (72, 1), (73, 1)] (fun w => by kernel_rfl) (by kernel_rfl) rfl) ?_; simp only [put_rules])
          | (refine wpList_stR HW.out rfl (ty := 38) (n := 74) rfl rfl 1 rfl (M := Rec.segs Rec.zero) rfl rfl HZ.out rfl (by kernel_rfl) (fun w' hw' => ?_)
             clear HW; have HW := Lib.hid hw'; clear hw'; (try simp only [hps_rules] at HW); (try simp only [put_rules])))
        refine bodyPost_ret (results_cellS rfl HW.out 1 rfl rfl Try.underlying38 rfl (by kernel_rfl)) rfl ?_
        rw [HFD.out]
        exact ⟨rfl, HW.out.tail.tail.tail⟩
end Go.Proofs.Ytaieonajialenaa
