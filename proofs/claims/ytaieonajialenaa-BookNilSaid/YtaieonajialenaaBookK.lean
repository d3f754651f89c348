/- A nil book: BookNil. -/
import Derived.Test.YtaieonajialenaaBookI
namespace Go.Proofs.Ytaieonajialenaa
open Go.RowKit HP

section
variable (w : World) (R : List HP) (hh : Holds w R)
include hh
set_option maxRecDepth 100000 in
theorem bVote_nil (id : Nat) : Calls Try.prog 19 #[.pointer none, .int .u64 (id : Int)] w fun e w' => e = .returned (.tuple #[Vt.zero.val, .bool false]) ∧ Holds w' R := by
  have HW := Lib.hid hh
  clear hh
  have HZ := Lib.hid (Vt.segs_ok Vt.zero_ok)
  go_enter Try.func19, Try.ntmps19
  go_wp2_with (first
    | (refine wpList_alloc HW.out rfl rfl (z := Vt.zero.val) (by kernel_rfl) (M := Vt.zero.segs) rfl HZ.out (fun g w' hw' => ?_)
       clear HW; have HW := Lib.hid hw'; clear hw'; (try simp only [hps_rules] at HW); (try simp only [put_rules]))
    | (refine wpList_runs HW.out rfl (runs_build (zs := Vt.zero.segs) (M := Vt.zero.segs) rfl Try.underlying40 #[(0, 1), (1, 1), (2, 35), (37, 32), (69, 1)] (fun w => by kernel_rfl) (by kernel_rfl) rfl) ?_; simp only [put_rules])
    | (refine wpList_stR HW.out rfl (ty := 40) (n := 70) rfl rfl 0 rfl rfl rfl HZ.out rfl (by kernel_rfl) (fun w' hw' => ?_)
       clear HW; have HW := Lib.hid hw'; clear hw'; (try simp only [hps_rules] at HW); (try simp only [put_rules])))
  refine bodyPost_ret (results_cellS rfl HW.out 0 rfl rfl Try.underlying40 rfl (by kernel_rfl)) rfl ?_
  exact ⟨rfl, HW.out.tail⟩
set_option maxRecDepth 100000 in
theorem bEdit_nil (id : Nat) : Calls Try.prog 32 #[.pointer none, .int .u64 (id : Int)] w fun e w' => e = .returned (.tuple #[Ed.zero.val, .bool false]) ∧ Holds w' R := by
  have HW := Lib.hid hh
  clear hh
  have HZ := Lib.hid (Ed.segs_ok Ed.zero_ok)
  by_cases h0 : id = 0
  · subst h0
    go_enter Try.func32, Try.ntmps32
    go_wp2_with (first
      | (refine wpList_alloc HW.out rfl rfl (z := Ed.zero.val) (by kernel_rfl) (M := Ed.zero.segs) rfl HZ.out (fun g w' hw' => ?_)
         clear HW; have HW := Lib.hid hw'; clear hw'; (try simp only [hps_rules] at HW); (try simp only [put_rules]))
      | (refine wpList_runs HW.out rfl (runs_build (zs := Ed.zero.segs) (M := Ed.zero.segs) rfl Try.underlying35 #[(0, 1), (1, 2), (3, 32)] (fun w => by kernel_rfl) (by kernel_rfl) rfl) ?_; simp only [put_rules])
      | (refine wpList_stR HW.out rfl (ty := 35) (n := 35) rfl rfl 0 rfl rfl rfl HZ.out rfl (by kernel_rfl) (fun w' hw' => ?_)
         clear HW; have HW := Lib.hid hw'; clear hw'; (try simp only [hps_rules] at HW); (try simp only [put_rules])))
    refine bodyPost_ret (results_cellS rfl HW.out 0 rfl rfl Try.underlying35 rfl (by kernel_rfl)) rfl ?_
    exact ⟨rfl, HW.out.tail⟩
  · have d0 : ((id : Int) == 0) = false := beq_eq_false_iff_ne.2 (by omega)
    have d1 : decide ((0 : Int) < (id : Int)) = true := decide_eq_true (by omega)
    have d2 : decide (0 < id) = true := decide_eq_true (by omega)
    have hp : 0 < id := by omega
    go_enter Try.func32, Try.ntmps32
    go_wp2_with (first
      | (refine wpList_alloc HW.out rfl rfl (z := Ed.zero.val) (by kernel_rfl) (M := Ed.zero.segs) rfl HZ.out (fun g w' hw' => ?_)
         clear HW; have HW := Lib.hid hw'; clear hw'; (try simp only [hps_rules] at HW); (try simp only [put_rules]))
      | ((go_at_call 33; have hc := bEdits_nil _ _ HW.out; with_reducible refine hc.mono ?_; clear hc)
         rintro e w2 ⟨rfl, hw'⟩
         clear HW; have HW := Lib.hid hw'; clear hw'; (try simp only [hps_rules] at HW))
      | (refine wpList_runs HW.out rfl (runs_build (zs := Ed.zero.segs) (M := Ed.zero.segs) rfl Try.underlying35 #[(0, 1), (1, 2), (3, 32)] (fun w => by kernel_rfl) (by kernel_rfl) rfl) ?_; simp only [put_rules])
      | (refine wpList_stR HW.out rfl (ty := 35) (n := 35) rfl rfl 0 rfl rfl rfl HZ.out rfl (by kernel_rfl) (fun w' hw' => ?_)
         clear HW; have HW := Lib.hid hw'; clear hw'; (try simp only [hps_rules] at HW); (try simp only [put_rules])))
    refine bodyPost_ret (results_cellS rfl HW.out 0 rfl rfl Try.underlying35 rfl (by kernel_rfl)) rfl ?_
    exact ⟨rfl, HW.out.tail⟩
theorem bVersion_nil (i : Int) : Calls Try.prog 23 #[.pointer none, .int .i64 i] w fun e w' => e = .returned (.tuple #[.string ⟨#[]⟩, .bool false]) ∧ Holds w' R := by
  have HW := Lib.hid hh
  clear hh
  by_cases h0 : i < 0
  · have d0 : decide (i < 0) = true := decide_eq_true h0
    go_enter Try.func23, Try.ntmps23
    go_wp2
    go_ret2
    exact ⟨rfl, HW.out⟩
  · have d0 : decide (i < 0) = false := decide_eq_false h0
    have d1 : decide (0 ≤ i) = true := decide_eq_true (by omega)
    have d2 : 0 ≤ i := by omega
    go_enter Try.func23, Try.ntmps23
    go_wp2_with (first
      | ((go_at_call 21; have hc := bVersions_nil _ _ HW.out; with_reducible refine hc.mono ?_; clear hc)
         rintro e w2 ⟨rfl, hw'⟩
         clear HW; have HW := Lib.hid hw'; clear hw'; (try simp only [hps_rules] at HW)))
    go_ret2
    exact ⟨rfl, HW.out⟩
theorem bLast_nil : Calls Try.prog 22 #[.pointer none] w fun e w' => e = .returned (.string ⟨#[]⟩) ∧ Holds w' R := by
  have HW := Lib.hid hh
  clear hh
  go_enter Try.func22, Try.ntmps22
  go_wp2_with (first
    | ((go_at_call 21; have hc := bVersions_nil _ _ HW.out; with_reducible refine hc.mono ?_; clear hc)
       rintro e w2 ⟨rfl, hw'⟩
       clear HW; have HW := Lib.hid hw'; clear hw'; (try simp only [hps_rules] at HW))
    | ((go_at_call 23; have hc := bVersion_nil _ _ HW.out (-1); with_reducible refine hc.mono ?_; clear hc)
       rintro e w2 ⟨rfl, hw'⟩
       clear HW; have HW := Lib.hid hw'; clear hw'; (try simp only [hps_rules] at HW)))
  go_ret
  exact ⟨rfl, HW.out⟩
end
theorem fewS (r : Rec) (h : r.Ok) (w : World) (R : List HP) (hh : Holds w R) {bo : Bool} (hb : fewR r = bo) : Calls Try.prog 25 #[.agg (flat r.segs).toArray] w fun e w' => e = .returned (.bool bo) ∧ Holds w' R := by
  subst hb
  exact fewrec_ok r h w R hh
set_option maxRecDepth 100000 in
set_option maxHeartbeats 8000000 in
theorem bookNil_ok (r : Rec) (hr : r.Wf) (i : Int) (w : World) (R : List HP) (hh : Holds w R) : Calls Try.prog 7 #[.agg (flat r.segs).toArray, .int .i64 i] w fun e w' => e = .returned (.bool true) ∧ Holds w' R := by
  have HW := Lib.hid hh
  have HR := Lib.hid hr
  have hR := Rec.segs_ok hr.ok
  have hVZ := Vt.segs_ok Vt.zero_ok
  have hEZ := Ed.segs_ok Ed.zero_ok
  clear hh hr
  obtain ⟨f, HF⟩ : ∃ f, Hid (fewR r = f) := ⟨_, rfl⟩
  cases f
  · go_enter Try.func7, Try.ntmps7
    go_wp2_with (first
      | (refine wpList_runs HW.out rfl (runs_ldR 0 (ty := 38) (n := 74) rfl rfl rfl rfl Try.underlying38 rfl (by kernel_rfl)) ?_; simp only [put_rules])
      | (refine wpList_runs HW.out rfl (runs_ld1 0 rfl rfl rfl rfl (by kernel_rfl)) ?_; simp only [put_rules])
      | (refine wpList_box HW.out rfl rfl rfl rfl hR (fun g w' hw' => ?_)
         clear HW; have HW := Lib.hid hw'; clear hw'; (try simp only [hps_rules] at HW); (try simp only [put_rules]))
      | ((go_at_call 15; have hc := bkawake_ok _ _ HW.out; with_reducible refine hc.mono ?_; clear hc)
         rintro e w2 ⟨rfl, hw'⟩
         clear HW; have HW := Lib.hid hw'; clear hw'; (try simp only [hps_rules] at HW))
      | ((go_at_call 25; have hc := fewS r HR.out.ok _ _ HW.out HF.out; refine hc.mono ?_; clear hc)
         rintro e w2 ⟨rfl, hw'⟩
         clear HW; have HW := Lib.hid hw'; clear hw'; (try simp only [hps_rules] at HW)))
    go_ret
    exact ⟨rfl, HW.out.tail⟩
  · go_enter Try.func7, Try.ntmps7
    go_wp2_with (first
      | (refine wpList_runs HW.out rfl (runs_ldR 0 (ty := 38) (n := 74) rfl rfl rfl rfl Try.underlying38 rfl (by kernel_rfl)) ?_; simp only [put_rules])
      | (refine wpList_runs HW.out rfl (runs_ldR 1 (ty := 38) (n := 74) rfl rfl rfl rfl Try.underlying38 rfl (by kernel_rfl)) ?_; simp only [put_rules])
      | (refine wpList_runs HW.out rfl (runs_ldR 2 (ty := 38) (n := 74) rfl rfl rfl rfl Try.underlying38 rfl (by kernel_rfl)) ?_; simp only [put_rules])
      | (refine wpList_runs HW.out rfl (runs_ld1 0 rfl rfl rfl rfl (by kernel_rfl)) ?_; simp only [put_rules])
      | (refine wpList_runs HW.out rfl (runs_ld1 1 rfl rfl rfl rfl (by kernel_rfl)) ?_; simp only [put_rules])
      | (refine wpList_runs HW.out rfl (runs_ld1 2 rfl rfl rfl rfl (by kernel_rfl)) ?_; simp only [put_rules])
      | (refine wpList_box HW.out rfl rfl rfl rfl hR (fun g w' hw' => ?_)
         clear HW; have HW := Lib.hid hw'; clear hw'; (try simp only [hps_rules] at HW); (try simp only [put_rules]))
      | ((go_at_call 15; have hc := bkawake_ok _ _ HW.out; with_reducible refine hc.mono ?_; clear hc)
         rintro e w2 ⟨rfl, hw'⟩
         clear HW; have HW := Lib.hid hw'; clear hw'; (try simp only [hps_rules] at HW))
      | ((go_at_call 25; have hc := fewS r HR.out.ok _ _ HW.out HF.out; refine hc.mono ?_; clear hc)
         rintro e w2 ⟨rfl, hw'⟩
         clear HW; have HW := Lib.hid hw'; clear hw'; (try simp only [hps_rules] at HW))
      | ((go_at_call 32; have hc := bEdit_nil _ _ HW.out r.id; with_reducible refine hc.mono ?_; clear hc)
         rintro e w2 ⟨rfl, hw'⟩
         clear HW; have HW := Lib.hid hw'; clear hw'; (try simp only [hps_rules] at HW))
      | ((go_at_call 19; have hc := bVote_nil _ _ HW.out r.id; with_reducible refine hc.mono ?_; clear hc)
         rintro e w2 ⟨rfl, hw'⟩
         clear HW; have HW := Lib.hid hw'; clear hw'; (try simp only [hps_rules] at HW))
      | ((go_at_call 20; have hc := bEnd_nil _ _ HW.out r.id; with_reducible refine hc.mono ?_; clear hc)
         rintro e w2 ⟨rfl, hw'⟩
         clear HW; have HW := Lib.hid hw'; clear hw'; (try simp only [hps_rules] at HW))
      | ((go_at_call 23; have hc := bVersion_nil _ _ HW.out i; with_reducible refine hc.mono ?_; clear hc)
         rintro e w2 ⟨rfl, hw'⟩
         clear HW; have HW := Lib.hid hw'; clear hw'; (try simp only [hps_rules] at HW))
      | ((go_at_call 28; have hc := bFits_nil r HR.out _ _ HW.out; refine hc.mono ?_; clear hc)
         rintro e w2 ⟨rfl, hw'⟩
         clear HW; have HW := Lib.hid hw'; clear hw'; (try simp only [hps_rules] at HW))
      | ((go_at_call 18; have hc := bAdd_nil r HR.out _ _ HW.out; refine hc.mono ?_; clear hc)
         rintro e w2 ⟨rfl, hw'⟩
         clear HW; have HW := Lib.hid hw'; clear hw'; (try simp only [hps_rules] at HW))
      | ((go_at_call 33; have hc := bEdits_nil _ _ HW.out; with_reducible refine hc.mono ?_; clear hc)
         rintro e w2 ⟨rfl, hw'⟩
         clear HW; have HW := Lib.hid hw'; clear hw'; (try simp only [hps_rules] at HW))
      | ((go_at_call 27; have hc := bPrepared_nil _ _ HW.out; with_reducible refine hc.mono ?_; clear hc)
         rintro e w2 ⟨rfl, hw'⟩
         clear HW; have HW := Lib.hid hw'; clear hw'; (try simp only [hps_rules] at HW))
      | ((go_at_call 21; have hc := bVersions_nil _ _ HW.out; with_reducible refine hc.mono ?_; clear hc)
         rintro e w2 ⟨rfl, hw'⟩
         clear HW; have HW := Lib.hid hw'; clear hw'; (try simp only [hps_rules] at HW))
      | ((go_at_call 22; have hc := bLast_nil _ _ HW.out; with_reducible refine hc.mono ?_; clear hc)
         rintro e w2 ⟨rfl, hw'⟩
         clear HW; have HW := Lib.hid hw'; clear hw'; (try simp only [hps_rules] at HW))
      | (refine wpList_alloc HW.out rfl (ty := 40) rfl (z := Vt.zero.val) (by kernel_rfl) (M := Vt.zero.segs) rfl hVZ (fun g w' hw' => ?_)
         clear HW; have HW := Lib.hid hw'; clear hw'; (try simp only [hps_rules] at HW); (try simp only [put_rules]))
      | (refine wpList_alloc HW.out rfl (ty := 35) rfl (z := Ed.zero.val) (by kernel_rfl) (M := Ed.zero.segs) rfl hEZ (fun g w' hw' => ?_)
         clear HW; have HW := Lib.hid hw'; clear hw'; (try simp only [hps_rules] at HW); (try simp only [put_rules]))
      | (refine wpList_stR HW.out rfl (ty := 35) (n := 35) rfl rfl 0 rfl (M := Ed.zero.segs) rfl rfl hEZ rfl (by kernel_rfl) (fun w' hw' => ?_)
         clear HW; have HW := Lib.hid hw'; clear hw'; (try simp only [hps_rules] at HW); (try simp only [put_rules]))
      | (refine wpList_stR HW.out rfl (ty := 40) (n := 70) rfl rfl 0 rfl (M := Vt.zero.segs) rfl rfl hVZ rfl (by kernel_rfl) (fun w' hw' => ?_)
         clear HW; have HW := Lib.hid hw'; clear hw'; (try simp only [hps_rules] at HW); (try simp only [put_rules])))
    go_ret
    exact ⟨rfl, HW.out.tail.tail.tail⟩
end Go.Proofs.Ytaieonajialenaa
