/- redactorref22.plain, over segments. -/
import Derived.Test.YtaieonajialenaaBookF
namespace Go.Proofs.Ytaieonajialenaa
open Go.RowKit HP

set_option maxRecDepth 100000 in
set_option maxHeartbeats 8000000 in
theorem plainS (r : Rec) (h : r.Ok) (w : World) (R : List HP) (hh : Holds w R) :
    Calls Try.prog 80 #[.agg (flat r.segs).toArray] w fun e w' => e = .returned (.agg (flat (bareR r).segs).toArray) ∧ Holds w' R := by
  have HW := Lib.hid hh
  have hR := Rec.segs_ok h
  have hE := Ed.segs_ok h.ed
  have hroot : SgOk [.b 32 r.root] := ⟨h.root, trivial⟩
  have hZ := Rec.segs_ok Rec.zero_ok
  have HZ := Lib.hid hZ
  obtain ⟨kind, id, base, ed, root, code, commit, has, text⟩ := r
  have hI : SgOk (Rec.segs { Rec.zero with kind := kind, id := id }) := Rec.segs_ok ⟨Ed.zero_ok, length_zeros 32⟩
  clear hh h
  have HB : ∀ (o : Oper) (a : Act) (L : List HP) (x y : Operand), o.op = .build 38 #[(0, x), (1, y)] → a.eval x = .int .i64 kind → a.eval y = .int .u64 (id : Int) → RunsH Try.prog o a L (.agg (flat (Rec.segs { Rec.zero with kind := kind, id := id })).toArray) := fun o a L x y ho hx hy => by
    refine runs_build (zs := Rec.zero.segs) (M := Rec.segs { Rec.zero with kind := kind, id := id }) ho Try.underlying38 #[(0, 1), (1, 1), (2, 1), (3, 35), (38, 32), (70, 1), (71, 1), (72, 1), (73, 1)] (fun w => by kernel_rfl) (by kernel_rfl) ?_
    simp only [List.map_cons, List.map_nil, hx, hy]
    refine fill_cons (off := 0) (n := 1) (M := [.o (.int .i64 kind)]) rfl rfl ⟨rfl, trivial⟩ rfl HZ.out rfl (fun h1 => ?_)
    refine fill_cons (off := 1) (n := 1) (M := [.o (.int .u64 (id : Int))]) rfl rfl ⟨rfl, trivial⟩ rfl h1 rfl (fun h2 => ?_)
    rfl
  have HBB := Lib.hid HB
  clear HB
  by_cases h1 : kind = 1
  · subst h1
    have hO : SgOk (Rec.segs ({ Rec.zero with kind := 1, id := id, ed := ed } : Rec)) := Rec.segs_ok ⟨hE.2.2.2.1, length_zeros 32⟩
    go_enter Try.func80, Try.ntmps80
    go_wp2_with (first
      | go_skip
      | (refine wpList_runs HW.out rfl (runs_ldR 0 (ty := 38) (n := 74) rfl rfl rfl rfl Try.underlying38 rfl (by kernel_rfl)) ?_; simp only [put_rules])
      | (refine wpList_runs HW.out rfl (runs_ldR 2 (ty := 35) (n := 35) rfl rfl rfl rfl Try.underlying35 rfl (by kernel_rfl)) ?_; simp only [put_rules])
      | (refine wpList_runs HW.out rfl (runs_ld1 1 rfl rfl rfl rfl (by kernel_rfl)) ?_; simp only [put_rules])
      | (refine wpList_runs HW.out rfl (runs_ld1 2 rfl rfl rfl rfl (by kernel_rfl)) ?_; simp only [put_rules])
      | (refine wpList_stR HW.out rfl (ty := 38) (n := 74) rfl rfl 0 rfl rfl rfl (by assumption) rfl (by kernel_rfl) (fun w' hw' => ?_); clear HW; have HW := Lib.hid hw'; clear hw'; (try simp only [hps_rules] at HW); (try simp only [put_rules]))
      | (refine wpList_stR HW.out rfl (ty := 35) (n := 35) rfl rfl 0 rfl rfl rfl (by assumption) rfl (by kernel_rfl) (fun w' hw' => ?_); clear HW; have HW := Lib.hid hw'; clear hw'; (try simp only [hps_rules] at HW); (try simp only [put_rules]))
      | (refine wpList_st1 HW.out rfl rfl rfl 0 rfl rfl rfl rfl (by kernel_rfl) (fun w' hw' => ?_); clear HW; have HW := Lib.hid hw'; clear hw'; (try simp only [hps_rules] at HW); (try simp only [put_rules]))
      | (refine wpList_stR HW.out rfl (ty := 38) (n := 74) rfl rfl 1 rfl (M := Rec.segs { Rec.zero with kind := 1, id := id, ed := ed }) rfl rfl hO rfl (by kernel_rfl) (fun w' hw' => ?_)
         clear HW; have HW := Lib.hid hw'; clear hw'; (try simp only [hps_rules] at HW); (try simp only [put_rules]))
      | (refine wpList_box HW.out rfl rfl rfl rfl hR (fun g1 w' hw' => ?_)
         clear HW; have HW := Lib.hid hw'; clear hw'; (try simp only [hps_rules] at HW); (try simp only [put_rules]))
      | (refine wpList_alloc HW.out rfl (ty := 38) rfl (z := .agg (flat Rec.zero.segs).toArray) (by kernel_rfl) (M := Rec.zero.segs) rfl hZ (fun g2 w' hw' => ?_)
         clear HW; have HW := Lib.hid hw'; clear hw'; (try simp only [hps_rules] at HW); (try simp only [put_rules]))
      | (refine wpList_runs HW.out rfl (HBB.out _ _ _ _ _ rfl rfl rfl) ?_; simp only [put_rules]))
    refine bodyPost_ret (results_cellS1 rfl HW.out 1 rfl rfl Try.underlying38 rfl (by kernel_rfl)) rfl ?_
    rw [show bareR _ = ({ Rec.zero with kind := 1, id := id, ed := ed } : Rec) from rfl]
    exact ⟨rfl, HW.out.tail.tail.tail⟩
  have e1 : (kind == 1) = false := beq_eq_false_iff_ne.2 h1
  by_cases h2 : kind = 2
  · subst h2
    clear h1 e1
    have hO : SgOk (Rec.segs ({ Rec.zero with kind := 2, id := id, base := base, ed := ed, root := root } : Rec)) := Rec.segs_ok ⟨hE.2.2.2.1, hroot.1⟩
    go_enter Try.func80, Try.ntmps80
    go_wp2_with (first
      | go_skip
      | (refine wpList_runs HW.out rfl (runs_ldR 0 (ty := 38) (n := 74) rfl rfl rfl rfl Try.underlying38 rfl (by kernel_rfl)) ?_; simp only [put_rules])
      | (refine wpList_runs HW.out rfl (runs_ldR 2 (ty := 35) (n := 35) rfl rfl rfl rfl Try.underlying35 rfl (by kernel_rfl)) ?_; simp only [put_rules])
      | (refine wpList_runs HW.out rfl (runs_ld1 1 rfl rfl rfl rfl (by kernel_rfl)) ?_; simp only [put_rules])
      | (refine wpList_runs HW.out rfl (runs_ld1 2 rfl rfl rfl rfl (by kernel_rfl)) ?_; simp only [put_rules])
      | (refine wpList_stR HW.out rfl (ty := 38) (n := 74) rfl rfl 0 rfl rfl rfl (by assumption) rfl (by kernel_rfl) (fun w' hw' => ?_); clear HW; have HW := Lib.hid hw'; clear hw'; (try simp only [hps_rules] at HW); (try simp only [put_rules]))
      | (refine wpList_stR HW.out rfl (ty := 35) (n := 35) rfl rfl 0 rfl rfl rfl (by assumption) rfl (by kernel_rfl) (fun w' hw' => ?_); clear HW; have HW := Lib.hid hw'; clear hw'; (try simp only [hps_rules] at HW); (try simp only [put_rules]))
      | (refine wpList_st1 HW.out rfl rfl rfl 0 rfl rfl rfl rfl (by kernel_rfl) (fun w' hw' => ?_); clear HW; have HW := Lib.hid hw'; clear hw'; (try simp only [hps_rules] at HW); (try simp only [put_rules]))
      | (refine wpList_stR HW.out rfl (ty := 38) (n := 74) rfl rfl 1 rfl (M := Rec.segs { Rec.zero with kind := 2, id := id, base := base, ed := ed, root := root }) rfl rfl hO rfl (by kernel_rfl) (fun w' hw' => ?_)
         clear HW; have HW := Lib.hid hw'; clear hw'; (try simp only [hps_rules] at HW); (try simp only [put_rules]))
      | (refine wpList_box HW.out rfl rfl rfl rfl hR (fun g1 w' hw' => ?_)
         clear HW; have HW := Lib.hid hw'; clear hw'; (try simp only [hps_rules] at HW); (try simp only [put_rules]))
      | (refine wpList_alloc HW.out rfl (ty := 38) rfl (z := .agg (flat Rec.zero.segs).toArray) (by kernel_rfl) (M := Rec.zero.segs) rfl hZ (fun g2 w' hw' => ?_)
         clear HW; have HW := Lib.hid hw'; clear hw'; (try simp only [hps_rules] at HW); (try simp only [put_rules]))
      | (refine wpList_runs HW.out rfl (HBB.out _ _ _ _ _ rfl rfl rfl) ?_; simp only [put_rules]))
    refine wp_region_untilD 0 11 (by kernel_rfl) HW.out (fun w' hw' => ?_)
    clear HW; have HW := Lib.hid hw'; have HC := Lib.hid (hw'.drop 0 rfl); clear hw'
    simp only [era_rules] at HC ⊢
    simp only [rep_rules]
    first
    | (refine takeE 0 rfl rfl (runs_ldR 1 (ty := 35) (n := 35) rfl rfl rfl rfl Try.underlying35 rfl (by kernel_rfl)) HC.out (by kernel_rfl) (fun _ _ _ h => h) ?_)
    | (refine takeE 0 rfl rfl (runs_ldR 1 (ty := 33) (n := 32) rfl rfl rfl rfl Try.underlying33 rfl (by kernel_rfl)) HC.out (by kernel_rfl) (fun _ _ _ h => h) ?_)
    | (refine takeE 0 rfl rfl (runs_ld1 1 rfl rfl rfl rfl (by kernel_rfl)) HC.out (by kernel_rfl) (fun _ _ _ h => h) ?_)
    | (refine takeE 0 (v := ?_) rfl rfl (runs_of fun w => ?_) HC.out (by kernel_rfl) (fun _ _ _ h => h) ?_
       rotate_left
       · go_simp <;> (try with_reducible rfl))
    try simp only [put_rules]
    first
    | (refine takeE 1 rfl rfl (runs_ldR 1 (ty := 35) (n := 35) rfl rfl rfl rfl Try.underlying35 rfl (by kernel_rfl)) HC.out (by kernel_rfl) (fun _ _ _ h => h) ?_)
    | (refine takeE 1 rfl rfl (runs_ldR 1 (ty := 33) (n := 32) rfl rfl rfl rfl Try.underlying33 rfl (by kernel_rfl)) HC.out (by kernel_rfl) (fun _ _ _ h => h) ?_)
    | (refine takeE 1 rfl rfl (runs_ld1 1 rfl rfl rfl rfl (by kernel_rfl)) HC.out (by kernel_rfl) (fun _ _ _ h => h) ?_)
    | (refine takeE 1 (v := ?_) rfl rfl (runs_of fun w => ?_) HC.out (by kernel_rfl) (fun _ _ _ h => h) ?_
       rotate_left
       · go_simp <;> (try with_reducible rfl))
    try simp only [put_rules]
    first
    | (refine takeE 2 rfl rfl (runs_ldR 1 (ty := 35) (n := 35) rfl rfl rfl rfl Try.underlying35 rfl (by kernel_rfl)) HC.out (by kernel_rfl) (fun _ _ _ h => h) ?_)
    | (refine takeE 2 rfl rfl (runs_ldR 1 (ty := 33) (n := 32) rfl rfl rfl rfl Try.underlying33 rfl (by kernel_rfl)) HC.out (by kernel_rfl) (fun _ _ _ h => h) ?_)
    | (refine takeE 2 rfl rfl (runs_ld1 1 rfl rfl rfl rfl (by kernel_rfl)) HC.out (by kernel_rfl) (fun _ _ _ h => h) ?_)
    | (refine takeE 2 (v := ?_) rfl rfl (runs_of fun w => ?_) HC.out (by kernel_rfl) (fun _ _ _ h => h) ?_
       rotate_left
       · go_simp <;> (try with_reducible rfl))
    try simp only [put_rules]
    first
    | (refine takeE 3 rfl rfl (runs_ldR 1 (ty := 35) (n := 35) rfl rfl rfl rfl Try.underlying35 rfl (by kernel_rfl)) HC.out (by kernel_rfl) (fun _ _ _ h => h) ?_)
    | (refine takeE 3 rfl rfl (runs_ldR 1 (ty := 33) (n := 32) rfl rfl rfl rfl Try.underlying33 rfl (by kernel_rfl)) HC.out (by kernel_rfl) (fun _ _ _ h => h) ?_)
    | (refine takeE 3 rfl rfl (runs_ld1 1 rfl rfl rfl rfl (by kernel_rfl)) HC.out (by kernel_rfl) (fun _ _ _ h => h) ?_)
    | (refine takeE 3 (v := ?_) rfl rfl (runs_of fun w => ?_) HC.out (by kernel_rfl) (fun _ _ _ h => h) ?_
       rotate_left
       · go_simp <;> (try with_reducible rfl))
    try simp only [put_rules]
    first
    | (refine takeE 4 rfl rfl (runs_ldR 1 (ty := 35) (n := 35) rfl rfl rfl rfl Try.underlying35 rfl (by kernel_rfl)) HC.out (by kernel_rfl) (fun _ _ _ h => h) ?_)
    | (refine takeE 4 rfl rfl (runs_ldR 1 (ty := 33) (n := 32) rfl rfl rfl rfl Try.underlying33 rfl (by kernel_rfl)) HC.out (by kernel_rfl) (fun _ _ _ h => h) ?_)
    | (refine takeE 4 rfl rfl (runs_ld1 1 rfl rfl rfl rfl (by kernel_rfl)) HC.out (by kernel_rfl) (fun _ _ _ h => h) ?_)
    | (refine takeE 4 (v := ?_) rfl rfl (runs_of fun w => ?_) HC.out (by kernel_rfl) (fun _ _ _ h => h) ?_
       rotate_left
       · go_simp <;> (try with_reducible rfl))
    try simp only [put_rules]
    first
    | (refine takeE 5 rfl rfl (runs_ldR 1 (ty := 35) (n := 35) rfl rfl rfl rfl Try.underlying35 rfl (by kernel_rfl)) HC.out (by kernel_rfl) (fun _ _ _ h => h) ?_)
    | (refine takeE 5 rfl rfl (runs_ldR 1 (ty := 33) (n := 32) rfl rfl rfl rfl Try.underlying33 rfl (by kernel_rfl)) HC.out (by kernel_rfl) (fun _ _ _ h => h) ?_)
    | (refine takeE 5 rfl rfl (runs_ld1 1 rfl rfl rfl rfl (by kernel_rfl)) HC.out (by kernel_rfl) (fun _ _ _ h => h) ?_)
    | (refine takeE 5 (v := ?_) rfl rfl (runs_of fun w => ?_) HC.out (by kernel_rfl) (fun _ _ _ h => h) ?_
       rotate_left
       · go_simp <;> (try with_reducible rfl))
    try simp only [put_rules]
    first
    | (refine takeE 6 rfl rfl (runs_ldR 1 (ty := 35) (n := 35) rfl rfl rfl rfl Try.underlying35 rfl (by kernel_rfl)) HC.out (by kernel_rfl) (fun _ _ _ h => h) ?_)
    | (refine takeE 6 rfl rfl (runs_ldR 1 (ty := 33) (n := 32) rfl rfl rfl rfl Try.underlying33 rfl (by kernel_rfl)) HC.out (by kernel_rfl) (fun _ _ _ h => h) ?_)
    | (refine takeE 6 rfl rfl (runs_ld1 1 rfl rfl rfl rfl (by kernel_rfl)) HC.out (by kernel_rfl) (fun _ _ _ h => h) ?_)
    | (refine takeE 6 (v := ?_) rfl rfl (runs_of fun w => ?_) HC.out (by kernel_rfl) (fun _ _ _ h => h) ?_
       rotate_left
       · go_simp <;> (try with_reducible rfl))
    try simp only [put_rules]
    refine effE 7 rfl (by kernel_rfl) ?_
    refine wpList_st1 HW.out rfl rfl rfl 0 rfl rfl rfl rfl (by kernel_rfl) (fun w' hw' => ?_)
    clear HW; have HW := Lib.hid hw'; clear hw'; (try simp only [hps_rules] at HW); (try simp only [put_rules])
    refine wpList_behind (And.intro (fun _ => (by exact HW.out.tail)) ?_)
    clear HC; have HC := Lib.hid (HW.out.tail)
    first
    | (refine takeE 8 (v := ?_) rfl rfl (runs_of fun w => ?_) HC.out (by kernel_rfl) (fun _ _ _ h => h) ?_
       rotate_left
       · go_simp <;> (try with_reducible rfl))
    try simp only [put_rules]
    refine effE 9 rfl (by kernel_rfl) ?_
    refine wpList_stR HW.out rfl (ty := 35) (n := 35) rfl rfl 0 rfl (M := Ed.segs ed) rfl rfl hE rfl (by kernel_rfl) (fun w' hw' => ?_)
    clear HW; have HW := Lib.hid hw'; clear hw'; (try simp only [hps_rules] at HW); (try simp only [put_rules])
    refine wpList_behind (And.intro (fun _ => (by exact HW.out.tail)) ?_)
    clear HC; have HC := Lib.hid (HW.out.tail)
    first
    | (refine takeE 10 (v := ?_) rfl rfl (runs_of fun w => ?_) HC.out (by kernel_rfl) (fun _ _ _ h => h) ?_
       rotate_left
       · go_simp <;> (try with_reducible rfl))
    try simp only [put_rules]
    refine effE 11 rfl (by kernel_rfl) ?_
    refine wpList_stR HW.out rfl (ty := 33) (n := 32) rfl rfl 0 rfl (M := [.b 32 root]) rfl rfl hroot rfl (by kernel_rfl) (fun w' hw' => ?_)
    clear HW; have HW := Lib.hid hw'; clear hw'; (try simp only [hps_rules] at HW); (try simp only [put_rules])
    refine wpList_behind (And.intro (fun h => Bool.noConfusion (show true = false from h)) ?_)
    refine doneE (by kernel_rfl) ?_ _
    go_wp2_with (first
      | go_skip
      | (refine wpList_runs HW.out rfl (runs_ldR 0 (ty := 38) (n := 74) rfl rfl rfl rfl Try.underlying38 rfl (by kernel_rfl)) ?_; simp only [put_rules])
      | (refine wpList_runs HW.out rfl (runs_ldR 2 (ty := 35) (n := 35) rfl rfl rfl rfl Try.underlying35 rfl (by kernel_rfl)) ?_; simp only [put_rules])
      | (refine wpList_runs HW.out rfl (runs_ld1 1 rfl rfl rfl rfl (by kernel_rfl)) ?_; simp only [put_rules])
      | (refine wpList_runs HW.out rfl (runs_ld1 2 rfl rfl rfl rfl (by kernel_rfl)) ?_; simp only [put_rules])
      | (refine wpList_stR HW.out rfl (ty := 38) (n := 74) rfl rfl 0 rfl rfl rfl (by assumption) rfl (by kernel_rfl) (fun w' hw' => ?_); clear HW; have HW := Lib.hid hw'; clear hw'; (try simp only [hps_rules] at HW); (try simp only [put_rules]))
      | (refine wpList_stR HW.out rfl (ty := 35) (n := 35) rfl rfl 0 rfl rfl rfl (by assumption) rfl (by kernel_rfl) (fun w' hw' => ?_); clear HW; have HW := Lib.hid hw'; clear hw'; (try simp only [hps_rules] at HW); (try simp only [put_rules]))
      | (refine wpList_st1 HW.out rfl rfl rfl 0 rfl rfl rfl rfl (by kernel_rfl) (fun w' hw' => ?_); clear HW; have HW := Lib.hid hw'; clear hw'; (try simp only [hps_rules] at HW); (try simp only [put_rules]))
      | (refine wpList_stR HW.out rfl (ty := 38) (n := 74) rfl rfl 1 rfl (M := Rec.segs { Rec.zero with kind := 2, id := id, base := base, ed := ed, root := root }) rfl rfl hO rfl (by kernel_rfl) (fun w' hw' => ?_)
         clear HW; have HW := Lib.hid hw'; clear hw'; (try simp only [hps_rules] at HW); (try simp only [put_rules]))
      | (refine wpList_box HW.out rfl rfl rfl rfl hR (fun g1 w' hw' => ?_)
         clear HW; have HW := Lib.hid hw'; clear hw'; (try simp only [hps_rules] at HW); (try simp only [put_rules]))
      | (refine wpList_alloc HW.out rfl (ty := 38) rfl (z := .agg (flat Rec.zero.segs).toArray) (by kernel_rfl) (M := Rec.zero.segs) rfl hZ (fun g2 w' hw' => ?_)
         clear HW; have HW := Lib.hid hw'; clear hw'; (try simp only [hps_rules] at HW); (try simp only [put_rules]))
      | (refine wpList_runs HW.out rfl (HBB.out _ _ _ _ _ rfl rfl rfl) ?_; simp only [put_rules]))
    refine bodyPost_ret (results_cellS1 rfl HW.out 1 rfl rfl Try.underlying38 rfl (by kernel_rfl)) rfl ?_
    rw [show bareR _ = ({ Rec.zero with kind := 2, id := id, base := base, ed := ed, root := root } : Rec) from rfl]
    exact ⟨rfl, HW.out.tail.tail.tail⟩
  have e2 : (kind == 2) = false := beq_eq_false_iff_ne.2 h2
  by_cases h3 : kind = 3
  · subst h3
    clear h1 e1 h2 e2
    have hO : SgOk (Rec.segs ({ Rec.zero with kind := 3, id := id, code := code } : Rec)) := Rec.segs_ok ⟨Ed.zero_ok, length_zeros 32⟩
    go_enter Try.func80, Try.ntmps80
    go_wp2_with (first
      | go_skip
      | (refine wpList_runs HW.out rfl (runs_ldR 0 (ty := 38) (n := 74) rfl rfl rfl rfl Try.underlying38 rfl (by kernel_rfl)) ?_; simp only [put_rules])
      | (refine wpList_runs HW.out rfl (runs_ldR 2 (ty := 35) (n := 35) rfl rfl rfl rfl Try.underlying35 rfl (by kernel_rfl)) ?_; simp only [put_rules])
      | (refine wpList_runs HW.out rfl (runs_ld1 1 rfl rfl rfl rfl (by kernel_rfl)) ?_; simp only [put_rules])
      | (refine wpList_runs HW.out rfl (runs_ld1 2 rfl rfl rfl rfl (by kernel_rfl)) ?_; simp only [put_rules])
      | (refine wpList_stR HW.out rfl (ty := 38) (n := 74) rfl rfl 0 rfl rfl rfl (by assumption) rfl (by kernel_rfl) (fun w' hw' => ?_); clear HW; have HW := Lib.hid hw'; clear hw'; (try simp only [hps_rules] at HW); (try simp only [put_rules]))
      | (refine wpList_stR HW.out rfl (ty := 35) (n := 35) rfl rfl 0 rfl rfl rfl (by assumption) rfl (by kernel_rfl) (fun w' hw' => ?_); clear HW; have HW := Lib.hid hw'; clear hw'; (try simp only [hps_rules] at HW); (try simp only [put_rules]))
      | (refine wpList_st1 HW.out rfl rfl rfl 0 rfl rfl rfl rfl (by kernel_rfl) (fun w' hw' => ?_); clear HW; have HW := Lib.hid hw'; clear hw'; (try simp only [hps_rules] at HW); (try simp only [put_rules]))
      | (refine wpList_stR HW.out rfl (ty := 38) (n := 74) rfl rfl 1 rfl (M := Rec.segs { Rec.zero with kind := 3, id := id, code := code }) rfl rfl hO rfl (by kernel_rfl) (fun w' hw' => ?_)
         clear HW; have HW := Lib.hid hw'; clear hw'; (try simp only [hps_rules] at HW); (try simp only [put_rules]))
      | (refine wpList_box HW.out rfl rfl rfl rfl hR (fun g1 w' hw' => ?_)
         clear HW; have HW := Lib.hid hw'; clear hw'; (try simp only [hps_rules] at HW); (try simp only [put_rules]))
      | (refine wpList_alloc HW.out rfl (ty := 38) rfl (z := .agg (flat Rec.zero.segs).toArray) (by kernel_rfl) (M := Rec.zero.segs) rfl hZ (fun g2 w' hw' => ?_)
         clear HW; have HW := Lib.hid hw'; clear hw'; (try simp only [hps_rules] at HW); (try simp only [put_rules]))
      | (refine wpList_runs HW.out rfl (HBB.out _ _ _ _ _ rfl rfl rfl) ?_; simp only [put_rules]))
    refine bodyPost_ret (results_cellS1 rfl HW.out 1 rfl rfl Try.underlying38 rfl (by kernel_rfl)) rfl ?_
    rw [show bareR _ = ({ Rec.zero with kind := 3, id := id, code := code } : Rec) from rfl]
    exact ⟨rfl, HW.out.tail.tail.tail⟩
  have e3 : (kind == 3) = false := beq_eq_false_iff_ne.2 h3
  by_cases h4 : kind = 4
  · subst h4
    clear h1 e1 h2 e2 h3 e3
    cases has
    · skip
      have hO : SgOk (Rec.segs ({ Rec.zero with kind := 4, id := id, commit := commit, has := false } : Rec)) := Rec.segs_ok ⟨Ed.zero_ok, length_zeros 32⟩
      go_enter Try.func80, Try.ntmps80
      go_wp2_with (first
        | go_skip
        | (refine wpList_runs HW.out rfl (runs_ldR 0 (ty := 38) (n := 74) rfl rfl rfl rfl Try.underlying38 rfl (by kernel_rfl)) ?_; simp only [put_rules])
        | (refine wpList_runs HW.out rfl (runs_ldR 2 (ty := 35) (n := 35) rfl rfl rfl rfl Try.underlying35 rfl (by kernel_rfl)) ?_; simp only [put_rules])
        | (refine wpList_runs HW.out rfl (runs_ld1 1 rfl rfl rfl rfl (by kernel_rfl)) ?_; simp only [put_rules])
        | (refine wpList_runs HW.out rfl (runs_ld1 2 rfl rfl rfl rfl (by kernel_rfl)) ?_; simp only [put_rules])
        | (refine wpList_stR HW.out rfl (ty := 38) (n := 74) rfl rfl 0 rfl rfl rfl (by assumption) rfl (by kernel_rfl) (fun w' hw' => ?_); clear HW; have HW := Lib.hid hw'; clear hw'; (try simp only [hps_rules] at HW); (try simp only [put_rules]))
        | (refine wpList_stR HW.out rfl (ty := 35) (n := 35) rfl rfl 0 rfl rfl rfl (by assumption) rfl (by kernel_rfl) (fun w' hw' => ?_); clear HW; have HW := Lib.hid hw'; clear hw'; (try simp only [hps_rules] at HW); (try simp only [put_rules]))
        | (refine wpList_st1 HW.out rfl rfl rfl 0 rfl rfl rfl rfl (by kernel_rfl) (fun w' hw' => ?_); clear HW; have HW := Lib.hid hw'; clear hw'; (try simp only [hps_rules] at HW); (try simp only [put_rules]))
        | (refine wpList_stR HW.out rfl (ty := 38) (n := 74) rfl rfl 1 rfl (M := Rec.segs { Rec.zero with kind := 4, id := id, commit := commit, has := false }) rfl rfl hO rfl (by kernel_rfl) (fun w' hw' => ?_)
           clear HW; have HW := Lib.hid hw'; clear hw'; (try simp only [hps_rules] at HW); (try simp only [put_rules]))
        | (refine wpList_box HW.out rfl rfl rfl rfl hR (fun g1 w' hw' => ?_)
           clear HW; have HW := Lib.hid hw'; clear hw'; (try simp only [hps_rules] at HW); (try simp only [put_rules]))
        | (refine wpList_alloc HW.out rfl (ty := 38) rfl (z := .agg (flat Rec.zero.segs).toArray) (by kernel_rfl) (M := Rec.zero.segs) rfl hZ (fun g2 w' hw' => ?_)
           clear HW; have HW := Lib.hid hw'; clear hw'; (try simp only [hps_rules] at HW); (try simp only [put_rules]))
        | (refine wpList_runs HW.out rfl (HBB.out _ _ _ _ _ rfl rfl rfl) ?_; simp only [put_rules]))
      refine wp_region_untilD 0 7 (by kernel_rfl) HW.out (fun w' hw' => ?_)
      clear HW; have HW := Lib.hid hw'; have HC := Lib.hid (hw'.drop 0 rfl); clear hw'
      simp only [era_rules] at HC ⊢
      simp only [rep_rules]
      first
      | (refine takeE 0 rfl rfl (runs_ld1 1 rfl rfl rfl rfl (by kernel_rfl)) HC.out (by kernel_rfl) (fun _ _ _ h => h) ?_)
      | (refine takeE 0 (v := ?_) rfl rfl (runs_of fun w => ?_) HC.out (by kernel_rfl) (fun _ _ _ h => h) ?_
         rotate_left
         · go_simp <;> (try with_reducible rfl))
      try simp only [put_rules]
      first
      | (refine takeE 1 rfl rfl (runs_ld1 1 rfl rfl rfl rfl (by kernel_rfl)) HC.out (by kernel_rfl) (fun _ _ _ h => h) ?_)
      | (refine takeE 1 (v := ?_) rfl rfl (runs_of fun w => ?_) HC.out (by kernel_rfl) (fun _ _ _ h => h) ?_
         rotate_left
         · go_simp <;> (try with_reducible rfl))
      try simp only [put_rules]
      first
      | (refine takeE 2 rfl rfl (runs_ld1 1 rfl rfl rfl rfl (by kernel_rfl)) HC.out (by kernel_rfl) (fun _ _ _ h => h) ?_)
      | (refine takeE 2 (v := ?_) rfl rfl (runs_of fun w => ?_) HC.out (by kernel_rfl) (fun _ _ _ h => h) ?_
         rotate_left
         · go_simp <;> (try with_reducible rfl))
      try simp only [put_rules]
      first
      | (refine takeE 3 rfl rfl (runs_ld1 1 rfl rfl rfl rfl (by kernel_rfl)) HC.out (by kernel_rfl) (fun _ _ _ h => h) ?_)
      | (refine takeE 3 (v := ?_) rfl rfl (runs_of fun w => ?_) HC.out (by kernel_rfl) (fun _ _ _ h => h) ?_
         rotate_left
         · go_simp <;> (try with_reducible rfl))
      try simp only [put_rules]
      first
      | (refine takeE 4 rfl rfl (runs_ld1 1 rfl rfl rfl rfl (by kernel_rfl)) HC.out (by kernel_rfl) (fun _ _ _ h => h) ?_)
      | (refine takeE 4 (v := ?_) rfl rfl (runs_of fun w => ?_) HC.out (by kernel_rfl) (fun _ _ _ h => h) ?_
         rotate_left
         · go_simp <;> (try with_reducible rfl))
      try simp only [put_rules]
      refine effE 5 rfl (by kernel_rfl) ?_
      refine wpList_st1 HW.out rfl rfl rfl 0 rfl rfl rfl rfl (by kernel_rfl) (fun w' hw' => ?_)
      clear HW; have HW := Lib.hid hw'; clear hw'; (try simp only [hps_rules] at HW); (try simp only [put_rules])
      refine wpList_behind (And.intro (fun _ => (by exact HW.out.tail)) ?_)
      clear HC; have HC := Lib.hid (HW.out.tail)
      first
      | (refine takeE 6 (v := ?_) rfl rfl (runs_of fun w => ?_) HC.out (by kernel_rfl) (fun _ _ _ h => h) ?_
         rotate_left
         · go_simp <;> (try with_reducible rfl))
      try simp only [put_rules]
      refine effE 7 rfl (by kernel_rfl) ?_
      refine wpList_st1 HW.out rfl rfl rfl 0 rfl rfl rfl rfl (by kernel_rfl) (fun w' hw' => ?_)
      clear HW; have HW := Lib.hid hw'; clear hw'; (try simp only [hps_rules] at HW); (try simp only [put_rules])
      refine wpList_behind (And.intro (fun h => Bool.noConfusion (show true = false from h)) ?_)
      refine doneE (by kernel_rfl) ?_ _
      go_wp2_with (first
        | go_skip
        | (refine wpList_runs HW.out rfl (runs_ldR 0 (ty := 38) (n := 74) rfl rfl rfl rfl Try.underlying38 rfl (by kernel_rfl)) ?_; simp only [put_rules])
        | (refine wpList_runs HW.out rfl (runs_ldR 2 (ty := 35) (n := 35) rfl rfl rfl rfl Try.underlying35 rfl (by kernel_rfl)) ?_; simp only [put_rules])
        | (refine wpList_runs HW.out rfl (runs_ld1 1 rfl rfl rfl rfl (by kernel_rfl)) ?_; simp only [put_rules])
        | (refine wpList_runs HW.out rfl (runs_ld1 2 rfl rfl rfl rfl (by kernel_rfl)) ?_; simp only [put_rules])
        | (refine wpList_stR HW.out rfl (ty := 38) (n := 74) rfl rfl 0 rfl rfl rfl (by assumption) rfl (by kernel_rfl) (fun w' hw' => ?_); clear HW; have HW := Lib.hid hw'; clear hw'; (try simp only [hps_rules] at HW); (try simp only [put_rules]))
        | (refine wpList_stR HW.out rfl (ty := 35) (n := 35) rfl rfl 0 rfl rfl rfl (by assumption) rfl (by kernel_rfl) (fun w' hw' => ?_); clear HW; have HW := Lib.hid hw'; clear hw'; (try simp only [hps_rules] at HW); (try simp only [put_rules]))
        | (refine wpList_st1 HW.out rfl rfl rfl 0 rfl rfl rfl rfl (by kernel_rfl) (fun w' hw' => ?_); clear HW; have HW := Lib.hid hw'; clear hw'; (try simp only [hps_rules] at HW); (try simp only [put_rules]))
        | (refine wpList_stR HW.out rfl (ty := 38) (n := 74) rfl rfl 1 rfl (M := Rec.segs { Rec.zero with kind := 4, id := id, commit := commit, has := false }) rfl rfl hO rfl (by kernel_rfl) (fun w' hw' => ?_)
           clear HW; have HW := Lib.hid hw'; clear hw'; (try simp only [hps_rules] at HW); (try simp only [put_rules]))
        | (refine wpList_box HW.out rfl rfl rfl rfl hR (fun g1 w' hw' => ?_)
           clear HW; have HW := Lib.hid hw'; clear hw'; (try simp only [hps_rules] at HW); (try simp only [put_rules]))
        | (refine wpList_alloc HW.out rfl (ty := 38) rfl (z := .agg (flat Rec.zero.segs).toArray) (by kernel_rfl) (M := Rec.zero.segs) rfl hZ (fun g2 w' hw' => ?_)
           clear HW; have HW := Lib.hid hw'; clear hw'; (try simp only [hps_rules] at HW); (try simp only [put_rules]))
        | (refine wpList_runs HW.out rfl (HBB.out _ _ _ _ _ rfl rfl rfl) ?_; simp only [put_rules]))
      refine bodyPost_ret (results_cellS1 rfl HW.out 1 rfl rfl Try.underlying38 rfl (by kernel_rfl)) rfl ?_
      rw [show bareR _ = ({ Rec.zero with kind := 4, id := id, commit := commit, has := false } : Rec) from rfl]
      exact ⟨rfl, HW.out.tail.tail.tail⟩
    · skip
      have hO : SgOk (Rec.segs ({ Rec.zero with kind := 4, id := id, commit := commit, has := true, text := text } : Rec)) := Rec.segs_ok ⟨Ed.zero_ok, length_zeros 32⟩
      go_enter Try.func80, Try.ntmps80
      go_wp2_with (first
        | go_skip
        | (refine wpList_runs HW.out rfl (runs_ldR 0 (ty := 38) (n := 74) rfl rfl rfl rfl Try.underlying38 rfl (by kernel_rfl)) ?_; simp only [put_rules])
        | (refine wpList_runs HW.out rfl (runs_ldR 2 (ty := 35) (n := 35) rfl rfl rfl rfl Try.underlying35 rfl (by kernel_rfl)) ?_; simp only [put_rules])
        | (refine wpList_runs HW.out rfl (runs_ld1 1 rfl rfl rfl rfl (by kernel_rfl)) ?_; simp only [put_rules])
        | (refine wpList_runs HW.out rfl (runs_ld1 2 rfl rfl rfl rfl (by kernel_rfl)) ?_; simp only [put_rules])
        | (refine wpList_stR HW.out rfl (ty := 38) (n := 74) rfl rfl 0 rfl rfl rfl (by assumption) rfl (by kernel_rfl) (fun w' hw' => ?_); clear HW; have HW := Lib.hid hw'; clear hw'; (try simp only [hps_rules] at HW); (try simp only [put_rules]))
        | (refine wpList_stR HW.out rfl (ty := 35) (n := 35) rfl rfl 0 rfl rfl rfl (by assumption) rfl (by kernel_rfl) (fun w' hw' => ?_); clear HW; have HW := Lib.hid hw'; clear hw'; (try simp only [hps_rules] at HW); (try simp only [put_rules]))
        | (refine wpList_st1 HW.out rfl rfl rfl 0 rfl rfl rfl rfl (by kernel_rfl) (fun w' hw' => ?_); clear HW; have HW := Lib.hid hw'; clear hw'; (try simp only [hps_rules] at HW); (try simp only [put_rules]))
        | (refine wpList_stR HW.out rfl (ty := 38) (n := 74) rfl rfl 1 rfl (M := Rec.segs { Rec.zero with kind := 4, id := id, commit := commit, has := true, text := text }) rfl rfl hO rfl (by kernel_rfl) (fun w' hw' => ?_)
           clear HW; have HW := Lib.hid hw'; clear hw'; (try simp only [hps_rules] at HW); (try simp only [put_rules]))
        | (refine wpList_box HW.out rfl rfl rfl rfl hR (fun g1 w' hw' => ?_)
           clear HW; have HW := Lib.hid hw'; clear hw'; (try simp only [hps_rules] at HW); (try simp only [put_rules]))
        | (refine wpList_alloc HW.out rfl (ty := 38) rfl (z := .agg (flat Rec.zero.segs).toArray) (by kernel_rfl) (M := Rec.zero.segs) rfl hZ (fun g2 w' hw' => ?_)
           clear HW; have HW := Lib.hid hw'; clear hw'; (try simp only [hps_rules] at HW); (try simp only [put_rules]))
        | (refine wpList_runs HW.out rfl (HBB.out _ _ _ _ _ rfl rfl rfl) ?_; simp only [put_rules]))
      refine wp_region_untilD 0 7 (by kernel_rfl) HW.out (fun w' hw' => ?_)
      clear HW; have HW := Lib.hid hw'; have HC := Lib.hid (hw'.drop 0 rfl); clear hw'
      simp only [era_rules] at HC ⊢
      simp only [rep_rules]
      first
      | (refine takeE 0 rfl rfl (runs_ld1 1 rfl rfl rfl rfl (by kernel_rfl)) HC.out (by kernel_rfl) (fun _ _ _ h => h) ?_)
      | (refine takeE 0 (v := ?_) rfl rfl (runs_of fun w => ?_) HC.out (by kernel_rfl) (fun _ _ _ h => h) ?_
         rotate_left
         · go_simp <;> (try with_reducible rfl))
      try simp only [put_rules]
      first
      | (refine takeE 1 rfl rfl (runs_ld1 1 rfl rfl rfl rfl (by kernel_rfl)) HC.out (by kernel_rfl) (fun _ _ _ h => h) ?_)
      | (refine takeE 1 (v := ?_) rfl rfl (runs_of fun w => ?_) HC.out (by kernel_rfl) (fun _ _ _ h => h) ?_
         rotate_left
         · go_simp <;> (try with_reducible rfl))
      try simp only [put_rules]
      first
      | (refine takeE 2 rfl rfl (runs_ld1 1 rfl rfl rfl rfl (by kernel_rfl)) HC.out (by kernel_rfl) (fun _ _ _ h => h) ?_)
      | (refine takeE 2 (v := ?_) rfl rfl (runs_of fun w => ?_) HC.out (by kernel_rfl) (fun _ _ _ h => h) ?_
         rotate_left
         · go_simp <;> (try with_reducible rfl))
      try simp only [put_rules]
      first
      | (refine takeE 3 rfl rfl (runs_ld1 1 rfl rfl rfl rfl (by kernel_rfl)) HC.out (by kernel_rfl) (fun _ _ _ h => h) ?_)
      | (refine takeE 3 (v := ?_) rfl rfl (runs_of fun w => ?_) HC.out (by kernel_rfl) (fun _ _ _ h => h) ?_
         rotate_left
         · go_simp <;> (try with_reducible rfl))
      try simp only [put_rules]
      first
      | (refine takeE 4 rfl rfl (runs_ld1 1 rfl rfl rfl rfl (by kernel_rfl)) HC.out (by kernel_rfl) (fun _ _ _ h => h) ?_)
      | (refine takeE 4 (v := ?_) rfl rfl (runs_of fun w => ?_) HC.out (by kernel_rfl) (fun _ _ _ h => h) ?_
         rotate_left
         · go_simp <;> (try with_reducible rfl))
      try simp only [put_rules]
      refine effE 5 rfl (by kernel_rfl) ?_
      refine wpList_st1 HW.out rfl rfl rfl 0 rfl rfl rfl rfl (by kernel_rfl) (fun w' hw' => ?_)
      clear HW; have HW := Lib.hid hw'; clear hw'; (try simp only [hps_rules] at HW); (try simp only [put_rules])
      refine wpList_behind (And.intro (fun _ => (by exact HW.out.tail)) ?_)
      clear HC; have HC := Lib.hid (HW.out.tail)
      first
      | (refine takeE 6 (v := ?_) rfl rfl (runs_of fun w => ?_) HC.out (by kernel_rfl) (fun _ _ _ h => h) ?_
         rotate_left
         · go_simp <;> (try with_reducible rfl))
      try simp only [put_rules]
      refine effE 7 rfl (by kernel_rfl) ?_
      refine wpList_st1 HW.out rfl rfl rfl 0 rfl rfl rfl rfl (by kernel_rfl) (fun w' hw' => ?_)
      clear HW; have HW := Lib.hid hw'; clear hw'; (try simp only [hps_rules] at HW); (try simp only [put_rules])
      refine wpList_behind (And.intro (fun h => Bool.noConfusion (show true = false from h)) ?_)
      refine doneE (by kernel_rfl) ?_ _
      go_wp2_with (first
        | go_skip
        | (refine wpList_runs HW.out rfl (runs_ldR 0 (ty := 38) (n := 74) rfl rfl rfl rfl Try.underlying38 rfl (by kernel_rfl)) ?_; simp only [put_rules])
        | (refine wpList_runs HW.out rfl (runs_ldR 2 (ty := 35) (n := 35) rfl rfl rfl rfl Try.underlying35 rfl (by kernel_rfl)) ?_; simp only [put_rules])
        | (refine wpList_runs HW.out rfl (runs_ld1 1 rfl rfl rfl rfl (by kernel_rfl)) ?_; simp only [put_rules])
        | (refine wpList_runs HW.out rfl (runs_ld1 2 rfl rfl rfl rfl (by kernel_rfl)) ?_; simp only [put_rules])
        | (refine wpList_stR HW.out rfl (ty := 38) (n := 74) rfl rfl 0 rfl rfl rfl (by assumption) rfl (by kernel_rfl) (fun w' hw' => ?_); clear HW; have HW := Lib.hid hw'; clear hw'; (try simp only [hps_rules] at HW); (try simp only [put_rules]))
        | (refine wpList_stR HW.out rfl (ty := 35) (n := 35) rfl rfl 0 rfl rfl rfl (by assumption) rfl (by kernel_rfl) (fun w' hw' => ?_); clear HW; have HW := Lib.hid hw'; clear hw'; (try simp only [hps_rules] at HW); (try simp only [put_rules]))
        | (refine wpList_st1 HW.out rfl rfl rfl 0 rfl rfl rfl rfl (by kernel_rfl) (fun w' hw' => ?_); clear HW; have HW := Lib.hid hw'; clear hw'; (try simp only [hps_rules] at HW); (try simp only [put_rules]))
        | (refine wpList_stR HW.out rfl (ty := 38) (n := 74) rfl rfl 1 rfl (M := Rec.segs { Rec.zero with kind := 4, id := id, commit := commit, has := true, text := text }) rfl rfl hO rfl (by kernel_rfl) (fun w' hw' => ?_)
           clear HW; have HW := Lib.hid hw'; clear hw'; (try simp only [hps_rules] at HW); (try simp only [put_rules]))
        | (refine wpList_box HW.out rfl rfl rfl rfl hR (fun g1 w' hw' => ?_)
           clear HW; have HW := Lib.hid hw'; clear hw'; (try simp only [hps_rules] at HW); (try simp only [put_rules]))
        | (refine wpList_alloc HW.out rfl (ty := 38) rfl (z := .agg (flat Rec.zero.segs).toArray) (by kernel_rfl) (M := Rec.zero.segs) rfl hZ (fun g2 w' hw' => ?_)
           clear HW; have HW := Lib.hid hw'; clear hw'; (try simp only [hps_rules] at HW); (try simp only [put_rules]))
        | (refine wpList_runs HW.out rfl (HBB.out _ _ _ _ _ rfl rfl rfl) ?_; simp only [put_rules]))
      refine bodyPost_ret (results_cellS1 rfl HW.out 1 rfl rfl Try.underlying38 rfl (by kernel_rfl)) rfl ?_
      rw [show bareR _ = ({ Rec.zero with kind := 4, id := id, commit := commit, has := true, text := text } : Rec) from rfl]
      exact ⟨rfl, HW.out.tail.tail.tail⟩
  have e4 : (kind == 4) = false := beq_eq_false_iff_ne.2 h4
  have KK := Lib.hid (And.intro h1 (And.intro h2 (And.intro h3 h4)))
  clear h1 h2 h3 h4
  have hO : SgOk (Rec.segs ({ Rec.zero with kind := kind, id := id } : Rec)) := Rec.segs_ok ⟨Ed.zero_ok, length_zeros 32⟩
  go_enter Try.func80, Try.ntmps80
  go_wp2_with (first
    | go_skip
    | (refine wpList_runs HW.out rfl (runs_ldR 0 (ty := 38) (n := 74) rfl rfl rfl rfl Try.underlying38 rfl (by kernel_rfl)) ?_; simp only [put_rules])
    | (refine wpList_runs HW.out rfl (runs_ldR 2 (ty := 35) (n := 35) rfl rfl rfl rfl Try.underlying35 rfl (by kernel_rfl)) ?_; simp only [put_rules])
    | (refine wpList_runs HW.out rfl (runs_ld1 1 rfl rfl rfl rfl (by kernel_rfl)) ?_; simp only [put_rules])
    | (refine wpList_runs HW.out rfl (runs_ld1 2 rfl rfl rfl rfl (by kernel_rfl)) ?_; simp only [put_rules])
    | (refine wpList_stR HW.out rfl (ty := 38) (n := 74) rfl rfl 0 rfl rfl rfl (by assumption) rfl (by kernel_rfl) (fun w' hw' => ?_); clear HW; have HW := Lib.hid hw'; clear hw'; (try simp only [hps_rules] at HW); (try simp only [put_rules]))
    | (refine wpList_stR HW.out rfl (ty := 35) (n := 35) rfl rfl 0 rfl rfl rfl (by assumption) rfl (by kernel_rfl) (fun w' hw' => ?_); clear HW; have HW := Lib.hid hw'; clear hw'; (try simp only [hps_rules] at HW); (try simp only [put_rules]))
    | (refine wpList_st1 HW.out rfl rfl rfl 0 rfl rfl rfl rfl (by kernel_rfl) (fun w' hw' => ?_); clear HW; have HW := Lib.hid hw'; clear hw'; (try simp only [hps_rules] at HW); (try simp only [put_rules]))
    | (refine wpList_stR HW.out rfl (ty := 38) (n := 74) rfl rfl 1 rfl (M := Rec.segs { Rec.zero with kind := kind, id := id }) rfl rfl hO rfl (by kernel_rfl) (fun w' hw' => ?_)
       clear HW; have HW := Lib.hid hw'; clear hw'; (try simp only [hps_rules] at HW); (try simp only [put_rules]))
    | (refine wpList_box HW.out rfl rfl rfl rfl hR (fun g1 w' hw' => ?_)
       clear HW; have HW := Lib.hid hw'; clear hw'; (try simp only [hps_rules] at HW); (try simp only [put_rules]))
    | (refine wpList_alloc HW.out rfl (ty := 38) rfl (z := .agg (flat Rec.zero.segs).toArray) (by kernel_rfl) (M := Rec.zero.segs) rfl hZ (fun g2 w' hw' => ?_)
       clear HW; have HW := Lib.hid hw'; clear hw'; (try simp only [hps_rules] at HW); (try simp only [put_rules]))
    | (refine wpList_runs HW.out rfl (HBB.out _ _ _ _ _ rfl rfl rfl) ?_; simp only [put_rules]))
  refine bodyPost_ret (results_cellS1 rfl HW.out 1 rfl rfl Try.underlying38 rfl (by kernel_rfl)) rfl ?_
  rw [show bareR _ = ({ Rec.zero with kind := kind, id := id } : Rec) from (by unfold bareR; rw [if_neg KK.out.1, if_neg KK.out.2.1, if_neg KK.out.2.2.1, if_neg KK.out.2.2.2])]
  exact ⟨rfl, HW.out.tail.tail.tail⟩
end Go.Proofs.Ytaieonajialenaa
