/- redactorref01.plain, over segments. -/
import Derived.Test.YtibkngjacdggpaaDoorMsgA
import Derived.Test.YtibkngjacdggpaaDoorSegA
namespace Go.Proofs.YtibkngjacdggpaaDoor
set_option linter.unusedSimpArgs false
set_option linter.unusedVariables false
open Go.RowKit HP

set_option maxRecDepth 100000 in
set_option maxHeartbeats 8000000 in
theorem mplain_ok (r : Msg) (h : r.Ok) (w : World) (R : List HP) (hh : Holds w R) :
    Calls Tryd.prog 72 #[.agg (flat r.segs).toArray] w fun e w' => e = .returned (.agg (flat (bareM r).segs).toArray) ∧ Holds w' R := by
  have HW := Lib.hid hh
  have hR := Msg.segs_ok h
  have hE := Ed.segs_ok h.ed
  have hhash : SgOk [.b 32 r.hash] := ⟨h.hash, trivial⟩
  have hroot : SgOk [.b 32 r.root] := ⟨h.root, trivial⟩
  have hZ := Msg.segs_ok Msg.zero_ok
  have HZ := Lib.hid hZ
  obtain ⟨kind, frm, to, id, base, ed, yes, code, hash, root, commit⟩ := r
  clear hh h
  have HB : ∀ (o : Oper) (a : Act) (L : List HP) (x y z u : Operand), o.op = .build 42 #[(0, x), (1, y), (2, z), (3, u)] → a.eval x = .int .i64 kind → a.eval y = .int .i64 frm → a.eval z = .int .i64 to → a.eval u = .int .u64 (id : Int) → RunsH Tryd.prog o a L (.agg (flat (Msg.segs { Msg.zero with kind := kind, frm := frm, to := to, id := id })).toArray) := fun o a L x y z u ho hx hy hz hu => by
    refine runs_build (zs := Msg.zero.segs) (M := Msg.segs { Msg.zero with kind := kind, frm := frm, to := to, id := id }) ho Tryd.underlying42 #[(0, 1), (1, 1), (2, 1), (3, 1), (4, 1), (5, 35), (40, 1), (41, 1), (42, 32), (74, 32), (106, 1)] (fun w => by kernel_rfl) (by kernel_rfl) ?_
    simp only [List.map_cons, List.map_nil, hx, hy, hz, hu]
    refine fill_cons (off := 0) (n := 1) (M := [.o (.int .i64 kind)]) rfl rfl ⟨rfl, trivial⟩ rfl HZ.out rfl (fun h1 => ?_)
    refine fill_cons (off := 1) (n := 1) (M := [.o (.int .i64 frm)]) rfl rfl ⟨rfl, trivial⟩ rfl h1 rfl (fun h2 => ?_)
    refine fill_cons (off := 2) (n := 1) (M := [.o (.int .i64 to)]) rfl rfl ⟨rfl, trivial⟩ rfl h2 rfl (fun h3 => ?_)
    refine fill_cons (off := 3) (n := 1) (M := [.o (.int .u64 (id : Int))]) rfl rfl ⟨rfl, trivial⟩ rfl h3 rfl (fun h4 => ?_)
    rfl
  have HBB := Lib.hid HB
  clear HB
  by_cases h1 : kind = 1
  · subst h1
    have hO : SgOk (Msg.segs ({ Msg.zero with kind := 1, frm := frm, to := to, id := id, base := base, ed := ed } : Msg)) := Msg.segs_ok ⟨hE.2.2.2.1, length_zeros 32, length_zeros 32⟩
    go_enter Tryd.func72, Tryd.ntmps72
    go_wp2_with (first
      | go_skip
      | (refine wpList_runs HW.out rfl (runs_ldA 0 (ty := 42) (n := 107) rfl rfl rfl (by kernel_rfl) Tryd.underlying42 rfl (by kernel_rfl)) ?_; simp only [put_rules])
      | (refine wpList_runs HW.out rfl (runs_ldR 2 (ty := 40) (n := 35) rfl rfl rfl rfl Tryd.underlying40 rfl (by kernel_rfl)) ?_; simp only [put_rules])
      | (refine wpList_runs HW.out rfl (runs_ld1 1 rfl rfl rfl rfl (by kernel_rfl)) ?_; simp only [put_rules])
      | (refine wpList_runs HW.out rfl (runs_ld1 2 rfl rfl rfl rfl (by kernel_rfl)) ?_; simp only [put_rules])
      | (refine wpList_stA HW.out rfl (ty := 42) (n := 107) rfl rfl 0 rfl rfl (by assumption) (by kernel_rfl) (by kernel_rfl) (by kernel_rfl) (fun w' hw' => ?_); clear HW; have HW := Lib.hid hw'; clear hw'; (try simp only [hps_rules] at HW); (try simp only [put_rules]))
      | (refine wpList_stR HW.out rfl (ty := 40) (n := 35) rfl rfl 0 rfl rfl rfl (by assumption) (by kernel_rfl) (by kernel_rfl) (fun w' hw' => ?_); clear HW; have HW := Lib.hid hw'; clear hw'; (try simp only [hps_rules] at HW); (try simp only [put_rules]))
      | (refine wpList_st1 HW.out rfl rfl rfl 0 rfl rfl rfl rfl (by kernel_rfl) (fun w' hw' => ?_); clear HW; have HW := Lib.hid hw'; clear hw'; (try simp only [hps_rules] at HW); (try simp only [put_rules]))
      | (refine wpList_stA HW.out rfl (ty := 42) (n := 107) rfl rfl 1 rfl (M := Msg.segs { Msg.zero with kind := 1, frm := frm, to := to, id := id, base := base, ed := ed }) rfl hO (by kernel_rfl) (by kernel_rfl) (by kernel_rfl) (fun w' hw' => ?_)
         clear HW; have HW := Lib.hid hw'; clear hw'; (try simp only [hps_rules] at HW); (try simp only [put_rules]))
      | (refine wpList_box HW.out rfl rfl rfl rfl hR (fun g1 w' hw' => ?_)
         clear HW; have HW := Lib.hid hw'; clear hw'; (try simp only [hps_rules] at HW); (try simp only [put_rules]))
      | (refine wpList_alloc HW.out rfl (ty := 42) rfl (z := .agg (flat Msg.zero.segs).toArray) (by kernel_rfl) (M := Msg.zero.segs) rfl hZ (fun g2 w' hw' => ?_)
         clear HW; have HW := Lib.hid hw'; clear hw'; (try simp only [hps_rules] at HW); (try simp only [put_rules]))
      | (refine wpList_runs HW.out rfl (HBB.out _ _ _ _ _ _ _ rfl rfl rfl rfl rfl) ?_; simp only [put_rules]))
    refine wp_region_untilD 0 7 (by kernel_rfl) HW.out (fun w' hw' => ?_)
    clear HW; have HW := Lib.hid hw'; have HC := Lib.hid (hw'.drop 0 rfl); clear hw'
    simp only [era_rules] at HC ⊢
    simp only [rep_rules]
    first
    | (refine takeE 0 rfl rfl (runs_ldR 1 (ty := 40) (n := 35) rfl rfl rfl rfl Tryd.underlying40 rfl (by kernel_rfl)) HC.out (by kernel_rfl) (fun _ _ _ h => h) ?_)
    | (refine takeE 0 rfl rfl (runs_ld1 1 rfl rfl rfl rfl (by kernel_rfl)) HC.out (by kernel_rfl) (fun _ _ _ h => h) ?_)
    | (refine takeE 0 (v := ?_) rfl rfl (runs_of fun w => ?_) HC.out (by kernel_rfl) (fun _ _ _ h => h) ?_
       rotate_left
       · go_simp <;> (try with_reducible rfl))
    try simp only [put_rules]
    first
    | (refine takeE 1 rfl rfl (runs_ldR 1 (ty := 40) (n := 35) rfl rfl rfl rfl Tryd.underlying40 rfl (by kernel_rfl)) HC.out (by kernel_rfl) (fun _ _ _ h => h) ?_)
    | (refine takeE 1 rfl rfl (runs_ld1 1 rfl rfl rfl rfl (by kernel_rfl)) HC.out (by kernel_rfl) (fun _ _ _ h => h) ?_)
    | (refine takeE 1 (v := ?_) rfl rfl (runs_of fun w => ?_) HC.out (by kernel_rfl) (fun _ _ _ h => h) ?_
       rotate_left
       · go_simp <;> (try with_reducible rfl))
    try simp only [put_rules]
    first
    | (refine takeE 2 rfl rfl (runs_ldR 1 (ty := 40) (n := 35) rfl rfl rfl rfl Tryd.underlying40 rfl (by kernel_rfl)) HC.out (by kernel_rfl) (fun _ _ _ h => h) ?_)
    | (refine takeE 2 rfl rfl (runs_ld1 1 rfl rfl rfl rfl (by kernel_rfl)) HC.out (by kernel_rfl) (fun _ _ _ h => h) ?_)
    | (refine takeE 2 (v := ?_) rfl rfl (runs_of fun w => ?_) HC.out (by kernel_rfl) (fun _ _ _ h => h) ?_
       rotate_left
       · go_simp <;> (try with_reducible rfl))
    try simp only [put_rules]
    first
    | (refine takeE 3 rfl rfl (runs_ldR 1 (ty := 40) (n := 35) rfl rfl rfl rfl Tryd.underlying40 rfl (by kernel_rfl)) HC.out (by kernel_rfl) (fun _ _ _ h => h) ?_)
    | (refine takeE 3 rfl rfl (runs_ld1 1 rfl rfl rfl rfl (by kernel_rfl)) HC.out (by kernel_rfl) (fun _ _ _ h => h) ?_)
    | (refine takeE 3 (v := ?_) rfl rfl (runs_of fun w => ?_) HC.out (by kernel_rfl) (fun _ _ _ h => h) ?_
       rotate_left
       · go_simp <;> (try with_reducible rfl))
    try simp only [put_rules]
    first
    | (refine takeE 4 rfl rfl (runs_ldR 1 (ty := 40) (n := 35) rfl rfl rfl rfl Tryd.underlying40 rfl (by kernel_rfl)) HC.out (by kernel_rfl) (fun _ _ _ h => h) ?_)
    | (refine takeE 4 rfl rfl (runs_ld1 1 rfl rfl rfl rfl (by kernel_rfl)) HC.out (by kernel_rfl) (fun _ _ _ h => h) ?_)
    | (refine takeE 4 (v := ?_) rfl rfl (runs_of fun w => ?_) HC.out (by kernel_rfl) (fun _ _ _ h => h) ?_
       rotate_left
       · go_simp <;> (try with_reducible rfl))
    try simp only [put_rules]
    refine effE 5 rfl (by kernel_rfl) ?_
    refine wpList_st1 HW.out rfl rfl rfl 0 rfl rfl rfl rfl (by kernel_rfl) (fun w' hw' => ?_)
    clear HW; have HW := Lib.hid hw'; clear hw'; (try simp only [hps_rules] at HW); (try simp only [put_rules])
    refine wpList_behind (And.intro (fun _ => (by exact HW.out.tail)) ?_)
    clear HC; have HC := Lib.hid (HW.out.tail)
    first
    | (refine takeE 6 (v := ?_) rfl rfl (runs_of fun w => ?_) HC.out (by kernel_rfl) (fun _ _ _ h => h) ?_
       rotate_left
       · go_simp <;> (try with_reducible rfl))
    try simp only [put_rules]
    refine effE 7 rfl (by kernel_rfl) ?_
    refine wpList_stR HW.out rfl (ty := 40) (n := 35) rfl rfl 0 rfl (M := Ed.segs ed) rfl rfl hE (by kernel_rfl) (by kernel_rfl) (fun w' hw' => ?_)
    clear HW; have HW := Lib.hid hw'; clear hw'; (try simp only [hps_rules] at HW); (try simp only [put_rules])
    refine wpList_behind (And.intro (fun h => Bool.noConfusion (show true = false from h)) ?_)
    refine doneE (by kernel_rfl) ?_ _
    go_wp2_with (first
      | go_skip
      | (refine wpList_runs HW.out rfl (runs_ldA 0 (ty := 42) (n := 107) rfl rfl rfl (by kernel_rfl) Tryd.underlying42 rfl (by kernel_rfl)) ?_; simp only [put_rules])
      | (refine wpList_runs HW.out rfl (runs_ldR 2 (ty := 40) (n := 35) rfl rfl rfl rfl Tryd.underlying40 rfl (by kernel_rfl)) ?_; simp only [put_rules])
      | (refine wpList_runs HW.out rfl (runs_ld1 1 rfl rfl rfl rfl (by kernel_rfl)) ?_; simp only [put_rules])
      | (refine wpList_runs HW.out rfl (runs_ld1 2 rfl rfl rfl rfl (by kernel_rfl)) ?_; simp only [put_rules])
      | (refine wpList_stA HW.out rfl (ty := 42) (n := 107) rfl rfl 0 rfl rfl (by assumption) (by kernel_rfl) (by kernel_rfl) (by kernel_rfl) (fun w' hw' => ?_); clear HW; have HW := Lib.hid hw'; clear hw'; (try simp only [hps_rules] at HW); (try simp only [put_rules]))
      | (refine wpList_stR HW.out rfl (ty := 40) (n := 35) rfl rfl 0 rfl rfl rfl (by assumption) (by kernel_rfl) (by kernel_rfl) (fun w' hw' => ?_); clear HW; have HW := Lib.hid hw'; clear hw'; (try simp only [hps_rules] at HW); (try simp only [put_rules]))
      | (refine wpList_st1 HW.out rfl rfl rfl 0 rfl rfl rfl rfl (by kernel_rfl) (fun w' hw' => ?_); clear HW; have HW := Lib.hid hw'; clear hw'; (try simp only [hps_rules] at HW); (try simp only [put_rules]))
      | (refine wpList_stA HW.out rfl (ty := 42) (n := 107) rfl rfl 1 rfl (M := Msg.segs { Msg.zero with kind := 1, frm := frm, to := to, id := id, base := base, ed := ed }) rfl hO (by kernel_rfl) (by kernel_rfl) (by kernel_rfl) (fun w' hw' => ?_)
         clear HW; have HW := Lib.hid hw'; clear hw'; (try simp only [hps_rules] at HW); (try simp only [put_rules]))
      | (refine wpList_box HW.out rfl rfl rfl rfl hR (fun g1 w' hw' => ?_)
         clear HW; have HW := Lib.hid hw'; clear hw'; (try simp only [hps_rules] at HW); (try simp only [put_rules]))
      | (refine wpList_alloc HW.out rfl (ty := 42) rfl (z := .agg (flat Msg.zero.segs).toArray) (by kernel_rfl) (M := Msg.zero.segs) rfl hZ (fun g2 w' hw' => ?_)
         clear HW; have HW := Lib.hid hw'; clear hw'; (try simp only [hps_rules] at HW); (try simp only [put_rules]))
      | (refine wpList_runs HW.out rfl (HBB.out _ _ _ _ _ _ _ rfl rfl rfl rfl rfl) ?_; simp only [put_rules])
      | (refine bodyPost_ret (results_cellS1 rfl HW.out 1 rfl rfl Tryd.underlying42 rfl (by kernel_rfl)) rfl ?_
         rw [show bareM _ = ({ Msg.zero with kind := 1, frm := frm, to := to, id := id, base := base, ed := ed } : Msg) from rfl]
         exact ⟨rfl, HW.out.tail.tail.tail⟩))
  have e1 : (kind == 1) = false := beq_eq_false_iff_ne.2 h1
  by_cases h2 : kind = 2
  · subst h2
    clear h1 e1
    cases yes
    · skip
      have hO : SgOk (Msg.segs ({ Msg.zero with kind := 2, frm := frm, to := to, id := id, code := code } : Msg)) := Msg.segs_ok ⟨Ed.zero_ok, length_zeros 32, length_zeros 32⟩
      go_enter Tryd.func72, Tryd.ntmps72
      go_wp2_with (first
        | go_skip
        | (refine wpList_runs HW.out rfl (runs_ldA 0 (ty := 42) (n := 107) rfl rfl rfl (by kernel_rfl) Tryd.underlying42 rfl (by kernel_rfl)) ?_; simp only [put_rules])
        | (refine wpList_runs HW.out rfl (runs_ldR 2 (ty := 40) (n := 35) rfl rfl rfl rfl Tryd.underlying40 rfl (by kernel_rfl)) ?_; simp only [put_rules])
        | (refine wpList_runs HW.out rfl (runs_ld1 1 rfl rfl rfl rfl (by kernel_rfl)) ?_; simp only [put_rules])
        | (refine wpList_runs HW.out rfl (runs_ld1 2 rfl rfl rfl rfl (by kernel_rfl)) ?_; simp only [put_rules])
        | (refine wpList_stA HW.out rfl (ty := 42) (n := 107) rfl rfl 0 rfl rfl (by assumption) (by kernel_rfl) (by kernel_rfl) (by kernel_rfl) (fun w' hw' => ?_); clear HW; have HW := Lib.hid hw'; clear hw'; (try simp only [hps_rules] at HW); (try simp only [put_rules]))
        | (refine wpList_stR HW.out rfl (ty := 40) (n := 35) rfl rfl 0 rfl rfl rfl (by assumption) (by kernel_rfl) (by kernel_rfl) (fun w' hw' => ?_); clear HW; have HW := Lib.hid hw'; clear hw'; (try simp only [hps_rules] at HW); (try simp only [put_rules]))
        | (refine wpList_st1 HW.out rfl rfl rfl 0 rfl rfl rfl rfl (by kernel_rfl) (fun w' hw' => ?_); clear HW; have HW := Lib.hid hw'; clear hw'; (try simp only [hps_rules] at HW); (try simp only [put_rules]))
        | (refine wpList_stA HW.out rfl (ty := 42) (n := 107) rfl rfl 1 rfl (M := Msg.segs { Msg.zero with kind := 2, frm := frm, to := to, id := id, code := code }) rfl hO (by kernel_rfl) (by kernel_rfl) (by kernel_rfl) (fun w' hw' => ?_)
           clear HW; have HW := Lib.hid hw'; clear hw'; (try simp only [hps_rules] at HW); (try simp only [put_rules]))
        | (refine wpList_box HW.out rfl rfl rfl rfl hR (fun g1 w' hw' => ?_)
           clear HW; have HW := Lib.hid hw'; clear hw'; (try simp only [hps_rules] at HW); (try simp only [put_rules]))
        | (refine wpList_alloc HW.out rfl (ty := 42) rfl (z := .agg (flat Msg.zero.segs).toArray) (by kernel_rfl) (M := Msg.zero.segs) rfl hZ (fun g2 w' hw' => ?_)
           clear HW; have HW := Lib.hid hw'; clear hw'; (try simp only [hps_rules] at HW); (try simp only [put_rules]))
        | (refine wpList_runs HW.out rfl (HBB.out _ _ _ _ _ _ _ rfl rfl rfl rfl rfl) ?_; simp only [put_rules])
        | (refine bodyPost_ret (results_cellS1 rfl HW.out 1 rfl rfl Tryd.underlying42 rfl (by kernel_rfl)) rfl ?_
           rw [show bareM _ = ({ Msg.zero with kind := 2, frm := frm, to := to, id := id, code := code } : Msg) from rfl]
           exact ⟨rfl, HW.out.tail.tail.tail⟩))
    · skip
      have hO : SgOk (Msg.segs ({ Msg.zero with kind := 2, frm := frm, to := to, id := id, yes := true, hash := hash, root := root } : Msg)) := Msg.segs_ok ⟨Ed.zero_ok, hhash.1, hroot.1⟩
      go_enter Tryd.func72, Tryd.ntmps72
      go_wp2_with (first
        | go_skip
        | (refine wpList_runs HW.out rfl (runs_ldA 0 (ty := 42) (n := 107) rfl rfl rfl (by kernel_rfl) Tryd.underlying42 rfl (by kernel_rfl)) ?_; simp only [put_rules])
        | (refine wpList_runs HW.out rfl (runs_ldR 2 (ty := 40) (n := 35) rfl rfl rfl rfl Tryd.underlying40 rfl (by kernel_rfl)) ?_; simp only [put_rules])
        | (refine wpList_runs HW.out rfl (runs_ld1 1 rfl rfl rfl rfl (by kernel_rfl)) ?_; simp only [put_rules])
        | (refine wpList_runs HW.out rfl (runs_ld1 2 rfl rfl rfl rfl (by kernel_rfl)) ?_; simp only [put_rules])
        | (refine wpList_stA HW.out rfl (ty := 42) (n := 107) rfl rfl 0 rfl rfl (by assumption) (by kernel_rfl) (by kernel_rfl) (by kernel_rfl) (fun w' hw' => ?_); clear HW; have HW := Lib.hid hw'; clear hw'; (try simp only [hps_rules] at HW); (try simp only [put_rules]))
        | (refine wpList_stR HW.out rfl (ty := 40) (n := 35) rfl rfl 0 rfl rfl rfl (by assumption) (by kernel_rfl) (by kernel_rfl) (fun w' hw' => ?_); clear HW; have HW := Lib.hid hw'; clear hw'; (try simp only [hps_rules] at HW); (try simp only [put_rules]))
        | (refine wpList_st1 HW.out rfl rfl rfl 0 rfl rfl rfl rfl (by kernel_rfl) (fun w' hw' => ?_); clear HW; have HW := Lib.hid hw'; clear hw'; (try simp only [hps_rules] at HW); (try simp only [put_rules]))
        | (refine wpList_stA HW.out rfl (ty := 42) (n := 107) rfl rfl 1 rfl (M := Msg.segs { Msg.zero with kind := 2, frm := frm, to := to, id := id, yes := true, hash := hash, root := root }) rfl hO (by kernel_rfl) (by kernel_rfl) (by kernel_rfl) (fun w' hw' => ?_)
           clear HW; have HW := Lib.hid hw'; clear hw'; (try simp only [hps_rules] at HW); (try simp only [put_rules]))
        | (refine wpList_box HW.out rfl rfl rfl rfl hR (fun g1 w' hw' => ?_)
           clear HW; have HW := Lib.hid hw'; clear hw'; (try simp only [hps_rules] at HW); (try simp only [put_rules]))
        | (refine wpList_alloc HW.out rfl (ty := 42) rfl (z := .agg (flat Msg.zero.segs).toArray) (by kernel_rfl) (M := Msg.zero.segs) rfl hZ (fun g2 w' hw' => ?_)
           clear HW; have HW := Lib.hid hw'; clear hw'; (try simp only [hps_rules] at HW); (try simp only [put_rules]))
        | (refine wpList_runs HW.out rfl (HBB.out _ _ _ _ _ _ _ rfl rfl rfl rfl rfl) ?_; simp only [put_rules]))
      refine wp_region_untilD 0 7 (by kernel_rfl) HW.out (fun w' hw' => ?_)
      clear HW; have HW := Lib.hid hw'; have HC := Lib.hid (hw'.drop 0 rfl); clear hw'
      simp only [era_rules] at HC ⊢
      simp only [rep_rules]
      first
      | (refine takeE 0 rfl rfl (runs_ldR 1 (ty := 22) (n := 32) rfl rfl rfl rfl Tryd.underlying22 rfl (by kernel_rfl)) HC.out (by kernel_rfl) (fun _ _ _ h => h) ?_)
      | (refine takeE 0 rfl rfl (runs_ld1 1 rfl rfl rfl rfl (by kernel_rfl)) HC.out (by kernel_rfl) (fun _ _ _ h => h) ?_)
      | (refine takeE 0 (v := ?_) rfl rfl (runs_of fun w => ?_) HC.out (by kernel_rfl) (fun _ _ _ h => h) ?_
         rotate_left
         · go_simp <;> (try with_reducible rfl))
      try simp only [put_rules]
      first
      | (refine takeE 1 rfl rfl (runs_ldR 1 (ty := 22) (n := 32) rfl rfl rfl rfl Tryd.underlying22 rfl (by kernel_rfl)) HC.out (by kernel_rfl) (fun _ _ _ h => h) ?_)
      | (refine takeE 1 rfl rfl (runs_ld1 1 rfl rfl rfl rfl (by kernel_rfl)) HC.out (by kernel_rfl) (fun _ _ _ h => h) ?_)
      | (refine takeE 1 (v := ?_) rfl rfl (runs_of fun w => ?_) HC.out (by kernel_rfl) (fun _ _ _ h => h) ?_
         rotate_left
         · go_simp <;> (try with_reducible rfl))
      try simp only [put_rules]
      first
      | (refine takeE 2 rfl rfl (runs_ldR 1 (ty := 22) (n := 32) rfl rfl rfl rfl Tryd.underlying22 rfl (by kernel_rfl)) HC.out (by kernel_rfl) (fun _ _ _ h => h) ?_)
      | (refine takeE 2 rfl rfl (runs_ld1 1 rfl rfl rfl rfl (by kernel_rfl)) HC.out (by kernel_rfl) (fun _ _ _ h => h) ?_)
      | (refine takeE 2 (v := ?_) rfl rfl (runs_of fun w => ?_) HC.out (by kernel_rfl) (fun _ _ _ h => h) ?_
         rotate_left
         · go_simp <;> (try with_reducible rfl))
      try simp only [put_rules]
      first
      | (refine takeE 3 rfl rfl (runs_ldR 1 (ty := 22) (n := 32) rfl rfl rfl rfl Tryd.underlying22 rfl (by kernel_rfl)) HC.out (by kernel_rfl) (fun _ _ _ h => h) ?_)
      | (refine takeE 3 rfl rfl (runs_ld1 1 rfl rfl rfl rfl (by kernel_rfl)) HC.out (by kernel_rfl) (fun _ _ _ h => h) ?_)
      | (refine takeE 3 (v := ?_) rfl rfl (runs_of fun w => ?_) HC.out (by kernel_rfl) (fun _ _ _ h => h) ?_
         rotate_left
         · go_simp <;> (try with_reducible rfl))
      try simp only [put_rules]
      first
      | (refine takeE 4 rfl rfl (runs_ldR 1 (ty := 22) (n := 32) rfl rfl rfl rfl Tryd.underlying22 rfl (by kernel_rfl)) HC.out (by kernel_rfl) (fun _ _ _ h => h) ?_)
      | (refine takeE 4 rfl rfl (runs_ld1 1 rfl rfl rfl rfl (by kernel_rfl)) HC.out (by kernel_rfl) (fun _ _ _ h => h) ?_)
      | (refine takeE 4 (v := ?_) rfl rfl (runs_of fun w => ?_) HC.out (by kernel_rfl) (fun _ _ _ h => h) ?_
         rotate_left
         · go_simp <;> (try with_reducible rfl))
      try simp only [put_rules]
      refine effE 5 rfl (by kernel_rfl) ?_
      refine wpList_stR HW.out rfl (ty := 22) (n := 32) rfl rfl 0 rfl (M := [.b 32 hash]) rfl rfl hhash (by kernel_rfl) (by kernel_rfl) (fun w' hw' => ?_)
      clear HW; have HW := Lib.hid hw'; clear hw'; (try simp only [hps_rules] at HW); (try simp only [put_rules])
      refine wpList_behind (And.intro (fun _ => (by exact HW.out.tail)) ?_)
      clear HC; have HC := Lib.hid (HW.out.tail)
      first
      | (refine takeE 6 (v := ?_) rfl rfl (runs_of fun w => ?_) HC.out (by kernel_rfl) (fun _ _ _ h => h) ?_
         rotate_left
         · go_simp <;> (try with_reducible rfl))
      try simp only [put_rules]
      refine effE 7 rfl (by kernel_rfl) ?_
      refine wpList_stR HW.out rfl (ty := 22) (n := 32) rfl rfl 0 rfl (M := [.b 32 root]) rfl rfl hroot (by kernel_rfl) (by kernel_rfl) (fun w' hw' => ?_)
      clear HW; have HW := Lib.hid hw'; clear hw'; (try simp only [hps_rules] at HW); (try simp only [put_rules])
      refine wpList_behind (And.intro (fun h => Bool.noConfusion (show true = false from h)) ?_)
      refine doneE (by kernel_rfl) ?_ _
      go_wp2_with (first
        | go_skip
        | (refine wpList_runs HW.out rfl (runs_ldA 0 (ty := 42) (n := 107) rfl rfl rfl (by kernel_rfl) Tryd.underlying42 rfl (by kernel_rfl)) ?_; simp only [put_rules])
        | (refine wpList_runs HW.out rfl (runs_ldR 2 (ty := 40) (n := 35) rfl rfl rfl rfl Tryd.underlying40 rfl (by kernel_rfl)) ?_; simp only [put_rules])
        | (refine wpList_runs HW.out rfl (runs_ld1 1 rfl rfl rfl rfl (by kernel_rfl)) ?_; simp only [put_rules])
        | (refine wpList_runs HW.out rfl (runs_ld1 2 rfl rfl rfl rfl (by kernel_rfl)) ?_; simp only [put_rules])
        | (refine wpList_stA HW.out rfl (ty := 42) (n := 107) rfl rfl 0 rfl rfl (by assumption) (by kernel_rfl) (by kernel_rfl) (by kernel_rfl) (fun w' hw' => ?_); clear HW; have HW := Lib.hid hw'; clear hw'; (try simp only [hps_rules] at HW); (try simp only [put_rules]))
        | (refine wpList_stR HW.out rfl (ty := 40) (n := 35) rfl rfl 0 rfl rfl rfl (by assumption) (by kernel_rfl) (by kernel_rfl) (fun w' hw' => ?_); clear HW; have HW := Lib.hid hw'; clear hw'; (try simp only [hps_rules] at HW); (try simp only [put_rules]))
        | (refine wpList_st1 HW.out rfl rfl rfl 0 rfl rfl rfl rfl (by kernel_rfl) (fun w' hw' => ?_); clear HW; have HW := Lib.hid hw'; clear hw'; (try simp only [hps_rules] at HW); (try simp only [put_rules]))
        | (refine wpList_stA HW.out rfl (ty := 42) (n := 107) rfl rfl 1 rfl (M := Msg.segs { Msg.zero with kind := 2, frm := frm, to := to, id := id, yes := true, hash := hash, root := root }) rfl hO (by kernel_rfl) (by kernel_rfl) (by kernel_rfl) (fun w' hw' => ?_)
           clear HW; have HW := Lib.hid hw'; clear hw'; (try simp only [hps_rules] at HW); (try simp only [put_rules]))
        | (refine wpList_box HW.out rfl rfl rfl rfl hR (fun g1 w' hw' => ?_)
           clear HW; have HW := Lib.hid hw'; clear hw'; (try simp only [hps_rules] at HW); (try simp only [put_rules]))
        | (refine wpList_alloc HW.out rfl (ty := 42) rfl (z := .agg (flat Msg.zero.segs).toArray) (by kernel_rfl) (M := Msg.zero.segs) rfl hZ (fun g2 w' hw' => ?_)
           clear HW; have HW := Lib.hid hw'; clear hw'; (try simp only [hps_rules] at HW); (try simp only [put_rules]))
        | (refine wpList_runs HW.out rfl (HBB.out _ _ _ _ _ _ _ rfl rfl rfl rfl rfl) ?_; simp only [put_rules])
        | (refine bodyPost_ret (results_cellS1 rfl HW.out 1 rfl rfl Tryd.underlying42 rfl (by kernel_rfl)) rfl ?_
           rw [show bareM _ = ({ Msg.zero with kind := 2, frm := frm, to := to, id := id, yes := true, hash := hash, root := root } : Msg) from rfl]
           exact ⟨rfl, HW.out.tail.tail.tail⟩))
  have e2 : (kind == 2) = false := beq_eq_false_iff_ne.2 h2
  by_cases h3 : kind = 3
  · subst h3
    clear h1 e1 h2 e2
    have hO : SgOk (Msg.segs ({ Msg.zero with kind := 3, frm := frm, to := to, id := id, commit := commit } : Msg)) := Msg.segs_ok ⟨Ed.zero_ok, length_zeros 32, length_zeros 32⟩
    go_enter Tryd.func72, Tryd.ntmps72
    go_wp2_with (first
      | go_skip
      | (refine wpList_runs HW.out rfl (runs_ldA 0 (ty := 42) (n := 107) rfl rfl rfl (by kernel_rfl) Tryd.underlying42 rfl (by kernel_rfl)) ?_; simp only [put_rules])
      | (refine wpList_runs HW.out rfl (runs_ldR 2 (ty := 40) (n := 35) rfl rfl rfl rfl Tryd.underlying40 rfl (by kernel_rfl)) ?_; simp only [put_rules])
      | (refine wpList_runs HW.out rfl (runs_ld1 1 rfl rfl rfl rfl (by kernel_rfl)) ?_; simp only [put_rules])
      | (refine wpList_runs HW.out rfl (runs_ld1 2 rfl rfl rfl rfl (by kernel_rfl)) ?_; simp only [put_rules])
      | (refine wpList_stA HW.out rfl (ty := 42) (n := 107) rfl rfl 0 rfl rfl (by assumption) (by kernel_rfl) (by kernel_rfl) (by kernel_rfl) (fun w' hw' => ?_); clear HW; have HW := Lib.hid hw'; clear hw'; (try simp only [hps_rules] at HW); (try simp only [put_rules]))
      | (refine wpList_stR HW.out rfl (ty := 40) (n := 35) rfl rfl 0 rfl rfl rfl (by assumption) (by kernel_rfl) (by kernel_rfl) (fun w' hw' => ?_); clear HW; have HW := Lib.hid hw'; clear hw'; (try simp only [hps_rules] at HW); (try simp only [put_rules]))
      | (refine wpList_st1 HW.out rfl rfl rfl 0 rfl rfl rfl rfl (by kernel_rfl) (fun w' hw' => ?_); clear HW; have HW := Lib.hid hw'; clear hw'; (try simp only [hps_rules] at HW); (try simp only [put_rules]))
      | (refine wpList_stA HW.out rfl (ty := 42) (n := 107) rfl rfl 1 rfl (M := Msg.segs { Msg.zero with kind := 3, frm := frm, to := to, id := id, commit := commit }) rfl hO (by kernel_rfl) (by kernel_rfl) (by kernel_rfl) (fun w' hw' => ?_)
         clear HW; have HW := Lib.hid hw'; clear hw'; (try simp only [hps_rules] at HW); (try simp only [put_rules]))
      | (refine wpList_box HW.out rfl rfl rfl rfl hR (fun g1 w' hw' => ?_)
         clear HW; have HW := Lib.hid hw'; clear hw'; (try simp only [hps_rules] at HW); (try simp only [put_rules]))
      | (refine wpList_alloc HW.out rfl (ty := 42) rfl (z := .agg (flat Msg.zero.segs).toArray) (by kernel_rfl) (M := Msg.zero.segs) rfl hZ (fun g2 w' hw' => ?_)
         clear HW; have HW := Lib.hid hw'; clear hw'; (try simp only [hps_rules] at HW); (try simp only [put_rules]))
      | (refine wpList_runs HW.out rfl (HBB.out _ _ _ _ _ _ _ rfl rfl rfl rfl rfl) ?_; simp only [put_rules])
      | (refine bodyPost_ret (results_cellS1 rfl HW.out 1 rfl rfl Tryd.underlying42 rfl (by kernel_rfl)) rfl ?_
         rw [show bareM _ = ({ Msg.zero with kind := 3, frm := frm, to := to, id := id, commit := commit } : Msg) from rfl]
         exact ⟨rfl, HW.out.tail.tail.tail⟩))
  have e3 : (kind == 3) = false := beq_eq_false_iff_ne.2 h3
  by_cases h6 : kind = 6
  · subst h6
    clear h1 e1 h2 e2 h3 e3
    have hO : SgOk (Msg.segs ({ Msg.zero with kind := 6, frm := frm, to := to, id := id, commit := commit } : Msg)) := Msg.segs_ok ⟨Ed.zero_ok, length_zeros 32, length_zeros 32⟩
    go_enter Tryd.func72, Tryd.ntmps72
    go_wp2_with (first
      | go_skip
      | (refine wpList_runs HW.out rfl (runs_ldA 0 (ty := 42) (n := 107) rfl rfl rfl (by kernel_rfl) Tryd.underlying42 rfl (by kernel_rfl)) ?_; simp only [put_rules])
      | (refine wpList_runs HW.out rfl (runs_ldR 2 (ty := 40) (n := 35) rfl rfl rfl rfl Tryd.underlying40 rfl (by kernel_rfl)) ?_; simp only [put_rules])
      | (refine wpList_runs HW.out rfl (runs_ld1 1 rfl rfl rfl rfl (by kernel_rfl)) ?_; simp only [put_rules])
      | (refine wpList_runs HW.out rfl (runs_ld1 2 rfl rfl rfl rfl (by kernel_rfl)) ?_; simp only [put_rules])
      | (refine wpList_stA HW.out rfl (ty := 42) (n := 107) rfl rfl 0 rfl rfl (by assumption) (by kernel_rfl) (by kernel_rfl) (by kernel_rfl) (fun w' hw' => ?_); clear HW; have HW := Lib.hid hw'; clear hw'; (try simp only [hps_rules] at HW); (try simp only [put_rules]))
      | (refine wpList_stR HW.out rfl (ty := 40) (n := 35) rfl rfl 0 rfl rfl rfl (by assumption) (by kernel_rfl) (by kernel_rfl) (fun w' hw' => ?_); clear HW; have HW := Lib.hid hw'; clear hw'; (try simp only [hps_rules] at HW); (try simp only [put_rules]))
      | (refine wpList_st1 HW.out rfl rfl rfl 0 rfl rfl rfl rfl (by kernel_rfl) (fun w' hw' => ?_); clear HW; have HW := Lib.hid hw'; clear hw'; (try simp only [hps_rules] at HW); (try simp only [put_rules]))
      | (refine wpList_stA HW.out rfl (ty := 42) (n := 107) rfl rfl 1 rfl (M := Msg.segs { Msg.zero with kind := 6, frm := frm, to := to, id := id, commit := commit }) rfl hO (by kernel_rfl) (by kernel_rfl) (by kernel_rfl) (fun w' hw' => ?_)
         clear HW; have HW := Lib.hid hw'; clear hw'; (try simp only [hps_rules] at HW); (try simp only [put_rules]))
      | (refine wpList_box HW.out rfl rfl rfl rfl hR (fun g1 w' hw' => ?_)
         clear HW; have HW := Lib.hid hw'; clear hw'; (try simp only [hps_rules] at HW); (try simp only [put_rules]))
      | (refine wpList_alloc HW.out rfl (ty := 42) rfl (z := .agg (flat Msg.zero.segs).toArray) (by kernel_rfl) (M := Msg.zero.segs) rfl hZ (fun g2 w' hw' => ?_)
         clear HW; have HW := Lib.hid hw'; clear hw'; (try simp only [hps_rules] at HW); (try simp only [put_rules]))
      | (refine wpList_runs HW.out rfl (HBB.out _ _ _ _ _ _ _ rfl rfl rfl rfl rfl) ?_; simp only [put_rules])
      | (refine bodyPost_ret (results_cellS1 rfl HW.out 1 rfl rfl Tryd.underlying42 rfl (by kernel_rfl)) rfl ?_
         rw [show bareM _ = ({ Msg.zero with kind := 6, frm := frm, to := to, id := id, commit := commit } : Msg) from rfl]
         exact ⟨rfl, HW.out.tail.tail.tail⟩))
  have e6 : (kind == 6) = false := beq_eq_false_iff_ne.2 h6
  have KK := Lib.hid (And.intro h1 (And.intro h2 (And.intro h3 h6)))
  clear h1 h2 h3 h6
  have hO : SgOk (Msg.segs ({ Msg.zero with kind := kind, frm := frm, to := to, id := id } : Msg)) := Msg.segs_ok ⟨Ed.zero_ok, length_zeros 32, length_zeros 32⟩
  go_enter Tryd.func72, Tryd.ntmps72
  go_wp2_with (first
    | go_skip
    | (refine wpList_runs HW.out rfl (runs_ldA 0 (ty := 42) (n := 107) rfl rfl rfl (by kernel_rfl) Tryd.underlying42 rfl (by kernel_rfl)) ?_; simp only [put_rules])
    | (refine wpList_runs HW.out rfl (runs_ldR 2 (ty := 40) (n := 35) rfl rfl rfl rfl Tryd.underlying40 rfl (by kernel_rfl)) ?_; simp only [put_rules])
    | (refine wpList_runs HW.out rfl (runs_ld1 1 rfl rfl rfl rfl (by kernel_rfl)) ?_; simp only [put_rules])
    | (refine wpList_runs HW.out rfl (runs_ld1 2 rfl rfl rfl rfl (by kernel_rfl)) ?_; simp only [put_rules])
    | (refine wpList_stA HW.out rfl (ty := 42) (n := 107) rfl rfl 0 rfl rfl (by assumption) (by kernel_rfl) (by kernel_rfl) (by kernel_rfl) (fun w' hw' => ?_); clear HW; have HW := Lib.hid hw'; clear hw'; (try simp only [hps_rules] at HW); (try simp only [put_rules]))
    | (refine wpList_stR HW.out rfl (ty := 40) (n := 35) rfl rfl 0 rfl rfl rfl (by assumption) (by kernel_rfl) (by kernel_rfl) (fun w' hw' => ?_); clear HW; have HW := Lib.hid hw'; clear hw'; (try simp only [hps_rules] at HW); (try simp only [put_rules]))
    | (refine wpList_st1 HW.out rfl rfl rfl 0 rfl rfl rfl rfl (by kernel_rfl) (fun w' hw' => ?_); clear HW; have HW := Lib.hid hw'; clear hw'; (try simp only [hps_rules] at HW); (try simp only [put_rules]))
    | (refine wpList_stA HW.out rfl (ty := 42) (n := 107) rfl rfl 1 rfl (M := Msg.segs { Msg.zero with kind := kind, frm := frm, to := to, id := id }) rfl hO (by kernel_rfl) (by kernel_rfl) (by kernel_rfl) (fun w' hw' => ?_)
       clear HW; have HW := Lib.hid hw'; clear hw'; (try simp only [hps_rules] at HW); (try simp only [put_rules]))
    | (refine wpList_box HW.out rfl rfl rfl rfl hR (fun g1 w' hw' => ?_)
       clear HW; have HW := Lib.hid hw'; clear hw'; (try simp only [hps_rules] at HW); (try simp only [put_rules]))
    | (refine wpList_alloc HW.out rfl (ty := 42) rfl (z := .agg (flat Msg.zero.segs).toArray) (by kernel_rfl) (M := Msg.zero.segs) rfl hZ (fun g2 w' hw' => ?_)
       clear HW; have HW := Lib.hid hw'; clear hw'; (try simp only [hps_rules] at HW); (try simp only [put_rules]))
    | (refine wpList_runs HW.out rfl (HBB.out _ _ _ _ _ _ _ rfl rfl rfl rfl rfl) ?_; simp only [put_rules])
    | (refine bodyPost_ret (results_cellS1 rfl HW.out 1 rfl rfl Tryd.underlying42 rfl (by kernel_rfl)) rfl ?_
       rw [show bareM _ = ({ Msg.zero with kind := kind, frm := frm, to := to, id := id } : Msg) from (by unfold bareM; rw [if_neg KK.out.1, if_neg KK.out.2.1, if_neg KK.out.2.2.1, if_neg KK.out.2.2.2])]
       exact ⟨rfl, HW.out.tail.tail.tail⟩))
end Go.Proofs.YtibkngjacdggpaaDoor
