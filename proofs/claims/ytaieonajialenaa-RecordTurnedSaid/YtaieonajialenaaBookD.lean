/- Books: what they are asked, and Add. -/
import Derived.Test.YtaieonajialenaaBookC
namespace Go.Proofs.Ytaieonajialenaa
open Go.RowKit HP

section
variable (k : Bk) (hk : k.Ok) (b : Nat) (x : BX) (w : World) (R : List HP) (hh : Holds w (BkL b x k R))
include hh
theorem bEdits_ok : Calls Try.prog 33 #[.pointer (some ⟨b, 0, none⟩)] w fun e w' => e = .returned (.int .i64 k.edits.length) ∧ Holds w' (BkL b x k R) := by
  have HW : Hid (Holds w (_ :: _)) := hh
  clear hh
  go_enter Try.func33, Try.ntmps33
  go_wp2_with (first
    | go_skip
    | (refine wpList_runs HW.out rfl (runs_ld1 0 rfl rfl rfl rfl (by kernel_rfl)) ?_; simp only [put_rules]))
  go_ret
  exact ⟨rfl, HW.out⟩
theorem bPrepared_ok : Calls Try.prog 27 #[.pointer (some ⟨b, 0, none⟩)] w fun e w' => e = .returned (.int .u64 k.prep) ∧ Holds w' (BkL b x k R) := by
  have HW : Hid (Holds w (_ :: _)) := hh
  clear hh
  go_enter Try.func27, Try.ntmps27
  go_wp2_with (first
    | go_skip
    | (refine wpList_runs HW.out rfl (runs_ld1 0 rfl rfl rfl rfl (by kernel_rfl)) ?_; simp only [put_rules]))
  go_ret
  exact ⟨rfl, HW.out⟩
theorem bVersions_ok : Calls Try.prog 21 #[.pointer (some ⟨b, 0, none⟩)] w fun e w' => e = .returned (.int .i64 k.vers.length) ∧ Holds w' (BkL b x k R) := by
  have HW : Hid (Holds w (_ :: _)) := hh
  clear hh
  go_enter Try.func21, Try.ntmps21
  go_wp2_with (first
    | go_skip
    | (refine wpList_runs HW.out rfl (runs_ld1 0 rfl rfl rfl rfl (by kernel_rfl)) ?_; simp only [put_rules]))
  go_ret
  exact ⟨rfl, HW.out⟩
theorem bEnd_ok (id : Nat) {b1 b2 : Bool} (h1 : (kget k.ends id).getD false = b1) (h2 : (kget k.ends id).isSome = b2) :
    Calls Try.prog 20 #[.pointer (some ⟨b, 0, none⟩), .int .u64 (id : Int)] w fun e w' => e = .returned (.tuple #[.bool b1, .bool b2]) ∧ Holds w' (BkL b x k R) := by
  have HW : Hid (Holds w (_ :: _)) := hh
  have H1 := Lib.hid h1
  have H2 := Lib.hid h2
  clear hh h1 h2
  go_enter Try.func20, Try.ntmps20
  go_wp2_with (first
    | go_skip
    | (refine wpList_runs HW.out rfl (runs_ld1 0 rfl rfl rfl rfl (by kernel_rfl)) ?_; simp only [put_rules])
    | (refine wpList_runs HW.out rfl (runs_lookup 3 rfl rfl rfl rfl Try.underlying111 Try.underlying23 false (by kernel_rfl) H1.out H2.out) ?_; simp only [put_rules]))
  go_ret2
  exact ⟨rfl, HW.out⟩
include hk
set_option maxRecDepth 100000 in
theorem bVote_ok (id : Nat) {v : Vt} {b2 : Bool} (h1 : (kget k.votes id).getD Vt.zero = v) (h2 : (kget k.votes id).isSome = b2) :
    Calls Try.prog 19 #[.pointer (some ⟨b, 0, none⟩), .int .u64 (id : Int)] w fun e w' => e = .returned (.tuple #[v.val, .bool b2]) ∧ Holds w' (BkL b x k R) := by
  have hv := Vt.segs_ok (Bk.vote_ok hk id)
  rw [h1] at hv
  have HW : Hid (Holds w (_ :: _)) := hh
  have H1 := Lib.hid h1
  have H2 := Lib.hid h2
  clear hh h1 h2 hk
  go_enter Try.func19, Try.ntmps19
  go_wp2_with (first
    | go_skip
    | (refine wpList_runs HW.out rfl (runs_ldR 0 (ty := 40) (n := 70) rfl rfl rfl rfl Try.underlying40 rfl (by kernel_rfl)) ?_; simp only [put_rules])
    | (refine wpList_runs HW.out rfl (runs_ldR 1 (ty := 40) (n := 70) rfl rfl rfl rfl Try.underlying40 rfl (by kernel_rfl)) ?_; simp only [put_rules])
    | (refine wpList_runs HW.out rfl (runs_ldR 2 (ty := 40) (n := 70) rfl rfl rfl rfl Try.underlying40 rfl (by kernel_rfl)) ?_; simp only [put_rules])
    | (refine wpList_runs HW.out rfl (runs_ld1 0 rfl rfl rfl rfl (by kernel_rfl)) ?_; simp only [put_rules])
    | (refine wpList_runs HW.out rfl (runs_ld1 1 rfl rfl rfl rfl (by kernel_rfl)) ?_; simp only [put_rules])
    | (refine wpList_runs HW.out rfl (runs_ld1 2 rfl rfl rfl rfl (by kernel_rfl)) ?_; simp only [put_rules])
    | (refine wpList_stR HW.out rfl (ty := 40) (n := 70) rfl rfl 0 rfl rfl rfl (by assumption) rfl (by kernel_rfl) (fun w' hw' => ?_); clear HW; have HW := Lib.hid hw'; clear hw'; (try simp only [hps_rules] at HW); (try simp only [put_rules]))
    | (refine wpList_stR HW.out rfl (ty := 40) (n := 70) rfl rfl 1 rfl rfl rfl (by assumption) rfl (by kernel_rfl) (fun w' hw' => ?_); clear HW; have HW := Lib.hid hw'; clear hw'; (try simp only [hps_rules] at HW); (try simp only [put_rules]))
    | (refine wpList_stR HW.out rfl (ty := 40) (n := 70) rfl rfl 2 rfl rfl rfl (by assumption) rfl (by kernel_rfl) (fun w' hw' => ?_); clear HW; have HW := Lib.hid hw'; clear hw'; (try simp only [hps_rules] at HW); (try simp only [put_rules]))
    | (refine wpList_st1 HW.out rfl rfl rfl 0 rfl rfl rfl rfl (by kernel_rfl) (fun w' hw' => ?_); clear HW; have HW := Lib.hid hw'; clear hw'; (try simp only [hps_rules] at HW); (try simp only [put_rules]))
    | (refine wpList_st1 HW.out rfl rfl rfl 1 rfl rfl rfl rfl (by kernel_rfl) (fun w' hw' => ?_); clear HW; have HW := Lib.hid hw'; clear hw'; (try simp only [hps_rules] at HW); (try simp only [put_rules]))
    | (refine wpList_st1 HW.out rfl rfl rfl 2 rfl rfl rfl rfl (by kernel_rfl) (fun w' hw' => ?_); clear HW; have HW := Lib.hid hw'; clear hw'; (try simp only [hps_rules] at HW); (try simp only [put_rules]))
    | (refine wpList_alloc HW.out rfl rfl (z := Vt.zero.val) (by kernel_rfl) (M := Vt.zero.segs) rfl (Vt.segs_ok Vt.zero_ok) (fun g w' hw' => ?_)
       clear HW; have HW := Lib.hid hw'; clear hw'; (try simp only [hps_rules] at HW); (try simp only [put_rules]))
    | (refine wpList_runs HW.out rfl (runs_lookup 3 rfl rfl rfl rfl Try.underlying110 Try.underlying23 Vt.zero (by kernel_rfl) H1.out H2.out) ?_; simp only [put_rules]))
  refine bodyPost_ret (results_cellS rfl HW.out 1 rfl rfl Try.underlying40 rfl (by kernel_rfl)) rfl ?_
  exact ⟨rfl, HW.out.tail.tail⟩
end
section
variable (w : World) (R : List HP) (hh : Holds w R)
include hh
theorem bEdits_nil : Calls Try.prog 33 #[.pointer none] w fun e w' => e = .returned (.int .i64 0) ∧ Holds w' R := by
  go_enter Try.func33, Try.ntmps33
  go_wp2
  go_ret
  exact ⟨rfl, hh⟩
theorem bPrepared_nil : Calls Try.prog 27 #[.pointer none] w fun e w' => e = .returned (.int .u64 0) ∧ Holds w' R := by
  go_enter Try.func27, Try.ntmps27
  go_wp2
  go_ret
  exact ⟨rfl, hh⟩
theorem bVersions_nil : Calls Try.prog 21 #[.pointer none] w fun e w' => e = .returned (.int .i64 0) ∧ Holds w' R := by
  go_enter Try.func21, Try.ntmps21
  go_wp2
  go_ret
  exact ⟨rfl, hh⟩
theorem bEnd_nil (id : Nat) : Calls Try.prog 20 #[.pointer none, .int .u64 (id : Int)] w fun e w' => e = .returned (.tuple #[.bool false, .bool false]) ∧ Holds w' R := by
  go_enter Try.func20, Try.ntmps20
  go_wp2
  go_ret2
  exact ⟨rfl, hh⟩
end
end Go.Proofs.Ytaieonajialenaa
