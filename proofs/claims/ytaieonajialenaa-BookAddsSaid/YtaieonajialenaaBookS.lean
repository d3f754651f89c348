/- The reference's book: Add. -/
import Derived.Test.YtaieonajialenaaBookR
namespace Go.Proofs.Ytaieonajialenaa
open Go.RowKit HP

def rAdd (Q : List Rec) (r : Rec) : List Rec × Int := if formedR r = true then (if rFits Q r = true then (Q ++ [r], 0) else (Q, 17)) else (Q, 1)
section
variable {p : Nat} {A : Option Addr} {c : Nat} {first : List UInt8} {Q : List Rec} {w : World} {R : List HP}
set_option maxRecDepth 100000 in
set_option maxHeartbeats 2000000 in
theorem rbAdd_ok (hQ : Q.length ≤ 1000) (r : Rec) (hr : r.Wf) (hh : Holds w (RbH p first Q :: R)) {m : Int} (hm : (rAdd Q r).2 = m) :
    Calls Try.prog 30 #[.pointer (some ⟨p, 0, none⟩), .agg (flat r.segs).toArray] w fun e w' => e = .returned (.int .i64 m) ∧ Holds w' (RbH p first (rAdd Q r).1 :: R) := by
  obtain ⟨A, c, hh⟩ := hh.rb_open
  have HW : Hid (Holds w (_ :: _)) := hh
  have HR := Lib.hid hr
  have HS := Lib.hid (Rec.segs_ok hr.ok)
  have HM := Lib.hid hm
  clear hh hm hr
  obtain ⟨f1, hf⟩ : ∃ f, formedR r = f := ⟨_, rfl⟩
  have HF := Lib.hid hf
  cases f1
  · have HD : Hid (rAdd Q r = (Q, 1)) := by unfold Hid rAdd; rw [hf]; rfl
    have hbo : m = 1 := by rw [← HM.out, HD.out]
    subst hbo
    rw [HD.out]
    clear hf HM HD
    go_enter Try.func30, Try.ntmps30
    go_wp2_with (first
      | go_skip
      | (refine wpList_runs HW.out rfl (runs_ldR 2 (ty := 38) (n := 74) (m := Rec.segs r) rfl rfl rfl rfl Try.underlying38 rfl (by kernel_rfl)) ?_; simp only [put_rules])
      | (refine wpList_box HW.out rfl rfl rfl rfl HS.out (fun gb w' hw' => ?_)
         replace hw' : Holds w' (_ :: _ :: _ :: R) := RbL.behind hw'
         clear HW; have HW := Lib.hid hw'; clear hw'; (try simp only [hps_rules] at HW); (try simp only [put_rules]))
      | ((go_at_call 36; have hc := rformedS r HR.out _ _ HW.out HF.out; with_reducible refine hc.mono ?_; clear hc)
         rintro e w2 ⟨rfl, hw'⟩
         clear HW; have HW := Lib.hid hw'; clear hw'; (try simp only [hps_rules] at HW)))
    go_ret
    exact ⟨rfl, Holds.rb_close (RbL.front HW.out).tail⟩
  obtain ⟨f2, hf2⟩ : ∃ f, rFits Q r = f := ⟨_, rfl⟩
  have HF2 : Hid ((formedR r && rFits Q r) = f2) := by unfold Hid; rw [hf, hf2]; rfl
  cases f2
  · have HD : Hid (rAdd Q r = (Q, 17)) := by unfold Hid rAdd; rw [hf, hf2]; rfl
    have hbo : m = 17 := by rw [← HM.out, HD.out]
    subst hbo
    rw [HD.out]
    clear hf hf2 HM HD
    go_enter Try.func30, Try.ntmps30
    go_wp2_with (first
      | go_skip
      | (refine wpList_runs HW.out rfl (runs_ldR 2 (ty := 38) (n := 74) (m := Rec.segs r) rfl rfl rfl rfl Try.underlying38 rfl (by kernel_rfl)) ?_; simp only [put_rules])
      | (refine wpList_box HW.out rfl rfl rfl rfl HS.out (fun gb w' hw' => ?_)
         replace hw' : Holds w' (_ :: _ :: _ :: R) := RbL.behind hw'
         clear HW; have HW := Lib.hid hw'; clear hw'; (try simp only [hps_rules] at HW); (try simp only [put_rules]))
      | ((go_at_call 36; have hc := rformedS r HR.out _ _ HW.out HF.out; with_reducible refine hc.mono ?_; clear hc)
         rintro e w2 ⟨rfl, hw'⟩
         clear HW; have HW := Lib.hid hw'; clear hw'; (try simp only [hps_rules] at HW))
      | ((go_at_call 29; have hc := rbFits_ok hQ r HR.out HW.out HF2.out; with_reducible refine hc.mono ?_; clear hc)
         rintro e w2 ⟨rfl, hw'⟩
         replace hw' : Holds w2 (_ :: _ :: _ :: R) := hw'
         clear HW; have HW := Lib.hid hw'; clear hw'; (try simp only [hps_rules] at HW)))
    go_ret
    exact ⟨rfl, Holds.rb_close (RbL.front HW.out).tail⟩
  have HD : Hid (rAdd Q r = (Q ++ [r], 0)) := by unfold Hid rAdd; rw [hf, hf2]; rfl
  have hbo : m = 0 := by rw [← HM.out, HD.out]
  subst hbo
  rw [HD.out]
  have HL : Hid (Q.length + 1 ≤ maxLen ∧ (Q.length + 1) * 144 ≤ 140737488355328) := by unfold Hid maxLen; omega
  clear hf hf2 HM HD
  go_enter Try.func30, Try.ntmps30
  go_wp2_with (first
    | go_skip
    | (refine wpList_runs HW.out rfl (runs_ldR 2 (ty := 38) (n := 74) (m := Rec.segs r) rfl rfl rfl rfl Try.underlying38 rfl (by kernel_rfl)) ?_; simp only [put_rules])
    | (refine wpList_box HW.out rfl rfl rfl rfl HS.out (fun gb w' hw' => ?_)
       replace hw' : Holds w' (_ :: _ :: _ :: R) := RbL.behind hw'
       clear HW; have HW := Lib.hid hw'; clear hw'; (try simp only [hps_rules] at HW); (try simp only [put_rules]))
    | ((go_at_call 36; have hc := rformedS r HR.out _ _ HW.out HF.out; with_reducible refine hc.mono ?_; clear hc)
       rintro e w2 ⟨rfl, hw'⟩
       clear HW; have HW := Lib.hid hw'; clear hw'; (try simp only [hps_rules] at HW))
    | ((go_at_call 29; have hc := rbFits_ok hQ r HR.out HW.out HF2.out; with_reducible refine hc.mono ?_; clear hc)
       rintro e w2 ⟨rfl, hw'⟩
       replace hw' : Holds w2 (_ :: _ :: _ :: R) := hw'
       clear HW; have HW := Lib.hid hw'; clear hw'; (try simp only [hps_rules] at HW)))
  refine wp_region_untilD 1 10 (by kernel_rfl) HW.out (fun w' hw' => ?_)
  clear HW; have HW := Lib.hid hw'; have HC := Lib.hid (hw'.drop 1 rfl); clear hw'
  simp only [era_rules] at HC ⊢
  simp only [rep_rules]
  first
  | (refine takeE 0 rfl rfl (runs_ldR 0 (ty := 38) (n := 74) rfl rfl rfl rfl Try.underlying38 rfl (by kernel_rfl)) HC.out (by kernel_rfl) (fun _ _ _ h => h) ?_)
  | (refine takeE 0 rfl rfl (runs_ldR 1 (ty := 38) (n := 74) rfl rfl rfl rfl Try.underlying38 rfl (by kernel_rfl)) HC.out (by kernel_rfl) (fun _ _ _ h => h) ?_)
  | (refine takeE 0 rfl rfl (runs_ld1 0 rfl rfl rfl rfl (by kernel_rfl)) HC.out (by kernel_rfl) (fun _ _ _ h => h) ?_)
  | (refine takeE 0 rfl rfl (runs_ld1 1 rfl rfl rfl rfl (by kernel_rfl)) HC.out (by kernel_rfl) (fun _ _ _ h => h) ?_)
  | (refine takeE 0 (v := ?_) rfl rfl (runs_of fun w => ?_) HC.out (by kernel_rfl) (fun _ _ _ h => h) ?_
     rotate_left
     · go_simp <;> (try with_reducible rfl))
  try simp only [put_rules]
  first
  | (refine takeE 1 rfl rfl (runs_ldR 0 (ty := 38) (n := 74) rfl rfl rfl rfl Try.underlying38 rfl (by kernel_rfl)) HC.out (by kernel_rfl) (fun _ _ _ h => h) ?_)
  | (refine takeE 1 rfl rfl (runs_ldR 1 (ty := 38) (n := 74) rfl rfl rfl rfl Try.underlying38 rfl (by kernel_rfl)) HC.out (by kernel_rfl) (fun _ _ _ h => h) ?_)
  | (refine takeE 1 rfl rfl (runs_ld1 0 rfl rfl rfl rfl (by kernel_rfl)) HC.out (by kernel_rfl) (fun _ _ _ h => h) ?_)
  | (refine takeE 1 rfl rfl (runs_ld1 1 rfl rfl rfl rfl (by kernel_rfl)) HC.out (by kernel_rfl) (fun _ _ _ h => h) ?_)
  | (refine takeE 1 (v := ?_) rfl rfl (runs_of fun w => ?_) HC.out (by kernel_rfl) (fun _ _ _ h => h) ?_
     rotate_left
     · go_simp <;> (try with_reducible rfl))
  try simp only [put_rules]
  first
  | (refine takeE 2 rfl rfl (runs_ldR 0 (ty := 38) (n := 74) rfl rfl rfl rfl Try.underlying38 rfl (by kernel_rfl)) HC.out (by kernel_rfl) (fun _ _ _ h => h) ?_)
  | (refine takeE 2 rfl rfl (runs_ldR 1 (ty := 38) (n := 74) rfl rfl rfl rfl Try.underlying38 rfl (by kernel_rfl)) HC.out (by kernel_rfl) (fun _ _ _ h => h) ?_)
  | (refine takeE 2 rfl rfl (runs_ld1 0 rfl rfl rfl rfl (by kernel_rfl)) HC.out (by kernel_rfl) (fun _ _ _ h => h) ?_)
  | (refine takeE 2 rfl rfl (runs_ld1 1 rfl rfl rfl rfl (by kernel_rfl)) HC.out (by kernel_rfl) (fun _ _ _ h => h) ?_)
  | (refine takeE 2 (v := ?_) rfl rfl (runs_of fun w => ?_) HC.out (by kernel_rfl) (fun _ _ _ h => h) ?_
     rotate_left
     · go_simp <;> (try with_reducible rfl))
  try simp only [put_rules]
  first
  | (refine takeE 3 rfl rfl (runs_ldR 0 (ty := 38) (n := 74) rfl rfl rfl rfl Try.underlying38 rfl (by kernel_rfl)) HC.out (by kernel_rfl) (fun _ _ _ h => h) ?_)
  | (refine takeE 3 rfl rfl (runs_ldR 1 (ty := 38) (n := 74) rfl rfl rfl rfl Try.underlying38 rfl (by kernel_rfl)) HC.out (by kernel_rfl) (fun _ _ _ h => h) ?_)
  | (refine takeE 3 rfl rfl (runs_ld1 0 rfl rfl rfl rfl (by kernel_rfl)) HC.out (by kernel_rfl) (fun _ _ _ h => h) ?_)
  | (refine takeE 3 rfl rfl (runs_ld1 1 rfl rfl rfl rfl (by kernel_rfl)) HC.out (by kernel_rfl) (fun _ _ _ h => h) ?_)
  | (refine takeE 3 (v := ?_) rfl rfl (runs_of fun w => ?_) HC.out (by kernel_rfl) (fun _ _ _ h => h) ?_
     rotate_left
     · go_simp <;> (try with_reducible rfl))
  try simp only [put_rules]
  first
  | (refine takeE 4 rfl rfl (runs_ldR 0 (ty := 38) (n := 74) rfl rfl rfl rfl Try.underlying38 rfl (by kernel_rfl)) HC.out (by kernel_rfl) (fun _ _ _ h => h) ?_)
  | (refine takeE 4 rfl rfl (runs_ldR 1 (ty := 38) (n := 74) rfl rfl rfl rfl Try.underlying38 rfl (by kernel_rfl)) HC.out (by kernel_rfl) (fun _ _ _ h => h) ?_)
  | (refine takeE 4 rfl rfl (runs_ld1 0 rfl rfl rfl rfl (by kernel_rfl)) HC.out (by kernel_rfl) (fun _ _ _ h => h) ?_)
  | (refine takeE 4 rfl rfl (runs_ld1 1 rfl rfl rfl rfl (by kernel_rfl)) HC.out (by kernel_rfl) (fun _ _ _ h => h) ?_)
  | (refine takeE 4 (v := ?_) rfl rfl (runs_of fun w => ?_) HC.out (by kernel_rfl) (fun _ _ _ h => h) ?_
     rotate_left
     · go_simp <;> (try with_reducible rfl))
  try simp only [put_rules]
  first
  | (refine takeE 5 rfl rfl (runs_ldR 0 (ty := 38) (n := 74) rfl rfl rfl rfl Try.underlying38 rfl (by kernel_rfl)) HC.out (by kernel_rfl) (fun _ _ _ h => h) ?_)
  | (refine takeE 5 rfl rfl (runs_ldR 1 (ty := 38) (n := 74) rfl rfl rfl rfl Try.underlying38 rfl (by kernel_rfl)) HC.out (by kernel_rfl) (fun _ _ _ h => h) ?_)
  | (refine takeE 5 rfl rfl (runs_ld1 0 rfl rfl rfl rfl (by kernel_rfl)) HC.out (by kernel_rfl) (fun _ _ _ h => h) ?_)
  | (refine takeE 5 rfl rfl (runs_ld1 1 rfl rfl rfl rfl (by kernel_rfl)) HC.out (by kernel_rfl) (fun _ _ _ h => h) ?_)
  | (refine takeE 5 (v := ?_) rfl rfl (runs_of fun w => ?_) HC.out (by kernel_rfl) (fun _ _ _ h => h) ?_
     rotate_left
     · go_simp <;> (try with_reducible rfl))
  try simp only [put_rules]
  refine effE 6 rfl (by kernel_rfl) ?_
  refine wpList_slice1 HW.out rfl rfl Try.underlying22 (z := .agg (flat Rec.zero.segs).toArray) (n := 74) (by kernel_rfl) (by decide) (by decide) (M := Rec.segs r) rfl HS.out rfl (fun g2 w' hw' => ?_)
  clear HW; have HW := Lib.hid hw'; clear hw'; (try simp only [hps_rules] at HW); (try simp only [put_rules])
  refine wpList_behind (And.intro (fun _ => (by exact HW.out.tail.drop 1 rfl)) ?_)
  refine effE 7 rfl (by kernel_rfl) ?_
  refine wpList_app1 HW.out 2 0 rfl rfl rfl rfl rfl r rfl HS.out rfl Try.underlying22 (.agg (flat Rec.zero.segs).toArray) 144 (by kernel_rfl) rfl (by decide) HL.out.1 HL.out.2 (fun v' w' hw' => ?_)
  clear HW; have HW := Lib.hid hw'; clear hw'; (try simp only [hps_rules] at HW); (try simp only [put_rules])
  refine wpList_behind (And.intro (fun _ => (by exact HW.out.tail.drop 1 rfl)) ?_)
  obtain ⟨A1, c1, rfl, _, _, _⟩ := HW.out.arr_form 2 rfl
  clear HC; have HC := Lib.hid (HW.out.tail.drop 1 rfl)
  first
  | (refine takeE 8 rfl rfl (runs_ld1 0 rfl rfl rfl rfl (by kernel_rfl)) HC.out (by kernel_rfl) (fun _ _ _ h => h) ?_)
  | (refine takeE 8 rfl rfl (runs_ld1 1 rfl rfl rfl rfl (by kernel_rfl)) HC.out (by kernel_rfl) (fun _ _ _ h => h) ?_)
  | (refine takeE 8 (v := ?_) rfl rfl (runs_of fun w => ?_) HC.out (by kernel_rfl) (fun _ _ _ h => h) ?_
     rotate_left
     · go_simp <;> (try with_reducible rfl))
  try simp only [put_rules]
  first
  | (refine takeE 9 rfl rfl (runs_ld1 0 rfl rfl rfl rfl (by kernel_rfl)) HC.out (by kernel_rfl) (fun _ _ _ h => h) ?_)
  | (refine takeE 9 rfl rfl (runs_ld1 1 rfl rfl rfl rfl (by kernel_rfl)) HC.out (by kernel_rfl) (fun _ _ _ h => h) ?_)
  | (refine takeE 9 (v := ?_) rfl rfl (runs_of fun w => ?_) HC.out (by kernel_rfl) (fun _ _ _ h => h) ?_
     rotate_left
     · go_simp <;> (try with_reducible rfl))
  try simp only [put_rules]
  refine effE 10 rfl (by kernel_rfl) ?_
  refine wpList_st1 HW.out rfl rfl rfl 1 rfl rfl rfl rfl (by kernel_rfl) (fun w' hw' => ?_)
  clear HW; have HW := Lib.hid hw'; clear hw'; (try simp only [hps_rules] at HW); (try simp only [put_rules])
  refine wpList_behind (And.intro (fun h => Bool.noConfusion (show true = false from h)) ?_)
  refine doneE (by kernel_rfl) ?_ _
  go_wp2
  go_ret
  refine ⟨rfl, Holds.rb_close (A := A1) (c := c1) (p := p) (first := first) ?_⟩
  have := (RbL.front HW.out.tail).tail
  exact this
end
end Go.Proofs.Ytaieonajialenaa
