/- redactorref22.FormedRecord, over segments. -/
import Derived.Test.YtaieonajialenaaRecQ
import Derived.Test.YtaieonajialenaaEff
namespace Go.Proofs.Ytaieonajialenaa
open Go.RowKit HP

set_option maxRecDepth 100000 in
set_option maxHeartbeats 8000000 in
theorem rformedS (r : Rec) (h : r.Wf) (w : World) (R : List HP) (hh : Holds w R) {bo : Bool} (hb : formedR r = bo) :
    Calls Try.prog 36 #[.agg (flat r.segs).toArray] w fun e w' => e = .returned (.bool bo) ∧ Holds w' R := by
  have HW := Lib.hid hh
  have HK := Lib.hid h.ok
  have hR := Rec.segs_ok h.ok
  obtain ⟨se, HSE⟩ : ∃ b, Hid (sameR r (bareR r) = b) := ⟨_, rfl⟩
  have he : ∀ w, (Op.equalIn 10000 38 (.agg (flat r.segs).toArray) (.agg (flat (bareR r).segs).toArray)).run Try.prog w = .ok se w := fun w => by rw [← HSE.out]; exact run_equal_rec (T := 38) (.inr rfl) h (bareR_wf h) w
  have ns := strSize r.ed.s
  have nt := strSize r.text
  have HB := Lib.hid hb
  have HKP : Hid ((Try.f80.name == "runtime.NumGoroutine" || Try.f80.body.isNone) = false) := by unfold Hid; kernel_rfl
  clear hh h hb
  by_cases g0 : 1 ≤ r.kind
  rotate_left
  · have d0 : decide (r.kind < 1) = true := decide_eq_true (by omega)
    have HF : bo = false := by rw [← HB.out]; simp [formedR, g0]
    subst HF
    go_enter Try.func36, Try.ntmps36
    go_wp2_with (first
      | (refine wpList_box HW.out rfl rfl rfl rfl hR (fun gb w' hw' => ?_)
         clear HW; have HW := Lib.hid hw'; clear hw'; (try simp only [hps_rules] at HW); (try simp only [put_rules])))
    refine wp_region_quietC (fun v => Holds v _) (by kernel_rfl) (by kernel_rfl) (HW.out.drewN 1) ?_
    repeat (first
      | go_big_quiet_skip
      | (go_big_quiet_want
         first
         | (refine quiet_runs (runs_ldR 0 (ty := 38) (n := 74) (m := Rec.segs r) rfl rfl rfl rfl Try.underlying38 rfl (by kernel_rfl)) ?_)
         | (refine quiet_callF 80 rfl Try.func80 HKP.out (al := [.agg (flat r.segs).toArray]) rfl (fun v hv => plainS r HK.out v _ hv) ?_)
         | (refine quiet_runs (runs_ld1 0 rfl rfl rfl rfl (by kernel_rfl)) ?_)
         | (refine quietV ?_ (fun v hv => ?_) ?_
            rotate_left
            · clear hv; go_simp <;> (try with_reducible rfl))
         (try simp only [put_rules])
         go_big_quiet_on))
    refine wpQuiet_nil (fun w' hw' => ?_)
    clear HW; have HW := Lib.hid hw'; clear hw'
    go_wp2
    go_ret
    exact ⟨rfl, HW.out.tail⟩
  have d0 : decide (r.kind < 1) = false := decide_eq_false (by omega)
  by_cases g1 : r.kind ≤ 4
  rotate_left
  · have d1 : decide (4 < r.kind) = true := decide_eq_true (by omega)
    have HF : bo = false := by rw [← HB.out]; simp [formedR, g1]
    subst HF
    go_enter Try.func36, Try.ntmps36
    go_wp2_with (first
      | (refine wpList_box HW.out rfl rfl rfl rfl hR (fun gb w' hw' => ?_)
         clear HW; have HW := Lib.hid hw'; clear hw'; (try simp only [hps_rules] at HW); (try simp only [put_rules])))
    refine wp_region_quietC (fun v => Holds v _) (by kernel_rfl) (by kernel_rfl) (HW.out.drewN 1) ?_
    repeat (first
      | go_big_quiet_skip
      | (go_big_quiet_want
         first
         | (refine quiet_runs (runs_ldR 0 (ty := 38) (n := 74) (m := Rec.segs r) rfl rfl rfl rfl Try.underlying38 rfl (by kernel_rfl)) ?_)
         | (refine quiet_callF 80 rfl Try.func80 HKP.out (al := [.agg (flat r.segs).toArray]) rfl (fun v hv => plainS r HK.out v _ hv) ?_)
         | (refine quiet_runs (runs_ld1 0 rfl rfl rfl rfl (by kernel_rfl)) ?_)
         | (refine quietV ?_ (fun v hv => ?_) ?_
            rotate_left
            · clear hv; go_simp <;> (try with_reducible rfl))
         (try simp only [put_rules])
         go_big_quiet_on))
    refine wpQuiet_nil (fun w' hw' => ?_)
    clear HW; have HW := Lib.hid hw'; clear hw'
    go_wp2
    go_ret
    exact ⟨rfl, HW.out.tail⟩
  have d1 : decide (4 < r.kind) = false := decide_eq_false (by omega)
  by_cases g2 : 0 < r.id
  rotate_left
  · have d2 : decide ((r.id : Int) < 1) = true := decide_eq_true (by omega)
    have HF : bo = false := by rw [← HB.out]; simp [formedR, g2]
    subst HF
    go_enter Try.func36, Try.ntmps36
    go_wp2_with (first
      | (refine wpList_box HW.out rfl rfl rfl rfl hR (fun gb w' hw' => ?_)
         clear HW; have HW := Lib.hid hw'; clear hw'; (try simp only [hps_rules] at HW); (try simp only [put_rules])))
    refine wp_region_quietC (fun v => Holds v _) (by kernel_rfl) (by kernel_rfl) (HW.out.drewN 1) ?_
    repeat (first
      | go_big_quiet_skip
      | (go_big_quiet_want
         first
         | (refine quiet_runs (runs_ldR 0 (ty := 38) (n := 74) (m := Rec.segs r) rfl rfl rfl rfl Try.underlying38 rfl (by kernel_rfl)) ?_)
         | (refine quiet_callF 80 rfl Try.func80 HKP.out (al := [.agg (flat r.segs).toArray]) rfl (fun v hv => plainS r HK.out v _ hv) ?_)
         | (refine quiet_runs (runs_ld1 0 rfl rfl rfl rfl (by kernel_rfl)) ?_)
         | (refine quietV ?_ (fun v hv => ?_) ?_
            rotate_left
            · clear hv; go_simp <;> (try with_reducible rfl))
         (try simp only [put_rules])
         go_big_quiet_on))
    refine wpQuiet_nil (fun w' hw' => ?_)
    clear HW; have HW := Lib.hid hw'; clear hw'
    go_wp2
    go_ret
    exact ⟨rfl, HW.out.tail⟩
  have d2 : decide ((r.id : Int) < 1) = false := decide_eq_false (by omega)
  by_cases g3 : r.id ≤ 4294967295
  rotate_left
  · have d3 : decide (4294967295 < (r.id : Int)) = true := decide_eq_true (by omega)
    have HF : bo = false := by rw [← HB.out]; simp [formedR, g3]
    subst HF
    go_enter Try.func36, Try.ntmps36
    go_wp2_with (first
      | (refine wpList_box HW.out rfl rfl rfl rfl hR (fun gb w' hw' => ?_)
         clear HW; have HW := Lib.hid hw'; clear hw'; (try simp only [hps_rules] at HW); (try simp only [put_rules])))
    refine wp_region_quietC (fun v => Holds v _) (by kernel_rfl) (by kernel_rfl) (HW.out.drewN 1) ?_
    repeat (first
      | go_big_quiet_skip
      | (go_big_quiet_want
         first
         | (refine quiet_runs (runs_ldR 0 (ty := 38) (n := 74) (m := Rec.segs r) rfl rfl rfl rfl Try.underlying38 rfl (by kernel_rfl)) ?_)
         | (refine quiet_callF 80 rfl Try.func80 HKP.out (al := [.agg (flat r.segs).toArray]) rfl (fun v hv => plainS r HK.out v _ hv) ?_)
         | (refine quiet_runs (runs_ld1 0 rfl rfl rfl rfl (by kernel_rfl)) ?_)
         | (refine quietV ?_ (fun v hv => ?_) ?_
            rotate_left
            · clear hv; go_simp <;> (try with_reducible rfl))
         (try simp only [put_rules])
         go_big_quiet_on))
    refine wpQuiet_nil (fun w' hw' => ?_)
    clear HW; have HW := Lib.hid hw'; clear hw'
    go_wp2
    go_ret
    exact ⟨rfl, HW.out.tail⟩
  have d3 : decide (4294967295 < (r.id : Int)) = false := decide_eq_false (by omega)
  cases se
  · have gs : sameR r (bareR r) = false := HSE.out
    have HF : bo = false := by rw [← HB.out]; simp [formedR, gs]
    subst HF
    go_enter Try.func36, Try.ntmps36
    go_wp2_with (first
      | (refine wpList_box HW.out rfl rfl rfl rfl hR (fun gb w' hw' => ?_)
         clear HW; have HW := Lib.hid hw'; clear hw'; (try simp only [hps_rules] at HW); (try simp only [put_rules])))
    refine wp_region_quietC (fun v => Holds v _) (by kernel_rfl) (by kernel_rfl) (HW.out.drewN 1) ?_
    repeat (first
      | go_big_quiet_skip
      | (go_big_quiet_want
         first
         | (refine quiet_runs (runs_ldR 0 (ty := 38) (n := 74) (m := Rec.segs r) rfl rfl rfl rfl Try.underlying38 rfl (by kernel_rfl)) ?_)
         | (refine quiet_callF 80 rfl Try.func80 HKP.out (al := [.agg (flat r.segs).toArray]) rfl (fun v hv => plainS r HK.out v _ hv) ?_)
         | (refine quiet_runs (runs_ld1 0 rfl rfl rfl rfl (by kernel_rfl)) ?_)
         | (refine quietV ?_ (fun v hv => ?_) ?_
            rotate_left
            · clear hv; go_simp <;> (try with_reducible rfl))
         (try simp only [put_rules])
         go_big_quiet_on))
    refine wpQuiet_nil (fun w' hw' => ?_)
    clear HW; have HW := Lib.hid hw'; clear hw'
    go_wp2
    go_ret
    exact ⟨rfl, HW.out.tail⟩
  have HS := Lib.hid HSE.out
  by_cases g5 : r.base ≤ 4294967295
  rotate_left
  · have d5 : decide (4294967295 < (r.base : Int)) = true := decide_eq_true (by omega)
    have HF : bo = false := by rw [← HB.out]; simp [formedR, g5]
    subst HF
    go_enter Try.func36, Try.ntmps36
    go_wp2_with (first
      | (refine wpList_box HW.out rfl rfl rfl rfl hR (fun gb w' hw' => ?_)
         clear HW; have HW := Lib.hid hw'; clear hw'; (try simp only [hps_rules] at HW); (try simp only [put_rules])))
    refine wp_region_quietC (fun v => Holds v _) (by kernel_rfl) (by kernel_rfl) (HW.out.drewN 1) ?_
    repeat (first
      | go_big_quiet_skip
      | (go_big_quiet_want
         first
         | (refine quiet_runs (runs_ldR 0 (ty := 38) (n := 74) (m := Rec.segs r) rfl rfl rfl rfl Try.underlying38 rfl (by kernel_rfl)) ?_)
         | (refine quiet_callF 80 rfl Try.func80 HKP.out (al := [.agg (flat r.segs).toArray]) rfl (fun v hv => plainS r HK.out v _ hv) ?_)
         | (refine quiet_runs (runs_ld1 0 rfl rfl rfl rfl (by kernel_rfl)) ?_)
         | (refine quietV ?_ (fun v hv => ?_) ?_
            rotate_left
            · clear hv; go_simp <;> (try with_reducible rfl))
         (try simp only [put_rules])
         go_big_quiet_on))
    refine wpQuiet_nil (fun w' hw' => ?_)
    clear HW; have HW := Lib.hid hw'; clear hw'
    go_wp2
    go_ret
    exact ⟨rfl, HW.out.tail⟩
  have d5 : decide (4294967295 < (r.base : Int)) = false := decide_eq_false (by omega)
  by_cases g6 : r.ed.s.length ≤ 500
  rotate_left
  · have d6 : decide (500 < (r.ed.s.length : Int)) = true := decide_eq_true (by omega)
    have HF : bo = false := by rw [← HB.out]; simp [formedR, g6]
    subst HF
    go_enter Try.func36, Try.ntmps36
    go_wp2_with (first
      | (refine wpList_box HW.out rfl rfl rfl rfl hR (fun gb w' hw' => ?_)
         clear HW; have HW := Lib.hid hw'; clear hw'; (try simp only [hps_rules] at HW); (try simp only [put_rules])))
    refine wp_region_quietC (fun v => Holds v _) (by kernel_rfl) (by kernel_rfl) (HW.out.drewN 1) ?_
    repeat (first
      | go_big_quiet_skip
      | (go_big_quiet_want
         first
         | (refine quiet_runs (runs_ldR 0 (ty := 38) (n := 74) (m := Rec.segs r) rfl rfl rfl rfl Try.underlying38 rfl (by kernel_rfl)) ?_)
         | (refine quiet_callF 80 rfl Try.func80 HKP.out (al := [.agg (flat r.segs).toArray]) rfl (fun v hv => plainS r HK.out v _ hv) ?_)
         | (refine quiet_runs (runs_ld1 0 rfl rfl rfl rfl (by kernel_rfl)) ?_)
         | (refine quietV ?_ (fun v hv => ?_) ?_
            rotate_left
            · clear hv; go_simp <;> (try with_reducible rfl))
         (try simp only [put_rules])
         go_big_quiet_on))
    refine wpQuiet_nil (fun w' hw' => ?_)
    clear HW; have HW := Lib.hid hw'; clear hw'
    go_wp2
    go_ret
    exact ⟨rfl, HW.out.tail⟩
  have d6 : decide (500 < (r.ed.s.length : Int)) = false := decide_eq_false (by omega)
  by_cases g7 : r.text.length ≤ 2000
  rotate_left
  · have d7 : decide (2000 < (r.text.length : Int)) = true := decide_eq_true (by omega)
    have HF : bo = false := by rw [← HB.out]; simp [formedR, g7]
    subst HF
    go_enter Try.func36, Try.ntmps36
    go_wp2_with (first
      | (refine wpList_box HW.out rfl rfl rfl rfl hR (fun gb w' hw' => ?_)
         clear HW; have HW := Lib.hid hw'; clear hw'; (try simp only [hps_rules] at HW); (try simp only [put_rules])))
    refine wp_region_quietC (fun v => Holds v _) (by kernel_rfl) (by kernel_rfl) (HW.out.drewN 1) ?_
    repeat (first
      | go_big_quiet_skip
      | (go_big_quiet_want
         first
         | (refine quiet_runs (runs_ldR 0 (ty := 38) (n := 74) (m := Rec.segs r) rfl rfl rfl rfl Try.underlying38 rfl (by kernel_rfl)) ?_)
         | (refine quiet_callF 80 rfl Try.func80 HKP.out (al := [.agg (flat r.segs).toArray]) rfl (fun v hv => plainS r HK.out v _ hv) ?_)
         | (refine quiet_runs (runs_ld1 0 rfl rfl rfl rfl (by kernel_rfl)) ?_)
         | (refine quietV ?_ (fun v hv => ?_) ?_
            rotate_left
            · clear hv; go_simp <;> (try with_reducible rfl))
         (try simp only [put_rules])
         go_big_quiet_on))
    refine wpQuiet_nil (fun w' hw' => ?_)
    clear HW; have HW := Lib.hid hw'; clear hw'
    go_wp2
    go_ret
    exact ⟨rfl, HW.out.tail⟩
  have d7 : decide (2000 < (r.text.length : Int)) = false := decide_eq_false (by omega)
  go_enter Try.func36, Try.ntmps36
  go_wp2_with (first
    | (refine wpList_box HW.out rfl rfl rfl rfl hR (fun gb w' hw' => ?_)
       clear HW; have HW := Lib.hid hw'; clear hw'; (try simp only [hps_rules] at HW); (try simp only [put_rules])))
  refine wp_region_quietC (fun v => Holds v _) (by kernel_rfl) (by kernel_rfl) (HW.out.drewN 1) ?_
  repeat (first
    | go_big_quiet_skip
    | (go_big_quiet_want
       first
       | (refine quiet_runs (runs_ldR 0 (ty := 38) (n := 74) (m := Rec.segs r) rfl rfl rfl rfl Try.underlying38 rfl (by kernel_rfl)) ?_)
       | (refine quiet_callF 80 rfl Try.func80 HKP.out (al := [.agg (flat r.segs).toArray]) rfl (fun v hv => plainS r HK.out v _ hv) ?_)
       | (refine quiet_runs (runs_ld1 0 rfl rfl rfl rfl (by kernel_rfl)) ?_)
       | (refine quietV ?_ (fun v hv => ?_) ?_
          rotate_left
          · clear hv; go_simp <;> (try with_reducible rfl))
       (try simp only [put_rules])
       go_big_quiet_on))
  refine wpQuiet_nil (fun w' hw' => ?_)
  clear HW; have HW := Lib.hid hw'; clear hw'
  have HQ := Lib.hid (And.intro g0 (And.intro g1 (And.intro g2 (And.intro g3 (And.intro g5 (And.intro g6 g7))))))
  clear g0 g1 g2 g3 g5 g6 g7 d0 d1 d2 d3 d5 d6 d7
  have HBB : Hid (((!decide (r.kind = 3) || codeOk r.code) && (r.commit || !r.has)) = bo) := by
    have hs := HS.out
    obtain ⟨a0, a1, a2, a3, a5, a6, a7⟩ := HQ.out
    unfold Hid; rw [← HB.out]; simp [formedR, a0, a1, a2, a3, a5, a6, a7, hs]
  by_cases k3 : r.kind = 3
  · have n3 : (r.kind != 3) = false := by simp [k3]
    by_cases ca : 1 ≤ r.code
    rotate_left
    · have da : decide (1 ≤ r.code) = false := decide_eq_false ca
      have HCA : Hid (codeOk r.code = false) := by unfold Hid codeOk; rw [da]; rfl
      go_wp2_with (first
        | go_skip
        | (refine wpList_runs HW.out rfl (runs_ld1 0 rfl rfl rfl rfl (by kernel_rfl)) ?_; simp only [put_rules]))
      go_ret
      exact ⟨ret_bool (by rw [← HBB.out]; simp [k3, HCA.out]), HW.out.tail⟩
    have da : decide (1 ≤ r.code) = true := decide_eq_true ca
    have HCA := Lib.hid ca
    by_cases cb : r.code ≤ 17
    rotate_left
    · have db : decide (r.code ≤ 17) = false := decide_eq_false cb
      have HCB : Hid (codeOk r.code = false) := by unfold Hid codeOk; rw [db, Bool.and_false]
      go_wp2_with (first
        | go_skip
        | (refine wpList_runs HW.out rfl (runs_ld1 0 rfl rfl rfl rfl (by kernel_rfl)) ?_; simp only [put_rules]))
      go_ret
      exact ⟨ret_bool (by rw [← HBB.out]; simp [k3, HCB.out]), HW.out.tail⟩
    have db : decide (r.code ≤ 17) = true := decide_eq_true cb
    have HCB := Lib.hid cb
    cases hz : r.has <;> cases hc : r.commit
    all_goals
      go_wp2_with (first
        | go_skip
        | (refine wpList_runs HW.out rfl (runs_ld1 0 rfl rfl rfl rfl (by kernel_rfl)) ?_; simp only [put_rules]))
      go_ret
      exact ⟨ret_bool (by rw [← HBB.out]; simp [codeOk, hz, hc, k3, HCA.out, HCB.out]), HW.out.tail⟩
  · have n3 : (r.kind != 3) = true := by simp [k3]
    have n4 : (r.kind == 3) = false := beq_eq_false_iff_ne.2 k3
    have HK3 := Lib.hid k3
    cases hz : r.has <;> cases hc : r.commit
    all_goals
      go_wp2_with (first
        | go_skip
        | (refine wpList_runs HW.out rfl (runs_ld1 0 rfl rfl rfl rfl (by kernel_rfl)) ?_; simp only [put_rules]))
      go_ret
      exact ⟨ret_bool (by rw [← HBB.out]; simp [codeOk, hz, hc, HK3.out]), HW.out.tail⟩
end Go.Proofs.Ytaieonajialenaa
