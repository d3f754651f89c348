/- redactorref01.Formed, over segments. -/
import Derived.Test.YtibkngjacdggpaaDoorMsgP
import Derived.Test.YtibkngjacdggpaaDoorEff
namespace Go.Proofs.YtibkngjacdggpaaDoor
set_option linter.unusedSimpArgs false
set_option linter.unusedVariables false
open Go.RowKit HP
set_option maxRecDepth 100000 in
set_option maxHeartbeats 8000000 in
theorem mrformed_ok (r : Msg) (h : r.Wf) (w : World) (R : List HP) (hh : Holds w R) {bo : Bool} (hb : formedM r = bo) :
    Calls Tryd.prog 38 #[.agg (flat r.segs).toArray] w fun e w' => e = .returned (.bool bo) ∧ Holds w' R := by
  have HW := Lib.hid hh
  have HK := Lib.hid h.ok
  have hR := Msg.segs_ok h.ok
  obtain ⟨se, HSE⟩ : ∃ b, Hid (sameM r (bareM r) = b) := ⟨_, rfl⟩
  have he : ∀ w, (Op.equalIn 10000 42 (.agg (flat r.segs).toArray) (.agg (flat (bareM r).segs).toArray)).run Tryd.prog w = .ok se w := fun w => by rw [← HSE.out]; exact run_equal_msg (T := 42) (.inr rfl) h (bareM_wf h) w
  have ns := strSize r.ed.s
  have HB := Lib.hid hb
  obtain ⟨k1, HK1⟩ : ∃ b, Hid (nodeOk r.frm = b) := ⟨_, rfl⟩
  obtain ⟨k2, HK2⟩ : ∃ b, Hid (nodeOk r.to = b) := ⟨_, rfl⟩
  obtain ⟨k3, HK3⟩ : ∃ b, Hid (codeOk r.code = b) := ⟨_, rfl⟩
  have HKP : Hid ((Tryd.f72.name == "runtime.NumGoroutine" || Tryd.f72.body.isNone) = false) := by unfold Hid; kernel_rfl
  clear hh h hb
  by_cases g0 : 1 ≤ r.kind
  rotate_left
  · have d0 : decide (r.kind < 1) = true := decide_eq_true (by omega)
    have HF : bo = false := by rw [← HB.out]; simp [formedM, nodeOk, g0]
    subst HF
    go_enter Tryd.func38, Tryd.ntmps38
    go_wp2_with (first
      | go_skip
      | (refine wpList_runs HW.out rfl (runs_ld1 0 rfl rfl rfl rfl (by kernel_rfl)) ?_; simp only [put_rules])
      | (refine wpList_box HW.out rfl rfl rfl rfl hR (fun gb w' hw' => ?_)
         clear HW; have HW := Lib.hid hw'; clear hw'; (try simp only [hps_rules] at HW); (try simp only [put_rules])))
    go_ret
    exact ⟨rfl, HW.out.tail⟩
  have d0 : decide (r.kind < 1) = false := decide_eq_false (by omega)
  by_cases g1 : r.kind ≤ 6
  rotate_left
  · have d1 : decide (6 < r.kind) = true := decide_eq_true (by omega)
    have HF : bo = false := by rw [← HB.out]; simp [formedM, nodeOk, g1]
    subst HF
    go_enter Tryd.func38, Tryd.ntmps38
    go_wp2_with (first
      | go_skip
      | (refine wpList_runs HW.out rfl (runs_ld1 0 rfl rfl rfl rfl (by kernel_rfl)) ?_; simp only [put_rules])
      | (refine wpList_box HW.out rfl rfl rfl rfl hR (fun gb w' hw' => ?_)
         clear HW; have HW := Lib.hid hw'; clear hw'; (try simp only [hps_rules] at HW); (try simp only [put_rules])))
    go_ret
    exact ⟨rfl, HW.out.tail⟩
  have d1 : decide (6 < r.kind) = false := decide_eq_false (by omega)
  by_cases g2 : 0 ≤ r.frm
  rotate_left
  · have d2 : decide (r.frm < 0) = true := decide_eq_true (by omega)
    have HF : bo = false := by rw [← HB.out]; simp [formedM, nodeOk, g2]
    subst HF
    go_enter Tryd.func38, Tryd.ntmps38
    go_wp2_with (first
      | go_skip
      | (refine wpList_runs HW.out rfl (runs_ld1 0 rfl rfl rfl rfl (by kernel_rfl)) ?_; simp only [put_rules])
      | (refine wpList_box HW.out rfl rfl rfl rfl hR (fun gb w' hw' => ?_)
         clear HW; have HW := Lib.hid hw'; clear hw'; (try simp only [hps_rules] at HW); (try simp only [put_rules])))
    go_ret
    exact ⟨rfl, HW.out.tail⟩
  have d2 : decide (r.frm < 0) = false := decide_eq_false (by omega)
  by_cases g3 : r.frm ≤ 16
  rotate_left
  · have d3 : decide (16 < r.frm) = true := decide_eq_true (by omega)
    have HF : bo = false := by rw [← HB.out]; simp [formedM, nodeOk, g3]
    subst HF
    go_enter Tryd.func38, Tryd.ntmps38
    go_wp2_with (first
      | go_skip
      | (refine wpList_runs HW.out rfl (runs_ld1 0 rfl rfl rfl rfl (by kernel_rfl)) ?_; simp only [put_rules])
      | (refine wpList_box HW.out rfl rfl rfl rfl hR (fun gb w' hw' => ?_)
         clear HW; have HW := Lib.hid hw'; clear hw'; (try simp only [hps_rules] at HW); (try simp only [put_rules])))
    go_ret
    exact ⟨rfl, HW.out.tail⟩
  have d3 : decide (16 < r.frm) = false := decide_eq_false (by omega)
  by_cases g4 : 0 ≤ r.to
  rotate_left
  · have d4 : decide (r.to < 0) = true := decide_eq_true (by omega)
    have HF : bo = false := by rw [← HB.out]; simp [formedM, nodeOk, g4]
    subst HF
    go_enter Tryd.func38, Tryd.ntmps38
    go_wp2_with (first
      | go_skip
      | (refine wpList_runs HW.out rfl (runs_ld1 0 rfl rfl rfl rfl (by kernel_rfl)) ?_; simp only [put_rules])
      | (refine wpList_box HW.out rfl rfl rfl rfl hR (fun gb w' hw' => ?_)
         clear HW; have HW := Lib.hid hw'; clear hw'; (try simp only [hps_rules] at HW); (try simp only [put_rules])))
    go_ret
    exact ⟨rfl, HW.out.tail⟩
  have d4 : decide (r.to < 0) = false := decide_eq_false (by omega)
  by_cases g5 : r.to ≤ 16
  rotate_left
  · have d5 : decide (16 < r.to) = true := decide_eq_true (by omega)
    have HF : bo = false := by rw [← HB.out]; simp [formedM, nodeOk, g5]
    subst HF
    go_enter Tryd.func38, Tryd.ntmps38
    go_wp2_with (first
      | go_skip
      | (refine wpList_runs HW.out rfl (runs_ld1 0 rfl rfl rfl rfl (by kernel_rfl)) ?_; simp only [put_rules])
      | (refine wpList_box HW.out rfl rfl rfl rfl hR (fun gb w' hw' => ?_)
         clear HW; have HW := Lib.hid hw'; clear hw'; (try simp only [hps_rules] at HW); (try simp only [put_rules])))
    go_ret
    exact ⟨rfl, HW.out.tail⟩
  have d5 : decide (16 < r.to) = false := decide_eq_false (by omega)
  by_cases g6 : r.frm ≠ r.to
  rotate_left
  · have d6 : (r.frm == r.to) = true := by simpa using g6
    have HF : bo = false := by rw [← HB.out]; simp [formedM, nodeOk, g6]
    subst HF
    go_enter Tryd.func38, Tryd.ntmps38
    go_wp2_with (first
      | go_skip
      | (refine wpList_runs HW.out rfl (runs_ld1 0 rfl rfl rfl rfl (by kernel_rfl)) ?_; simp only [put_rules])
      | (refine wpList_box HW.out rfl rfl rfl rfl hR (fun gb w' hw' => ?_)
         clear HW; have HW := Lib.hid hw'; clear hw'; (try simp only [hps_rules] at HW); (try simp only [put_rules])))
    go_ret
    exact ⟨rfl, HW.out.tail⟩
  have d6 : (r.frm == r.to) = false := by simpa using g6
  by_cases g7 : 0 < r.id
  rotate_left
  · have d7 : decide ((r.id : Int) < 1) = true := decide_eq_true (by omega)
    have HF : bo = false := by rw [← HB.out]; simp [formedM, nodeOk, g7]
    subst HF
    go_enter Tryd.func38, Tryd.ntmps38
    go_wp2_with (first
      | go_skip
      | (refine wpList_runs HW.out rfl (runs_ld1 0 rfl rfl rfl rfl (by kernel_rfl)) ?_; simp only [put_rules])
      | (refine wpList_box HW.out rfl rfl rfl rfl hR (fun gb w' hw' => ?_)
         clear HW; have HW := Lib.hid hw'; clear hw'; (try simp only [hps_rules] at HW); (try simp only [put_rules])))
    go_ret
    exact ⟨rfl, HW.out.tail⟩
  have d7 : decide ((r.id : Int) < 1) = false := decide_eq_false (by omega)
  by_cases g8 : r.id ≤ 4294967295
  rotate_left
  · have d8 : decide (4294967295 < (r.id : Int)) = true := decide_eq_true (by omega)
    have HF : bo = false := by rw [← HB.out]; simp [formedM, nodeOk, g8]
    subst HF
    go_enter Tryd.func38, Tryd.ntmps38
    go_wp2_with (first
      | go_skip
      | (refine wpList_runs HW.out rfl (runs_ld1 0 rfl rfl rfl rfl (by kernel_rfl)) ?_; simp only [put_rules])
      | (refine wpList_box HW.out rfl rfl rfl rfl hR (fun gb w' hw' => ?_)
         clear HW; have HW := Lib.hid hw'; clear hw'; (try simp only [hps_rules] at HW); (try simp only [put_rules])))
    go_ret
    exact ⟨rfl, HW.out.tail⟩
  have d8 : decide (4294967295 < (r.id : Int)) = false := decide_eq_false (by omega)
  cases se
  · have gs := HSE.out
    have HF : bo = false := by rw [← HB.out]; simp [formedM, gs]
    subst HF
    go_enter Tryd.func38, Tryd.ntmps38
    go_wp2_with (first
      | go_skip
      | (refine wpList_runs HW.out rfl (runs_ld1 0 rfl rfl rfl rfl (by kernel_rfl)) ?_; simp only [put_rules])
      | (refine wpList_box HW.out rfl rfl rfl rfl hR (fun gb w' hw' => ?_)
         clear HW; have HW := Lib.hid hw'; clear hw'; (try simp only [hps_rules] at HW); (try simp only [put_rules])))
    refine wp_region_quietC (fun v => Holds v _) (by kernel_rfl) (by kernel_rfl) (HW.out.drewN 1) ?_
    repeat (first
      | go_big_quiet_skip
      | (go_big_quiet_want
         first
         | (refine quiet_runs (runs_ldA 0 (ty := 42) (n := 107) rfl rfl rfl (by kernel_rfl) Tryd.underlying42 rfl (by kernel_rfl)) ?_)
         | (refine quiet_callF 72 rfl Tryd.func72 HKP.out (al := [.agg (flat r.segs).toArray]) rfl (fun v hv => mplain_ok r HK.out v _ hv) ?_)
         | (refine quiet_runs (runs_ld1 0 rfl rfl rfl rfl (by kernel_rfl)) ?_)
         | (refine quietV ?_ (fun v hv => ?_) ?_
            rotate_left
            · clear hv; go_simp <;> (try with_reducible rfl))
         (try simp only [put_rules])
         go_big_quiet_on))
    refine wpQuiet_nil (fun w' hw' => ?_)
    clear HW; have HW := Lib.hid hw'; clear hw'
    go_wp2_with (first
      | go_skip
      | (refine wpList_runs HW.out rfl (runs_ld1 0 rfl rfl rfl rfl (by kernel_rfl)) ?_; simp only [put_rules]))
    go_ret
    exact ⟨rfl, HW.out.tail⟩
  by_cases g9 : r.base ≤ 4294967295
  rotate_left
  · have d9 : decide (4294967295 < (r.base : Int)) = true := decide_eq_true (by omega)
    have HF : bo = false := by rw [← HB.out]; simp [formedM, nodeOk, g9]
    subst HF
    go_enter Tryd.func38, Tryd.ntmps38
    go_wp2_with (first
      | go_skip
      | (refine wpList_runs HW.out rfl (runs_ld1 0 rfl rfl rfl rfl (by kernel_rfl)) ?_; simp only [put_rules])
      | (refine wpList_box HW.out rfl rfl rfl rfl hR (fun gb w' hw' => ?_)
         clear HW; have HW := Lib.hid hw'; clear hw'; (try simp only [hps_rules] at HW); (try simp only [put_rules])))
    refine wp_region_quietC (fun v => Holds v _) (by kernel_rfl) (by kernel_rfl) (HW.out.drewN 1) ?_
    repeat (first
      | go_big_quiet_skip
      | (go_big_quiet_want
         first
         | (refine quiet_runs (runs_ldA 0 (ty := 42) (n := 107) rfl rfl rfl (by kernel_rfl) Tryd.underlying42 rfl (by kernel_rfl)) ?_)
         | (refine quiet_callF 72 rfl Tryd.func72 HKP.out (al := [.agg (flat r.segs).toArray]) rfl (fun v hv => mplain_ok r HK.out v _ hv) ?_)
         | (refine quiet_runs (runs_ld1 0 rfl rfl rfl rfl (by kernel_rfl)) ?_)
         | (refine quietV ?_ (fun v hv => ?_) ?_
            rotate_left
            · clear hv; go_simp <;> (try with_reducible rfl))
         (try simp only [put_rules])
         go_big_quiet_on))
    refine wpQuiet_nil (fun w' hw' => ?_)
    clear HW; have HW := Lib.hid hw'; clear hw'
    go_wp2_with (first
      | go_skip
      | (refine wpList_runs HW.out rfl (runs_ld1 0 rfl rfl rfl rfl (by kernel_rfl)) ?_; simp only [put_rules]))
    go_ret
    exact ⟨rfl, HW.out.tail⟩
  have d9 : decide (4294967295 < (r.base : Int)) = false := decide_eq_false (by omega)
  by_cases g10 : r.ed.s.length ≤ 500
  rotate_left
  · have d10 : decide (500 < (r.ed.s.length : Int)) = true := decide_eq_true (by omega)
    have HF : bo = false := by rw [← HB.out]; simp [formedM, nodeOk, g10]
    subst HF
    go_enter Tryd.func38, Tryd.ntmps38
    go_wp2_with (first
      | go_skip
      | (refine wpList_runs HW.out rfl (runs_ld1 0 rfl rfl rfl rfl (by kernel_rfl)) ?_; simp only [put_rules])
      | (refine wpList_box HW.out rfl rfl rfl rfl hR (fun gb w' hw' => ?_)
         clear HW; have HW := Lib.hid hw'; clear hw'; (try simp only [hps_rules] at HW); (try simp only [put_rules])))
    refine wp_region_quietC (fun v => Holds v _) (by kernel_rfl) (by kernel_rfl) (HW.out.drewN 1) ?_
    repeat (first
      | go_big_quiet_skip
      | (go_big_quiet_want
         first
         | (refine quiet_runs (runs_ldA 0 (ty := 42) (n := 107) rfl rfl rfl (by kernel_rfl) Tryd.underlying42 rfl (by kernel_rfl)) ?_)
         | (refine quiet_callF 72 rfl Tryd.func72 HKP.out (al := [.agg (flat r.segs).toArray]) rfl (fun v hv => mplain_ok r HK.out v _ hv) ?_)
         | (refine quiet_runs (runs_ld1 0 rfl rfl rfl rfl (by kernel_rfl)) ?_)
         | (refine quietV ?_ (fun v hv => ?_) ?_
            rotate_left
            · clear hv; go_simp <;> (try with_reducible rfl))
         (try simp only [put_rules])
         go_big_quiet_on))
    refine wpQuiet_nil (fun w' hw' => ?_)
    clear HW; have HW := Lib.hid hw'; clear hw'
    go_wp2_with (first
      | go_skip
      | (refine wpList_runs HW.out rfl (runs_ld1 0 rfl rfl rfl rfl (by kernel_rfl)) ?_; simp only [put_rules]))
    go_ret
    exact ⟨rfl, HW.out.tail⟩
  have d10 : decide (500 < (r.ed.s.length : Int)) = false := decide_eq_false (by omega)
  have HBB : Hid ((!decide (r.kind = 2) || (r.yes || codeOk r.code)) = bo) := by
    unfold Hid; rw [← HB.out]; simp [formedM, nodeOk, g0, g1, g2, g3, g4, g5, g6, g7, g8, g9, g10, HSE.out]
  clear HB
  have HB := Lib.hid HBB.out
  clear HBB
  by_cases k2' : r.kind = 2
  rotate_left
  · have n2 : (r.kind != 2) = true := by simp [k2']
    have HF : bo = true := by rw [← HB.out]; simp [k2']
    subst HF
    go_enter Tryd.func38, Tryd.ntmps38
    go_wp2_with (first
      | go_skip
      | (refine wpList_runs HW.out rfl (runs_ld1 0 rfl rfl rfl rfl (by kernel_rfl)) ?_; simp only [put_rules])
      | (refine wpList_box HW.out rfl rfl rfl rfl hR (fun gb w' hw' => ?_)
         clear HW; have HW := Lib.hid hw'; clear hw'; (try simp only [hps_rules] at HW); (try simp only [put_rules])))
    refine wp_region_quietC (fun v => Holds v _) (by kernel_rfl) (by kernel_rfl) (HW.out.drewN 1) ?_
    repeat (first
      | go_big_quiet_skip
      | (go_big_quiet_want
         first
         | (refine quiet_runs (runs_ldA 0 (ty := 42) (n := 107) rfl rfl rfl (by kernel_rfl) Tryd.underlying42 rfl (by kernel_rfl)) ?_)
         | (refine quiet_callF 72 rfl Tryd.func72 HKP.out (al := [.agg (flat r.segs).toArray]) rfl (fun v hv => mplain_ok r HK.out v _ hv) ?_)
         | (refine quiet_runs (runs_ld1 0 rfl rfl rfl rfl (by kernel_rfl)) ?_)
         | (refine quietV ?_ (fun v hv => ?_) ?_
            rotate_left
            · clear hv; go_simp <;> (try with_reducible rfl))
         (try simp only [put_rules])
         go_big_quiet_on))
    refine wpQuiet_nil (fun w' hw' => ?_)
    clear HW; have HW := Lib.hid hw'; clear hw'
    go_wp2_with (first
      | go_skip
      | (refine wpList_runs HW.out rfl (runs_ld1 0 rfl rfl rfl rfl (by kernel_rfl)) ?_; simp only [put_rules]))
    go_ret
    exact ⟨rfl, HW.out.tail⟩
  have n2 : (r.kind != 2) = false := by simp [k2']
  have HK2' := Lib.hid k2'
  clear k2'
  cases hy : r.yes
  rotate_left
  · skip
    have HF : bo = true := by rw [← HB.out]; simp [hy]
    subst HF
    go_enter Tryd.func38, Tryd.ntmps38
    go_wp2_with (first
      | go_skip
      | (refine wpList_runs HW.out rfl (runs_ld1 0 rfl rfl rfl rfl (by kernel_rfl)) ?_; simp only [put_rules])
      | (refine wpList_box HW.out rfl rfl rfl rfl hR (fun gb w' hw' => ?_)
         clear HW; have HW := Lib.hid hw'; clear hw'; (try simp only [hps_rules] at HW); (try simp only [put_rules])))
    refine wp_region_quietC (fun v => Holds v _) (by kernel_rfl) (by kernel_rfl) (HW.out.drewN 1) ?_
    repeat (first
      | go_big_quiet_skip
      | (go_big_quiet_want
         first
         | (refine quiet_runs (runs_ldA 0 (ty := 42) (n := 107) rfl rfl rfl (by kernel_rfl) Tryd.underlying42 rfl (by kernel_rfl)) ?_)
         | (refine quiet_callF 72 rfl Tryd.func72 HKP.out (al := [.agg (flat r.segs).toArray]) rfl (fun v hv => mplain_ok r HK.out v _ hv) ?_)
         | (refine quiet_runs (runs_ld1 0 rfl rfl rfl rfl (by kernel_rfl)) ?_)
         | (refine quietV ?_ (fun v hv => ?_) ?_
            rotate_left
            · clear hv; go_simp <;> (try with_reducible rfl))
         (try simp only [put_rules])
         go_big_quiet_on))
    refine wpQuiet_nil (fun w' hw' => ?_)
    clear HW; have HW := Lib.hid hw'; clear hw'
    go_wp2_with (first
      | go_skip
      | (refine wpList_runs HW.out rfl (runs_ld1 0 rfl rfl rfl rfl (by kernel_rfl)) ?_; simp only [put_rules]))
    go_ret
    exact ⟨rfl, HW.out.tail⟩
  by_cases ca : 1 ≤ r.code
  rotate_left
  · have da : decide (1 ≤ r.code) = false := decide_eq_false ca
    have HF : bo = false := by rw [← HB.out]; simp [HK2'.out, hy, codeOk, ca]
    subst HF
    go_enter Tryd.func38, Tryd.ntmps38
    go_wp2_with (first
      | go_skip
      | (refine wpList_runs HW.out rfl (runs_ld1 0 rfl rfl rfl rfl (by kernel_rfl)) ?_; simp only [put_rules])
      | (refine wpList_box HW.out rfl rfl rfl rfl hR (fun gb w' hw' => ?_)
         clear HW; have HW := Lib.hid hw'; clear hw'; (try simp only [hps_rules] at HW); (try simp only [put_rules])))
    refine wp_region_quietC (fun v => Holds v _) (by kernel_rfl) (by kernel_rfl) (HW.out.drewN 1) ?_
    repeat (first
      | go_big_quiet_skip
      | (go_big_quiet_want
         first
         | (refine quiet_runs (runs_ldA 0 (ty := 42) (n := 107) rfl rfl rfl (by kernel_rfl) Tryd.underlying42 rfl (by kernel_rfl)) ?_)
         | (refine quiet_callF 72 rfl Tryd.func72 HKP.out (al := [.agg (flat r.segs).toArray]) rfl (fun v hv => mplain_ok r HK.out v _ hv) ?_)
         | (refine quiet_runs (runs_ld1 0 rfl rfl rfl rfl (by kernel_rfl)) ?_)
         | (refine quietV ?_ (fun v hv => ?_) ?_
            rotate_left
            · clear hv; go_simp <;> (try with_reducible rfl))
         (try simp only [put_rules])
         go_big_quiet_on))
    refine wpQuiet_nil (fun w' hw' => ?_)
    clear HW; have HW := Lib.hid hw'; clear hw'
    go_wp2_with (first
      | go_skip
      | (refine wpList_runs HW.out rfl (runs_ld1 0 rfl rfl rfl rfl (by kernel_rfl)) ?_; simp only [put_rules]))
    go_ret
    exact ⟨rfl, HW.out.tail⟩
  have da : decide (1 ≤ r.code) = true := decide_eq_true ca
  by_cases cb : r.code ≤ 17
  rotate_left
  · have db : decide (r.code ≤ 17) = false := decide_eq_false cb
    have HF : bo = false := by rw [← HB.out]; simp [HK2'.out, hy, codeOk, cb]
    subst HF
    go_enter Tryd.func38, Tryd.ntmps38
    go_wp2_with (first
      | go_skip
      | (refine wpList_runs HW.out rfl (runs_ld1 0 rfl rfl rfl rfl (by kernel_rfl)) ?_; simp only [put_rules])
      | (refine wpList_box HW.out rfl rfl rfl rfl hR (fun gb w' hw' => ?_)
         clear HW; have HW := Lib.hid hw'; clear hw'; (try simp only [hps_rules] at HW); (try simp only [put_rules])))
    refine wp_region_quietC (fun v => Holds v _) (by kernel_rfl) (by kernel_rfl) (HW.out.drewN 1) ?_
    repeat (first
      | go_big_quiet_skip
      | (go_big_quiet_want
         first
         | (refine quiet_runs (runs_ldA 0 (ty := 42) (n := 107) rfl rfl rfl (by kernel_rfl) Tryd.underlying42 rfl (by kernel_rfl)) ?_)
         | (refine quiet_callF 72 rfl Tryd.func72 HKP.out (al := [.agg (flat r.segs).toArray]) rfl (fun v hv => mplain_ok r HK.out v _ hv) ?_)
         | (refine quiet_runs (runs_ld1 0 rfl rfl rfl rfl (by kernel_rfl)) ?_)
         | (refine quietV ?_ (fun v hv => ?_) ?_
            rotate_left
            · clear hv; go_simp <;> (try with_reducible rfl))
         (try simp only [put_rules])
         go_big_quiet_on))
    refine wpQuiet_nil (fun w' hw' => ?_)
    clear HW; have HW := Lib.hid hw'; clear hw'
    go_wp2_with (first
      | go_skip
      | (refine wpList_runs HW.out rfl (runs_ld1 0 rfl rfl rfl rfl (by kernel_rfl)) ?_; simp only [put_rules]))
    go_ret
    exact ⟨rfl, HW.out.tail⟩
  have db : decide (r.code ≤ 17) = true := decide_eq_true cb
  have HF : bo = true := by rw [← HB.out]; simp [codeOk, ca, cb]
  subst HF
  go_enter Tryd.func38, Tryd.ntmps38
  go_wp2_with (first
    | go_skip
    | (refine wpList_runs HW.out rfl (runs_ld1 0 rfl rfl rfl rfl (by kernel_rfl)) ?_; simp only [put_rules])
    | (refine wpList_box HW.out rfl rfl rfl rfl hR (fun gb w' hw' => ?_)
       clear HW; have HW := Lib.hid hw'; clear hw'; (try simp only [hps_rules] at HW); (try simp only [put_rules])))
  refine wp_region_quietC (fun v => Holds v _) (by kernel_rfl) (by kernel_rfl) (HW.out.drewN 1) ?_
  repeat (first
    | go_big_quiet_skip
    | (go_big_quiet_want
       first
       | (refine quiet_runs (runs_ldA 0 (ty := 42) (n := 107) rfl rfl rfl (by kernel_rfl) Tryd.underlying42 rfl (by kernel_rfl)) ?_)
       | (refine quiet_callF 72 rfl Tryd.func72 HKP.out (al := [.agg (flat r.segs).toArray]) rfl (fun v hv => mplain_ok r HK.out v _ hv) ?_)
       | (refine quiet_runs (runs_ld1 0 rfl rfl rfl rfl (by kernel_rfl)) ?_)
       | (refine quietV ?_ (fun v hv => ?_) ?_
          rotate_left
          · clear hv; go_simp <;> (try with_reducible rfl))
       (try simp only [put_rules])
       go_big_quiet_on))
  refine wpQuiet_nil (fun w' hw' => ?_)
  clear HW; have HW := Lib.hid hw'; clear hw'
  go_wp2_with (first
    | go_skip
    | (refine wpList_runs HW.out rfl (runs_ld1 0 rfl rfl rfl rfl (by kernel_rfl)) ?_; simp only [put_rules]))
  go_ret
  exact ⟨rfl, HW.out.tail⟩
end Go.Proofs.YtibkngjacdggpaaDoor
