/- message.Formed, over segments. -/
import Derived.Test.YtibkngjacdggpaaDoorMsgB
import Derived.Test.YtibkngjacdggpaaDoorEff
namespace Go.Proofs.YtibkngjacdggpaaDoor
set_option linter.unusedSimpArgs false
set_option linter.unusedVariables false
open Go.RowKit HP
theorem mnode_ok (n : Int) {b : Bool} (hb : nodeOk n = b) (w : World) (R : List HP) (hh : Holds w R) : Calls Tryd.prog 69 #[.int .i64 n] w fun e w' => e = .returned (.bool b) ∧ Holds w' R := by
  subst hb
  have HW := Lib.hid hh
  clear hh
  by_cases h1 : 0 ≤ n
  · by_cases h2 : n ≤ 16
    · have HF : Hid (nodeOk n = true) := by unfold Hid; simp [nodeOk, h1, h2]
      go_enter Tryd.func69, Tryd.ntmps69
      go_wp2
      go_ret
      exact ⟨by rw [HF.out]; rfl, HW.out⟩
    · have HF : Hid (nodeOk n = false) := by unfold Hid; simp [nodeOk, h2]
      go_enter Tryd.func69, Tryd.ntmps69
      go_wp2
      go_ret
      exact ⟨by rw [HF.out]; rfl, HW.out⟩
  · have HF : Hid (nodeOk n = false) := by unfold Hid; simp [nodeOk, h1]
    go_enter Tryd.func69, Tryd.ntmps69
    go_wp2
    go_ret
    exact ⟨by rw [HF.out]; rfl, HW.out⟩
theorem msgCodeS (c : Int) {b : Bool} (hb : codeOk c = b) (w : World) (l : List HP) (hh : Holds w l) :
    Calls Tryd.prog 71 #[.int .i64 c] w fun e w' => e = .returned (.bool b) ∧ Holds w' l := by
  subst hb; exact msgCode_h c w l hh
set_option maxRecDepth 100000 in
set_option maxHeartbeats 8000000 in
theorem mformed_ok (r : Msg) (h : r.Wf) (w : World) (R : List HP) (hh : Holds w R) {bo : Bool} (hb : formedM r = bo) :
    Calls Tryd.prog 37 #[.agg (flat r.segs).toArray] w fun e w' => e = .returned (.bool bo) ∧ Holds w' R := by
  have HW := Lib.hid hh
  have HK := Lib.hid h.ok
  have hR := Msg.segs_ok h.ok
  obtain ⟨se, HSE⟩ : ∃ b, Hid (sameM r (bareM r) = b) := ⟨_, rfl⟩
  have he : ∀ w, (Op.equalIn 10000 46 (.agg (flat r.segs).toArray) (.agg (flat (bareM r).segs).toArray)).run Tryd.prog w = .ok se w := fun w => by rw [← HSE.out]; exact run_equal_msg (T := 46) (.inl rfl) h (bareM_wf h) w
  have ns := strSize r.ed.s
  have HB := Lib.hid hb
  obtain ⟨k1, HK1⟩ : ∃ b, Hid (nodeOk r.frm = b) := ⟨_, rfl⟩
  obtain ⟨k2, HK2⟩ : ∃ b, Hid (nodeOk r.to = b) := ⟨_, rfl⟩
  obtain ⟨k3, HK3⟩ : ∃ b, Hid (codeOk r.code = b) := ⟨_, rfl⟩
  have HKP : Hid ((Tryd.f70.name == "runtime.NumGoroutine" || Tryd.f70.body.isNone) = false) := by unfold Hid; kernel_rfl
  clear hh h hb
  have HKN : Hid ((Tryd.f69.name == "runtime.NumGoroutine" || Tryd.f69.body.isNone) = false) := by unfold Hid; kernel_rfl
  have HKC : Hid ((Tryd.f71.name == "runtime.NumGoroutine" || Tryd.f71.body.isNone) = false) := by unfold Hid; kernel_rfl
  go_enter Tryd.func37, Tryd.ntmps37
  go_wp2_with (first
    | go_skip
    | (refine wpList_box HW.out rfl rfl rfl rfl hR (fun gb w' hw' => ?_)
       clear HW; have HW := Lib.hid hw'; clear hw'; (try simp only [hps_rules] at HW); (try simp only [put_rules])))
  refine wp_region_quietC (fun v => Holds v _) (by kernel_rfl) (by kernel_rfl) (HW.out.drewN 1) ?_
  (try simp only [app_rules])
  by_cases g0 : 1 ≤ r.kind
  rotate_left
  · have d0 : decide (1 ≤ r.kind) = false := decide_eq_false (by omega)
    have HF : bo = false := by rw [← HB.out]; simp [formedM, g0]
    subst HF
    repeat (first
      | go_big_quiet_skip
      | (go_big_quiet_want
         first
         | (refine quiet_runs (runs_ldA 0 (ty := 46) (n := 107) rfl rfl rfl (by kernel_rfl) Tryd.underlying46 rfl (by kernel_rfl)) ?_)
         | (refine quiet_callF 69 rfl Tryd.func69 HKN.out (al := [.int .i64 r.frm]) rfl (fun v hv => mnode_ok r.frm HK1.out v _ hv) ?_)
         | (refine quiet_callF 69 rfl Tryd.func69 HKN.out (al := [.int .i64 r.to]) rfl (fun v hv => mnode_ok r.to HK2.out v _ hv) ?_)
         | (refine quiet_callF 70 rfl Tryd.func70 HKP.out (al := [.agg (flat r.segs).toArray]) rfl (fun v hv => mbare_ok r HK.out v _ hv) ?_)
         | (refine quiet_callF 71 rfl Tryd.func71 HKC.out (al := [.int .i64 r.code]) rfl (fun v hv => msgCodeS r.code HK3.out v _ hv) ?_)
         | (refine quiet_runs (runs_ld1 0 rfl rfl rfl rfl (by kernel_rfl)) ?_)
         | (refine quietV ?_ (fun v hv => ?_) ?_
            rotate_left
            · clear hv; go_simp <;> (try with_reducible rfl))
         (try simp only [put_rules])
         go_big_quiet_on))
    refine wpQuiet_nil (fun w' hw' => ?_)
    clear HW; have HW := Lib.hid hw'; clear hw'
    go_wp2
    go_ret
    exact ⟨rfl, HW.out.tail⟩
  have d0 : decide (1 ≤ r.kind) = true := decide_eq_true (by omega)
  by_cases g1 : r.kind ≤ 6
  rotate_left
  · have d1 : decide (r.kind ≤ 6) = false := decide_eq_false (by omega)
    have HF : bo = false := by rw [← HB.out]; simp [formedM, g1]
    subst HF
    repeat (first
      | go_big_quiet_skip
      | (go_big_quiet_want
         first
         | (refine quiet_runs (runs_ldA 0 (ty := 46) (n := 107) rfl rfl rfl (by kernel_rfl) Tryd.underlying46 rfl (by kernel_rfl)) ?_)
         | (refine quiet_callF 69 rfl Tryd.func69 HKN.out (al := [.int .i64 r.frm]) rfl (fun v hv => mnode_ok r.frm HK1.out v _ hv) ?_)
         | (refine quiet_callF 69 rfl Tryd.func69 HKN.out (al := [.int .i64 r.to]) rfl (fun v hv => mnode_ok r.to HK2.out v _ hv) ?_)
         | (refine quiet_callF 70 rfl Tryd.func70 HKP.out (al := [.agg (flat r.segs).toArray]) rfl (fun v hv => mbare_ok r HK.out v _ hv) ?_)
         | (refine quiet_callF 71 rfl Tryd.func71 HKC.out (al := [.int .i64 r.code]) rfl (fun v hv => msgCodeS r.code HK3.out v _ hv) ?_)
         | (refine quiet_runs (runs_ld1 0 rfl rfl rfl rfl (by kernel_rfl)) ?_)
         | (refine quietV ?_ (fun v hv => ?_) ?_
            rotate_left
            · clear hv; go_simp <;> (try with_reducible rfl))
         (try simp only [put_rules])
         go_big_quiet_on))
    refine wpQuiet_nil (fun w' hw' => ?_)
    clear HW; have HW := Lib.hid hw'; clear hw'
    go_wp2
    go_ret
    exact ⟨rfl, HW.out.tail⟩
  have d1 : decide (r.kind ≤ 6) = true := decide_eq_true (by omega)
  cases k1
  · have gs := HK1.out
    have HF : bo = false := by rw [← HB.out]; simp [formedM, gs]
    subst HF
    repeat (first
      | go_big_quiet_skip
      | (go_big_quiet_want
         first
         | (refine quiet_runs (runs_ldA 0 (ty := 46) (n := 107) rfl rfl rfl (by kernel_rfl) Tryd.underlying46 rfl (by kernel_rfl)) ?_)
         | (refine quiet_callF 69 rfl Tryd.func69 HKN.out (al := [.int .i64 r.frm]) rfl (fun v hv => mnode_ok r.frm HK1.out v _ hv) ?_)
         | (refine quiet_callF 69 rfl Tryd.func69 HKN.out (al := [.int .i64 r.to]) rfl (fun v hv => mnode_ok r.to HK2.out v _ hv) ?_)
         | (refine quiet_callF 70 rfl Tryd.func70 HKP.out (al := [.agg (flat r.segs).toArray]) rfl (fun v hv => mbare_ok r HK.out v _ hv) ?_)
         | (refine quiet_callF 71 rfl Tryd.func71 HKC.out (al := [.int .i64 r.code]) rfl (fun v hv => msgCodeS r.code HK3.out v _ hv) ?_)
         | (refine quiet_runs (runs_ld1 0 rfl rfl rfl rfl (by kernel_rfl)) ?_)
         | (refine quietV ?_ (fun v hv => ?_) ?_
            rotate_left
            · clear hv; go_simp <;> (try with_reducible rfl))
         (try simp only [put_rules])
         go_big_quiet_on))
    refine wpQuiet_nil (fun w' hw' => ?_)
    clear HW; have HW := Lib.hid hw'; clear hw'
    go_wp2
    go_ret
    exact ⟨rfl, HW.out.tail⟩
  cases k2
  · have gs := HK2.out
    have HF : bo = false := by rw [← HB.out]; simp [formedM, gs]
    subst HF
    repeat (first
      | go_big_quiet_skip
      | (go_big_quiet_want
         first
         | (refine quiet_runs (runs_ldA 0 (ty := 46) (n := 107) rfl rfl rfl (by kernel_rfl) Tryd.underlying46 rfl (by kernel_rfl)) ?_)
         | (refine quiet_callF 69 rfl Tryd.func69 HKN.out (al := [.int .i64 r.frm]) rfl (fun v hv => mnode_ok r.frm HK1.out v _ hv) ?_)
         | (refine quiet_callF 69 rfl Tryd.func69 HKN.out (al := [.int .i64 r.to]) rfl (fun v hv => mnode_ok r.to HK2.out v _ hv) ?_)
         | (refine quiet_callF 70 rfl Tryd.func70 HKP.out (al := [.agg (flat r.segs).toArray]) rfl (fun v hv => mbare_ok r HK.out v _ hv) ?_)
         | (refine quiet_callF 71 rfl Tryd.func71 HKC.out (al := [.int .i64 r.code]) rfl (fun v hv => msgCodeS r.code HK3.out v _ hv) ?_)
         | (refine quiet_runs (runs_ld1 0 rfl rfl rfl rfl (by kernel_rfl)) ?_)
         | (refine quietV ?_ (fun v hv => ?_) ?_
            rotate_left
            · clear hv; go_simp <;> (try with_reducible rfl))
         (try simp only [put_rules])
         go_big_quiet_on))
    refine wpQuiet_nil (fun w' hw' => ?_)
    clear HW; have HW := Lib.hid hw'; clear hw'
    go_wp2
    go_ret
    exact ⟨rfl, HW.out.tail⟩
  by_cases g4 : r.frm ≠ r.to
  rotate_left
  · have d4 : (r.frm != r.to) = false := by simpa using g4
    have HF : bo = false := by rw [← HB.out]; simp [formedM, g4]
    subst HF
    repeat (first
      | go_big_quiet_skip
      | (go_big_quiet_want
         first
         | (refine quiet_runs (runs_ldA 0 (ty := 46) (n := 107) rfl rfl rfl (by kernel_rfl) Tryd.underlying46 rfl (by kernel_rfl)) ?_)
         | (refine quiet_callF 69 rfl Tryd.func69 HKN.out (al := [.int .i64 r.frm]) rfl (fun v hv => mnode_ok r.frm HK1.out v _ hv) ?_)
         | (refine quiet_callF 69 rfl Tryd.func69 HKN.out (al := [.int .i64 r.to]) rfl (fun v hv => mnode_ok r.to HK2.out v _ hv) ?_)
         | (refine quiet_callF 70 rfl Tryd.func70 HKP.out (al := [.agg (flat r.segs).toArray]) rfl (fun v hv => mbare_ok r HK.out v _ hv) ?_)
         | (refine quiet_callF 71 rfl Tryd.func71 HKC.out (al := [.int .i64 r.code]) rfl (fun v hv => msgCodeS r.code HK3.out v _ hv) ?_)
         | (refine quiet_runs (runs_ld1 0 rfl rfl rfl rfl (by kernel_rfl)) ?_)
         | (refine quietV ?_ (fun v hv => ?_) ?_
            rotate_left
            · clear hv; go_simp <;> (try with_reducible rfl))
         (try simp only [put_rules])
         go_big_quiet_on))
    refine wpQuiet_nil (fun w' hw' => ?_)
    clear HW; have HW := Lib.hid hw'; clear hw'
    go_wp2
    go_ret
    exact ⟨rfl, HW.out.tail⟩
  have d4 : (r.frm != r.to) = true := by simpa using g4
  by_cases g5 : 0 < r.id
  rotate_left
  · have d5 : decide (0 < r.id) = false := decide_eq_false (by omega)
    have HF : bo = false := by rw [← HB.out]; simp [formedM, g5]
    subst HF
    repeat (first
      | go_big_quiet_skip
      | (go_big_quiet_want
         first
         | (refine quiet_runs (runs_ldA 0 (ty := 46) (n := 107) rfl rfl rfl (by kernel_rfl) Tryd.underlying46 rfl (by kernel_rfl)) ?_)
         | (refine quiet_callF 69 rfl Tryd.func69 HKN.out (al := [.int .i64 r.frm]) rfl (fun v hv => mnode_ok r.frm HK1.out v _ hv) ?_)
         | (refine quiet_callF 69 rfl Tryd.func69 HKN.out (al := [.int .i64 r.to]) rfl (fun v hv => mnode_ok r.to HK2.out v _ hv) ?_)
         | (refine quiet_callF 70 rfl Tryd.func70 HKP.out (al := [.agg (flat r.segs).toArray]) rfl (fun v hv => mbare_ok r HK.out v _ hv) ?_)
         | (refine quiet_callF 71 rfl Tryd.func71 HKC.out (al := [.int .i64 r.code]) rfl (fun v hv => msgCodeS r.code HK3.out v _ hv) ?_)
         | (refine quiet_runs (runs_ld1 0 rfl rfl rfl rfl (by kernel_rfl)) ?_)
         | (refine quietV ?_ (fun v hv => ?_) ?_
            rotate_left
            · clear hv; go_simp <;> (try with_reducible rfl))
         (try simp only [put_rules])
         go_big_quiet_on))
    refine wpQuiet_nil (fun w' hw' => ?_)
    clear HW; have HW := Lib.hid hw'; clear hw'
    go_wp2
    go_ret
    exact ⟨rfl, HW.out.tail⟩
  have d5 : decide (0 < r.id) = true := decide_eq_true (by omega)
  by_cases g6 : r.id ≤ 4294967295
  rotate_left
  · have d6 : decide ((r.id : Int) ≤ 4294967295) = false := decide_eq_false (by omega)
    have HF : bo = false := by rw [← HB.out]; simp [formedM, g6]
    subst HF
    repeat (first
      | go_big_quiet_skip
      | (go_big_quiet_want
         first
         | (refine quiet_runs (runs_ldA 0 (ty := 46) (n := 107) rfl rfl rfl (by kernel_rfl) Tryd.underlying46 rfl (by kernel_rfl)) ?_)
         | (refine quiet_callF 69 rfl Tryd.func69 HKN.out (al := [.int .i64 r.frm]) rfl (fun v hv => mnode_ok r.frm HK1.out v _ hv) ?_)
         | (refine quiet_callF 69 rfl Tryd.func69 HKN.out (al := [.int .i64 r.to]) rfl (fun v hv => mnode_ok r.to HK2.out v _ hv) ?_)
         | (refine quiet_callF 70 rfl Tryd.func70 HKP.out (al := [.agg (flat r.segs).toArray]) rfl (fun v hv => mbare_ok r HK.out v _ hv) ?_)
         | (refine quiet_callF 71 rfl Tryd.func71 HKC.out (al := [.int .i64 r.code]) rfl (fun v hv => msgCodeS r.code HK3.out v _ hv) ?_)
         | (refine quiet_runs (runs_ld1 0 rfl rfl rfl rfl (by kernel_rfl)) ?_)
         | (refine quietV ?_ (fun v hv => ?_) ?_
            rotate_left
            · clear hv; go_simp <;> (try with_reducible rfl))
         (try simp only [put_rules])
         go_big_quiet_on))
    refine wpQuiet_nil (fun w' hw' => ?_)
    clear HW; have HW := Lib.hid hw'; clear hw'
    go_wp2
    go_ret
    exact ⟨rfl, HW.out.tail⟩
  have d6 : decide ((r.id : Int) ≤ 4294967295) = true := decide_eq_true (by omega)
  by_cases g7 : r.base ≤ 4294967295
  rotate_left
  · have d7 : decide ((r.base : Int) ≤ 4294967295) = false := decide_eq_false (by omega)
    have HF : bo = false := by rw [← HB.out]; simp [formedM, g7]
    subst HF
    repeat (first
      | go_big_quiet_skip
      | (go_big_quiet_want
         first
         | (refine quiet_runs (runs_ldA 0 (ty := 46) (n := 107) rfl rfl rfl (by kernel_rfl) Tryd.underlying46 rfl (by kernel_rfl)) ?_)
         | (refine quiet_callF 69 rfl Tryd.func69 HKN.out (al := [.int .i64 r.frm]) rfl (fun v hv => mnode_ok r.frm HK1.out v _ hv) ?_)
         | (refine quiet_callF 69 rfl Tryd.func69 HKN.out (al := [.int .i64 r.to]) rfl (fun v hv => mnode_ok r.to HK2.out v _ hv) ?_)
         | (refine quiet_callF 70 rfl Tryd.func70 HKP.out (al := [.agg (flat r.segs).toArray]) rfl (fun v hv => mbare_ok r HK.out v _ hv) ?_)
         | (refine quiet_callF 71 rfl Tryd.func71 HKC.out (al := [.int .i64 r.code]) rfl (fun v hv => msgCodeS r.code HK3.out v _ hv) ?_)
         | (refine quiet_runs (runs_ld1 0 rfl rfl rfl rfl (by kernel_rfl)) ?_)
         | (refine quietV ?_ (fun v hv => ?_) ?_
            rotate_left
            · clear hv; go_simp <;> (try with_reducible rfl))
         (try simp only [put_rules])
         go_big_quiet_on))
    refine wpQuiet_nil (fun w' hw' => ?_)
    clear HW; have HW := Lib.hid hw'; clear hw'
    go_wp2
    go_ret
    exact ⟨rfl, HW.out.tail⟩
  have d7 : decide ((r.base : Int) ≤ 4294967295) = true := decide_eq_true (by omega)
  by_cases g8 : r.ed.s.length ≤ 500
  rotate_left
  · have d8 : decide ((r.ed.s.length : Int) ≤ 500) = false := decide_eq_false (by omega)
    have HF : bo = false := by rw [← HB.out]; simp [formedM, g8]
    subst HF
    repeat (first
      | go_big_quiet_skip
      | (go_big_quiet_want
         first
         | (refine quiet_runs (runs_ldA 0 (ty := 46) (n := 107) rfl rfl rfl (by kernel_rfl) Tryd.underlying46 rfl (by kernel_rfl)) ?_)
         | (refine quiet_callF 69 rfl Tryd.func69 HKN.out (al := [.int .i64 r.frm]) rfl (fun v hv => mnode_ok r.frm HK1.out v _ hv) ?_)
         | (refine quiet_callF 69 rfl Tryd.func69 HKN.out (al := [.int .i64 r.to]) rfl (fun v hv => mnode_ok r.to HK2.out v _ hv) ?_)
         | (refine quiet_callF 70 rfl Tryd.func70 HKP.out (al := [.agg (flat r.segs).toArray]) rfl (fun v hv => mbare_ok r HK.out v _ hv) ?_)
         | (refine quiet_callF 71 rfl Tryd.func71 HKC.out (al := [.int .i64 r.code]) rfl (fun v hv => msgCodeS r.code HK3.out v _ hv) ?_)
         | (refine quiet_runs (runs_ld1 0 rfl rfl rfl rfl (by kernel_rfl)) ?_)
         | (refine quietV ?_ (fun v hv => ?_) ?_
            rotate_left
            · clear hv; go_simp <;> (try with_reducible rfl))
         (try simp only [put_rules])
         go_big_quiet_on))
    refine wpQuiet_nil (fun w' hw' => ?_)
    clear HW; have HW := Lib.hid hw'; clear hw'
    go_wp2
    go_ret
    exact ⟨rfl, HW.out.tail⟩
  have d8 : decide ((r.ed.s.length : Int) ≤ 500) = true := decide_eq_true (by omega)
  cases se
  · have gs := HSE.out
    have HF : bo = false := by rw [← HB.out]; simp [formedM, gs]
    subst HF
    repeat (first
      | go_big_quiet_skip
      | (go_big_quiet_want
         first
         | (refine quiet_runs (runs_ldA 0 (ty := 46) (n := 107) rfl rfl rfl (by kernel_rfl) Tryd.underlying46 rfl (by kernel_rfl)) ?_)
         | (refine quiet_callF 69 rfl Tryd.func69 HKN.out (al := [.int .i64 r.frm]) rfl (fun v hv => mnode_ok r.frm HK1.out v _ hv) ?_)
         | (refine quiet_callF 69 rfl Tryd.func69 HKN.out (al := [.int .i64 r.to]) rfl (fun v hv => mnode_ok r.to HK2.out v _ hv) ?_)
         | (refine quiet_callF 70 rfl Tryd.func70 HKP.out (al := [.agg (flat r.segs).toArray]) rfl (fun v hv => mbare_ok r HK.out v _ hv) ?_)
         | (refine quiet_callF 71 rfl Tryd.func71 HKC.out (al := [.int .i64 r.code]) rfl (fun v hv => msgCodeS r.code HK3.out v _ hv) ?_)
         | (refine quiet_runs (runs_ld1 0 rfl rfl rfl rfl (by kernel_rfl)) ?_)
         | (refine quietV ?_ (fun v hv => ?_) ?_
            rotate_left
            · clear hv; go_simp <;> (try with_reducible rfl))
         (try simp only [put_rules])
         go_big_quiet_on))
    refine wpQuiet_nil (fun w' hw' => ?_)
    clear HW; have HW := Lib.hid hw'; clear hw'
    go_wp2
    go_ret
    exact ⟨rfl, HW.out.tail⟩
  have HBB : Hid ((!decide (r.kind = 2) || (r.yes || codeOk r.code)) = bo) := by
    unfold Hid; rw [← HB.out]; simp [formedM, g0, g1, HK1.out, HK2.out, g4, g5, g6, g7, g8, HSE.out]
  clear HB
  have HB := Lib.hid HBB.out
  clear HBB
  by_cases k2' : r.kind = 2
  rotate_left
  · have n2 : (r.kind != 2) = true := by simp [k2']
    have HF : bo = true := by rw [← HB.out]; simp [k2']
    subst HF
    repeat (first
      | go_big_quiet_skip
      | (go_big_quiet_want
         first
         | (refine quiet_runs (runs_ldA 0 (ty := 46) (n := 107) rfl rfl rfl (by kernel_rfl) Tryd.underlying46 rfl (by kernel_rfl)) ?_)
         | (refine quiet_callF 69 rfl Tryd.func69 HKN.out (al := [.int .i64 r.frm]) rfl (fun v hv => mnode_ok r.frm HK1.out v _ hv) ?_)
         | (refine quiet_callF 69 rfl Tryd.func69 HKN.out (al := [.int .i64 r.to]) rfl (fun v hv => mnode_ok r.to HK2.out v _ hv) ?_)
         | (refine quiet_callF 70 rfl Tryd.func70 HKP.out (al := [.agg (flat r.segs).toArray]) rfl (fun v hv => mbare_ok r HK.out v _ hv) ?_)
         | (refine quiet_callF 71 rfl Tryd.func71 HKC.out (al := [.int .i64 r.code]) rfl (fun v hv => msgCodeS r.code HK3.out v _ hv) ?_)
         | (refine quiet_runs (runs_ld1 0 rfl rfl rfl rfl (by kernel_rfl)) ?_)
         | (refine quietV ?_ (fun v hv => ?_) ?_
            rotate_left
            · clear hv; go_simp <;> (try with_reducible rfl))
         (try simp only [put_rules])
         go_big_quiet_on))
    refine wpQuiet_nil (fun w' hw' => ?_)
    clear HW; have HW := Lib.hid hw'; clear hw'
    go_wp2
    go_ret
    exact ⟨rfl, HW.out.tail⟩
  have n2 : (r.kind != 2) = false := by simp [k2']
  have HK2' := Lib.hid k2'
  clear k2'
  cases hy : r.yes
  rotate_left
  · skip
    have HF : bo = true := by rw [← HB.out]; simp [hy]
    subst HF
    repeat (first
      | go_big_quiet_skip
      | (go_big_quiet_want
         first
         | (refine quiet_runs (runs_ldA 0 (ty := 46) (n := 107) rfl rfl rfl (by kernel_rfl) Tryd.underlying46 rfl (by kernel_rfl)) ?_)
         | (refine quiet_callF 69 rfl Tryd.func69 HKN.out (al := [.int .i64 r.frm]) rfl (fun v hv => mnode_ok r.frm HK1.out v _ hv) ?_)
         | (refine quiet_callF 69 rfl Tryd.func69 HKN.out (al := [.int .i64 r.to]) rfl (fun v hv => mnode_ok r.to HK2.out v _ hv) ?_)
         | (refine quiet_callF 70 rfl Tryd.func70 HKP.out (al := [.agg (flat r.segs).toArray]) rfl (fun v hv => mbare_ok r HK.out v _ hv) ?_)
         | (refine quiet_callF 71 rfl Tryd.func71 HKC.out (al := [.int .i64 r.code]) rfl (fun v hv => msgCodeS r.code HK3.out v _ hv) ?_)
         | (refine quiet_runs (runs_ld1 0 rfl rfl rfl rfl (by kernel_rfl)) ?_)
         | (refine quietV ?_ (fun v hv => ?_) ?_
            rotate_left
            · clear hv; go_simp <;> (try with_reducible rfl))
         (try simp only [put_rules])
         go_big_quiet_on))
    refine wpQuiet_nil (fun w' hw' => ?_)
    clear HW; have HW := Lib.hid hw'; clear hw'
    go_wp2
    go_ret
    exact ⟨rfl, HW.out.tail⟩
  cases k3
  · skip
    have HF : bo = false := by rw [← HB.out]; simp [HK2'.out, hy, HK3.out]
    subst HF
    repeat (first
      | go_big_quiet_skip
      | (go_big_quiet_want
         first
         | (refine quiet_runs (runs_ldA 0 (ty := 46) (n := 107) rfl rfl rfl (by kernel_rfl) Tryd.underlying46 rfl (by kernel_rfl)) ?_)
         | (refine quiet_callF 69 rfl Tryd.func69 HKN.out (al := [.int .i64 r.frm]) rfl (fun v hv => mnode_ok r.frm HK1.out v _ hv) ?_)
         | (refine quiet_callF 69 rfl Tryd.func69 HKN.out (al := [.int .i64 r.to]) rfl (fun v hv => mnode_ok r.to HK2.out v _ hv) ?_)
         | (refine quiet_callF 70 rfl Tryd.func70 HKP.out (al := [.agg (flat r.segs).toArray]) rfl (fun v hv => mbare_ok r HK.out v _ hv) ?_)
         | (refine quiet_callF 71 rfl Tryd.func71 HKC.out (al := [.int .i64 r.code]) rfl (fun v hv => msgCodeS r.code HK3.out v _ hv) ?_)
         | (refine quiet_runs (runs_ld1 0 rfl rfl rfl rfl (by kernel_rfl)) ?_)
         | (refine quietV ?_ (fun v hv => ?_) ?_
            rotate_left
            · clear hv; go_simp <;> (try with_reducible rfl))
         (try simp only [put_rules])
         go_big_quiet_on))
    refine wpQuiet_nil (fun w' hw' => ?_)
    clear HW; have HW := Lib.hid hw'; clear hw'
    go_wp2
    go_ret
    exact ⟨rfl, HW.out.tail⟩
  · skip
    have HF : bo = true := by rw [← HB.out]; simp [HK3.out]
    subst HF
    repeat (first
      | go_big_quiet_skip
      | (go_big_quiet_want
         first
         | (refine quiet_runs (runs_ldA 0 (ty := 46) (n := 107) rfl rfl rfl (by kernel_rfl) Tryd.underlying46 rfl (by kernel_rfl)) ?_)
         | (refine quiet_callF 69 rfl Tryd.func69 HKN.out (al := [.int .i64 r.frm]) rfl (fun v hv => mnode_ok r.frm HK1.out v _ hv) ?_)
         | (refine quiet_callF 69 rfl Tryd.func69 HKN.out (al := [.int .i64 r.to]) rfl (fun v hv => mnode_ok r.to HK2.out v _ hv) ?_)
         | (refine quiet_callF 70 rfl Tryd.func70 HKP.out (al := [.agg (flat r.segs).toArray]) rfl (fun v hv => mbare_ok r HK.out v _ hv) ?_)
         | (refine quiet_callF 71 rfl Tryd.func71 HKC.out (al := [.int .i64 r.code]) rfl (fun v hv => msgCodeS r.code HK3.out v _ hv) ?_)
         | (refine quiet_runs (runs_ld1 0 rfl rfl rfl rfl (by kernel_rfl)) ?_)
         | (refine quietV ?_ (fun v hv => ?_) ?_
            rotate_left
            · clear hv; go_simp <;> (try with_reducible rfl))
         (try simp only [put_rules])
         go_big_quiet_on))
    refine wpQuiet_nil (fun w' hw' => ?_)
    clear HW; have HW := Lib.hid hw'; clear hw'
    go_wp2
    go_ret
    exact ⟨rfl, HW.out.tail⟩
end Go.Proofs.YtibkngjacdggpaaDoor
