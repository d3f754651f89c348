/- Two messages that differ have bytes that differ (the walk of MessageApart). -/
import Derived.Test.YtibkngjacdggpaaDoorMsgD
namespace Go.Proofs.YtibkngjacdggpaaDoor
set_option linter.unusedSimpArgs false
set_option linter.unusedVariables false
open Go.RowKit HP

theorem encMsg_inj {a b : Msg} (wa : a.Ok) (wb : b.Ok) (ha : FormedM a) (hb : FormedM b) (h : encB a.kb (encM a) = encB b.kb (encM b)) : a = b := by
  have h1 := decMsg_enc ha wa
  have h2 := decMsg_enc hb wb
  rw [h, h2] at h1
  exact (Prod.mk.inj h1).1.symm
set_option maxRecDepth 100000 in
set_option maxHeartbeats 8000000 in
theorem messageApart_ok (r z : Msg) (h : r.Wf) (hz : z.Wf) (w : World) (R : List HP) (hh : Holds w R) (hkf : Ent R KF) : Calls Tryd.prog 5 #[.agg (flat r.segs).toArray, .agg (flat z.segs).toArray] w fun e w' => e = .returned (.bool true) ∧ Holds w' R := by
  have HW := Lib.hid hh
  have HKF := Lib.hid hkf
  have HS := Lib.hid (Msg.segs_ok h.ok)
  have HSZ := Lib.hid (Msg.segs_ok hz.ok)
  have HR := Lib.hid h
  have HRZ := Lib.hid hz
  have HLN := Lib.hid (Msg.lenS h.ok)
  have HLZ := Lib.hid (Msg.lenS hz.ok)
  clear hh h hz hkf
  obtain ⟨b1, HB1⟩ : ∃ b, Hid (fewM r = b) := ⟨_, rfl⟩
  obtain ⟨b2, HB2⟩ : ∃ b, Hid (fewM z = b) := ⟨_, rfl⟩
  cases b1
  · skip
    go_enter Tryd.func5, Tryd.ntmps5
    go_wp2_with (first
      | go_skip
      | (refine wpList_runs HW.out rfl (runs_ldA 1 (ty := 42) (n := 107) rfl rfl rfl HLN.out Tryd.underlying42 rfl (by kernel_rfl)) ?_; simp only [put_rules])
      | (refine wpList_runs HW.out rfl (runs_ldA 0 (ty := 42) (n := 107) rfl rfl rfl HLZ.out Tryd.underlying42 rfl (by kernel_rfl)) ?_; simp only [put_rules])
      | (refine wpList_box HW.out rfl rfl rfl rfl HS.out (fun ga w' hw' => ?_)
         clear HW; have HW := Lib.hid hw'; clear hw'; (try simp only [hps_rules] at HW); (try simp only [put_rules]))
      | (refine wpList_box HW.out rfl rfl rfl rfl HSZ.out (fun gb w' hw' => ?_)
         clear HW; have HW := Lib.hid hw'; clear hw'; (try simp only [hps_rules] at HW); (try simp only [put_rules]))
      | ((go_at_call 22; have hc := msgawake_ok _ _ HW.out; with_reducible refine hc.mono ?_; clear hc)
         rintro e w2 ⟨rfl, hw'⟩
         clear HW; have HW := Lib.hid hw'; clear hw'; (try simp only [hps_rules] at HW))
      | ((go_at_call 23; have hc := msgfew_ok r HR.out.ok HB1.out _ _ HW.out; with_reducible refine hc.mono ?_; clear hc)
         rintro e w2 ⟨rfl, hw'⟩
         clear HW; have HW := Lib.hid hw'; clear hw'; (try simp only [hps_rules] at HW))
      | ((go_at_call 23; have hc := msgfew_ok z HRZ.out.ok HB2.out _ _ HW.out; with_reducible refine hc.mono ?_; clear hc)
         rintro e w2 ⟨rfl, hw'⟩
         clear HW; have HW := Lib.hid hw'; clear hw'; (try simp only [hps_rules] at HW)))
    go_ret
    exact ⟨rfl, HW.out.tail.tail⟩
  cases b2
  · skip
    go_enter Tryd.func5, Tryd.ntmps5
    go_wp2_with (first
      | go_skip
      | (refine wpList_runs HW.out rfl (runs_ldA 1 (ty := 42) (n := 107) rfl rfl rfl HLN.out Tryd.underlying42 rfl (by kernel_rfl)) ?_; simp only [put_rules])
      | (refine wpList_runs HW.out rfl (runs_ldA 0 (ty := 42) (n := 107) rfl rfl rfl HLZ.out Tryd.underlying42 rfl (by kernel_rfl)) ?_; simp only [put_rules])
      | (refine wpList_box HW.out rfl rfl rfl rfl HS.out (fun ga w' hw' => ?_)
         clear HW; have HW := Lib.hid hw'; clear hw'; (try simp only [hps_rules] at HW); (try simp only [put_rules]))
      | (refine wpList_box HW.out rfl rfl rfl rfl HSZ.out (fun gb w' hw' => ?_)
         clear HW; have HW := Lib.hid hw'; clear hw'; (try simp only [hps_rules] at HW); (try simp only [put_rules]))
      | ((go_at_call 22; have hc := msgawake_ok _ _ HW.out; with_reducible refine hc.mono ?_; clear hc)
         rintro e w2 ⟨rfl, hw'⟩
         clear HW; have HW := Lib.hid hw'; clear hw'; (try simp only [hps_rules] at HW))
      | ((go_at_call 23; have hc := msgfew_ok r HR.out.ok HB1.out _ _ HW.out; with_reducible refine hc.mono ?_; clear hc)
         rintro e w2 ⟨rfl, hw'⟩
         clear HW; have HW := Lib.hid hw'; clear hw'; (try simp only [hps_rules] at HW))
      | ((go_at_call 23; have hc := msgfew_ok z HRZ.out.ok HB2.out _ _ HW.out; with_reducible refine hc.mono ?_; clear hc)
         rintro e w2 ⟨rfl, hw'⟩
         clear HW; have HW := Lib.hid hw'; clear hw'; (try simp only [hps_rules] at HW)))
    go_ret
    exact ⟨rfl, HW.out.tail.tail⟩
  obtain ⟨fa, HFA⟩ : ∃ b, Hid (formedM r = b) := ⟨_, rfl⟩
  obtain ⟨fb, HFB⟩ : ∃ b, Hid (formedM z = b) := ⟨_, rfl⟩
  obtain ⟨X, HX⟩ : ∃ x, Hid ((if fa = true then encB r.kb (encM r) else []) = x) := ⟨_, rfl⟩
  obtain ⟨Y, HY⟩ : ∃ x, Hid ((if fb = true then encB z.kb (encM z) else []) = x) := ⟨_, rfl⟩
  obtain ⟨p, HP⟩ : ∃ x : Int, Hid ((if fa = true then 0 else 1) = x) := ⟨_, rfl⟩
  obtain ⟨q, HQ⟩ : ∃ x : Int, Hid ((if fb = true then 0 else 1) = x) := ⟨_, rfl⟩
  have HE1 : Hid (∀ w R, Holds w R → Ent R KF → Calls Tryd.prog 24 #[.agg (flat r.segs).toArray] w fun e w' => ∃ A n c, e = .returned (.tuple #[.slice A n c, .int .i64 p]) ∧ Hid (n = X.length) ∧ n ≤ c ∧ Holds w' (own (.slice A n c) X :: R)) := fun w R hw hk => by
    have := msgEncode_ok r HR.out w R hw hk HFA.out
    rw [HX.out, HP.out] at this
    exact this
  have HE2 : Hid (∀ w R, Holds w R → Ent R KF → Calls Tryd.prog 24 #[.agg (flat z.segs).toArray] w fun e w' => ∃ A n c, e = .returned (.tuple #[.slice A n c, .int .i64 q]) ∧ Hid (n = Y.length) ∧ n ≤ c ∧ Holds w' (own (.slice A n c) Y :: R)) := fun w R hw hk => by
    have := msgEncode_ok z HRZ.out w R hw hk HFB.out
    rw [HY.out, HQ.out] at this
    exact this
  obtain ⟨se, HSE⟩ : ∃ b, Hid (sameM r z = b) := ⟨_, rfl⟩
  have he : ∀ w, (Op.equalIn 10000 42 (.agg (flat r.segs).toArray) (.agg (flat z.segs).toArray)).run Tryd.prog w = .ok se w := fun w => by
    have := run_equal_msg (T := 42) (.inr rfl) HR.out HRZ.out w
    rwa [HSE.out] at this
  have HEQ : Hid (fa = true → fb = true → ((strOf X).toList == (strOf Y).toList) = se) := fun ha hb => by
    subst ha hb
    rw [strOf_list, strOf_list, ← HX.out, ← HY.out, ← HSE.out, if_pos rfl, if_pos rfl, Bool.eq_iff_iff, beq_iff_eq, sameM_iff]
    refine ⟨fun h => encMsg_inj HR.out.ok HRZ.out.ok ((formedM_iff _).1 HFA.out) ((formedM_iff _).1 HFB.out) h, fun h => by rw [h]⟩
  go_enter Tryd.func5, Tryd.ntmps5
  go_wp2_with (first
    | go_skip
    | (refine wpList_runs HW.out rfl (runs_ldA 1 (ty := 42) (n := 107) rfl rfl rfl HLN.out Tryd.underlying42 rfl (by kernel_rfl)) ?_; simp only [put_rules])
    | (refine wpList_runs HW.out rfl (runs_ldA 0 (ty := 42) (n := 107) rfl rfl rfl HLZ.out Tryd.underlying42 rfl (by kernel_rfl)) ?_; simp only [put_rules])
    | (refine wpList_box HW.out rfl rfl rfl rfl HS.out (fun ga w' hw' => ?_)
       clear HW; have HW := Lib.hid hw'; clear hw'; (try simp only [hps_rules] at HW); (try simp only [put_rules]))
    | (refine wpList_box HW.out rfl rfl rfl rfl HSZ.out (fun gb w' hw' => ?_)
       clear HW; have HW := Lib.hid hw'; clear hw'; (try simp only [hps_rules] at HW); (try simp only [put_rules]))
    | ((go_at_call 22; have hc := msgawake_ok _ _ HW.out; with_reducible refine hc.mono ?_; clear hc)
       rintro e w2 ⟨rfl, hw'⟩
       clear HW; have HW := Lib.hid hw'; clear hw'; (try simp only [hps_rules] at HW))
    | ((go_at_call 23; have hc := msgfew_ok r HR.out.ok HB1.out _ _ HW.out; with_reducible refine hc.mono ?_; clear hc)
       rintro e w2 ⟨rfl, hw'⟩
       clear HW; have HW := Lib.hid hw'; clear hw'; (try simp only [hps_rules] at HW))
    | ((go_at_call 23; have hc := msgfew_ok z HRZ.out.ok HB2.out _ _ HW.out; with_reducible refine hc.mono ?_; clear hc)
       rintro e w2 ⟨rfl, hw'⟩
       clear HW; have HW := Lib.hid hw'; clear hw'; (try simp only [hps_rules] at HW))
    | (go_at_call 24; have hc := HE1.out _ _ HW.out ((HKF.out.cons _).cons _); with_reducible refine hc.mono ?_; clear hc
       rintro e w2 ⟨A1, n1, c1, rfl, hn1, hc1, hw'⟩
       replace hw' := (hw'.push_ 2 (by simp) : Holds w2 (_ :: _ :: own (.slice A1 n1 c1) X :: R))
       clear HW; have HW := Lib.hid hw'; clear hw'; (try simp only [hps_rules] at HW); (try simp only [put_rules]))
    | (go_at_call 24; have hc := HE2.out _ _ HW.out (((HKF.out.cons _).cons _).cons _); with_reducible refine hc.mono ?_; clear hc
       rintro e w3 ⟨A2, n2, c2, rfl, hn2, hc2, hw'⟩
       replace hw' := (hw'.push_ 2 (by simp) : Holds w3 (_ :: _ :: own (.slice A2 n2 c2) Y :: own (.slice A1 n1 c1) X :: R))
       clear HW; have HW := Lib.hid hw'; clear hw'; (try simp only [hps_rules] at HW); (try simp only [put_rules])))
  cases fa
  · obtain rfl : p = 1 := HP.out.symm
    refine wp_region_quietC (fun v => Holds v _) (by kernel_rfl) (by kernel_rfl) (HW.out.drewN 1) ?_
    repeat (first
      | go_big_quiet_skip
      | (go_big_quiet_want
         first
         | (refine quiet_runs (runs_ldA 1 (ty := 42) (n := 107) rfl rfl rfl HLN.out Tryd.underlying42 rfl (by kernel_rfl)) ?_)
         | (refine quiet_runs (runs_ldA 0 (ty := 42) (n := 107) rfl rfl rfl HLZ.out Tryd.underlying42 rfl (by kernel_rfl)) ?_)
         | (refine quiet_runs (runs_ld1 0 rfl rfl rfl rfl (by kernel_rfl)) ?_)
         | (refine quietV ?_ (fun v hv => ?_) ?_
            rotate_left
            · clear hv; go_simp <;> (try with_reducible rfl))
         (try simp only [put_rules])
         go_big_quiet_on))
    refine wpQuiet_nil (fun w' hw' => ?_)
    clear HW; have HW := Lib.hid hw'; clear hw'
    go_wp2
    go_ret
    exact ⟨rfl, HW.out.tail.tail.tail.tail⟩
  obtain rfl : p = 0 := HP.out.symm
  cases fb
  · obtain rfl : q = 1 := HQ.out.symm
    refine wp_region_quietC (fun v => Holds v _) (by kernel_rfl) (by kernel_rfl) (HW.out.drewN 1) ?_
    repeat (first
      | go_big_quiet_skip
      | (go_big_quiet_want
         first
         | (refine quiet_runs (runs_ldA 1 (ty := 42) (n := 107) rfl rfl rfl HLN.out Tryd.underlying42 rfl (by kernel_rfl)) ?_)
         | (refine quiet_runs (runs_ldA 0 (ty := 42) (n := 107) rfl rfl rfl HLZ.out Tryd.underlying42 rfl (by kernel_rfl)) ?_)
         | (refine quiet_runs (runs_ld1 0 rfl rfl rfl rfl (by kernel_rfl)) ?_)
         | (refine quietV ?_ (fun v hv => ?_) ?_
            rotate_left
            · clear hv; go_simp <;> (try with_reducible rfl))
         (try simp only [put_rules])
         go_big_quiet_on))
    refine wpQuiet_nil (fun w' hw' => ?_)
    clear HW; have HW := Lib.hid hw'; clear hw'
    go_wp2
    go_ret
    exact ⟨rfl, HW.out.tail.tail.tail.tail⟩
  obtain rfl : q = 0 := HQ.out.symm
  have hs0 := HEQ.out rfl rfl
  cases se
  all_goals
    refine wp_region_quietC (fun v => Holds v _) (by kernel_rfl) (by kernel_rfl) (HW.out.drewN 1) ?_
    repeat (first
      | go_big_quiet_skip
      | (go_big_quiet_want
         first
         | (refine quiet_runs (runs_ldA 1 (ty := 42) (n := 107) rfl rfl rfl HLN.out Tryd.underlying42 rfl (by kernel_rfl)) ?_)
         | (refine quiet_runs (runs_ldA 0 (ty := 42) (n := 107) rfl rfl rfl HLZ.out Tryd.underlying42 rfl (by kernel_rfl)) ?_)
         | (refine quiet_runs (runs_b2s (A := A1) (n := n1) (c := c1) (xs := X) rfl rfl hn1 (fun w hw => (hw.pull 3 rfl).own_rd)) ?_)
         | (refine quiet_runs (runs_b2s (A := A2) (n := n2) (c := c2) (xs := Y) rfl rfl hn2 (fun w hw => (hw.pull 2 rfl).own_rd)) ?_)
         | (refine quiet_runs (runs_ld1 0 rfl rfl rfl rfl (by kernel_rfl)) ?_)
         | (refine quietV ?_ (fun v hv => ?_) ?_
            rotate_left
            · clear hv; go_simp <;> (try with_reducible rfl))
         (try simp only [put_rules])
         go_big_quiet_on))
    refine wpQuiet_nil (fun w' hw' => ?_)
    clear HW; have HW := Lib.hid hw'; clear hw'
    go_wp2
    go_ret
    exact ⟨rfl, HW.out.tail.tail.tail.tail⟩
end Go.Proofs.YtibkngjacdggpaaDoor
