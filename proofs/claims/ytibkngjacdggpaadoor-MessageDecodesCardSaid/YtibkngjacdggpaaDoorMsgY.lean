/- Any bytes are a message, or none, as the document says; what is decoded is formed, and encoded as it stood (the walk of MessageDecodes). -/
import Derived.Test.YtibkngjacdggpaaDoorMsgD
namespace Go.Proofs.YtibkngjacdggpaaDoor
set_option linter.unusedSimpArgs false
set_option linter.unusedVariables false
open Go.RowKit HP

set_option maxRecDepth 100000 in
set_option maxHeartbeats 8000000 in
theorem messageDecodes_ok (A : Option Addr) (n c : Nat) (xs : List UInt8) (w : World) (R : List HP) (hh : Holds w R) (hr : Ent R fun w => RD w A xs) (hn : Hid (n = xs.length)) (hc : n ≤ c) (hb : n ≤ 140737488351232) (hkf : Ent R KF) :
    Calls Tryd.prog 12 #[.slice A n c] w fun e w' => e = .returned (.bool true) ∧ Holds w' R := by
  have HW := Lib.hid hh
  have HR := Lib.hid hr
  have HKF := Lib.hid hkf
  have HZ := Lib.hid (Msg.segs_ok Msg.zero_ok)
  clear hh hr hkf
  by_cases h5 : 3000 < n
  · have d5 : decide ((3000 : Int) < (n : Int)) = true := decide_eq_true (by omega)
    go_enter Tryd.func12, Tryd.ntmps12
    go_wp2_with (first
      | go_skip
      | ((go_at_call 22; have hc := msgawake_ok _ _ HW.out; with_reducible refine hc.mono ?_; clear hc)
         rintro e w2 ⟨rfl, hw'⟩
         clear HW; have HW := Lib.hid hw'; clear hw'; (try simp only [hps_rules] at HW)))
    go_ret
    exact ⟨rfl, HW.out⟩
  have d5 : decide ((3000 : Int) < (n : Int)) = false := decide_eq_false (by omega)
  by_cases hd : (decMsg xs).2 = 0
  · obtain ⟨r, HRR⟩ : ∃ r, Hid ((decMsg xs).1 = r) := ⟨_, rfl⟩
    have HD : Hid (decMsg xs = (r, 0)) := by unfold Hid; rw [← HRR.out, ← hd]
    have HWF : Hid (r.Wf) := by rw [← HRR.out]; exact decMsg_wf xs
    have HFB : Hid (formedM r = true) := (decMsg_ok HD.out).1
    have HX : Hid (encB r.kb (encM r) = xs) := (decMsg_ok HD.out).2
    clear hd
    have HDC : Hid (∀ w, Holds w R → Calls Tryd.prog 39 #[.slice A n c] w fun e w' => e = .returned (.tuple #[.agg (flat (Msg.segs r)).toArray, .int .i64 0]) ∧ Holds w' R) := fun w hw => by
      have := msgDecode_ok A n c xs w R hw HR.out hn hc (by omega) HKF.out
      rw [HD.out] at this
      exact this
    have HDR : Hid (∀ P w, Holds w (P :: R) → Calls Tryd.prog 40 #[.slice A n c] w fun e w' => e = .returned (.tuple #[.agg (flat (Msg.segs r)).toArray, .int .i64 0]) ∧ Holds w' (P :: R)) := fun P w hw => by
      have := rReadMsg_ok A n c xs w (P :: R) hw (fun w hw => HR.out w hw.tail) hn hc (by omega)
      rw [HD.out] at this
      exact this
    have HS := Lib.hid (Msg.segs_ok HWF.out.ok)
    have HLN := Lib.hid (Msg.lenS HWF.out.ok)
    have he : ∀ w, (Op.equalIn 10000 42 (.agg (flat (Msg.segs r)).toArray) (.agg (flat (Msg.segs r)).toArray)).run Tryd.prog w = .ok true w := fun w => by
      have := run_equal_msg (T := 42) (.inr rfl) HWF.out HWF.out w
      rwa [sameM_self] at this
    have HEN : Hid (∀ w L, Holds w L → Ent L KF → Calls Tryd.prog 24 #[.agg (flat (Msg.segs r)).toArray] w fun e w' => ∃ A n c, e = .returned (.tuple #[.slice A n c, .int .i64 0]) ∧ Hid (n = (xs : List UInt8).length) ∧ n ≤ c ∧ Holds w' (own (.slice A n c) xs :: L)) := fun w L hw hk => by
      have := msgEncode_ok _ HWF.out w L hw hk HFB.out
      rw [if_pos rfl, if_pos rfl, HX.out] at this
      exact this
    clear h5
    go_enter Tryd.func12, Tryd.ntmps12
    go_wp2_with (first
      | go_skip
      | ((go_at_call 22; have hc := msgawake_ok _ _ HW.out; with_reducible refine hc.mono ?_; clear hc)
         rintro e w2 ⟨rfl, hw'⟩
         clear HW; have HW := Lib.hid hw'; clear hw'; (try simp only [hps_rules] at HW))
      | ((go_at_call 39; have hc := HDC.out _ HW.out; with_reducible refine hc.mono ?_; clear hc)
         rintro e w2 ⟨rfl, hw'⟩
         clear HW; have HW := Lib.hid hw'; clear hw'; (try simp only [hps_rules] at HW))
      | ((go_at_call 40; have hc := HDR.out _ _ HW.out; with_reducible refine hc.mono ?_; clear hc)
         rintro e w2 ⟨rfl, hw'⟩
         clear HW; have HW := Lib.hid hw'; clear hw'; (try simp only [hps_rules] at HW))
      | (refine wpList_alloc HW.out rfl (ty := 46) rfl (z := .agg (flat Msg.zero.segs).toArray) (by kernel_rfl) (M := Msg.zero.segs) rfl HZ.out (fun g3 w' hw' => ?_)
         clear HW; have HW := Lib.hid hw'; clear hw'; (try simp only [hps_rules] at HW); (try simp only [put_rules]))
      | (refine wpList_alloc HW.out rfl (ty := 42) rfl (z := .agg (flat Msg.zero.segs).toArray) (by kernel_rfl) (M := Msg.zero.segs) rfl HZ.out (fun g5 w' hw' => ?_)
         clear HW; have HW := Lib.hid hw'; clear hw'; (try simp only [hps_rules] at HW); (try simp only [put_rules]))
      | (refine wpList_stA HW.out rfl (ty := 46) (n := 107) rfl rfl 0 rfl (M := Msg.segs r) rfl HS.out (by kernel_rfl) HLN.out (by kernel_rfl) (fun w' hw' => ?_)
         clear HW; have HW := Lib.hid hw'; clear hw'; (try simp only [hps_rules] at HW); (try simp only [put_rules]))
      | (refine wpList_stA HW.out rfl (ty := 42) (n := 107) rfl rfl 0 rfl (M := Msg.segs r) rfl HS.out (by kernel_rfl) HLN.out (by kernel_rfl) (fun w' hw' => ?_)
         clear HW; have HW := Lib.hid hw'; clear hw'; (try simp only [hps_rules] at HW); (try simp only [put_rules]))
      | (refine wpList_runs HW.out rfl (runs_ldA 1 (ty := 46) (n := 107) rfl rfl rfl HLN.out Tryd.underlying46 rfl (by kernel_rfl)) ?_; simp only [put_rules])
      | (refine wpList_runs HW.out rfl (runs_ldA 0 (ty := 42) (n := 107) rfl rfl rfl HLN.out Tryd.underlying42 rfl (by kernel_rfl)) ?_; simp only [put_rules])
      | (go_at_call 24; have hc := HEN.out _ _ HW.out ((HKF.out.cons _).cons _); with_reducible refine hc.mono ?_; clear hc
         rintro e wz ⟨Av, nv, cv, rfl, hnv, hcv, hw'⟩
         replace hw' : Holds wz (_ :: _ :: own (.slice Av nv cv) _ :: R) := hw'.push_ 2 (by simp)
         clear HW; have HW := Lib.hid hw'; clear hw'; (try simp only [hps_rules] at HW); (try simp only [put_rules]))
      | (refine wpList_runs HW.out rfl (runs_b2s (A := Av) (n := nv) (c := cv) (xs := xs) rfl rfl hnv (fun w hw => (hw.pull 2 rfl).own_rd)) ?_; simp only [put_rules])
      | (refine wpList_runs HW.out rfl (runs_b2s (A := A) (n := n) (c := c) (xs := xs) rfl rfl hn (fun w hw => HR.out w hw.tail.tail.tail)) ?_; simp only [put_rules])
      | ((go_at_call 37; have hc := mformed_ok r HWF.out _ _ HW.out HFB.out; with_reducible refine hc.mono ?_; clear hc)
         rintro e w2 ⟨rfl, hw'⟩
         clear HW; have HW := Lib.hid hw'; clear hw'; (try simp only [hps_rules] at HW)))
    go_ret
    exact ⟨rfl, HW.out.tail.tail.tail⟩
  · obtain ⟨q, HQ⟩ : ∃ q, Hid ((decMsg xs).2 = q) := ⟨_, rfl⟩
    have HD : Hid (decMsg xs = (Msg.zero, q)) := by unfold Hid; rw [← HQ.out]; exact decMsg_no hd
    have HWF : Hid (Msg.zero.Wf) := Msg.zero_wf
    have HFB : Hid (formedM Msg.zero = false) := msgZero_formed
    have hq : (q != 0) = true := by rw [← HQ.out]; simpa using hd
    clear hd
    have HDC : Hid (∀ w, Holds w R → Calls Tryd.prog 39 #[.slice A n c] w fun e w' => e = .returned (.tuple #[.agg (flat (Msg.segs Msg.zero)).toArray, .int .i64 q]) ∧ Holds w' R) := fun w hw => by
      have := msgDecode_ok A n c xs w R hw HR.out hn hc (by omega) HKF.out
      rw [HD.out] at this
      exact this
    have HDR : Hid (∀ P w, Holds w (P :: R) → Calls Tryd.prog 40 #[.slice A n c] w fun e w' => e = .returned (.tuple #[.agg (flat (Msg.segs Msg.zero)).toArray, .int .i64 q]) ∧ Holds w' (P :: R)) := fun P w hw => by
      have := rReadMsg_ok A n c xs w (P :: R) hw (fun w hw => HR.out w hw.tail) hn hc (by omega)
      rw [HD.out] at this
      exact this
    have HS := Lib.hid (Msg.segs_ok HWF.out.ok)
    have HLN := Lib.hid (Msg.lenS HWF.out.ok)
    have he : ∀ w, (Op.equalIn 10000 42 (.agg (flat (Msg.segs Msg.zero)).toArray) (.agg (flat (Msg.segs Msg.zero)).toArray)).run Tryd.prog w = .ok true w := fun w => by
      have := run_equal_msg (T := 42) (.inr rfl) HWF.out HWF.out w
      rwa [sameM_self] at this
    have HEN : Hid (∀ w L, Holds w L → Ent L KF → Calls Tryd.prog 24 #[.agg (flat (Msg.segs Msg.zero)).toArray] w fun e w' => ∃ A n c, e = .returned (.tuple #[.slice A n c, .int .i64 1]) ∧ Hid (n = ([] : List UInt8).length) ∧ n ≤ c ∧ Holds w' (own (.slice A n c) [] :: L)) := fun w L hw hk => msgEncode_ok _ HWF.out w L hw hk HFB.out
    clear h5
    go_enter Tryd.func12, Tryd.ntmps12
    go_wp2_with (first
      | go_skip
      | ((go_at_call 22; have hc := msgawake_ok _ _ HW.out; with_reducible refine hc.mono ?_; clear hc)
         rintro e w2 ⟨rfl, hw'⟩
         clear HW; have HW := Lib.hid hw'; clear hw'; (try simp only [hps_rules] at HW))
      | ((go_at_call 39; have hc := HDC.out _ HW.out; with_reducible refine hc.mono ?_; clear hc)
         rintro e w2 ⟨rfl, hw'⟩
         clear HW; have HW := Lib.hid hw'; clear hw'; (try simp only [hps_rules] at HW))
      | ((go_at_call 40; have hc := HDR.out _ _ HW.out; with_reducible refine hc.mono ?_; clear hc)
         rintro e w2 ⟨rfl, hw'⟩
         clear HW; have HW := Lib.hid hw'; clear hw'; (try simp only [hps_rules] at HW))
      | (refine wpList_alloc HW.out rfl (ty := 46) rfl (z := .agg (flat Msg.zero.segs).toArray) (by kernel_rfl) (M := Msg.zero.segs) rfl HZ.out (fun g3 w' hw' => ?_)
         clear HW; have HW := Lib.hid hw'; clear hw'; (try simp only [hps_rules] at HW); (try simp only [put_rules]))
      | (refine wpList_alloc HW.out rfl (ty := 42) rfl (z := .agg (flat Msg.zero.segs).toArray) (by kernel_rfl) (M := Msg.zero.segs) rfl HZ.out (fun g5 w' hw' => ?_)
         clear HW; have HW := Lib.hid hw'; clear hw'; (try simp only [hps_rules] at HW); (try simp only [put_rules]))
      | (refine wpList_stA HW.out rfl (ty := 46) (n := 107) rfl rfl 0 rfl (M := Msg.segs Msg.zero) rfl HS.out (by kernel_rfl) HLN.out (by kernel_rfl) (fun w' hw' => ?_)
         clear HW; have HW := Lib.hid hw'; clear hw'; (try simp only [hps_rules] at HW); (try simp only [put_rules]))
      | (refine wpList_stA HW.out rfl (ty := 42) (n := 107) rfl rfl 0 rfl (M := Msg.segs Msg.zero) rfl HS.out (by kernel_rfl) HLN.out (by kernel_rfl) (fun w' hw' => ?_)
         clear HW; have HW := Lib.hid hw'; clear hw'; (try simp only [hps_rules] at HW); (try simp only [put_rules]))
      | (refine wpList_runs HW.out rfl (runs_ldA 1 (ty := 46) (n := 107) rfl rfl rfl HLN.out Tryd.underlying46 rfl (by kernel_rfl)) ?_; simp only [put_rules])
      | (refine wpList_runs HW.out rfl (runs_ldA 0 (ty := 42) (n := 107) rfl rfl rfl HLN.out Tryd.underlying42 rfl (by kernel_rfl)) ?_; simp only [put_rules])
      | (go_at_call 24; have hc := HEN.out _ _ HW.out ((HKF.out.cons _).cons _); with_reducible refine hc.mono ?_; clear hc
         rintro e wz ⟨Av, nv, cv, rfl, hnv, hcv, hw'⟩
         replace hw' : Holds wz (_ :: _ :: own (.slice Av nv cv) _ :: R) := hw'.push_ 2 (by simp)
         clear HW; have HW := Lib.hid hw'; clear hw'; (try simp only [hps_rules] at HW); (try simp only [put_rules])))
    go_ret
    exact ⟨rfl, HW.out.tail.tail.tail⟩
end Go.Proofs.YtibkngjacdggpaaDoor
