/- Any bytes are a record's, or none, as the document says; what is decoded is encoded as it stood (the walk of RecordDecodes). -/
import Derived.Test.YtaieonajialenaaRecX
namespace Go.Proofs.Ytaieonajialenaa
open Go.RowKit HP

set_option maxRecDepth 100000 in
set_option maxHeartbeats 8000000 in
theorem recordDecodes_ok (A : Option Addr) (n c : Nat) (xs : List UInt8) (w : World) (R : List HP) (hh : Holds w R) (hr : Ent R fun w => RD w A xs) (hn : Hid (n = xs.length)) (hc : n ≤ c) (hb : n ≤ 140737488351232) :
    Calls Try.prog 9 #[.slice A n c] w fun e w' => e = .returned (.bool true) ∧ Holds w' R := by
  have HW := Lib.hid hh
  have HR := Lib.hid hr
  have HZ := Lib.hid (Rec.segs_ok Rec.zero_ok)
  clear hh hr
  by_cases h5 : 5000 < n
  · have d5 : decide ((5000 : Int) < (n : Int)) = true := decide_eq_true (by omega)
    go_enter Try.func9, Try.ntmps9
    go_wp2_with (first
      | go_skip
      | ((go_at_call 24; have hc := rcawake_ok _ _ HW.out; with_reducible refine hc.mono ?_; clear hc)
         rintro e w2 ⟨rfl, hw'⟩
         clear HW; have HW := Lib.hid hw'; clear hw'; (try simp only [hps_rules] at HW)))
    go_ret
    exact ⟨rfl, HW.out⟩
  have d5 : decide ((5000 : Int) < (n : Int)) = false := decide_eq_false (by omega)
  by_cases hd : (decR xs).2 = 0
  · obtain ⟨r, HRR⟩ : ∃ r, Hid ((decR xs).1 = r) := ⟨_, rfl⟩
    have HD : Hid (decR xs = (r, 0)) := by unfold Hid; rw [← HRR.out, ← hd]
    have HWF : Hid (r.Wf) := by rw [← HRR.out]; exact decR_wf xs (by rw [← hn.out]; omega)
    have HFB : Hid (formedR r = true) := (decR_ok HD.out).1
    have HX : Hid (encR r = xs) := (decR_ok HD.out).2
    clear hd
    have HDC : Hid (∀ w, Holds w R → Calls Try.prog 37 #[.slice A n c] w fun e w' => e = .returned (.tuple #[.agg (flat (Rec.segs r)).toArray, .int .i64 0]) ∧ Holds w' R) := fun w hw => by
      have := rcDecode_ok A n c xs w R hw HR.out hn (by omega)
      rw [HD.out] at this
      exact this
    have HDR : Hid (∀ P w, Holds w (P :: R) → Calls Try.prog 38 #[.slice A n c] w fun e w' => e = .returned (.tuple #[.agg (flat (Rec.segs r)).toArray, .int .i64 0]) ∧ Holds w' (P :: R)) := fun P w hw => by
      have := rDecodeRec_ok A n c xs w (P :: R) hw (fun w hw => HR.out w hw.tail) hn hc (by omega)
      rw [HD.out] at this
      exact this
    have HS := Lib.hid (Rec.segs_ok HWF.out.ok)
    have he : ∀ w, (Op.equalIn 10000 38 (.agg (flat (Rec.segs r)).toArray) (.agg (flat (Rec.segs r)).toArray)).run Try.prog w = .ok true w := fun w => by
      have := run_equal_rec (T := 38) (.inr rfl) HWF.out HWF.out w
      rwa [sameR_self] at this
    have HEN : Hid (∀ w L, Holds w L → Calls Try.prog 26 #[.agg (flat (Rec.segs r)).toArray] w fun e w' => ∃ A n c, e = .returned (.tuple #[.slice A n c, .int .i64 0]) ∧ Hid (n = (xs : List UInt8).length) ∧ n ≤ c ∧ Holds w' (own (.slice A n c) xs :: L)) := fun w L hw => by
      have := rcEncodeS _ HWF.out w L hw HFB.out
      rw [if_pos rfl, if_pos rfl, HX.out] at this
      exact this
    clear h5
    go_enter Try.func9, Try.ntmps9
    go_wp2_with (first
      | go_skip
      | ((go_at_call 24; have hc := rcawake_ok _ _ HW.out; with_reducible refine hc.mono ?_; clear hc)
         rintro e w2 ⟨rfl, hw'⟩
         clear HW; have HW := Lib.hid hw'; clear hw'; (try simp only [hps_rules] at HW))
      | ((go_at_call 37; have hc := HDC.out _ HW.out; with_reducible refine hc.mono ?_; clear hc)
         rintro e w2 ⟨rfl, hw'⟩
         clear HW; have HW := Lib.hid hw'; clear hw'; (try simp only [hps_rules] at HW))
      | ((go_at_call 38; have hc := HDR.out _ _ HW.out; with_reducible refine hc.mono ?_; clear hc)
         rintro e w2 ⟨rfl, hw'⟩
         clear HW; have HW := Lib.hid hw'; clear hw'; (try simp only [hps_rules] at HW))
      | (refine wpList_alloc HW.out rfl (ty := 37) rfl (z := .agg (flat Rec.zero.segs).toArray) (by kernel_rfl) (M := Rec.zero.segs) rfl HZ.out (fun g3 w' hw' => ?_)
         clear HW; have HW := Lib.hid hw'; clear hw'; (try simp only [hps_rules] at HW); (try simp only [put_rules]))
      | (refine wpList_alloc HW.out rfl (ty := 38) rfl (z := .agg (flat Rec.zero.segs).toArray) (by kernel_rfl) (M := Rec.zero.segs) rfl HZ.out (fun g5 w' hw' => ?_)
         clear HW; have HW := Lib.hid hw'; clear hw'; (try simp only [hps_rules] at HW); (try simp only [put_rules]))
      | (refine wpList_stR HW.out rfl (ty := 37) (n := 74) rfl rfl 0 rfl (M := Rec.segs r) rfl rfl HS.out rfl (by kernel_rfl) (fun w' hw' => ?_)
         clear HW; have HW := Lib.hid hw'; clear hw'; (try simp only [hps_rules] at HW); (try simp only [put_rules]))
      | (refine wpList_stR HW.out rfl (ty := 38) (n := 74) rfl rfl 0 rfl (M := Rec.segs r) rfl rfl HS.out rfl (by kernel_rfl) (fun w' hw' => ?_)
         clear HW; have HW := Lib.hid hw'; clear hw'; (try simp only [hps_rules] at HW); (try simp only [put_rules]))
      | (refine wpList_runs HW.out rfl (runs_ldR 1 (ty := 37) (n := 74) (m := Rec.segs r) rfl rfl rfl rfl Try.underlying37 rfl (by kernel_rfl)) ?_; simp only [put_rules])
      | (refine wpList_runs HW.out rfl (runs_ldR 0 (ty := 38) (n := 74) (m := Rec.segs r) rfl rfl rfl rfl Try.underlying38 rfl (by kernel_rfl)) ?_; simp only [put_rules])
      | (go_at_call 26; have hc := HEN.out _ _ HW.out; with_reducible refine hc.mono ?_; clear hc
         rintro e wz ⟨Av, nv, cv, rfl, hnv, hcv, hw'⟩
         replace hw' : Holds wz (_ :: _ :: own (.slice Av nv cv) _ :: R) := hw'.push_ 2 (by simp)
         clear HW; have HW := Lib.hid hw'; clear hw'; (try simp only [hps_rules] at HW))
      | (refine wpList_runs HW.out rfl (runs_b2s (A := Av) (n := nv) (c := cv) (xs := xs) rfl rfl hnv (fun w hw => (hw.pull 2 rfl).own_rd)) ?_; simp only [put_rules])
      | (refine wpList_runs HW.out rfl (runs_b2s (A := A) (n := n) (c := c) (xs := xs) rfl rfl hn (fun w hw => HR.out w hw.tail.tail.tail)) ?_; simp only [put_rules]))
    go_ret
    exact ⟨rfl, HW.out.tail.tail.tail⟩
  · have HD : Hid (decR xs = (Rec.zero, 2)) := decR_no hd
    have HWF : Hid (Rec.zero.Wf) := Rec.zero_wfP
    have HFB : Hid (formedR Rec.zero = false) := by unfold Hid; decide
    clear hd
    have HDC : Hid (∀ w, Holds w R → Calls Try.prog 37 #[.slice A n c] w fun e w' => e = .returned (.tuple #[.agg (flat (Rec.segs Rec.zero)).toArray, .int .i64 2]) ∧ Holds w' R) := fun w hw => by
      have := rcDecode_ok A n c xs w R hw HR.out hn (by omega)
      rw [HD.out] at this
      exact this
    have HDR : Hid (∀ P w, Holds w (P :: R) → Calls Try.prog 38 #[.slice A n c] w fun e w' => e = .returned (.tuple #[.agg (flat (Rec.segs Rec.zero)).toArray, .int .i64 2]) ∧ Holds w' (P :: R)) := fun P w hw => by
      have := rDecodeRec_ok A n c xs w (P :: R) hw (fun w hw => HR.out w hw.tail) hn hc (by omega)
      rw [HD.out] at this
      exact this
    have HS := Lib.hid (Rec.segs_ok HWF.out.ok)
    have he : ∀ w, (Op.equalIn 10000 38 (.agg (flat (Rec.segs Rec.zero)).toArray) (.agg (flat (Rec.segs Rec.zero)).toArray)).run Try.prog w = .ok true w := fun w => by
      have := run_equal_rec (T := 38) (.inr rfl) HWF.out HWF.out w
      rwa [sameR_self] at this
    have HEN : Hid (∀ w L, Holds w L → Calls Try.prog 26 #[.agg (flat (Rec.segs Rec.zero)).toArray] w fun e w' => ∃ A n c, e = .returned (.tuple #[.slice A n c, .int .i64 1]) ∧ Hid (n = ([] : List UInt8).length) ∧ n ≤ c ∧ Holds w' (own (.slice A n c) [] :: L)) := fun w L hw => by
      have := rcEncodeS _ HWF.out w L hw HFB.out
      exact this
    clear h5
    go_enter Try.func9, Try.ntmps9
    go_wp2_with (first
      | go_skip
      | ((go_at_call 24; have hc := rcawake_ok _ _ HW.out; with_reducible refine hc.mono ?_; clear hc)
         rintro e w2 ⟨rfl, hw'⟩
         clear HW; have HW := Lib.hid hw'; clear hw'; (try simp only [hps_rules] at HW))
      | ((go_at_call 37; have hc := HDC.out _ HW.out; with_reducible refine hc.mono ?_; clear hc)
         rintro e w2 ⟨rfl, hw'⟩
         clear HW; have HW := Lib.hid hw'; clear hw'; (try simp only [hps_rules] at HW))
      | ((go_at_call 38; have hc := HDR.out _ _ HW.out; with_reducible refine hc.mono ?_; clear hc)
         rintro e w2 ⟨rfl, hw'⟩
         clear HW; have HW := Lib.hid hw'; clear hw'; (try simp only [hps_rules] at HW))
      | (refine wpList_alloc HW.out rfl (ty := 37) rfl (z := .agg (flat Rec.zero.segs).toArray) (by kernel_rfl) (M := Rec.zero.segs) rfl HZ.out (fun g3 w' hw' => ?_)
         clear HW; have HW := Lib.hid hw'; clear hw'; (try simp only [hps_rules] at HW); (try simp only [put_rules]))
      | (refine wpList_alloc HW.out rfl (ty := 38) rfl (z := .agg (flat Rec.zero.segs).toArray) (by kernel_rfl) (M := Rec.zero.segs) rfl HZ.out (fun g5 w' hw' => ?_)
         clear HW; have HW := Lib.hid hw'; clear hw'; (try simp only [hps_rules] at HW); (try simp only [put_rules]))
      | (refine wpList_stR HW.out rfl (ty := 37) (n := 74) rfl rfl 0 rfl (M := Rec.segs Rec.zero) rfl rfl HS.out rfl (by kernel_rfl) (fun w' hw' => ?_)
         clear HW; have HW := Lib.hid hw'; clear hw'; (try simp only [hps_rules] at HW); (try simp only [put_rules]))
      | (refine wpList_stR HW.out rfl (ty := 38) (n := 74) rfl rfl 0 rfl (M := Rec.segs Rec.zero) rfl rfl HS.out rfl (by kernel_rfl) (fun w' hw' => ?_)
         clear HW; have HW := Lib.hid hw'; clear hw'; (try simp only [hps_rules] at HW); (try simp only [put_rules]))
      | (refine wpList_runs HW.out rfl (runs_ldR 1 (ty := 37) (n := 74) (m := Rec.segs Rec.zero) rfl rfl rfl rfl Try.underlying37 rfl (by kernel_rfl)) ?_; simp only [put_rules])
      | (refine wpList_runs HW.out rfl (runs_ldR 0 (ty := 38) (n := 74) (m := Rec.segs Rec.zero) rfl rfl rfl rfl Try.underlying38 rfl (by kernel_rfl)) ?_; simp only [put_rules])
      | (go_at_call 26; have hc := HEN.out _ _ HW.out; with_reducible refine hc.mono ?_; clear hc
         rintro e wz ⟨Av, nv, cv, rfl, hnv, hcv, hw'⟩
         replace hw' : Holds wz (_ :: _ :: own (.slice Av nv cv) _ :: R) := hw'.push_ 2 (by simp)
         clear HW; have HW := Lib.hid hw'; clear hw'; (try simp only [hps_rules] at HW)))
    go_ret
    exact ⟨rfl, HW.out.tail.tail.tail⟩
end Go.Proofs.Ytaieonajialenaa
