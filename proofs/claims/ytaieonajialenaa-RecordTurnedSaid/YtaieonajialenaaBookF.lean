/- Books: Fits, Add, New; a nil book. -/
import Derived.Test.YtaieonajialenaaBookE
import Derived.Test.YtaieonajialenaaRecD
namespace Go.Proofs.Ytaieonajialenaa
open Go.RowKit HP

def Bk.add (k : Bk) (r : Rec) : Bk × Int := if formedR r = true then (if k.fits r = true then (k.say r, 0) else (k, 17)) else (k, 1)
theorem formedS (r : Rec) (h : r.Wf) (w : World) (l : List HP) (hh : Holds w l) {bo : Bool} (hb : formedR r = bo) : Calls Try.prog 35 #[.agg (flat r.segs).toArray] w fun e w' => e = .returned (.bool bo) ∧ Holds w' l := by
  subst hb
  exact formed_ok r h w l hh
section
variable (k : Bk) (hk : k.Ok) (hl : k.edits.length < 1099511627776) (b : Nat) (r : Rec) (hr : r.Wf) (w : World) (R : List HP)
include hr
set_option maxRecDepth 100000 in
theorem bFits_nil (hh : Holds w R) : Calls Try.prog 28 #[.pointer none, .agg (flat r.segs).toArray] w fun e w' => e = .returned (.bool false) ∧ Holds w' R := by
  have HW := Lib.hid hh
  have hR := Rec.segs_ok hr.ok
  clear hh hr
  go_enter Try.func28, Try.ntmps28
  go_wp2_with (first
    | (refine wpList_box HW.out rfl rfl rfl rfl hR (fun g w' hw' => ?_)
       clear HW; have HW := Lib.hid hw'; clear hw'; (try simp only [hps_rules] at HW); (try simp only [put_rules])))
  go_ret
  exact ⟨rfl, HW.out.tail⟩
set_option maxRecDepth 100000 in
theorem bAdd_nil (hh : Holds w R) : Calls Try.prog 18 #[.pointer none, .agg (flat r.segs).toArray] w fun e w' => e = .returned (.int .i64 1) ∧ Holds w' R := by
  have HW := Lib.hid hh
  have hR := Rec.segs_ok hr.ok
  clear hh hr
  go_enter Try.func18, Try.ntmps18
  go_wp2_with (first
    | (refine wpList_box HW.out rfl rfl rfl rfl hR (fun g w' hw' => ?_)
       clear HW; have HW := Lib.hid hw'; clear hw'; (try simp only [hps_rules] at HW); (try simp only [put_rules])))
  go_ret
  exact ⟨rfl, HW.out.tail⟩
include hk hl
set_option maxRecDepth 100000 in
set_option maxHeartbeats 4000000 in
theorem bFits_ok (x : BX) (hh : Holds w (BkL b x k R)) {bo : Bool} (hb : (formedR r && k.fits r) = bo) : Calls Try.prog 28 #[.pointer (some ⟨b, 0, none⟩), .agg (flat r.segs).toArray] w fun e w' => e = .returned (.bool bo) ∧ Holds w' (BkL b x k R) := by
  have HW : Hid (Holds w (_ :: _)) := hh
  have hR := Rec.segs_ok hr.ok
  have HR := Lib.hid hr
  have HK := Lib.hid hk
  have HL := Lib.hid hl
  obtain ⟨b1, H1⟩ : ∃ v, Hid (formedR r = v) := ⟨_, rfl⟩
  obtain ⟨b2, H2⟩ : ∃ v, Hid (k.fits r = v) := ⟨_, rfl⟩
  have HB : Hid ((b1 && b2) = bo) := by unfold Hid; rw [← hb, H1.out, H2.out]
  clear hh hr hk hl hb
  cases b1
  all_goals
    go_enter Try.func28, Try.ntmps28
    go_wp2_with (first
      | go_skip
      | (refine wpList_runs HW.out rfl (runs_ldR 0 (ty := 37) (n := 74) rfl rfl rfl rfl Try.underlying37 rfl (by kernel_rfl)) ?_; simp only [put_rules])
      | (refine wpList_runs HW.out rfl (runs_ld1 0 rfl rfl rfl rfl (by kernel_rfl)) ?_; simp only [put_rules])
      | (refine wpList_box HW.out rfl rfl rfl rfl hR (fun g w' hw' => ?_)
         clear HW; have HW := Lib.hid hw'; clear hw'; (try simp only [hps_rules] at HW); (try simp only [put_rules]))
      | ((go_at_call 35; have hc := formedS r HR.out _ _ HW.out H1.out; refine hc.mono ?_; clear hc)
         rintro e w2 ⟨rfl, hw'⟩
         clear HW; have HW := Lib.hid hw'; clear hw'; (try simp only [hps_rules] at HW))
      | ((go_at_call 57; have hc := bfits_ok k HK.out HL.out b x r HR.out.ok H2.out _ _ (BkL.behind (x := x) (k := k) HW.out); refine hc.mono ?_; clear hc)
         rintro e w2 ⟨rfl, hw'⟩
         replace hw' := BkL.front hw'
         unfold BkL at hw'
         clear HW; have HW := Lib.hid hw'; clear hw'; (try simp only [hps_rules] at HW)))
    go_ret
    exact ⟨ret_bool (by rw [← HB.out]; first | rfl | simp), HW.out.tail⟩
set_option maxRecDepth 100000 in
set_option maxHeartbeats 4000000 in
theorem bAdd_ok (hl2 : k.vers.length < 1099511627776) (hh : Holds w (BkH b k :: R)) : Calls Try.prog 18 #[.pointer (some ⟨b, 0, none⟩), .agg (flat r.segs).toArray] w fun e w' => e = .returned (.int .i64 (k.add r).2) ∧ Holds w' (BkH b (k.add r).1 :: R) := by
  obtain ⟨_, x, hh⟩ := hh.bk_open
  have HW : Hid (Holds w (_ :: _)) := hh
  have hR := Rec.segs_ok hr.ok
  have HR := Lib.hid hr
  have HK := Lib.hid hk
  have HL := Lib.hid hl
  have HL2 := Lib.hid hl2
  obtain ⟨b1, H1⟩ : ∃ v, Hid (formedR r = v) := ⟨_, rfl⟩
  obtain ⟨b2, H2⟩ : ∃ v, Hid (k.fits r = v) := ⟨_, rfl⟩
  have HB : Hid (k.add r = if b1 = true then (if b2 = true then (k.say r, 0) else (k, 17)) else (k, 1)) := by unfold Hid Bk.add; rw [H1.out, H2.out]
  rw [HB.out]
  clear hh hr hk hl hl2 HB
  cases b1
  · go_enter Try.func18, Try.ntmps18
    go_wp2_with (first
      | go_skip
      | (refine wpList_runs HW.out rfl (runs_ldR 0 (ty := 37) (n := 74) rfl rfl rfl rfl Try.underlying37 rfl (by kernel_rfl)) ?_; simp only [put_rules])
      | (refine wpList_runs HW.out rfl (runs_ld1 0 rfl rfl rfl rfl (by kernel_rfl)) ?_; simp only [put_rules])
      | (refine wpList_box HW.out rfl rfl rfl rfl hR (fun g w' hw' => ?_)
         clear HW; have HW := Lib.hid hw'; clear hw'; (try simp only [hps_rules] at HW); (try simp only [put_rules]))
      | ((go_at_call 35; have hc := formedS r HR.out _ _ HW.out H1.out; refine hc.mono ?_; clear hc)
         rintro e w2 ⟨rfl, hw'⟩
         clear HW; have HW := Lib.hid hw'; clear hw'; (try simp only [hps_rules] at HW)))
    go_ret
    exact ⟨rfl, Holds.bk_close (x := x) HK.out HW.out.tail⟩
  cases b2
  · go_enter Try.func18, Try.ntmps18
    go_wp2_with (first
      | go_skip
      | (refine wpList_runs HW.out rfl (runs_ldR 0 (ty := 37) (n := 74) rfl rfl rfl rfl Try.underlying37 rfl (by kernel_rfl)) ?_; simp only [put_rules])
      | (refine wpList_runs HW.out rfl (runs_ld1 0 rfl rfl rfl rfl (by kernel_rfl)) ?_; simp only [put_rules])
      | (refine wpList_box HW.out rfl rfl rfl rfl hR (fun g w' hw' => ?_)
         clear HW; have HW := Lib.hid hw'; clear hw'; (try simp only [hps_rules] at HW); (try simp only [put_rules]))
      | ((go_at_call 35; have hc := formedS r HR.out _ _ HW.out H1.out; refine hc.mono ?_; clear hc)
         rintro e w2 ⟨rfl, hw'⟩
         clear HW; have HW := Lib.hid hw'; clear hw'; (try simp only [hps_rules] at HW))
      | ((go_at_call 57; have hc := bfits_ok k HK.out HL.out b x r HR.out.ok H2.out _ _ (BkL.behind (x := x) (k := k) HW.out); refine hc.mono ?_; clear hc)
         rintro e w2 ⟨rfl, hw'⟩
         replace hw' := BkL.front hw'
         unfold BkL at hw'
         clear HW; have HW := Lib.hid hw'; clear hw'; (try simp only [hps_rules] at HW)))
    go_ret
    exact ⟨rfl, Holds.bk_close (x := x) HK.out HW.out.tail⟩
  · have HF := Lib.hid ((formedR_iff r).1 H1.out)
    go_enter Try.func18, Try.ntmps18
    go_wp2_with (first
      | go_skip
      | (refine wpList_runs HW.out rfl (runs_ldR 0 (ty := 37) (n := 74) rfl rfl rfl rfl Try.underlying37 rfl (by kernel_rfl)) ?_; simp only [put_rules])
      | (refine wpList_runs HW.out rfl (runs_ld1 0 rfl rfl rfl rfl (by kernel_rfl)) ?_; simp only [put_rules])
      | (refine wpList_box HW.out rfl rfl rfl rfl hR (fun g w' hw' => ?_)
         clear HW; have HW := Lib.hid hw'; clear hw'; (try simp only [hps_rules] at HW); (try simp only [put_rules]))
      | ((go_at_call 35; have hc := formedS r HR.out _ _ HW.out H1.out; refine hc.mono ?_; clear hc)
         rintro e w2 ⟨rfl, hw'⟩
         clear HW; have HW := Lib.hid hw'; clear hw'; (try simp only [hps_rules] at HW))
      | ((go_at_call 57; have hc := bfits_ok k HK.out HL.out b x r HR.out.ok H2.out _ _ (BkL.behind (x := x) (k := k) HW.out); refine hc.mono ?_; clear hc)
         rintro e w2 ⟨rfl, hw'⟩
         replace hw' := BkL.front hw'
         unfold BkL at hw'
         clear HW; have HW := Lib.hid hw'; clear hw'; (try simp only [hps_rules] at HW))
      | ((go_at_call 58; have hc := bsay_ok k HK.out HL.out HL2.out b x r HR.out.ok HF.out.k1 HF.out.k4 _ _ (BkL.behind (x := x) (k := k) HW.out); refine hc.mono ?_; clear hc)
         rintro e w2 ⟨rfl, hw'⟩
         replace hw' := hw'.perm (.swap _ _ _)
         clear HW; have HW := Lib.hid hw'; clear hw'; (try simp only [hps_rules] at HW)))
    go_ret
    exact ⟨rfl, HW.out.tail⟩
end
end Go.Proofs.Ytaieonajialenaa
