/- record.Decode, over segments. -/
import Derived.Test.YtaieonajialenaaRecM
import Derived.Test.YtaieonajialenaaBookF
namespace Go.Proofs.Ytaieonajialenaa
open Go.RowKit HP

theorem wrapI {n : Nat} (h : n ≤ 9223372036854775807) : IntKind.i64.wrap (n : Int) = n := by simp [IntKind.wrap, IntKind.signed, IntKind.bits]; omega
theorem reditS {w : World} {R : List HP} {r : Nat} {s : List UInt8 × Bool} (h : Holds w (RdH 167 r s :: R)) (hb : s.1.length ≤ 140737488355328) {e : Ed} {s' : List UInt8 × Bool} (he : redit s = (e, s')) :
    Calls Try.prog 83 #[.pointer (some ⟨r, 0, none⟩)] w fun en w' => en = .returned (.agg (flat e.segs).toArray) ∧ Holds w' (RdH 167 r s' :: R) := by
  have := redit_ok h hb
  rwa [he] at this
set_option maxRecDepth 100000 in
set_option maxHeartbeats 8000000 in
theorem rcDecode_ok (A : Option Addr) (n c : Nat) (xs : List UInt8) (w : World) (R : List HP) (hh : Holds w R) (hr : Ent R fun w => RD w A xs) (hn : Hid (n = xs.length)) (hb : n ≤ 140737488355328) :
    Calls Try.prog 37 #[.slice A n c] w fun e w' => e = .returned (.tuple #[.agg (flat (decR xs).1.segs).toArray, .int .i64 (decR xs).2]) ∧ Holds w' R := by
  have hb' : xs.length ≤ 140737488355328 := by rw [← hn.out]; exact hb
  have HWF := Lib.hid (rdec_wf xs hb')
  have HW := Lib.hid hh
  have HR := Lib.hid hr
  have HB := Lib.hid hb'
  have hZ := Rec.segs_ok Rec.zero_ok
  have HZ := Lib.hid hZ
  clear hh hr hb hb'
  go_enter Try.func37, Try.ntmps37
  go_wp2_with (first
    | (refine wpList_alloc HW.out rfl (ty := 37) rfl (z := .agg (flat Rec.zero.segs).toArray) (by kernel_rfl) (M := Rec.zero.segs) rfl hZ (fun g2 w' hw' => ?_)
       clear HW; have HW := Lib.hid hw'; clear hw'; (try simp only [hps_rules] at HW); (try simp only [put_rules])))
  refine (read_sl A n c xs HW.out hn (HR.out _ HW.out.tail) HB.out).mono ?_
  rintro e w1 ⟨rd, rfl, hw'⟩
  clear HW; have HW := Lib.hid hw'; clear hw'; (try simp only [hps_rules] at HW)
  go_wp2_with (first
    | (refine wpList_alloc HW.out rfl (ty := 37) rfl (z := .agg (flat Rec.zero.segs).toArray) (by kernel_rfl) (M := Rec.zero.segs) rfl hZ (fun g5 w' hw' => ?_)
       clear HW; have HW := Lib.hid hw'; clear hw'; (try simp only [hps_rules] at HW); (try simp only [put_rules])))
  refine (rnumber_sl 1 (HW.out.pull 1 rfl) HB.out).mono ?_
  rintro e w2 ⟨rfl, hw'⟩
  obtain ⟨k, s1, HA⟩ : ∃ k s1, Hid (rnum (xs, false) 1 = (k, s1)) := ⟨_, _, rfl⟩
  have K1 := Lib.hid (show k < 256 by have : (rnum (xs, false) 1).1 < 256 ^ 1 := rnum_lt (xs, false) 1; rw [HA.out] at this; exact this)
  have L1 := Lib.hid (show s1.1.length ≤ 140737488355328 by have := rnum_len (xs, false) 1; rw [HA.out] at this; exact Nat.le_trans this HB.out)
  rw [HA.out] at hw' ⊢
  clear HW; have HW := Lib.hid hw'; clear hw'; (try simp only [hps_rules] at HW)
  have wk := wrapI (n := k) (by have := K1.out; omega)
  go_wp2_with (first
    | (refine wpList_runs HW.out rfl (runs_ld1 1 rfl rfl rfl rfl (by kernel_rfl)) ?_; simp only [put_rules])
    | (refine wpList_st1 HW.out rfl rfl rfl 1 rfl rfl rfl rfl (by kernel_rfl) (fun w' hw' => ?_); clear HW; have HW := Lib.hid hw'; clear hw'; (try simp only [hps_rules] at HW); (try simp only [put_rules])))
  refine (rnumber_sl 4 HW.out L1.out).mono ?_
  rintro e w3 ⟨rfl, hw'⟩
  obtain ⟨id, s2, HBB⟩ : ∃ k s1', Hid (rnum s1 4 = (k, s1')) := ⟨_, _, rfl⟩
  have L2 := Lib.hid (show s2.1.length ≤ 140737488355328 by have := rnum_len s1 4; rw [HBB.out] at this; exact Nat.le_trans this L1.out)
  rw [HBB.out] at hw' ⊢
  clear HW; have HW := Lib.hid hw'; clear hw'
  clear wk
  by_cases k1 : k = 1
  · subst k1
    go_wp2_with (first
      | (refine wpList_runs HW.out rfl (runs_ld1 1 rfl rfl rfl rfl (by kernel_rfl)) ?_; simp only [put_rules])
      | (refine wpList_st1 HW.out rfl rfl rfl 1 rfl rfl rfl rfl (by kernel_rfl) (fun w' hw' => ?_); clear HW; have HW := Lib.hid hw'; clear hw'; (try simp only [hps_rules] at HW); (try simp only [put_rules])))
    obtain ⟨ed, s3, HC⟩ : ∃ ed s', Hid (redit s2 = (ed, s')) := ⟨_, _, rfl⟩
    have LE := Lib.hid (show s3.1.length ≤ 140737488355328 by have := redit_len s2; rw [HC.out] at this; exact Nat.le_trans this L2.out)
    have HE := Lib.hid (show ed.Wf by have := redit_wf s2 L2.out; rw [HC.out] at this; exact this)
    have hE := Ed.segs_ok HE.out.ok
    refine (reditS HW.out L2.out HC.out).mono ?_
    rintro e w4 ⟨rfl, hw'⟩
    clear HW; have HW := Lib.hid hw'; clear hw'; (try simp only [hps_rules] at HW)
    go_wp2_with (first
      | (refine wpList_stR HW.out rfl (ty := 35) (n := 35) rfl rfl 1 rfl (M := Ed.segs ed) rfl rfl hE rfl (by kernel_rfl) (fun w' hw' => ?_)
         clear HW; have HW := Lib.hid hw'; clear hw'; (try simp only [hps_rules] at HW); (try simp only [put_rules])))
    obtain ⟨rr, HRR⟩ : ∃ rr : Rec, Hid (({ Rec.zero with kind := ((1 : Nat) : Int), id := id, ed := ed } : Rec) = rr) := ⟨_, rfl⟩
    have HD : Hid (rdec xs = (rr, s3)) := by
      unfold Hid rdec
      simp only [HA.out, HBB.out]
      rw [← HRR.out]
      simp only [HC.out, if_true]
    have HX : Hid (Holds _ (RdH 167 rd s3 :: sblk g5 37 (Rec.segs { Rec.zero with kind := ((1 : Nat) : Int), id := id, ed := ed }) :: sblk g2 37 Rec.zero.segs :: R)) := HW
    rw [HRR.out] at HX
    clear HW
    have HW := Lib.hid HX.out
    clear HX
    have HWR : Hid rr.Wf := by have := HWF.out; rw [HD.out] at this; exact this
    have hrr := Rec.segs_ok HWR.out.ok
    obtain ⟨d, HDN⟩ : ∃ d, Hid ((!(s3).2 && (s3).1.length == 0) = d) := ⟨_, rfl⟩
    obtain ⟨f, HFF⟩ : ∃ f, Hid (formedR rr = f) := ⟨_, rfl⟩
    have HDR0 : Hid (decR xs = if d = true ∧ f = true then (rr, 0) else (Rec.zero, 2)) := by unfold Hid decR; rw [HD.out]; simp only [HDN.out, HFF.out]
    cases d
    · have HDR : Hid (decR xs = (Rec.zero, 2)) := HDR0.out
      go_wp2_with (first
        | ((go_at_call 87; refine (rdone_sl HW.out).mono ?_); rintro e w8 ⟨rfl, rfl⟩; rw [HDN.out])
        | (refine wpList_runs HW.out rfl (runs_build (zs := Rec.zero.segs) (M := Rec.zero.segs) rfl Try.underlying37 #[(0, 1), (1, 1), (2, 1), (3, 35), (38, 32), (70, 1), (71, 1), (72, 1), (73, 1)] (fun w => by kernel_rfl) (by kernel_rfl) rfl) ?_; simp only [put_rules])
        | (refine wpList_stR HW.out rfl (ty := 37) (n := 74) rfl rfl 2 rfl (M := Rec.zero.segs) rfl rfl HZ.out rfl (by kernel_rfl) (fun w' hw' => ?_)
           clear HW; have HW := Lib.hid hw'; clear hw'; (try simp only [hps_rules] at HW); (try simp only [put_rules])))
      refine bodyPost_ret (results_cellS rfl HW.out 2 rfl rfl Try.underlying37 rfl (by kernel_rfl)) rfl ?_
      rw [HDR.out]
      exact ⟨rfl, HW.out.tail.tail.tail⟩
    cases f
    · have HDR : Hid (decR xs = (Rec.zero, 2)) := HDR0.out
      go_wp2_with (first
        | ((go_at_call 87; refine (rdone_sl HW.out).mono ?_); rintro e w8 ⟨rfl, rfl⟩; rw [HDN.out])
        | (refine wpList_runs HW.out rfl (runs_ldR 1 (ty := 37) (n := 74) (m := Rec.segs rr) rfl rfl rfl rfl Try.underlying37 rfl (by kernel_rfl)) ?_; simp only [put_rules])
        | ((go_at_call 35; have hc := formedS rr HWR.out _ _ HW.out HFF.out; refine hc.mono ?_; clear hc)
           rintro e w2 ⟨rfl, hw'⟩
           clear HW; have HW := Lib.hid hw'; clear hw'; (try simp only [hps_rules] at HW))
        | (refine wpList_runs HW.out rfl (runs_build (zs := Rec.zero.segs) (M := Rec.zero.segs) rfl Try.underlying37 #[(0, 1), (1, 1), (2, 1), (3, 35), (38, 32), (70, 1), (71, 1), (72, 1), (73, 1)] (fun w => by kernel_rfl) (by kernel_rfl) rfl) ?_; simp only [put_rules])
        | (refine wpList_stR HW.out rfl (ty := 37) (n := 74) rfl rfl 2 rfl (M := Rec.zero.segs) rfl rfl HZ.out rfl (by kernel_rfl) (fun w' hw' => ?_)
           clear HW; have HW := Lib.hid hw'; clear hw'; (try simp only [hps_rules] at HW); (try simp only [put_rules])))
      refine bodyPost_ret (results_cellS rfl HW.out 2 rfl rfl Try.underlying37 rfl (by kernel_rfl)) rfl ?_
      rw [HDR.out]
      exact ⟨rfl, HW.out.tail.tail.tail⟩
    · have HDR : Hid (decR xs = (rr, 0)) := HDR0.out
      go_wp2_with (first
        | ((go_at_call 87; refine (rdone_sl HW.out).mono ?_); rintro e w8 ⟨rfl, rfl⟩; rw [HDN.out])
        | (refine wpList_runs HW.out rfl (runs_ldR 1 (ty := 37) (n := 74) (m := Rec.segs rr) rfl rfl rfl rfl Try.underlying37 rfl (by kernel_rfl)) ?_; simp only [put_rules])
        | ((go_at_call 35; have hc := formedS rr HWR.out _ _ HW.out HFF.out; refine hc.mono ?_; clear hc)
           rintro e w2 ⟨rfl, hw'⟩
           clear HW; have HW := Lib.hid hw'; clear hw'; (try simp only [hps_rules] at HW))
        | (refine wpList_stR HW.out rfl (ty := 37) (n := 74) rfl rfl 2 rfl (M := Rec.segs rr) rfl rfl hrr rfl (by kernel_rfl) (fun w' hw' => ?_)
           clear HW; have HW := Lib.hid hw'; clear hw'; (try simp only [hps_rules] at HW); (try simp only [put_rules])))
      refine bodyPost_ret (results_cellS rfl HW.out 2 rfl rfl Try.underlying37 rfl (by kernel_rfl)) rfl ?_
      rw [HDR.out]
      exact ⟨rfl, HW.out.tail.tail.tail⟩
  by_cases k2 : k = 2
  · subst k2
    go_wp2_with (first
      | (refine wpList_runs HW.out rfl (runs_ld1 1 rfl rfl rfl rfl (by kernel_rfl)) ?_; simp only [put_rules])
      | (refine wpList_st1 HW.out rfl rfl rfl 1 rfl rfl rfl rfl (by kernel_rfl) (fun w' hw' => ?_); clear HW; have HW := Lib.hid hw'; clear hw'; (try simp only [hps_rules] at HW); (try simp only [put_rules])))
    refine (rnumber_sl 4 HW.out L2.out).mono ?_
    rintro e w4 ⟨rfl, hw'⟩
    obtain ⟨bs, s3, HQ⟩ : ∃ k s1', Hid (rnum s2 4 = (k, s1')) := ⟨_, _, rfl⟩
    have L3 := Lib.hid (show s3.1.length ≤ 140737488355328 by have := rnum_len s2 4; rw [HQ.out] at this; exact Nat.le_trans this L2.out)
    rw [HQ.out] at hw' ⊢
    clear HW; have HW := Lib.hid hw'; clear hw'
    go_wp2_with (first
      | (refine wpList_runs HW.out rfl (runs_ld1 1 rfl rfl rfl rfl (by kernel_rfl)) ?_; simp only [put_rules])
      | (refine wpList_st1 HW.out rfl rfl rfl 1 rfl rfl rfl rfl (by kernel_rfl) (fun w' hw' => ?_); clear HW; have HW := Lib.hid hw'; clear hw'; (try simp only [hps_rules] at HW); (try simp only [put_rules])))
    obtain ⟨ed, s4, HC⟩ : ∃ ed s', Hid (redit s3 = (ed, s')) := ⟨_, _, rfl⟩
    have LE := Lib.hid (show s4.1.length ≤ 140737488355328 by have := redit_len s3; rw [HC.out] at this; exact Nat.le_trans this L3.out)
    have HE := Lib.hid (show ed.Wf by have := redit_wf s3 L3.out; rw [HC.out] at this; exact this)
    have hE := Ed.segs_ok HE.out.ok
    refine (reditS HW.out L3.out HC.out).mono ?_
    rintro e w4 ⟨rfl, hw'⟩
    clear HW; have HW := Lib.hid hw'; clear hw'; (try simp only [hps_rules] at HW)
    go_wp2_with (first
      | (refine wpList_stR HW.out rfl (ty := 35) (n := 35) rfl rfl 1 rfl (M := Ed.segs ed) rfl rfl hE rfl (by kernel_rfl) (fun w' hw' => ?_)
         clear HW; have HW := Lib.hid hw'; clear hw'; (try simp only [hps_rules] at HW); (try simp only [put_rules])))
    have HN := rhash_len32 s4
    obtain ⟨hs, s5, HG⟩ : ∃ hs s', Hid (rhash s4 = (hs, s')) := ⟨_, _, rfl⟩
    rw [HG.out] at HN
    refine (rhash_sl HW.out LE.out).mono ?_
    rintro e w5 ⟨rfl, hw'⟩
    rw [HG.out] at hw' ⊢
    clear HW; have HW := Lib.hid hw'; clear hw'
    have HN2 : SgOk [.b 32 hs] := ⟨HN, trivial⟩
    go_wp2_with (first
      | (refine wpList_stR HW.out rfl (ty := 33) (n := 32) rfl rfl 1 rfl (M := [.b 32 hs]) rfl rfl HN2 rfl (by kernel_rfl) (fun w' hw' => ?_)
         clear HW; have HW := Lib.hid hw'; clear hw'; (try simp only [hps_rules] at HW); (try simp only [put_rules])))
    obtain ⟨rr, HRR⟩ : ∃ rr : Rec, Hid (({ Rec.zero with kind := ((2 : Nat) : Int), id := id, base := bs, ed := ed, root := hs } : Rec) = rr) := ⟨_, rfl⟩
    have HD : Hid (rdec xs = (rr, s5)) := by
      unfold Hid rdec
      simp only [HA.out, HBB.out]
      rw [← HRR.out]
      simp only [HQ.out, HC.out, HG.out]; rfl
    have HX : Hid (Holds _ (RdH 167 rd s5 :: sblk g5 37 (Rec.segs { Rec.zero with kind := ((2 : Nat) : Int), id := id, base := bs, ed := ed, root := hs }) :: sblk g2 37 Rec.zero.segs :: R)) := HW
    rw [HRR.out] at HX
    clear HW
    have HW := Lib.hid HX.out
    clear HX
    have HWR : Hid rr.Wf := by have := HWF.out; rw [HD.out] at this; exact this
    have hrr := Rec.segs_ok HWR.out.ok
    obtain ⟨d, HDN⟩ : ∃ d, Hid ((!(s5).2 && (s5).1.length == 0) = d) := ⟨_, rfl⟩
    obtain ⟨f, HFF⟩ : ∃ f, Hid (formedR rr = f) := ⟨_, rfl⟩
    have HDR0 : Hid (decR xs = if d = true ∧ f = true then (rr, 0) else (Rec.zero, 2)) := by unfold Hid decR; rw [HD.out]; simp only [HDN.out, HFF.out]
    cases d
    · have HDR : Hid (decR xs = (Rec.zero, 2)) := HDR0.out
      go_wp2_with (first
        | ((go_at_call 87; refine (rdone_sl HW.out).mono ?_); rintro e w8 ⟨rfl, rfl⟩; rw [HDN.out])
        | (refine wpList_runs HW.out rfl (runs_build (zs := Rec.zero.segs) (M := Rec.zero.segs) rfl Try.underlying37 #[(0, 1), (1, 1), (2, 1), (3, 35), (38, 32), (70, 1), (71, 1), (72, 1), (73, 1)] (fun w => by kernel_rfl) (by kernel_rfl) rfl) ?_; simp only [put_rules])
        | (refine wpList_stR HW.out rfl (ty := 37) (n := 74) rfl rfl 2 rfl (M := Rec.zero.segs) rfl rfl HZ.out rfl (by kernel_rfl) (fun w' hw' => ?_)
           clear HW; have HW := Lib.hid hw'; clear hw'; (try simp only [hps_rules] at HW); (try simp only [put_rules])))
      refine bodyPost_ret (results_cellS rfl HW.out 2 rfl rfl Try.underlying37 rfl (by kernel_rfl)) rfl ?_
      rw [HDR.out]
      exact ⟨rfl, HW.out.tail.tail.tail⟩
    cases f
    · have HDR : Hid (decR xs = (Rec.zero, 2)) := HDR0.out
      go_wp2_with (first
        | ((go_at_call 87; refine (rdone_sl HW.out).mono ?_); rintro e w8 ⟨rfl, rfl⟩; rw [HDN.out])
        | (refine wpList_runs HW.out rfl (runs_ldR 1 (ty := 37) (n := 74) (m := Rec.segs rr) rfl rfl rfl rfl Try.underlying37 rfl (by kernel_rfl)) ?_; simp only [put_rules])
        | ((go_at_call 35; have hc := formedS rr HWR.out _ _ HW.out HFF.out; refine hc.mono ?_; clear hc)
           rintro e w2 ⟨rfl, hw'⟩
           clear HW; have HW := Lib.hid hw'; clear hw'; (try simp only [hps_rules] at HW))
        | (refine wpList_runs HW.out rfl (runs_build (zs := Rec.zero.segs) (M := Rec.zero.segs) rfl Try.underlying37 #[(0, 1), (1, 1), (2, 1), (3, 35), (38, 32), (70, 1), (71, 1), (72, 1), (73, 1)] (fun w => by kernel_rfl) (by kernel_rfl) rfl) ?_; simp only [put_rules])
        | (refine wpList_stR HW.out rfl (ty := 37) (n := 74) rfl rfl 2 rfl (M := Rec.zero.segs) rfl rfl HZ.out rfl (by kernel_rfl) (fun w' hw' => ?_)
           clear HW; have HW := Lib.hid hw'; clear hw'; (try simp only [hps_rules] at HW); (try simp only [put_rules])))
      refine bodyPost_ret (results_cellS rfl HW.out 2 rfl rfl Try.underlying37 rfl (by kernel_rfl)) rfl ?_
      rw [HDR.out]
      exact ⟨rfl, HW.out.tail.tail.tail⟩
    · have HDR : Hid (decR xs = (rr, 0)) := HDR0.out
      go_wp2_with (first
        | ((go_at_call 87; refine (rdone_sl HW.out).mono ?_); rintro e w8 ⟨rfl, rfl⟩; rw [HDN.out])
        | (refine wpList_runs HW.out rfl (runs_ldR 1 (ty := 37) (n := 74) (m := Rec.segs rr) rfl rfl rfl rfl Try.underlying37 rfl (by kernel_rfl)) ?_; simp only [put_rules])
        | ((go_at_call 35; have hc := formedS rr HWR.out _ _ HW.out HFF.out; refine hc.mono ?_; clear hc)
           rintro e w2 ⟨rfl, hw'⟩
           clear HW; have HW := Lib.hid hw'; clear hw'; (try simp only [hps_rules] at HW))
        | (refine wpList_stR HW.out rfl (ty := 37) (n := 74) rfl rfl 2 rfl (M := Rec.segs rr) rfl rfl hrr rfl (by kernel_rfl) (fun w' hw' => ?_)
           clear HW; have HW := Lib.hid hw'; clear hw'; (try simp only [hps_rules] at HW); (try simp only [put_rules])))
      refine bodyPost_ret (results_cellS rfl HW.out 2 rfl rfl Try.underlying37 rfl (by kernel_rfl)) rfl ?_
      rw [HDR.out]
      exact ⟨rfl, HW.out.tail.tail.tail⟩
  by_cases k3 : k = 3
  · subst k3
    go_wp2_with (first
      | (refine wpList_runs HW.out rfl (runs_ld1 1 rfl rfl rfl rfl (by kernel_rfl)) ?_; simp only [put_rules])
      | (refine wpList_st1 HW.out rfl rfl rfl 1 rfl rfl rfl rfl (by kernel_rfl) (fun w' hw' => ?_); clear HW; have HW := Lib.hid hw'; clear hw'; (try simp only [hps_rules] at HW); (try simp only [put_rules])))
    refine (rnumber_sl 1 HW.out L2.out).mono ?_
    rintro e w4 ⟨rfl, hw'⟩
    obtain ⟨cd, s3, HQ⟩ : ∃ k s1', Hid (rnum s2 1 = (k, s1')) := ⟨_, _, rfl⟩
    have L3 := Lib.hid (show s3.1.length ≤ 140737488355328 by have := rnum_len s2 1; rw [HQ.out] at this; exact Nat.le_trans this L2.out)
    rw [HQ.out] at hw' ⊢
    clear HW; have HW := Lib.hid hw'; clear hw'
    have wc := wrapI (n := cd) (by have : (rnum s2 1).1 < 256 ^ 1 := rnum_lt s2 1; rw [HQ.out] at this; omega)
    go_wp2_with (first
      | (refine wpList_runs HW.out rfl (runs_ld1 1 rfl rfl rfl rfl (by kernel_rfl)) ?_; simp only [put_rules])
      | (refine wpList_st1 HW.out rfl rfl rfl 1 rfl rfl rfl rfl (by kernel_rfl) (fun w' hw' => ?_); clear HW; have HW := Lib.hid hw'; clear hw'; (try simp only [hps_rules] at HW); (try simp only [put_rules])))
    obtain ⟨rr, HRR⟩ : ∃ rr : Rec, Hid (({ Rec.zero with kind := ((3 : Nat) : Int), id := id, code := (cd : Int) } : Rec) = rr) := ⟨_, rfl⟩
    have HD : Hid (rdec xs = (rr, s3)) := by
      unfold Hid rdec
      simp only [HA.out, HBB.out]
      rw [← HRR.out]
      simp only [HQ.out]; rfl
    have HX : Hid (Holds _ (RdH 167 rd s3 :: sblk g5 37 (Rec.segs { Rec.zero with kind := ((3 : Nat) : Int), id := id, code := (cd : Int) }) :: sblk g2 37 Rec.zero.segs :: R)) := HW
    rw [HRR.out] at HX
    clear HW
    have HW := Lib.hid HX.out
    clear HX
    have HWR : Hid rr.Wf := by have := HWF.out; rw [HD.out] at this; exact this
    have hrr := Rec.segs_ok HWR.out.ok
    obtain ⟨d, HDN⟩ : ∃ d, Hid ((!(s3).2 && (s3).1.length == 0) = d) := ⟨_, rfl⟩
    obtain ⟨f, HFF⟩ : ∃ f, Hid (formedR rr = f) := ⟨_, rfl⟩
    have HDR0 : Hid (decR xs = if d = true ∧ f = true then (rr, 0) else (Rec.zero, 2)) := by unfold Hid decR; rw [HD.out]; simp only [HDN.out, HFF.out]
    cases d
    · have HDR : Hid (decR xs = (Rec.zero, 2)) := HDR0.out
      go_wp2_with (first
        | ((go_at_call 87; refine (rdone_sl HW.out).mono ?_); rintro e w8 ⟨rfl, rfl⟩; rw [HDN.out])
        | (refine wpList_runs HW.out rfl (runs_build (zs := Rec.zero.segs) (M := Rec.zero.segs) rfl Try.underlying37 #[(0, 1), (1, 1), (2, 1), (3, 35), (38, 32), (70, 1), (71, 1), (72, 1), (73, 1)] (fun w => by kernel_rfl) (by kernel_rfl) rfl) ?_; simp only [put_rules])
        | (refine wpList_stR HW.out rfl (ty := 37) (n := 74) rfl rfl 2 rfl (M := Rec.zero.segs) rfl rfl HZ.out rfl (by kernel_rfl) (fun w' hw' => ?_)
           clear HW; have HW := Lib.hid hw'; clear hw'; (try simp only [hps_rules] at HW); (try simp only [put_rules])))
      refine bodyPost_ret (results_cellS rfl HW.out 2 rfl rfl Try.underlying37 rfl (by kernel_rfl)) rfl ?_
      rw [HDR.out]
      exact ⟨rfl, HW.out.tail.tail.tail⟩
    cases f
    · have HDR : Hid (decR xs = (Rec.zero, 2)) := HDR0.out
      go_wp2_with (first
        | ((go_at_call 87; refine (rdone_sl HW.out).mono ?_); rintro e w8 ⟨rfl, rfl⟩; rw [HDN.out])
        | (refine wpList_runs HW.out rfl (runs_ldR 1 (ty := 37) (n := 74) (m := Rec.segs rr) rfl rfl rfl rfl Try.underlying37 rfl (by kernel_rfl)) ?_; simp only [put_rules])
        | ((go_at_call 35; have hc := formedS rr HWR.out _ _ HW.out HFF.out; refine hc.mono ?_; clear hc)
           rintro e w2 ⟨rfl, hw'⟩
           clear HW; have HW := Lib.hid hw'; clear hw'; (try simp only [hps_rules] at HW))
        | (refine wpList_runs HW.out rfl (runs_build (zs := Rec.zero.segs) (M := Rec.zero.segs) rfl Try.underlying37 #[(0, 1), (1, 1), (2, 1), (3, 35), (38, 32), (70, 1), (71, 1), (72, 1), (73, 1)] (fun w => by kernel_rfl) (by kernel_rfl) rfl) ?_; simp only [put_rules])
        | (refine wpList_stR HW.out rfl (ty := 37) (n := 74) rfl rfl 2 rfl (M := Rec.zero.segs) rfl rfl HZ.out rfl (by kernel_rfl) (fun w' hw' => ?_)
           clear HW; have HW := Lib.hid hw'; clear hw'; (try simp only [hps_rules] at HW); (try simp only [put_rules])))
      refine bodyPost_ret (results_cellS rfl HW.out 2 rfl rfl Try.underlying37 rfl (by kernel_rfl)) rfl ?_
      rw [HDR.out]
      exact ⟨rfl, HW.out.tail.tail.tail⟩
    · have HDR : Hid (decR xs = (rr, 0)) := HDR0.out
      go_wp2_with (first
        | ((go_at_call 87; refine (rdone_sl HW.out).mono ?_); rintro e w8 ⟨rfl, rfl⟩; rw [HDN.out])
        | (refine wpList_runs HW.out rfl (runs_ldR 1 (ty := 37) (n := 74) (m := Rec.segs rr) rfl rfl rfl rfl Try.underlying37 rfl (by kernel_rfl)) ?_; simp only [put_rules])
        | ((go_at_call 35; have hc := formedS rr HWR.out _ _ HW.out HFF.out; refine hc.mono ?_; clear hc)
           rintro e w2 ⟨rfl, hw'⟩
           clear HW; have HW := Lib.hid hw'; clear hw'; (try simp only [hps_rules] at HW))
        | (refine wpList_stR HW.out rfl (ty := 37) (n := 74) rfl rfl 2 rfl (M := Rec.segs rr) rfl rfl hrr rfl (by kernel_rfl) (fun w' hw' => ?_)
           clear HW; have HW := Lib.hid hw'; clear hw'; (try simp only [hps_rules] at HW); (try simp only [put_rules])))
      refine bodyPost_ret (results_cellS rfl HW.out 2 rfl rfl Try.underlying37 rfl (by kernel_rfl)) rfl ?_
      rw [HDR.out]
      exact ⟨rfl, HW.out.tail.tail.tail⟩
  by_cases k4 : k = 4
  · subst k4
    go_wp2_with (first
      | (refine wpList_runs HW.out rfl (runs_ld1 1 rfl rfl rfl rfl (by kernel_rfl)) ?_; simp only [put_rules])
      | (refine wpList_st1 HW.out rfl rfl rfl 1 rfl rfl rfl rfl (by kernel_rfl) (fun w' hw' => ?_); clear HW; have HW := Lib.hid hw'; clear hw'; (try simp only [hps_rules] at HW); (try simp only [put_rules])))
    refine (rtruth_sl HW.out L2.out).mono ?_
    rintro e w4 ⟨rfl, hw'⟩
    obtain ⟨cm, s3, HQ⟩ : ∃ k s1', Hid (rtruth s2 = (k, s1')) := ⟨_, _, rfl⟩
    have L3 := Lib.hid (show s3.1.length ≤ 140737488355328 by have := rtruth_len s2; rw [HQ.out] at this; exact Nat.le_trans this L2.out)
    rw [HQ.out] at hw' ⊢
    clear HW; have HW := Lib.hid hw'; clear hw'
    go_wp2_with (first
      | (refine wpList_runs HW.out rfl (runs_ld1 1 rfl rfl rfl rfl (by kernel_rfl)) ?_; simp only [put_rules])
      | (refine wpList_st1 HW.out rfl rfl rfl 1 rfl rfl rfl rfl (by kernel_rfl) (fun w' hw' => ?_); clear HW; have HW := Lib.hid hw'; clear hw'; (try simp only [hps_rules] at HW); (try simp only [put_rules])))
    refine (rtruth_sl HW.out L3.out).mono ?_
    rintro e w4 ⟨rfl, hw'⟩
    obtain ⟨hz, s4, HG⟩ : ∃ k s1', Hid (rtruth s3 = (k, s1')) := ⟨_, _, rfl⟩
    have L4 := Lib.hid (show s4.1.length ≤ 140737488355328 by have := rtruth_len s3; rw [HG.out] at this; exact Nat.le_trans this L3.out)
    rw [HG.out] at hw' ⊢
    clear HW; have HW := Lib.hid hw'; clear hw'
    cases hz
    · skip
      go_wp2_with (first
        | (refine wpList_runs HW.out rfl (runs_ld1 1 rfl rfl rfl rfl (by kernel_rfl)) ?_; simp only [put_rules])
        | (refine wpList_st1 HW.out rfl rfl rfl 1 rfl rfl rfl rfl (by kernel_rfl) (fun w' hw' => ?_); clear HW; have HW := Lib.hid hw'; clear hw'; (try simp only [hps_rules] at HW); (try simp only [put_rules])))
      obtain ⟨rr, HRR⟩ : ∃ rr : Rec, Hid (({ Rec.zero with kind := ((4 : Nat) : Int), id := id, commit := cm, has := false } : Rec) = rr) := ⟨_, rfl⟩
      have HD : Hid (rdec xs = (rr, s4)) := by
        unfold Hid rdec
        simp only [HA.out, HBB.out]
        rw [← HRR.out]
        simp only [HQ.out, HG.out]; rfl
      have HX : Hid (Holds _ (RdH 167 rd s4 :: sblk g5 37 (Rec.segs { Rec.zero with kind := ((4 : Nat) : Int), id := id, commit := cm, has := false }) :: sblk g2 37 Rec.zero.segs :: R)) := HW
      rw [HRR.out] at HX
      clear HW
      have HW := Lib.hid HX.out
      clear HX
      have HWR : Hid rr.Wf := by have := HWF.out; rw [HD.out] at this; exact this
      have hrr := Rec.segs_ok HWR.out.ok
      obtain ⟨d, HDN⟩ : ∃ d, Hid ((!(s4).2 && (s4).1.length == 0) = d) := ⟨_, rfl⟩
      obtain ⟨f, HFF⟩ : ∃ f, Hid (formedR rr = f) := ⟨_, rfl⟩
      have HDR0 : Hid (decR xs = if d = true ∧ f = true then (rr, 0) else (Rec.zero, 2)) := by unfold Hid decR; rw [HD.out]; simp only [HDN.out, HFF.out]
      cases d
      · have HDR : Hid (decR xs = (Rec.zero, 2)) := HDR0.out
        go_wp2_with (first
          | ((go_at_call 87; refine (rdone_sl HW.out).mono ?_); rintro e w8 ⟨rfl, rfl⟩; rw [HDN.out])
          | (refine wpList_runs HW.out rfl (runs_build (zs := Rec.zero.segs) (M := Rec.zero.segs) rfl Try.underlying37 #[(0, 1), (1, 1), (2, 1), (3, 35), (38, 32), (70, 1), (71, 1), (72, 1), (73, 1)] (fun w => by kernel_rfl) (by kernel_rfl) rfl) ?_; simp only [put_rules])
          | (refine wpList_stR HW.out rfl (ty := 37) (n := 74) rfl rfl 2 rfl (M := Rec.zero.segs) rfl rfl HZ.out rfl (by kernel_rfl) (fun w' hw' => ?_)
             clear HW; have HW := Lib.hid hw'; clear hw'; (try simp only [hps_rules] at HW); (try simp only [put_rules])))
        refine bodyPost_ret (results_cellS rfl HW.out 2 rfl rfl Try.underlying37 rfl (by kernel_rfl)) rfl ?_
        rw [HDR.out]
        exact ⟨rfl, HW.out.tail.tail.tail⟩
      cases f
      · have HDR : Hid (decR xs = (Rec.zero, 2)) := HDR0.out
        go_wp2_with (first
          | ((go_at_call 87; refine (rdone_sl HW.out).mono ?_); rintro e w8 ⟨rfl, rfl⟩; rw [HDN.out])
          | (refine wpList_runs HW.out rfl (runs_ldR 1 (ty := 37) (n := 74) (m := Rec.segs rr) rfl rfl rfl rfl Try.underlying37 rfl (by kernel_rfl)) ?_; simp only [put_rules])
          | ((go_at_call 35; have hc := formedS rr HWR.out _ _ HW.out HFF.out; refine hc.mono ?_; clear hc)
             rintro e w2 ⟨rfl, hw'⟩
             clear HW; have HW := Lib.hid hw'; clear hw'; (try simp only [hps_rules] at HW))
          | (refine wpList_runs HW.out rfl (runs_build (zs := Rec.zero.segs) (M := Rec.zero.segs) rfl Try.underlying37 #[(0, 1), (1, 1), (2, 1), (3, 35), (38, 32), (70, 1), (71, 1), (72, 1), (73, 1)] (fun w => by kernel_rfl) (by kernel_rfl) rfl) ?_; simp only [put_rules])
          | (refine wpList_stR HW.out rfl (ty := 37) (n := 74) rfl rfl 2 rfl (M := Rec.zero.segs) rfl rfl HZ.out rfl (by kernel_rfl) (fun w' hw' => ?_)
             clear HW; have HW := Lib.hid hw'; clear hw'; (try simp only [hps_rules] at HW); (try simp only [put_rules])))
        refine bodyPost_ret (results_cellS rfl HW.out 2 rfl rfl Try.underlying37 rfl (by kernel_rfl)) rfl ?_
        rw [HDR.out]
        exact ⟨rfl, HW.out.tail.tail.tail⟩
      · have HDR : Hid (decR xs = (rr, 0)) := HDR0.out
        go_wp2_with (first
          | ((go_at_call 87; refine (rdone_sl HW.out).mono ?_); rintro e w8 ⟨rfl, rfl⟩; rw [HDN.out])
          | (refine wpList_runs HW.out rfl (runs_ldR 1 (ty := 37) (n := 74) (m := Rec.segs rr) rfl rfl rfl rfl Try.underlying37 rfl (by kernel_rfl)) ?_; simp only [put_rules])
          | ((go_at_call 35; have hc := formedS rr HWR.out _ _ HW.out HFF.out; refine hc.mono ?_; clear hc)
             rintro e w2 ⟨rfl, hw'⟩
             clear HW; have HW := Lib.hid hw'; clear hw'; (try simp only [hps_rules] at HW))
          | (refine wpList_stR HW.out rfl (ty := 37) (n := 74) rfl rfl 2 rfl (M := Rec.segs rr) rfl rfl hrr rfl (by kernel_rfl) (fun w' hw' => ?_)
             clear HW; have HW := Lib.hid hw'; clear hw'; (try simp only [hps_rules] at HW); (try simp only [put_rules])))
        refine bodyPost_ret (results_cellS rfl HW.out 2 rfl rfl Try.underlying37 rfl (by kernel_rfl)) rfl ?_
        rw [HDR.out]
        exact ⟨rfl, HW.out.tail.tail.tail⟩
    go_wp2_with (first
      | (refine wpList_runs HW.out rfl (runs_ld1 1 rfl rfl rfl rfl (by kernel_rfl)) ?_; simp only [put_rules])
      | (refine wpList_st1 HW.out rfl rfl rfl 1 rfl rfl rfl rfl (by kernel_rfl) (fun w' hw' => ?_); clear HW; have HW := Lib.hid hw'; clear hw'; (try simp only [hps_rules] at HW); (try simp only [put_rules])))
    refine (rtext_sl HW.out L4.out).mono ?_
    rintro e w6 ⟨rfl, hw'⟩
    obtain ⟨tx, s5, HT⟩ : ∃ k s1', Hid (rtext s4 = (k, s1')) := ⟨_, _, rfl⟩
    rw [HT.out] at hw' ⊢
    clear HW; have HW := Lib.hid hw'; clear hw'
    go_wp2_with (first
      | (refine wpList_runs HW.out rfl (runs_ld1 1 rfl rfl rfl rfl (by kernel_rfl)) ?_; simp only [put_rules])
      | (refine wpList_st1 HW.out rfl rfl rfl 1 rfl rfl rfl rfl (by kernel_rfl) (fun w' hw' => ?_); clear HW; have HW := Lib.hid hw'; clear hw'; (try simp only [hps_rules] at HW); (try simp only [put_rules])))
    obtain ⟨rr, HRR⟩ : ∃ rr : Rec, Hid (({ Rec.zero with kind := ((4 : Nat) : Int), id := id, commit := cm, has := true, text := tx } : Rec) = rr) := ⟨_, rfl⟩
    have HD : Hid (rdec xs = (rr, s5)) := by
      unfold Hid rdec
      simp only [HA.out, HBB.out]
      rw [← HRR.out]
      simp only [HQ.out, HG.out, HT.out]; rfl
    have HX : Hid (Holds _ (RdH 167 rd s5 :: sblk g5 37 (Rec.segs { Rec.zero with kind := ((4 : Nat) : Int), id := id, commit := cm, has := true, text := tx }) :: sblk g2 37 Rec.zero.segs :: R)) := HW
    rw [HRR.out] at HX
    clear HW
    have HW := Lib.hid HX.out
    clear HX
    have HWR : Hid rr.Wf := by have := HWF.out; rw [HD.out] at this; exact this
    have hrr := Rec.segs_ok HWR.out.ok
    obtain ⟨d, HDN⟩ : ∃ d, Hid ((!(s5).2 && (s5).1.length == 0) = d) := ⟨_, rfl⟩
    obtain ⟨f, HFF⟩ : ∃ f, Hid (formedR rr = f) := ⟨_, rfl⟩
    have HDR0 : Hid (decR xs = if d = true ∧ f = true then (rr, 0) else (Rec.zero, 2)) := by unfold Hid decR; rw [HD.out]; simp only [HDN.out, HFF.out]
    cases d
    · have HDR : Hid (decR xs = (Rec.zero, 2)) := HDR0.out
      go_wp2_with (first
        | ((go_at_call 87; refine (rdone_sl HW.out).mono ?_); rintro e w8 ⟨rfl, rfl⟩; rw [HDN.out])
        | (refine wpList_runs HW.out rfl (runs_build (zs := Rec.zero.segs) (M := Rec.zero.segs) rfl Try.underlying37 #[(0, 1), (1, 1), (2, 1), (3, 35), (38, 32), (70, 1), (71, 1), (72, 1), (73, 1)] (fun w => by kernel_rfl) (by kernel_rfl) rfl) ?_; simp only [put_rules])
        | (refine wpList_stR HW.out rfl (ty := 37) (n := 74) rfl rfl 2 rfl (M := Rec.zero.segs) rfl rfl HZ.out rfl (by kernel_rfl) (fun w' hw' => ?_)
           clear HW; have HW := Lib.hid hw'; clear hw'; (try simp only [hps_rules] at HW); (try simp only [put_rules])))
      refine bodyPost_ret (results_cellS rfl HW.out 2 rfl rfl Try.underlying37 rfl (by kernel_rfl)) rfl ?_
      rw [HDR.out]
      exact ⟨rfl, HW.out.tail.tail.tail⟩
    cases f
    · have HDR : Hid (decR xs = (Rec.zero, 2)) := HDR0.out
      go_wp2_with (first
        | ((go_at_call 87; refine (rdone_sl HW.out).mono ?_); rintro e w8 ⟨rfl, rfl⟩; rw [HDN.out])
        | (refine wpList_runs HW.out rfl (runs_ldR 1 (ty := 37) (n := 74) (m := Rec.segs rr) rfl rfl rfl rfl Try.underlying37 rfl (by kernel_rfl)) ?_; simp only [put_rules])
        | ((go_at_call 35; have hc := formedS rr HWR.out _ _ HW.out HFF.out; refine hc.mono ?_; clear hc)
           rintro e w2 ⟨rfl, hw'⟩
           clear HW; have HW := Lib.hid hw'; clear hw'; (try simp only [hps_rules] at HW))
        | (refine wpList_runs HW.out rfl (runs_build (zs := Rec.zero.segs) (M := Rec.zero.segs) rfl Try.underlying37 #[(0, 1), (1, 1), (2, 1), (3, 35), (38, 32), (70, 1), (71, 1), (72, 1), (73, 1)] (fun w => by kernel_rfl) (by kernel_rfl) rfl) ?_; simp only [put_rules])
        | (refine wpList_stR HW.out rfl (ty := 37) (n := 74) rfl rfl 2 rfl (M := Rec.zero.segs) rfl rfl HZ.out rfl (by kernel_rfl) (fun w' hw' => ?_)
           clear HW; have HW := Lib.hid hw'; clear hw'; (try simp only [hps_rules] at HW); (try simp only [put_rules])))
      refine bodyPost_ret (results_cellS rfl HW.out 2 rfl rfl Try.underlying37 rfl (by kernel_rfl)) rfl ?_
      rw [HDR.out]
      exact ⟨rfl, HW.out.tail.tail.tail⟩
    · have HDR : Hid (decR xs = (rr, 0)) := HDR0.out
      go_wp2_with (first
        | ((go_at_call 87; refine (rdone_sl HW.out).mono ?_); rintro e w8 ⟨rfl, rfl⟩; rw [HDN.out])
        | (refine wpList_runs HW.out rfl (runs_ldR 1 (ty := 37) (n := 74) (m := Rec.segs rr) rfl rfl rfl rfl Try.underlying37 rfl (by kernel_rfl)) ?_; simp only [put_rules])
        | ((go_at_call 35; have hc := formedS rr HWR.out _ _ HW.out HFF.out; refine hc.mono ?_; clear hc)
           rintro e w2 ⟨rfl, hw'⟩
           clear HW; have HW := Lib.hid hw'; clear hw'; (try simp only [hps_rules] at HW))
        | (refine wpList_stR HW.out rfl (ty := 37) (n := 74) rfl rfl 2 rfl (M := Rec.segs rr) rfl rfl hrr rfl (by kernel_rfl) (fun w' hw' => ?_)
           clear HW; have HW := Lib.hid hw'; clear hw'; (try simp only [hps_rules] at HW); (try simp only [put_rules])))
      refine bodyPost_ret (results_cellS rfl HW.out 2 rfl rfl Try.underlying37 rfl (by kernel_rfl)) rfl ?_
      rw [HDR.out]
      exact ⟨rfl, HW.out.tail.tail.tail⟩
  have b1 : ((k : Int) == 1) = false := beq_eq_false_iff_ne.2 (by omega)
  have b2 : ((k : Int) == 2) = false := beq_eq_false_iff_ne.2 (by omega)
  have b3 : ((k : Int) == 3) = false := beq_eq_false_iff_ne.2 (by omega)
  have b4 : ((k : Int) == 4) = false := beq_eq_false_iff_ne.2 (by omega)
  have KK := Lib.hid (And.intro k1 (And.intro k2 (And.intro k3 k4)))
  clear k1 k2 k3 k4
  go_wp2_with (first
    | (refine wpList_runs HW.out rfl (runs_ld1 1 rfl rfl rfl rfl (by kernel_rfl)) ?_; simp only [put_rules])
    | (refine wpList_st1 HW.out rfl rfl rfl 1 rfl rfl rfl rfl (by kernel_rfl) (fun w' hw' => ?_); clear HW; have HW := Lib.hid hw'; clear hw'; (try simp only [hps_rules] at HW); (try simp only [put_rules])))
  obtain ⟨rr, HRR⟩ : ∃ rr : Rec, Hid (({ Rec.zero with kind := (k : Int), id := id } : Rec) = rr) := ⟨_, rfl⟩
  have HD : Hid (rdec xs = (rr, s2)) := by
    unfold Hid rdec
    simp only [HA.out, HBB.out]
    rw [← HRR.out]
    rw [if_neg KK.out.1, if_neg KK.out.2.1, if_neg KK.out.2.2.1, if_neg KK.out.2.2.2]
  have HX : Hid (Holds _ (RdH 167 rd s2 :: sblk g5 37 (Rec.segs { Rec.zero with kind := (k : Int), id := id }) :: sblk g2 37 Rec.zero.segs :: R)) := HW
  rw [HRR.out] at HX
  clear HW
  have HW := Lib.hid HX.out
  clear HX
  have HWR : Hid rr.Wf := by have := HWF.out; rw [HD.out] at this; exact this
  have hrr := Rec.segs_ok HWR.out.ok
  obtain ⟨d, HDN⟩ : ∃ d, Hid ((!(s2).2 && (s2).1.length == 0) = d) := ⟨_, rfl⟩
  obtain ⟨f, HFF⟩ : ∃ f, Hid (formedR rr = f) := ⟨_, rfl⟩
  have HDR0 : Hid (decR xs = if d = true ∧ f = true then (rr, 0) else (Rec.zero, 2)) := by unfold Hid decR; rw [HD.out]; simp only [HDN.out, HFF.out]
  cases d
  · have HDR : Hid (decR xs = (Rec.zero, 2)) := HDR0.out
    go_wp2_with (first
      | ((go_at_call 87; refine (rdone_sl HW.out).mono ?_); rintro e w8 ⟨rfl, rfl⟩; rw [HDN.out])
      | (refine wpList_runs HW.out rfl (runs_build (zs := Rec.zero.segs) (M := Rec.zero.segs) rfl Try.underlying37 #[(0, 1), (1, 1), (2, 1), (3, 35), (38, 32), (70, 1), (71, 1), (72, 1), (73, 1)] (fun w => by kernel_rfl) (by kernel_rfl) rfl) ?_; simp only [put_rules])
      | (refine wpList_stR HW.out rfl (ty := 37) (n := 74) rfl rfl 2 rfl (M := Rec.zero.segs) rfl rfl HZ.out rfl (by kernel_rfl) (fun w' hw' => ?_)
         clear HW; have HW := Lib.hid hw'; clear hw'; (try simp only [hps_rules] at HW); (try simp only [put_rules])))
    refine bodyPost_ret (results_cellS rfl HW.out 2 rfl rfl Try.underlying37 rfl (by kernel_rfl)) rfl ?_
    rw [HDR.out]
    exact ⟨rfl, HW.out.tail.tail.tail⟩
  cases f
  · have HDR : Hid (decR xs = (Rec.zero, 2)) := HDR0.out
    go_wp2_with (first
      | ((go_at_call 87; refine (rdone_sl HW.out).mono ?_); rintro e w8 ⟨rfl, rfl⟩; rw [HDN.out])
      | (refine wpList_runs HW.out rfl (runs_ldR 1 (ty := 37) (n := 74) (m := Rec.segs rr) rfl rfl rfl rfl Try.underlying37 rfl (by kernel_rfl)) ?_; simp only [put_rules])
      | ((go_at_call 35; have hc := formedS rr HWR.out _ _ HW.out HFF.out; refine hc.mono ?_; clear hc)
         rintro e w2 ⟨rfl, hw'⟩
         clear HW; have HW := Lib.hid hw'; clear hw'; (try simp only [hps_rules] at HW))
      | (refine wpList_runs HW.out rfl (runs_build (zs := Rec.zero.segs) (M := Rec.zero.segs) rfl Try.underlying37 #[(0, 1), (1, 1), (2, 1), (3, 35), (38, 32), (70, 1), (71, 1), (72, 1), (73, 1)] (fun w => by kernel_rfl) (by kernel_rfl) rfl) ?_; simp only [put_rules])
      | (refine wpList_stR HW.out rfl (ty := 37) (n := 74) rfl rfl 2 rfl (M := Rec.zero.segs) rfl rfl HZ.out rfl (by kernel_rfl) (fun w' hw' => ?_)
         clear HW; have HW := Lib.hid hw'; clear hw'; (try simp only [hps_rules] at HW); (try simp only [put_rules])))
    refine bodyPost_ret (results_cellS rfl HW.out 2 rfl rfl Try.underlying37 rfl (by kernel_rfl)) rfl ?_
    rw [HDR.out]
    exact ⟨rfl, HW.out.tail.tail.tail⟩
  · have HDR : Hid (decR xs = (rr, 0)) := HDR0.out
    go_wp2_with (first
      | ((go_at_call 87; refine (rdone_sl HW.out).mono ?_); rintro e w8 ⟨rfl, rfl⟩; rw [HDN.out])
      | (refine wpList_runs HW.out rfl (runs_ldR 1 (ty := 37) (n := 74) (m := Rec.segs rr) rfl rfl rfl rfl Try.underlying37 rfl (by kernel_rfl)) ?_; simp only [put_rules])
      | ((go_at_call 35; have hc := formedS rr HWR.out _ _ HW.out HFF.out; refine hc.mono ?_; clear hc)
         rintro e w2 ⟨rfl, hw'⟩
         clear HW; have HW := Lib.hid hw'; clear hw'; (try simp only [hps_rules] at HW))
      | (refine wpList_stR HW.out rfl (ty := 37) (n := 74) rfl rfl 2 rfl (M := Rec.segs rr) rfl rfl hrr rfl (by kernel_rfl) (fun w' hw' => ?_)
         clear HW; have HW := Lib.hid hw'; clear hw'; (try simp only [hps_rules] at HW); (try simp only [put_rules])))
    refine bodyPost_ret (results_cellS rfl HW.out 2 rfl rfl Try.underlying37 rfl (by kernel_rfl)) rfl ?_
    rw [HDR.out]
    exact ⟨rfl, HW.out.tail.tail.tail⟩
end Go.Proofs.Ytaieonajialenaa
