/- message.Of, over segments. -/
import Derived.Test.YtibkngjacdggpaaDoorMsgM
import Derived.Test.YtibkngjacdggpaaDoorMsgF
namespace Go.Proofs.YtibkngjacdggpaaDoor
set_option linter.unusedSimpArgs false
set_option linter.unusedVariables false
open Go.RowKit HP

theorem wrapIM {n : Nat} (h : n ≤ 9223372036854775807) : IntKind.i64.wrap (n : Int) = n := by simp [IntKind.wrap, IntKind.signed, IntKind.bits]; omega
theorem reditM {w : World} {R : List HP} {r : Nat} {s : List UInt8 × Bool} (h : Holds w (RdH 134 r s :: R)) (hb : s.1.length ≤ 140737488355328) {e : Ed} {s' : List UInt8 × Bool} (he : redit s = (e, s')) :
    Calls Tryd.prog 96 #[.pointer (some ⟨r, 0, none⟩)] w fun en w' => en = .returned (.agg (flat e.segs).toArray) ∧ Holds w' (RdH 134 r s' :: R) := by
  have := redit_ok h hb
  rwa [he] at this
set_option maxRecDepth 100000 in
set_option maxHeartbeats 16000000 in
theorem msgOf_ok (t : UInt8) (A : Option Addr) (n c : Nat) (xs : List UInt8) (w : World) (R : List HP) (hh : Holds w R) (hr : Ent R fun w => RD w A xs) (hn : Hid (n = xs.length)) (hb : n ≤ 140737488355328) :
    Calls Tryd.prog 74 #[.agg #[.int .u8 (t.toNat : Int), .slice A n c]] w fun e w' => e = .returned (.tuple #[.agg (flat (decM t xs).1.segs).toArray, .int .i64 (decM t xs).2]) ∧ Holds w' R := by
  have hb' : xs.length ≤ 140737488355328 := by rw [← hn.out]; exact hb
  have HWF := Lib.hid (mdec_wf t xs hb')
  have HW := Lib.hid hh
  have HR := Lib.hid hr
  have HB := Lib.hid hb'
  have hZ := Msg.segs_ok Msg.zero_ok
  have HZ := Lib.hid hZ
  obtain ⟨k, hk⟩ : ∃ k, t.toNat = k := ⟨_, rfl⟩
  have K0 := Lib.hid (show k < 256 by rw [← hk]; exact t.toNat_lt)
  have HT := Lib.hid hk
  rw [hk]
  have wk := wrapIM (n := k) (by have := K0.out; omega)
  have HFO : SgOk [.o (.int .u8 (k : Int)), .o (.slice A n c)] := ⟨rfl, rfl, trivial⟩
  have HBU : Hid (∀ (o : Oper) (a : Act) (L : List HP) (x : Operand), o.op = .build 46 #[(0, x)] → a.eval x = .int .i64 (k : Int) → RunsH Tryd.prog o a L (.agg (flat (Msg.segs { Msg.zero with kind := (k : Int) })).toArray)) := fun o a L x ho hx => by
    refine runs_build (zs := Msg.zero.segs) (M := Msg.segs { Msg.zero with kind := (k : Int) }) ho Tryd.underlying46 #[(0, 1), (1, 1), (2, 1), (3, 1), (4, 1), (5, 35), (40, 1), (41, 1), (42, 32), (74, 32), (106, 1)] (fun w => by kernel_rfl) (by kernel_rfl) ?_
    simp only [List.map_cons, List.map_nil, hx]
    refine fill_cons (off := 0) (n := 1) (M := [.o (.int .i64 (k : Int))]) rfl rfl ⟨rfl, trivial⟩ rfl HZ.out rfl (fun h1 => ?_)
    rfl
  have hI : SgOk (Msg.segs { Msg.zero with kind := (k : Int) }) := Msg.segs_ok ⟨Ed.zero_ok, length_zeros 32, length_zeros 32⟩
  clear hh hr hb hb' hk
  go_enter Tryd.func74, Tryd.ntmps74
  go_wp2_with (first
    | go_skip
    | (refine wpList_runs HW.out rfl (runs_ld1 1 rfl rfl rfl rfl (by kernel_rfl)) ?_; simp only [put_rules])
    | (refine wpList_box HW.out rfl rfl rfl (M := [.o (.int .u8 (k : Int)), .o (.slice A n c)]) rfl HFO (fun gf w' hw' => ?_)
       clear HW; have HW := Lib.hid hw'; clear hw'; (try simp only [hps_rules] at HW); (try simp only [put_rules]))
    | (refine wpList_alloc HW.out rfl (ty := 46) rfl (z := .agg (flat Msg.zero.segs).toArray) (by kernel_rfl) (M := Msg.zero.segs) rfl hZ (fun g2 w' hw' => ?_)
       clear HW; have HW := Lib.hid hw'; clear hw'; (try simp only [hps_rules] at HW); (try simp only [put_rules])))
  refine (read_sl A n c xs HW.out hn (HR.out _ HW.out.tail.tail) HB.out).mono ?_
  rintro e w1 ⟨rd, rfl, hw'⟩
  clear HW; have HW := Lib.hid hw'; clear hw'; (try simp only [hps_rules] at HW)
  go_wp2_with (first
    | go_skip
    | (refine wpList_runs HW.out rfl (runs_ld1 2 rfl rfl rfl rfl (by kernel_rfl)) ?_; simp only [put_rules])
    | (refine wpList_runs HW.out rfl (HBU.out _ _ _ _ rfl rfl) ?_; simp only [put_rules])
    | (refine wpList_alloc HW.out rfl (ty := 46) rfl (z := .agg (flat Msg.zero.segs).toArray) (by kernel_rfl) (M := Msg.zero.segs) rfl hZ (fun g5 w' hw' => ?_)
       clear HW; have HW := Lib.hid hw'; clear hw'; (try simp only [hps_rules] at HW); (try simp only [put_rules]))
    | (refine wpList_stA HW.out rfl (ty := 46) (n := 107) rfl rfl 0 rfl (M := Msg.segs { Msg.zero with kind := (k : Int) }) rfl hI (by kernel_rfl) (by kernel_rfl) (by kernel_rfl) (fun w' hw' => ?_)
       clear HW; have HW := Lib.hid hw'; clear hw'; (try simp only [hps_rules] at HW); (try simp only [put_rules])))
  refine (rnumber_sl 1 (HW.out.pull 1 rfl) HB.out).mono ?_
  rintro e w2 ⟨rfl, hw'⟩
  obtain ⟨fr, s1, HA⟩ : ∃ k s1, Hid (rnum (xs, false) 1 = (k, s1)) := ⟨_, _, rfl⟩
  have K1 := Lib.hid (show fr < 256 by have : (rnum (xs, false) 1).1 < 256 ^ 1 := rnum_lt (xs, false) 1; rw [HA.out] at this; exact this)
  have L1 := Lib.hid (show s1.1.length ≤ 140737488355328 by have := rnum_len (xs, false) 1; rw [HA.out] at this; exact Nat.le_trans this HB.out)
  rw [HA.out] at hw' ⊢
  clear HW; have HW := Lib.hid hw'; clear hw'; (try simp only [hps_rules] at HW)
  have wf := wrapIM (n := fr) (by have := K1.out; omega)
  go_wp2_with (first
    | go_skip
    | (refine wpList_runs HW.out rfl (runs_ld1 1 rfl rfl rfl rfl (by kernel_rfl)) ?_; simp only [put_rules])
    | (refine wpList_st1 HW.out rfl rfl rfl 1 rfl rfl rfl rfl (by kernel_rfl) (fun w' hw' => ?_); clear HW; have HW := Lib.hid hw'; clear hw'; (try simp only [hps_rules] at HW); (try simp only [put_rules])))
  refine (rnumber_sl 1 HW.out L1.out).mono ?_
  rintro e w3 ⟨rfl, hw'⟩
  obtain ⟨to, s2, HA2⟩ : ∃ k s1', Hid (rnum s1 1 = (k, s1')) := ⟨_, _, rfl⟩
  have K2 := Lib.hid (show to < 256 by have : (rnum s1 1).1 < 256 ^ 1 := rnum_lt s1 1; rw [HA2.out] at this; exact this)
  have L2 := Lib.hid (show s2.1.length ≤ 140737488355328 by have := rnum_len s1 1; rw [HA2.out] at this; exact Nat.le_trans this L1.out)
  rw [HA2.out] at hw' ⊢
  clear HW; have HW := Lib.hid hw'; clear hw'; (try simp only [hps_rules] at HW)
  have wt := wrapIM (n := to) (by have := K2.out; omega)
  go_wp2_with (first
    | go_skip
    | (refine wpList_runs HW.out rfl (runs_ld1 1 rfl rfl rfl rfl (by kernel_rfl)) ?_; simp only [put_rules])
    | (refine wpList_st1 HW.out rfl rfl rfl 1 rfl rfl rfl rfl (by kernel_rfl) (fun w' hw' => ?_); clear HW; have HW := Lib.hid hw'; clear hw'; (try simp only [hps_rules] at HW); (try simp only [put_rules])))
  refine (rnumber_sl 4 HW.out L2.out).mono ?_
  rintro e w4 ⟨rfl, hw'⟩
  obtain ⟨id, s3, HA3⟩ : ∃ k s1', Hid (rnum s2 4 = (k, s1')) := ⟨_, _, rfl⟩
  have L3 := Lib.hid (show s3.1.length ≤ 140737488355328 by have := rnum_len s2 4; rw [HA3.out] at this; exact Nat.le_trans this L2.out)
  rw [HA3.out] at hw' ⊢
  clear HW; have HW := Lib.hid hw'; clear hw'; (try simp only [hps_rules] at HW)
  clear wk wf wt
  by_cases k1 : k = 1
  · subst k1
    go_wp2_with (first
      | go_skip
      | (refine wpList_runs HW.out rfl (runs_ld1 1 rfl rfl rfl rfl (by kernel_rfl)) ?_; simp only [put_rules])
      | (refine wpList_st1 HW.out rfl rfl rfl 1 rfl rfl rfl rfl (by kernel_rfl) (fun w' hw' => ?_); clear HW; have HW := Lib.hid hw'; clear hw'; (try simp only [hps_rules] at HW); (try simp only [put_rules])))
    refine (rnumber_sl 4 HW.out L3.out).mono ?_
    rintro e w4 ⟨rfl, hw'⟩
    obtain ⟨bs, s4, HQ⟩ : ∃ k s1', Hid (rnum s3 4 = (k, s1')) := ⟨_, _, rfl⟩
    have L4 := Lib.hid (show s4.1.length ≤ 140737488355328 by have := rnum_len s3 4; rw [HQ.out] at this; exact Nat.le_trans this L3.out)
    rw [HQ.out] at hw' ⊢
    clear HW; have HW := Lib.hid hw'; clear hw'; (try simp only [hps_rules] at HW)
    go_wp2_with (first
      | go_skip
      | (refine wpList_runs HW.out rfl (runs_ld1 1 rfl rfl rfl rfl (by kernel_rfl)) ?_; simp only [put_rules])
      | (refine wpList_st1 HW.out rfl rfl rfl 1 rfl rfl rfl rfl (by kernel_rfl) (fun w' hw' => ?_); clear HW; have HW := Lib.hid hw'; clear hw'; (try simp only [hps_rules] at HW); (try simp only [put_rules])))
    obtain ⟨ed, s5, HC⟩ : ∃ ed s', Hid (redit s4 = (ed, s')) := ⟨_, _, rfl⟩
    have LE := Lib.hid (show s5.1.length ≤ 140737488355328 by have := redit_len s4; rw [HC.out] at this; exact Nat.le_trans this L4.out)
    have HE := Lib.hid (show ed.Wf by have := redit_wf s4 L4.out; rw [HC.out] at this; exact this)
    have hE := Ed.segs_ok HE.out.ok
    refine (reditM HW.out L4.out HC.out).mono ?_
    rintro e w4 ⟨rfl, hw'⟩
    clear HW; have HW := Lib.hid hw'; clear hw'; (try simp only [hps_rules] at HW)
    go_wp2_with (first
      | go_skip
      | (refine wpList_stR HW.out rfl (ty := 40) (n := 35) rfl rfl 1 rfl (M := Ed.segs ed) rfl rfl hE (by kernel_rfl) (by kernel_rfl) (fun w' hw' => ?_)
         clear HW; have HW := Lib.hid hw'; clear hw'; (try simp only [hps_rules] at HW); (try simp only [put_rules])))
    obtain ⟨rr, HRR⟩ : ∃ rr : Msg, Hid (({ Msg.zero with kind := ((1 : Nat) : Int), frm := (fr : Int), to := (to : Int), id := id, base := bs, ed := ed } : Msg) = rr) := ⟨_, rfl⟩
    have HD : Hid (mdec t xs = (rr, s5)) := by
      unfold Hid mdec
      simp only [HA.out, HA2.out, HA3.out, HT.out]
      rw [← HRR.out]
      simp only [HQ.out, HC.out, if_true]
    have HX : Hid (Holds _ (RdH 134 rd s5 :: sblk g5 46 (Msg.segs { Msg.zero with kind := ((1 : Nat) : Int), frm := (fr : Int), to := (to : Int), id := id, base := bs, ed := ed }) :: sblk g2 46 Msg.zero.segs :: sblk gf 78 _ :: R)) := HW
    rw [HRR.out] at HX
    clear HW
    have HW := Lib.hid HX.out
    clear HX
    have HWR : Hid rr.Wf := by have := HWF.out; rw [HD.out] at this; exact this
    have hrr := Msg.segs_ok HWR.out.ok
    have HLN : Hid (sglen rr.segs = 107) := by unfold Hid; rw [← flat_len hrr]; exact Msg.length_segs HWR.out.ok
    obtain ⟨d, HDN⟩ : ∃ d, Hid ((!(s5).2 && (s5).1.length == 0) = d) := ⟨_, rfl⟩
    obtain ⟨f, HFF⟩ : ∃ f, Hid (formedM rr = f) := ⟨_, rfl⟩
    have HDR0 : Hid (decM t xs = if d = true ∧ f = true then (rr, 0) else (Msg.zero, 2)) := by unfold Hid decM; rw [HD.out]; simp only [HDN.out, HFF.out]
    cases d
    · have HDR : Hid (decM t xs = (Msg.zero, 2)) := HDR0.out
      go_wp2_with (first
        | go_skip
        | ((go_at_call 99; refine (rdone_sl HW.out).mono ?_); rintro e w8 ⟨rfl, rfl⟩; rw [HDN.out])
        | (refine wpList_runs HW.out rfl (runs_build (zs := Msg.zero.segs) (M := Msg.zero.segs) rfl Tryd.underlying46 #[(0, 1), (1, 1), (2, 1), (3, 1), (4, 1), (5, 35), (40, 1), (41, 1), (42, 32), (74, 32), (106, 1)] (fun w => by kernel_rfl) (by kernel_rfl) rfl) ?_; simp only [put_rules])
        | (refine wpList_stA HW.out rfl (ty := 46) (n := 107) rfl rfl 2 rfl (M := Msg.zero.segs) rfl HZ.out (by kernel_rfl) (by kernel_rfl) (by kernel_rfl) (fun w' hw' => ?_)
           clear HW; have HW := Lib.hid hw'; clear hw'; (try simp only [hps_rules] at HW); (try simp only [put_rules]))
        | (refine bodyPost_ret (results_cellS rfl HW.out 2 rfl rfl Tryd.underlying46 rfl (by kernel_rfl)) rfl ?_
           rw [HDR.out]
           exact ⟨rfl, HW.out.tail.tail.tail.tail⟩))
    cases f
    · have HDR : Hid (decM t xs = (Msg.zero, 2)) := HDR0.out
      go_wp2_with (first
        | go_skip
        | ((go_at_call 99; refine (rdone_sl HW.out).mono ?_); rintro e w8 ⟨rfl, rfl⟩; rw [HDN.out])
        | (refine wpList_runs HW.out rfl (runs_ldA 1 (ty := 46) (n := 107) rfl rfl rfl HLN.out Tryd.underlying46 rfl (by kernel_rfl)) ?_; simp only [put_rules])
        | ((go_at_call 37; have hc := mformed_ok rr HWR.out _ _ HW.out HFF.out; refine hc.mono ?_; clear hc)
           rintro e w2 ⟨rfl, hw'⟩
           clear HW; have HW := Lib.hid hw'; clear hw'; (try simp only [hps_rules] at HW))
        | (refine wpList_runs HW.out rfl (runs_build (zs := Msg.zero.segs) (M := Msg.zero.segs) rfl Tryd.underlying46 #[(0, 1), (1, 1), (2, 1), (3, 1), (4, 1), (5, 35), (40, 1), (41, 1), (42, 32), (74, 32), (106, 1)] (fun w => by kernel_rfl) (by kernel_rfl) rfl) ?_; simp only [put_rules])
        | (refine wpList_stA HW.out rfl (ty := 46) (n := 107) rfl rfl 2 rfl (M := Msg.zero.segs) rfl HZ.out (by kernel_rfl) (by kernel_rfl) (by kernel_rfl) (fun w' hw' => ?_)
           clear HW; have HW := Lib.hid hw'; clear hw'; (try simp only [hps_rules] at HW); (try simp only [put_rules]))
        | (refine bodyPost_ret (results_cellS rfl HW.out 2 rfl rfl Tryd.underlying46 rfl (by kernel_rfl)) rfl ?_
           rw [HDR.out]
           exact ⟨rfl, HW.out.tail.tail.tail.tail⟩))
    · have HDR : Hid (decM t xs = (rr, 0)) := HDR0.out
      go_wp2_with (first
        | go_skip
        | ((go_at_call 99; refine (rdone_sl HW.out).mono ?_); rintro e w8 ⟨rfl, rfl⟩; rw [HDN.out])
        | (refine wpList_runs HW.out rfl (runs_ldA 1 (ty := 46) (n := 107) rfl rfl rfl HLN.out Tryd.underlying46 rfl (by kernel_rfl)) ?_; simp only [put_rules])
        | ((go_at_call 37; have hc := mformed_ok rr HWR.out _ _ HW.out HFF.out; refine hc.mono ?_; clear hc)
           rintro e w2 ⟨rfl, hw'⟩
           clear HW; have HW := Lib.hid hw'; clear hw'; (try simp only [hps_rules] at HW))
        | (refine wpList_stA HW.out rfl (ty := 46) (n := 107) rfl rfl 2 rfl (M := Msg.segs rr) rfl hrr (by kernel_rfl) HLN.out (by kernel_rfl) (fun w' hw' => ?_)
           clear HW; have HW := Lib.hid hw'; clear hw'; (try simp only [hps_rules] at HW); (try simp only [put_rules]))
        | (refine bodyPost_ret (results_cellS rfl HW.out 2 rfl rfl Tryd.underlying46 rfl (by kernel_rfl)) rfl ?_
           rw [HDR.out]
           exact ⟨rfl, HW.out.tail.tail.tail.tail⟩))
  by_cases k2 : k = 2
  · subst k2
    go_wp2_with (first
      | go_skip
      | (refine wpList_runs HW.out rfl (runs_ld1 1 rfl rfl rfl rfl (by kernel_rfl)) ?_; simp only [put_rules])
      | (refine wpList_st1 HW.out rfl rfl rfl 1 rfl rfl rfl rfl (by kernel_rfl) (fun w' hw' => ?_); clear HW; have HW := Lib.hid hw'; clear hw'; (try simp only [hps_rules] at HW); (try simp only [put_rules])))
    refine (rtruth_sl HW.out L3.out).mono ?_
    rintro e w4 ⟨rfl, hw'⟩
    obtain ⟨y, s4, HQ⟩ : ∃ k s1', Hid (rtruth s3 = (k, s1')) := ⟨_, _, rfl⟩
    have L4 := Lib.hid (show s4.1.length ≤ 140737488355328 by have := rtruth_len s3; rw [HQ.out] at this; exact Nat.le_trans this L3.out)
    rw [HQ.out] at hw' ⊢
    clear HW; have HW := Lib.hid hw'; clear hw'; (try simp only [hps_rules] at HW)
    cases y
    · skip
      go_wp2_with (first
        | go_skip
        | (refine wpList_runs HW.out rfl (runs_ld1 1 rfl rfl rfl rfl (by kernel_rfl)) ?_; simp only [put_rules])
        | (refine wpList_st1 HW.out rfl rfl rfl 1 rfl rfl rfl rfl (by kernel_rfl) (fun w' hw' => ?_); clear HW; have HW := Lib.hid hw'; clear hw'; (try simp only [hps_rules] at HW); (try simp only [put_rules])))
      refine (rnumber_sl 1 HW.out L4.out).mono ?_
      rintro e w4 ⟨rfl, hw'⟩
      obtain ⟨cd, s5, HG⟩ : ∃ k s1', Hid (rnum s4 1 = (k, s1')) := ⟨_, _, rfl⟩
      have L5 := Lib.hid (show s5.1.length ≤ 140737488355328 by have := rnum_len s4 1; rw [HG.out] at this; exact Nat.le_trans this L4.out)
      rw [HG.out] at hw' ⊢
      clear HW; have HW := Lib.hid hw'; clear hw'; (try simp only [hps_rules] at HW)
      have wc := wrapIM (n := cd) (by have : (rnum s4 1).1 < 256 ^ 1 := rnum_lt s4 1; rw [HG.out] at this; omega)
      go_wp2_with (first
        | go_skip
        | (refine wpList_runs HW.out rfl (runs_ld1 1 rfl rfl rfl rfl (by kernel_rfl)) ?_; simp only [put_rules])
        | (refine wpList_st1 HW.out rfl rfl rfl 1 rfl rfl rfl rfl (by kernel_rfl) (fun w' hw' => ?_); clear HW; have HW := Lib.hid hw'; clear hw'; (try simp only [hps_rules] at HW); (try simp only [put_rules])))
      obtain ⟨rr, HRR⟩ : ∃ rr : Msg, Hid (({ Msg.zero with kind := ((2 : Nat) : Int), frm := (fr : Int), to := (to : Int), id := id, yes := false, code := (cd : Int) } : Msg) = rr) := ⟨_, rfl⟩
      have HD : Hid (mdec t xs = (rr, s5)) := by
        unfold Hid mdec
        simp only [HA.out, HA2.out, HA3.out, HT.out]
        rw [← HRR.out]
        simp only [HQ.out, HG.out]; rfl
      have HX : Hid (Holds _ (RdH 134 rd s5 :: sblk g5 46 (Msg.segs { Msg.zero with kind := ((2 : Nat) : Int), frm := (fr : Int), to := (to : Int), id := id, yes := false, code := (cd : Int) }) :: sblk g2 46 Msg.zero.segs :: sblk gf 78 _ :: R)) := HW
      rw [HRR.out] at HX
      clear HW
      have HW := Lib.hid HX.out
      clear HX
      have HWR : Hid rr.Wf := by have := HWF.out; rw [HD.out] at this; exact this
      have hrr := Msg.segs_ok HWR.out.ok
      have HLN : Hid (sglen rr.segs = 107) := by unfold Hid; rw [← flat_len hrr]; exact Msg.length_segs HWR.out.ok
      obtain ⟨d, HDN⟩ : ∃ d, Hid ((!(s5).2 && (s5).1.length == 0) = d) := ⟨_, rfl⟩
      obtain ⟨f, HFF⟩ : ∃ f, Hid (formedM rr = f) := ⟨_, rfl⟩
      have HDR0 : Hid (decM t xs = if d = true ∧ f = true then (rr, 0) else (Msg.zero, 2)) := by unfold Hid decM; rw [HD.out]; simp only [HDN.out, HFF.out]
      cases d
      · have HDR : Hid (decM t xs = (Msg.zero, 2)) := HDR0.out
        go_wp2_with (first
          | go_skip
          | ((go_at_call 99; refine (rdone_sl HW.out).mono ?_); rintro e w8 ⟨rfl, rfl⟩; rw [HDN.out])
          | (refine wpList_runs HW.out rfl (runs_build (zs := Msg.zero.segs) (M := Msg.zero.segs) rfl Tryd.underlying46 #[(0, 1), (1, 1), (2, 1), (3, 1), (4, 1), (5, 35), (40, 1), (41, 1), (42, 32), (74, 32), (106, 1)] (fun w => by kernel_rfl) (by kernel_rfl) rfl) ?_; simp only [put_rules])
          | (refine wpList_stA HW.out rfl (ty := 46) (n := 107) rfl rfl 2 rfl (M := Msg.zero.segs) rfl HZ.out (by kernel_rfl) (by kernel_rfl) (by kernel_rfl) (fun w' hw' => ?_)
             clear HW; have HW := Lib.hid hw'; clear hw'; (try simp only [hps_rules] at HW); (try simp only [put_rules]))
          | (refine bodyPost_ret (results_cellS rfl HW.out 2 rfl rfl Tryd.underlying46 rfl (by kernel_rfl)) rfl ?_
             rw [HDR.out]
             exact ⟨rfl, HW.out.tail.tail.tail.tail⟩))
      cases f
      · have HDR : Hid (decM t xs = (Msg.zero, 2)) := HDR0.out
        go_wp2_with (first
          | go_skip
          | ((go_at_call 99; refine (rdone_sl HW.out).mono ?_); rintro e w8 ⟨rfl, rfl⟩; rw [HDN.out])
          | (refine wpList_runs HW.out rfl (runs_ldA 1 (ty := 46) (n := 107) rfl rfl rfl HLN.out Tryd.underlying46 rfl (by kernel_rfl)) ?_; simp only [put_rules])
          | ((go_at_call 37; have hc := mformed_ok rr HWR.out _ _ HW.out HFF.out; refine hc.mono ?_; clear hc)
             rintro e w2 ⟨rfl, hw'⟩
             clear HW; have HW := Lib.hid hw'; clear hw'; (try simp only [hps_rules] at HW))
          | (refine wpList_runs HW.out rfl (runs_build (zs := Msg.zero.segs) (M := Msg.zero.segs) rfl Tryd.underlying46 #[(0, 1), (1, 1), (2, 1), (3, 1), (4, 1), (5, 35), (40, 1), (41, 1), (42, 32), (74, 32), (106, 1)] (fun w => by kernel_rfl) (by kernel_rfl) rfl) ?_; simp only [put_rules])
          | (refine wpList_stA HW.out rfl (ty := 46) (n := 107) rfl rfl 2 rfl (M := Msg.zero.segs) rfl HZ.out (by kernel_rfl) (by kernel_rfl) (by kernel_rfl) (fun w' hw' => ?_)
             clear HW; have HW := Lib.hid hw'; clear hw'; (try simp only [hps_rules] at HW); (try simp only [put_rules]))
          | (refine bodyPost_ret (results_cellS rfl HW.out 2 rfl rfl Tryd.underlying46 rfl (by kernel_rfl)) rfl ?_
             rw [HDR.out]
             exact ⟨rfl, HW.out.tail.tail.tail.tail⟩))
      · have HDR : Hid (decM t xs = (rr, 0)) := HDR0.out
        go_wp2_with (first
          | go_skip
          | ((go_at_call 99; refine (rdone_sl HW.out).mono ?_); rintro e w8 ⟨rfl, rfl⟩; rw [HDN.out])
          | (refine wpList_runs HW.out rfl (runs_ldA 1 (ty := 46) (n := 107) rfl rfl rfl HLN.out Tryd.underlying46 rfl (by kernel_rfl)) ?_; simp only [put_rules])
          | ((go_at_call 37; have hc := mformed_ok rr HWR.out _ _ HW.out HFF.out; refine hc.mono ?_; clear hc)
             rintro e w2 ⟨rfl, hw'⟩
             clear HW; have HW := Lib.hid hw'; clear hw'; (try simp only [hps_rules] at HW))
          | (refine wpList_stA HW.out rfl (ty := 46) (n := 107) rfl rfl 2 rfl (M := Msg.segs rr) rfl hrr (by kernel_rfl) HLN.out (by kernel_rfl) (fun w' hw' => ?_)
             clear HW; have HW := Lib.hid hw'; clear hw'; (try simp only [hps_rules] at HW); (try simp only [put_rules]))
          | (refine bodyPost_ret (results_cellS rfl HW.out 2 rfl rfl Tryd.underlying46 rfl (by kernel_rfl)) rfl ?_
             rw [HDR.out]
             exact ⟨rfl, HW.out.tail.tail.tail.tail⟩))
    · skip
      go_wp2_with (first
        | go_skip
        | (refine wpList_runs HW.out rfl (runs_ld1 1 rfl rfl rfl rfl (by kernel_rfl)) ?_; simp only [put_rules])
        | (refine wpList_st1 HW.out rfl rfl rfl 1 rfl rfl rfl rfl (by kernel_rfl) (fun w' hw' => ?_); clear HW; have HW := Lib.hid hw'; clear hw'; (try simp only [hps_rules] at HW); (try simp only [put_rules])))
      have HN := rhash_len32 s4
      obtain ⟨hs, s5, HG⟩ : ∃ hs s', Hid (rhash s4 = (hs, s')) := ⟨_, _, rfl⟩
      rw [HG.out] at HN
      refine (rhash_sl HW.out L4.out).mono ?_
      rintro e w5 ⟨rfl, hw'⟩
      have L5 := Lib.hid (show s5.1.length ≤ 140737488355328 by have : (rhash s4).2.1.length ≤ s4.1.length := rtake_len _ _; rw [HG.out] at this; exact Nat.le_trans this L4.out)
      rw [HG.out] at hw' ⊢
      clear HW; have HW := Lib.hid hw'; clear hw'; (try simp only [hps_rules] at HW)
      have HN2 : SgOk [.b 32 hs] := ⟨HN, trivial⟩
      go_wp2_with (first
        | go_skip
        | (refine wpList_stR HW.out rfl (ty := 22) (n := 32) rfl rfl 1 rfl (M := [.b 32 hs]) rfl rfl HN2 (by kernel_rfl) (by kernel_rfl) (fun w' hw' => ?_)
           clear HW; have HW := Lib.hid hw'; clear hw'; (try simp only [hps_rules] at HW); (try simp only [put_rules])))
      clear HN2 HN
      have HN := rhash_len32 s5
      obtain ⟨rt, s6, HG2⟩ : ∃ hs s', Hid (rhash s5 = (hs, s')) := ⟨_, _, rfl⟩
      rw [HG2.out] at HN
      refine (rhash_sl HW.out L5.out).mono ?_
      rintro e w5 ⟨rfl, hw'⟩
      have L6 := Lib.hid (show s6.1.length ≤ 140737488355328 by have : (rhash s5).2.1.length ≤ s5.1.length := rtake_len _ _; rw [HG2.out] at this; exact Nat.le_trans this L5.out)
      rw [HG2.out] at hw' ⊢
      clear HW; have HW := Lib.hid hw'; clear hw'; (try simp only [hps_rules] at HW)
      have HN2 : SgOk [.b 32 rt] := ⟨HN, trivial⟩
      go_wp2_with (first
        | go_skip
        | (refine wpList_stR HW.out rfl (ty := 22) (n := 32) rfl rfl 1 rfl (M := [.b 32 rt]) rfl rfl HN2 (by kernel_rfl) (by kernel_rfl) (fun w' hw' => ?_)
           clear HW; have HW := Lib.hid hw'; clear hw'; (try simp only [hps_rules] at HW); (try simp only [put_rules])))
      clear HN2 HN
      obtain ⟨rr, HRR⟩ : ∃ rr : Msg, Hid (({ Msg.zero with kind := ((2 : Nat) : Int), frm := (fr : Int), to := (to : Int), id := id, yes := true, hash := hs, root := rt } : Msg) = rr) := ⟨_, rfl⟩
      have HD : Hid (mdec t xs = (rr, s6)) := by
        unfold Hid mdec
        simp only [HA.out, HA2.out, HA3.out, HT.out]
        rw [← HRR.out]
        simp only [HQ.out, HG.out, HG2.out]; rfl
      have HX : Hid (Holds _ (RdH 134 rd s6 :: sblk g5 46 (Msg.segs { Msg.zero with kind := ((2 : Nat) : Int), frm := (fr : Int), to := (to : Int), id := id, yes := true, hash := hs, root := rt }) :: sblk g2 46 Msg.zero.segs :: sblk gf 78 _ :: R)) := HW
      rw [HRR.out] at HX
      clear HW
      have HW := Lib.hid HX.out
      clear HX
      have HWR : Hid rr.Wf := by have := HWF.out; rw [HD.out] at this; exact this
      have hrr := Msg.segs_ok HWR.out.ok
      have HLN : Hid (sglen rr.segs = 107) := by unfold Hid; rw [← flat_len hrr]; exact Msg.length_segs HWR.out.ok
      obtain ⟨d, HDN⟩ : ∃ d, Hid ((!(s6).2 && (s6).1.length == 0) = d) := ⟨_, rfl⟩
      obtain ⟨f, HFF⟩ : ∃ f, Hid (formedM rr = f) := ⟨_, rfl⟩
      have HDR0 : Hid (decM t xs = if d = true ∧ f = true then (rr, 0) else (Msg.zero, 2)) := by unfold Hid decM; rw [HD.out]; simp only [HDN.out, HFF.out]
      cases d
      · have HDR : Hid (decM t xs = (Msg.zero, 2)) := HDR0.out
        go_wp2_with (first
          | go_skip
          | ((go_at_call 99; refine (rdone_sl HW.out).mono ?_); rintro e w8 ⟨rfl, rfl⟩; rw [HDN.out])
          | (refine wpList_runs HW.out rfl (runs_build (zs := Msg.zero.segs) (M := Msg.zero.segs) rfl Tryd.underlying46 #[(0, 1), (1, 1), (2, 1), (3, 1), (4, 1), (5, 35), (40, 1), (41, 1), (42, 32), (74, 32), (106, 1)] (fun w => by kernel_rfl) (by kernel_rfl) rfl) ?_; simp only [put_rules])
          | (refine wpList_stA HW.out rfl (ty := 46) (n := 107) rfl rfl 2 rfl (M := Msg.zero.segs) rfl HZ.out (by kernel_rfl) (by kernel_rfl) (by kernel_rfl) (fun w' hw' => ?_)
             clear HW; have HW := Lib.hid hw'; clear hw'; (try simp only [hps_rules] at HW); (try simp only [put_rules]))
          | (refine bodyPost_ret (results_cellS rfl HW.out 2 rfl rfl Tryd.underlying46 rfl (by kernel_rfl)) rfl ?_
             rw [HDR.out]
             exact ⟨rfl, HW.out.tail.tail.tail.tail⟩))
      cases f
      · have HDR : Hid (decM t xs = (Msg.zero, 2)) := HDR0.out
        go_wp2_with (first
          | go_skip
          | ((go_at_call 99; refine (rdone_sl HW.out).mono ?_); rintro e w8 ⟨rfl, rfl⟩; rw [HDN.out])
          | (refine wpList_runs HW.out rfl (runs_ldA 1 (ty := 46) (n := 107) rfl rfl rfl HLN.out Tryd.underlying46 rfl (by kernel_rfl)) ?_; simp only [put_rules])
          | ((go_at_call 37; have hc := mformed_ok rr HWR.out _ _ HW.out HFF.out; refine hc.mono ?_; clear hc)
             rintro e w2 ⟨rfl, hw'⟩
             clear HW; have HW := Lib.hid hw'; clear hw'; (try simp only [hps_rules] at HW))
          | (refine wpList_runs HW.out rfl (runs_build (zs := Msg.zero.segs) (M := Msg.zero.segs) rfl Tryd.underlying46 #[(0, 1), (1, 1), (2, 1), (3, 1), (4, 1), (5, 35), (40, 1), (41, 1), (42, 32), (74, 32), (106, 1)] (fun w => by kernel_rfl) (by kernel_rfl) rfl) ?_; simp only [put_rules])
          | (refine wpList_stA HW.out rfl (ty := 46) (n := 107) rfl rfl 2 rfl (M := Msg.zero.segs) rfl HZ.out (by kernel_rfl) (by kernel_rfl) (by kernel_rfl) (fun w' hw' => ?_)
             clear HW; have HW := Lib.hid hw'; clear hw'; (try simp only [hps_rules] at HW); (try simp only [put_rules]))
          | (refine bodyPost_ret (results_cellS rfl HW.out 2 rfl rfl Tryd.underlying46 rfl (by kernel_rfl)) rfl ?_
             rw [HDR.out]
             exact ⟨rfl, HW.out.tail.tail.tail.tail⟩))
      · have HDR : Hid (decM t xs = (rr, 0)) := HDR0.out
        go_wp2_with (first
          | go_skip
          | ((go_at_call 99; refine (rdone_sl HW.out).mono ?_); rintro e w8 ⟨rfl, rfl⟩; rw [HDN.out])
          | (refine wpList_runs HW.out rfl (runs_ldA 1 (ty := 46) (n := 107) rfl rfl rfl HLN.out Tryd.underlying46 rfl (by kernel_rfl)) ?_; simp only [put_rules])
          | ((go_at_call 37; have hc := mformed_ok rr HWR.out _ _ HW.out HFF.out; refine hc.mono ?_; clear hc)
             rintro e w2 ⟨rfl, hw'⟩
             clear HW; have HW := Lib.hid hw'; clear hw'; (try simp only [hps_rules] at HW))
          | (refine wpList_stA HW.out rfl (ty := 46) (n := 107) rfl rfl 2 rfl (M := Msg.segs rr) rfl hrr (by kernel_rfl) HLN.out (by kernel_rfl) (fun w' hw' => ?_)
             clear HW; have HW := Lib.hid hw'; clear hw'; (try simp only [hps_rules] at HW); (try simp only [put_rules]))
          | (refine bodyPost_ret (results_cellS rfl HW.out 2 rfl rfl Tryd.underlying46 rfl (by kernel_rfl)) rfl ?_
             rw [HDR.out]
             exact ⟨rfl, HW.out.tail.tail.tail.tail⟩))
  by_cases k3 : k = 3
  · subst k3
    go_wp2_with (first
      | go_skip
      | (refine wpList_runs HW.out rfl (runs_ld1 1 rfl rfl rfl rfl (by kernel_rfl)) ?_; simp only [put_rules])
      | (refine wpList_st1 HW.out rfl rfl rfl 1 rfl rfl rfl rfl (by kernel_rfl) (fun w' hw' => ?_); clear HW; have HW := Lib.hid hw'; clear hw'; (try simp only [hps_rules] at HW); (try simp only [put_rules])))
    refine (rtruth_sl HW.out L3.out).mono ?_
    rintro e w4 ⟨rfl, hw'⟩
    obtain ⟨y, s4, HQ⟩ : ∃ k s1', Hid (rtruth s3 = (k, s1')) := ⟨_, _, rfl⟩
    have L4 := Lib.hid (show s4.1.length ≤ 140737488355328 by have := rtruth_len s3; rw [HQ.out] at this; exact Nat.le_trans this L3.out)
    rw [HQ.out] at hw' ⊢
    clear HW; have HW := Lib.hid hw'; clear hw'; (try simp only [hps_rules] at HW)
    go_wp2_with (first
      | go_skip
      | (refine wpList_runs HW.out rfl (runs_ld1 1 rfl rfl rfl rfl (by kernel_rfl)) ?_; simp only [put_rules])
      | (refine wpList_st1 HW.out rfl rfl rfl 1 rfl rfl rfl rfl (by kernel_rfl) (fun w' hw' => ?_); clear HW; have HW := Lib.hid hw'; clear hw'; (try simp only [hps_rules] at HW); (try simp only [put_rules])))
    obtain ⟨rr, HRR⟩ : ∃ rr : Msg, Hid (({ Msg.zero with kind := ((3 : Nat) : Int), frm := (fr : Int), to := (to : Int), id := id, commit := y } : Msg) = rr) := ⟨_, rfl⟩
    have HD : Hid (mdec t xs = (rr, s4)) := by
      unfold Hid mdec
      simp only [HA.out, HA2.out, HA3.out, HT.out]
      rw [← HRR.out]
      simp only [HQ.out]; rfl
    have HX : Hid (Holds _ (RdH 134 rd s4 :: sblk g5 46 (Msg.segs { Msg.zero with kind := ((3 : Nat) : Int), frm := (fr : Int), to := (to : Int), id := id, commit := y }) :: sblk g2 46 Msg.zero.segs :: sblk gf 78 _ :: R)) := HW
    rw [HRR.out] at HX
    clear HW
    have HW := Lib.hid HX.out
    clear HX
    have HWR : Hid rr.Wf := by have := HWF.out; rw [HD.out] at this; exact this
    have hrr := Msg.segs_ok HWR.out.ok
    have HLN : Hid (sglen rr.segs = 107) := by unfold Hid; rw [← flat_len hrr]; exact Msg.length_segs HWR.out.ok
    obtain ⟨d, HDN⟩ : ∃ d, Hid ((!(s4).2 && (s4).1.length == 0) = d) := ⟨_, rfl⟩
    obtain ⟨f, HFF⟩ : ∃ f, Hid (formedM rr = f) := ⟨_, rfl⟩
    have HDR0 : Hid (decM t xs = if d = true ∧ f = true then (rr, 0) else (Msg.zero, 2)) := by unfold Hid decM; rw [HD.out]; simp only [HDN.out, HFF.out]
    cases d
    · have HDR : Hid (decM t xs = (Msg.zero, 2)) := HDR0.out
      go_wp2_with (first
        | go_skip
        | ((go_at_call 99; refine (rdone_sl HW.out).mono ?_); rintro e w8 ⟨rfl, rfl⟩; rw [HDN.out])
        | (refine wpList_runs HW.out rfl (runs_build (zs := Msg.zero.segs) (M := Msg.zero.segs) rfl Tryd.underlying46 #[(0, 1), (1, 1), (2, 1), (3, 1), (4, 1), (5, 35), (40, 1), (41, 1), (42, 32), (74, 32), (106, 1)] (fun w => by kernel_rfl) (by kernel_rfl) rfl) ?_; simp only [put_rules])
        | (refine wpList_stA HW.out rfl (ty := 46) (n := 107) rfl rfl 2 rfl (M := Msg.zero.segs) rfl HZ.out (by kernel_rfl) (by kernel_rfl) (by kernel_rfl) (fun w' hw' => ?_)
           clear HW; have HW := Lib.hid hw'; clear hw'; (try simp only [hps_rules] at HW); (try simp only [put_rules]))
        | (refine bodyPost_ret (results_cellS rfl HW.out 2 rfl rfl Tryd.underlying46 rfl (by kernel_rfl)) rfl ?_
           rw [HDR.out]
           exact ⟨rfl, HW.out.tail.tail.tail.tail⟩))
    cases f
    · have HDR : Hid (decM t xs = (Msg.zero, 2)) := HDR0.out
      go_wp2_with (first
        | go_skip
        | ((go_at_call 99; refine (rdone_sl HW.out).mono ?_); rintro e w8 ⟨rfl, rfl⟩; rw [HDN.out])
        | (refine wpList_runs HW.out rfl (runs_ldA 1 (ty := 46) (n := 107) rfl rfl rfl HLN.out Tryd.underlying46 rfl (by kernel_rfl)) ?_; simp only [put_rules])
        | ((go_at_call 37; have hc := mformed_ok rr HWR.out _ _ HW.out HFF.out; refine hc.mono ?_; clear hc)
           rintro e w2 ⟨rfl, hw'⟩
           clear HW; have HW := Lib.hid hw'; clear hw'; (try simp only [hps_rules] at HW))
        | (refine wpList_runs HW.out rfl (runs_build (zs := Msg.zero.segs) (M := Msg.zero.segs) rfl Tryd.underlying46 #[(0, 1), (1, 1), (2, 1), (3, 1), (4, 1), (5, 35), (40, 1), (41, 1), (42, 32), (74, 32), (106, 1)] (fun w => by kernel_rfl) (by kernel_rfl) rfl) ?_; simp only [put_rules])
        | (refine wpList_stA HW.out rfl (ty := 46) (n := 107) rfl rfl 2 rfl (M := Msg.zero.segs) rfl HZ.out (by kernel_rfl) (by kernel_rfl) (by kernel_rfl) (fun w' hw' => ?_)
           clear HW; have HW := Lib.hid hw'; clear hw'; (try simp only [hps_rules] at HW); (try simp only [put_rules]))
        | (refine bodyPost_ret (results_cellS rfl HW.out 2 rfl rfl Tryd.underlying46 rfl (by kernel_rfl)) rfl ?_
           rw [HDR.out]
           exact ⟨rfl, HW.out.tail.tail.tail.tail⟩))
    · have HDR : Hid (decM t xs = (rr, 0)) := HDR0.out
      go_wp2_with (first
        | go_skip
        | ((go_at_call 99; refine (rdone_sl HW.out).mono ?_); rintro e w8 ⟨rfl, rfl⟩; rw [HDN.out])
        | (refine wpList_runs HW.out rfl (runs_ldA 1 (ty := 46) (n := 107) rfl rfl rfl HLN.out Tryd.underlying46 rfl (by kernel_rfl)) ?_; simp only [put_rules])
        | ((go_at_call 37; have hc := mformed_ok rr HWR.out _ _ HW.out HFF.out; refine hc.mono ?_; clear hc)
           rintro e w2 ⟨rfl, hw'⟩
           clear HW; have HW := Lib.hid hw'; clear hw'; (try simp only [hps_rules] at HW))
        | (refine wpList_stA HW.out rfl (ty := 46) (n := 107) rfl rfl 2 rfl (M := Msg.segs rr) rfl hrr (by kernel_rfl) HLN.out (by kernel_rfl) (fun w' hw' => ?_)
           clear HW; have HW := Lib.hid hw'; clear hw'; (try simp only [hps_rules] at HW); (try simp only [put_rules]))
        | (refine bodyPost_ret (results_cellS rfl HW.out 2 rfl rfl Tryd.underlying46 rfl (by kernel_rfl)) rfl ?_
           rw [HDR.out]
           exact ⟨rfl, HW.out.tail.tail.tail.tail⟩))
  by_cases k6 : k = 6
  · subst k6
    go_wp2_with (first
      | go_skip
      | (refine wpList_runs HW.out rfl (runs_ld1 1 rfl rfl rfl rfl (by kernel_rfl)) ?_; simp only [put_rules])
      | (refine wpList_st1 HW.out rfl rfl rfl 1 rfl rfl rfl rfl (by kernel_rfl) (fun w' hw' => ?_); clear HW; have HW := Lib.hid hw'; clear hw'; (try simp only [hps_rules] at HW); (try simp only [put_rules])))
    refine (rtruth_sl HW.out L3.out).mono ?_
    rintro e w4 ⟨rfl, hw'⟩
    obtain ⟨y, s4, HQ⟩ : ∃ k s1', Hid (rtruth s3 = (k, s1')) := ⟨_, _, rfl⟩
    have L4 := Lib.hid (show s4.1.length ≤ 140737488355328 by have := rtruth_len s3; rw [HQ.out] at this; exact Nat.le_trans this L3.out)
    rw [HQ.out] at hw' ⊢
    clear HW; have HW := Lib.hid hw'; clear hw'; (try simp only [hps_rules] at HW)
    go_wp2_with (first
      | go_skip
      | (refine wpList_runs HW.out rfl (runs_ld1 1 rfl rfl rfl rfl (by kernel_rfl)) ?_; simp only [put_rules])
      | (refine wpList_st1 HW.out rfl rfl rfl 1 rfl rfl rfl rfl (by kernel_rfl) (fun w' hw' => ?_); clear HW; have HW := Lib.hid hw'; clear hw'; (try simp only [hps_rules] at HW); (try simp only [put_rules])))
    obtain ⟨rr, HRR⟩ : ∃ rr : Msg, Hid (({ Msg.zero with kind := ((6 : Nat) : Int), frm := (fr : Int), to := (to : Int), id := id, commit := y } : Msg) = rr) := ⟨_, rfl⟩
    have HD : Hid (mdec t xs = (rr, s4)) := by
      unfold Hid mdec
      simp only [HA.out, HA2.out, HA3.out, HT.out]
      rw [← HRR.out]
      simp only [HQ.out]; rfl
    have HX : Hid (Holds _ (RdH 134 rd s4 :: sblk g5 46 (Msg.segs { Msg.zero with kind := ((6 : Nat) : Int), frm := (fr : Int), to := (to : Int), id := id, commit := y }) :: sblk g2 46 Msg.zero.segs :: sblk gf 78 _ :: R)) := HW
    rw [HRR.out] at HX
    clear HW
    have HW := Lib.hid HX.out
    clear HX
    have HWR : Hid rr.Wf := by have := HWF.out; rw [HD.out] at this; exact this
    have hrr := Msg.segs_ok HWR.out.ok
    have HLN : Hid (sglen rr.segs = 107) := by unfold Hid; rw [← flat_len hrr]; exact Msg.length_segs HWR.out.ok
    obtain ⟨d, HDN⟩ : ∃ d, Hid ((!(s4).2 && (s4).1.length == 0) = d) := ⟨_, rfl⟩
    obtain ⟨f, HFF⟩ : ∃ f, Hid (formedM rr = f) := ⟨_, rfl⟩
    have HDR0 : Hid (decM t xs = if d = true ∧ f = true then (rr, 0) else (Msg.zero, 2)) := by unfold Hid decM; rw [HD.out]; simp only [HDN.out, HFF.out]
    cases d
    · have HDR : Hid (decM t xs = (Msg.zero, 2)) := HDR0.out
      go_wp2_with (first
        | go_skip
        | ((go_at_call 99; refine (rdone_sl HW.out).mono ?_); rintro e w8 ⟨rfl, rfl⟩; rw [HDN.out])
        | (refine wpList_runs HW.out rfl (runs_build (zs := Msg.zero.segs) (M := Msg.zero.segs) rfl Tryd.underlying46 #[(0, 1), (1, 1), (2, 1), (3, 1), (4, 1), (5, 35), (40, 1), (41, 1), (42, 32), (74, 32), (106, 1)] (fun w => by kernel_rfl) (by kernel_rfl) rfl) ?_; simp only [put_rules])
        | (refine wpList_stA HW.out rfl (ty := 46) (n := 107) rfl rfl 2 rfl (M := Msg.zero.segs) rfl HZ.out (by kernel_rfl) (by kernel_rfl) (by kernel_rfl) (fun w' hw' => ?_)
           clear HW; have HW := Lib.hid hw'; clear hw'; (try simp only [hps_rules] at HW); (try simp only [put_rules]))
        | (refine bodyPost_ret (results_cellS rfl HW.out 2 rfl rfl Tryd.underlying46 rfl (by kernel_rfl)) rfl ?_
           rw [HDR.out]
           exact ⟨rfl, HW.out.tail.tail.tail.tail⟩))
    cases f
    · have HDR : Hid (decM t xs = (Msg.zero, 2)) := HDR0.out
      go_wp2_with (first
        | go_skip
        | ((go_at_call 99; refine (rdone_sl HW.out).mono ?_); rintro e w8 ⟨rfl, rfl⟩; rw [HDN.out])
        | (refine wpList_runs HW.out rfl (runs_ldA 1 (ty := 46) (n := 107) rfl rfl rfl HLN.out Tryd.underlying46 rfl (by kernel_rfl)) ?_; simp only [put_rules])
        | ((go_at_call 37; have hc := mformed_ok rr HWR.out _ _ HW.out HFF.out; refine hc.mono ?_; clear hc)
           rintro e w2 ⟨rfl, hw'⟩
           clear HW; have HW := Lib.hid hw'; clear hw'; (try simp only [hps_rules] at HW))
        | (refine wpList_runs HW.out rfl (runs_build (zs := Msg.zero.segs) (M := Msg.zero.segs) rfl Tryd.underlying46 #[(0, 1), (1, 1), (2, 1), (3, 1), (4, 1), (5, 35), (40, 1), (41, 1), (42, 32), (74, 32), (106, 1)] (fun w => by kernel_rfl) (by kernel_rfl) rfl) ?_; simp only [put_rules])
        | (refine wpList_stA HW.out rfl (ty := 46) (n := 107) rfl rfl 2 rfl (M := Msg.zero.segs) rfl HZ.out (by kernel_rfl) (by kernel_rfl) (by kernel_rfl) (fun w' hw' => ?_)
           clear HW; have HW := Lib.hid hw'; clear hw'; (try simp only [hps_rules] at HW); (try simp only [put_rules]))
        | (refine bodyPost_ret (results_cellS rfl HW.out 2 rfl rfl Tryd.underlying46 rfl (by kernel_rfl)) rfl ?_
           rw [HDR.out]
           exact ⟨rfl, HW.out.tail.tail.tail.tail⟩))
    · have HDR : Hid (decM t xs = (rr, 0)) := HDR0.out
      go_wp2_with (first
        | go_skip
        | ((go_at_call 99; refine (rdone_sl HW.out).mono ?_); rintro e w8 ⟨rfl, rfl⟩; rw [HDN.out])
        | (refine wpList_runs HW.out rfl (runs_ldA 1 (ty := 46) (n := 107) rfl rfl rfl HLN.out Tryd.underlying46 rfl (by kernel_rfl)) ?_; simp only [put_rules])
        | ((go_at_call 37; have hc := mformed_ok rr HWR.out _ _ HW.out HFF.out; refine hc.mono ?_; clear hc)
           rintro e w2 ⟨rfl, hw'⟩
           clear HW; have HW := Lib.hid hw'; clear hw'; (try simp only [hps_rules] at HW))
        | (refine wpList_stA HW.out rfl (ty := 46) (n := 107) rfl rfl 2 rfl (M := Msg.segs rr) rfl hrr (by kernel_rfl) HLN.out (by kernel_rfl) (fun w' hw' => ?_)
           clear HW; have HW := Lib.hid hw'; clear hw'; (try simp only [hps_rules] at HW); (try simp only [put_rules]))
        | (refine bodyPost_ret (results_cellS rfl HW.out 2 rfl rfl Tryd.underlying46 rfl (by kernel_rfl)) rfl ?_
           rw [HDR.out]
           exact ⟨rfl, HW.out.tail.tail.tail.tail⟩))
  have b1 : ((k : Int) == 1) = false := beq_eq_false_iff_ne.2 (by omega)
  have b2 : ((k : Int) == 2) = false := beq_eq_false_iff_ne.2 (by omega)
  have b3 : ((k : Int) == 3) = false := beq_eq_false_iff_ne.2 (by omega)
  have b6 : ((k : Int) == 6) = false := beq_eq_false_iff_ne.2 (by omega)
  have KK := Lib.hid (And.intro k1 (And.intro k2 (And.intro k3 k6)))
  clear k1 k2 k3 k6
  go_wp2_with (first
    | go_skip
    | (refine wpList_runs HW.out rfl (runs_ld1 1 rfl rfl rfl rfl (by kernel_rfl)) ?_; simp only [put_rules])
    | (refine wpList_st1 HW.out rfl rfl rfl 1 rfl rfl rfl rfl (by kernel_rfl) (fun w' hw' => ?_); clear HW; have HW := Lib.hid hw'; clear hw'; (try simp only [hps_rules] at HW); (try simp only [put_rules])))
  obtain ⟨rr, HRR⟩ : ∃ rr : Msg, Hid (({ Msg.zero with kind := (k : Int), frm := (fr : Int), to := (to : Int), id := id } : Msg) = rr) := ⟨_, rfl⟩
  have HD : Hid (mdec t xs = (rr, s3)) := by
    unfold Hid mdec
    simp only [HA.out, HA2.out, HA3.out, HT.out]
    rw [← HRR.out]
    rw [if_neg KK.out.1, if_neg KK.out.2.1, if_neg KK.out.2.2.1, if_neg KK.out.2.2.2]
  have HX : Hid (Holds _ (RdH 134 rd s3 :: sblk g5 46 (Msg.segs { Msg.zero with kind := (k : Int), frm := (fr : Int), to := (to : Int), id := id }) :: sblk g2 46 Msg.zero.segs :: sblk gf 78 _ :: R)) := HW
  rw [HRR.out] at HX
  clear HW
  have HW := Lib.hid HX.out
  clear HX
  have HWR : Hid rr.Wf := by have := HWF.out; rw [HD.out] at this; exact this
  have hrr := Msg.segs_ok HWR.out.ok
  have HLN : Hid (sglen rr.segs = 107) := by unfold Hid; rw [← flat_len hrr]; exact Msg.length_segs HWR.out.ok
  obtain ⟨d, HDN⟩ : ∃ d, Hid ((!(s3).2 && (s3).1.length == 0) = d) := ⟨_, rfl⟩
  obtain ⟨f, HFF⟩ : ∃ f, Hid (formedM rr = f) := ⟨_, rfl⟩
  have HDR0 : Hid (decM t xs = if d = true ∧ f = true then (rr, 0) else (Msg.zero, 2)) := by unfold Hid decM; rw [HD.out]; simp only [HDN.out, HFF.out]
  cases d
  · have HDR : Hid (decM t xs = (Msg.zero, 2)) := HDR0.out
    go_wp2_with (first
      | go_skip
      | ((go_at_call 99; refine (rdone_sl HW.out).mono ?_); rintro e w8 ⟨rfl, rfl⟩; rw [HDN.out])
      | (refine wpList_runs HW.out rfl (runs_build (zs := Msg.zero.segs) (M := Msg.zero.segs) rfl Tryd.underlying46 #[(0, 1), (1, 1), (2, 1), (3, 1), (4, 1), (5, 35), (40, 1), (41, 1), (42, 32), (74, 32), (106, 1)] (fun w => by kernel_rfl) (by kernel_rfl) rfl) ?_; simp only [put_rules])
      | (refine wpList_stA HW.out rfl (ty := 46) (n := 107) rfl rfl 2 rfl (M := Msg.zero.segs) rfl HZ.out (by kernel_rfl) (by kernel_rfl) (by kernel_rfl) (fun w' hw' => ?_)
         clear HW; have HW := Lib.hid hw'; clear hw'; (try simp only [hps_rules] at HW); (try simp only [put_rules]))
      | (refine bodyPost_ret (results_cellS rfl HW.out 2 rfl rfl Tryd.underlying46 rfl (by kernel_rfl)) rfl ?_
         rw [HDR.out]
         exact ⟨rfl, HW.out.tail.tail.tail.tail⟩))
  cases f
  · have HDR : Hid (decM t xs = (Msg.zero, 2)) := HDR0.out
    go_wp2_with (first
      | go_skip
      | ((go_at_call 99; refine (rdone_sl HW.out).mono ?_); rintro e w8 ⟨rfl, rfl⟩; rw [HDN.out])
      | (refine wpList_runs HW.out rfl (runs_ldA 1 (ty := 46) (n := 107) rfl rfl rfl HLN.out Tryd.underlying46 rfl (by kernel_rfl)) ?_; simp only [put_rules])
      | ((go_at_call 37; have hc := mformed_ok rr HWR.out _ _ HW.out HFF.out; refine hc.mono ?_; clear hc)
         rintro e w2 ⟨rfl, hw'⟩
         clear HW; have HW := Lib.hid hw'; clear hw'; (try simp only [hps_rules] at HW))
      | (refine wpList_runs HW.out rfl (runs_build (zs := Msg.zero.segs) (M := Msg.zero.segs) rfl Tryd.underlying46 #[(0, 1), (1, 1), (2, 1), (3, 1), (4, 1), (5, 35), (40, 1), (41, 1), (42, 32), (74, 32), (106, 1)] (fun w => by kernel_rfl) (by kernel_rfl) rfl) ?_; simp only [put_rules])
      | (refine wpList_stA HW.out rfl (ty := 46) (n := 107) rfl rfl 2 rfl (M := Msg.zero.segs) rfl HZ.out (by kernel_rfl) (by kernel_rfl) (by kernel_rfl) (fun w' hw' => ?_)
         clear HW; have HW := Lib.hid hw'; clear hw'; (try simp only [hps_rules] at HW); (try simp only [put_rules]))
      | (refine bodyPost_ret (results_cellS rfl HW.out 2 rfl rfl Tryd.underlying46 rfl (by kernel_rfl)) rfl ?_
         rw [HDR.out]
         exact ⟨rfl, HW.out.tail.tail.tail.tail⟩))
  · have HDR : Hid (decM t xs = (rr, 0)) := HDR0.out
    go_wp2_with (first
      | go_skip
      | ((go_at_call 99; refine (rdone_sl HW.out).mono ?_); rintro e w8 ⟨rfl, rfl⟩; rw [HDN.out])
      | (refine wpList_runs HW.out rfl (runs_ldA 1 (ty := 46) (n := 107) rfl rfl rfl HLN.out Tryd.underlying46 rfl (by kernel_rfl)) ?_; simp only [put_rules])
      | ((go_at_call 37; have hc := mformed_ok rr HWR.out _ _ HW.out HFF.out; refine hc.mono ?_; clear hc)
         rintro e w2 ⟨rfl, hw'⟩
         clear HW; have HW := Lib.hid hw'; clear hw'; (try simp only [hps_rules] at HW))
      | (refine wpList_stA HW.out rfl (ty := 46) (n := 107) rfl rfl 2 rfl (M := Msg.segs rr) rfl hrr (by kernel_rfl) HLN.out (by kernel_rfl) (fun w' hw' => ?_)
         clear HW; have HW := Lib.hid hw'; clear hw'; (try simp only [hps_rules] at HW); (try simp only [put_rules]))
      | (refine bodyPost_ret (results_cellS rfl HW.out 2 rfl rfl Tryd.underlying46 rfl (by kernel_rfl)) rfl ?_
         rw [HDR.out]
         exact ⟨rfl, HW.out.tail.tail.tail.tail⟩))
end Go.Proofs.YtibkngjacdggpaaDoor
