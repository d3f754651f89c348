import Derived.Test.YtibkngjacdggpaaDoorMsgXh
import Derived.Test.YtibkngjacdggpaaDoorMsgF
import Derived.Test.YtibkngjacdggpaaDoorFrameD
import Derived.Test.YtibkngjacdggpaaDoorMsgX
import Derived.Test.YtibkngjacdggpaaDoorMsgO
import Derived.Test.YtibkngjacdggpaaDoorRefI
import Derived.Test.YtibkngjacdggpaaDoorMsgL
/- message.Encode, over segments. -/
namespace Go.Proofs.YtibkngjacdggpaaDoor
set_option linter.unusedSimpArgs false
set_option linter.unusedVariables false
open Go.RowKit HP

theorem wnum1 (xs : List UInt8) (n : Nat) (h : n < 256) : wnum (xs, false) n 1 = (xs ++ beL n 1, false) := wnum_fit xs n 1 (by decide) (by simpa using h)
theorem wnum4 (xs : List UInt8) (n : Nat) (h : n < 4294967296) : wnum (xs, false) n 4 = (xs ++ beL n 4, false) := wnum_fit xs n 4 (by decide) (by simpa using h)
theorem whash_fit (xs h : List UInt8) : whash (xs, false) h = (xs ++ h, false) := by simp [whash]
set_option maxRecDepth 100000 in
set_option maxHeartbeats 16000000 in
theorem msgEncode_ok (r : Msg) (h : r.Wf) (w : World) (R : List HP) (hh : Holds w R) (hkf : Ent R KF) {b : Bool} (hb : formedM r = b) :
    Calls Tryd.prog 24 #[.agg (flat r.segs).toArray] w fun e w' => ∃ A n c, e = .returned (.tuple #[.slice A n c, .int .i64 (if b = true then 0 else 1)]) ∧ Hid (n = (if b = true then encB r.kb (encM r) else []).length) ∧ n ≤ c ∧ Holds w' (own (.slice A n c) (if b = true then encB r.kb (encM r) else []) :: R) := by
  have HW := Lib.hid hh
  have HKF := Lib.hid hkf
  have HS := Lib.hid (Msg.segs_ok h.ok)
  have HR := Lib.hid h
  have HK1 : Hid ((Tryd.f51.name == "runtime.NumGoroutine" || Tryd.f51.body.isNone) = false) := by unfold Hid; kernel_rfl
  have HK2 : Hid ((Tryd.f50.name == "runtime.NumGoroutine" || Tryd.f50.body.isNone) = false) := by unfold Hid; kernel_rfl
  have HF := Lib.hid hb
  clear hh h hkf hb
  cases b
  · skip
    go_enter Tryd.func24, Tryd.ntmps24
    go_wp2_with (first
      | go_skip
      | (refine wpList_runs HW.out rfl (runs_ldA 0 (ty := 46) (n := 107) rfl rfl rfl (by kernel_rfl) Tryd.underlying46 rfl (by kernel_rfl)) ?_; simp only [put_rules])
      | (refine wpList_runs HW.out rfl (runs_ld1 1 rfl rfl rfl rfl (by kernel_rfl)) ?_; simp only [put_rules])
      | (refine wpList_box HW.out rfl rfl rfl rfl HS.out (fun gb w' hw' => ?_)
         clear HW; have HW := Lib.hid hw'; clear hw'; (try simp only [hps_rules] at HW); (try simp only [put_rules]))
      | (refine wpList_box HW.out rfl (ty := 70) rfl rfl (M := [.o (.slice none 0 0), .o (.bool false)]) rfl ⟨rfl, rfl, trivial⟩ (fun gw w' hw' => ?_)
         replace hw' : Holds w' (WrH gw ([], false) :: sblk gb 46 r.segs :: R) := Holds.wr_new (show Holds w' (HP.blk gw 70 #[.slice none 0 0, .bool false] :: _) from (Holds.cond_ hw').2)
         clear HW; have HW := Lib.hid hw'; clear hw'; (try simp only [hps_rules] at HW); (try simp only [put_rules]))
      | ((go_at_call 37; have hc := mformed_ok r HR.out _ _ HW.out HF.out; with_reducible refine hc.mono ?_; clear hc)
         rintro e w2 ⟨rfl, hw'⟩
         clear HW; have HW := Lib.hid hw'; clear hw'; (try simp only [hps_rules] at HW)))
    go_returns
    exact ⟨none, 0, 0, rfl, rfl, Nat.le_refl _, HW.out.tail.nil_own⟩
  have HG := Lib.hid ((formedM_iff r).1 HF.out)
  have HL := Lib.hid (length_encM HR.out.ok HG.out)
  have hkb : r.kb.toNat = r.kind.toNat := by have := HG.out.k1; have := HG.out.k6; unfold Msg.kb; rw [UInt8.toNat_ofNat']; omega
  have HEF : Hid (encF r.kb (encM r) = (encB r.kb (encM r), 0)) := by
    unfold Hid encF
    rw [if_neg (fun e => by rw [e] at hkb; have := HG.out.k1; simp at hkb; omega), if_neg (by have := HL.out; omega)]
  have hkw : IntKind.u8.wrap r.kind = (r.kb.toNat : Int) := by
    have := HG.out.k1
    have := HG.out.k6
    rw [hkb]
    simp [IntKind.wrap, IntKind.signed, IntKind.bits]
    omega
  obtain ⟨fn, hfn⟩ : ∃ f, Hid (r.frm.toNat = f) := ⟨_, rfl⟩
  obtain ⟨tn, htn⟩ : ∃ f, Hid (r.to.toNat = f) := ⟨_, rfl⟩
  have HFN : Hid (fn ≤ 16 ∧ tn ≤ 16) := by unfold Hid; rw [← hfn.out, ← htn.out]; have := HG.out.f1; have := HG.out.t1; omega
  have hfw : IntKind.u64.wrap r.frm = (fn : Int) := by
    have := HG.out.f0
    have := HG.out.f1
    rw [← hfn.out]
    simp [IntKind.wrap, IntKind.signed, IntKind.bits]
    omega
  have htw : IntKind.u64.wrap r.to = (tn : Int) := by
    have := HG.out.t0
    have := HG.out.t1
    rw [← htn.out]
    simp [IntKind.wrap, IntKind.signed, IntKind.bits]
    omega
  clear hkb
  rw [if_pos rfl, if_pos rfl]
  go_enter Tryd.func24, Tryd.ntmps24
  go_wp2_with (first
    | go_skip
    | (refine wpList_runs HW.out rfl (runs_ldA 0 (ty := 46) (n := 107) rfl rfl rfl (by kernel_rfl) Tryd.underlying46 rfl (by kernel_rfl)) ?_; simp only [put_rules])
    | (refine wpList_runs HW.out rfl (runs_ld1 1 rfl rfl rfl rfl (by kernel_rfl)) ?_; simp only [put_rules])
    | (refine wpList_box HW.out rfl rfl rfl rfl HS.out (fun gb w' hw' => ?_)
       clear HW; have HW := Lib.hid hw'; clear hw'; (try simp only [hps_rules] at HW); (try simp only [put_rules]))
    | (refine wpList_box HW.out rfl (ty := 70) rfl rfl (M := [.o (.slice none 0 0), .o (.bool false)]) rfl ⟨rfl, rfl, trivial⟩ (fun gw w' hw' => ?_)
       replace hw' : Holds w' (WrH gw ([], false) :: sblk gb 46 r.segs :: R) := Holds.wr_new (show Holds w' (HP.blk gw 70 #[.slice none 0 0, .bool false] :: _) from (Holds.cond_ hw').2)
       clear HW; have HW := Lib.hid hw'; clear hw'; (try simp only [hps_rules] at HW); (try simp only [put_rules]))
    | ((go_at_call 37; have hc := mformed_ok r HR.out _ _ HW.out HF.out; with_reducible refine hc.mono ?_; clear hc)
       rintro e w2 ⟨rfl, hw'⟩
       clear HW; have HW := Lib.hid hw'; clear hw'; (try simp only [hps_rules] at HW)))
  refine (number_sl fn (by have := HFN.out; omega) 1 HW.out (by simp)).mono ?_
  rintro e w2 ⟨rfl, hw'⟩
  rw [wnum1 _ _ (by have := HFN.out; omega)] at hw'
  clear HW; have HW := Lib.hid hw'; clear hw'; (try simp only [hps_rules] at HW)
  go_wp2_with (first
    | go_skip
    | (refine wpList_runs HW.out rfl (runs_ld1 1 rfl rfl rfl rfl (by kernel_rfl)) ?_; simp only [put_rules]))
  refine (number_sl tn (by have := HFN.out; omega) 1 HW.out (by simp)).mono ?_
  rintro e w3 ⟨rfl, hw'⟩
  rw [wnum1 _ _ (by have := HFN.out; omega)] at hw'
  clear HW; have HW := Lib.hid hw'; clear hw'; (try simp only [hps_rules] at HW)
  go_wp2_with (first
    | go_skip
    | (refine wpList_runs HW.out rfl (runs_ld1 1 rfl rfl rfl rfl (by kernel_rfl)) ?_; simp only [put_rules]))
  refine (number_sl r.id (by have := HG.out.i1; omega) 4 HW.out (by simp)).mono ?_
  rintro e w4 ⟨rfl, hw'⟩
  rw [wnum4 _ _ (by have := HG.out.i1; omega)] at hw'
  obtain ⟨P, HP⟩ : ∃ P, Hid (r.pre = P) := ⟨_, rfl⟩
  rw [show ([] ++ beL fn 1 ++ beL tn 1 ++ beL r.id 4) = P from by rw [← HP.out, ← hfn.out, ← htn.out, beL_oneM, beL_oneM]; rfl] at hw'
  have HB : Hid (P.length = 6 ∧ r.ed.s.length ≤ 500 ∧ (encE r.ed).length = 36 + r.ed.s.length ∧ r.hash.length = 32 ∧ r.root.length = 32) := ⟨by rw [← HP.out]; exact r.length_pre, HG.out.s, length_encEM HR.out.ok.ed, HR.out.ok.hash, HR.out.ok.root⟩
  clear HW; have HW := Lib.hid hw'; clear hw'; (try simp only [hps_rules] at HW)
  have hcase := HG.out.k_cases
  obtain ⟨hy, HY⟩ : ∃ b, r.yes = b := ⟨_, rfl⟩
  have HYS := HY
  rcases hcase with hk | hk | hk | hk | hk | hk
  · skip
    have e1 : (r.kind == 1) = true := by rw [hk]; rfl
    have e2 : (r.kind == 2) = false := beq_eq_false_iff_ne.2 (by omega)
    have e3 : (r.kind == 3) = false := beq_eq_false_iff_ne.2 (by omega)
    have e6 : (r.kind == 6) = false := beq_eq_false_iff_ne.2 (by omega)
    have HKK := Lib.hid hk
    clear hk
    go_wp2_with (first
      | go_skip
      | (refine wpList_runs HW.out rfl (runs_ld1 1 rfl rfl rfl rfl (by kernel_rfl)) ?_; simp only [put_rules, HYS]))
    refine (number_sl r.base (by have := HG.out.b1; omega) 4 HW.out (by have := HB.out; simp; omega)).mono ?_
    rintro e w2 ⟨rfl, hw'⟩
    rw [wnum4 _ _ (by have := HG.out.b1; omega)] at hw'
    clear HW; have HW := Lib.hid hw'; clear hw'; (try simp only [hps_rules] at HW)
    go_wp2_with (first
      | go_skip
      | (refine wpList_runs HW.out rfl (runs_ldR 1 (ty := 40) (n := 35) (m := Ed.segs r.ed) rfl rfl rfl rfl Tryd.underlying40 rfl (by kernel_rfl)) ?_; simp only [put_rules]))
    refine (wedit_ok r.ed HR.out.ed HW.out (by have := HB.out; simp; omega)).mono ?_
    rintro e w2 ⟨rfl, hw'⟩
    rw [wedit_fit _ _ (by have := HG.out.s; omega)] at hw'
    clear HW; have HW := Lib.hid hw'; clear hw'; (try simp only [hps_rules] at HW)
    replace HW : Hid (Holds w2 (WrH gw (encM r, false) :: sblk gb 46 r.segs :: R)) := by
      have := HW.out
      refine Lib.hid ?_
      rw [encM_pre, show r.pre = P from HP.out, if_pos HKK.out]
      simpa using this
    go_wp2_with (first
      | go_skip
      | (refine wpList_runs HW.out rfl (runs_ld1 1 rfl rfl rfl rfl (by kernel_rfl)) ?_; simp only [put_rules]))
    refine wp_region_untilA 10 (by kernel_rfl) HW.out (fun w' hw' => ?_)
    clear HW; have HW := Lib.hid hw'; have HC := Lib.hid hw'; clear hw'
    simp only [rep_rules]
    first
    | (refine takeE 0 rfl rfl (runs_ld1 1 rfl rfl rfl rfl (by kernel_rfl)) HC.out (by kernel_rfl) (fun _ _ _ h => h) ?_)
    | (refine takeE 0 (v := ?_) rfl rfl (runs_of fun w => ?_) HC.out (by kernel_rfl) (fun _ _ _ h => h) ?_
       rotate_left
       · go_simp <;> (try with_reducible rfl))
    try simp only [put_rules]
    first
    | (refine takeE 1 rfl rfl (runs_ld1 1 rfl rfl rfl rfl (by kernel_rfl)) HC.out (by kernel_rfl) (fun _ _ _ h => h) ?_)
    | (refine takeE 1 (v := ?_) rfl rfl (runs_of fun w => ?_) HC.out (by kernel_rfl) (fun _ _ _ h => h) ?_
       rotate_left
       · go_simp <;> (try with_reducible rfl))
    try simp only [put_rules]
    first
    | (refine takeE 2 rfl rfl (runs_ld1 1 rfl rfl rfl rfl (by kernel_rfl)) HC.out (by kernel_rfl) (fun _ _ _ h => h) ?_)
    | (refine takeE 2 (v := ?_) rfl rfl (runs_of fun w => ?_) HC.out (by kernel_rfl) (fun _ _ _ h => h) ?_
       rotate_left
       · go_simp <;> (try with_reducible rfl))
    try simp only [put_rules]
    first
    | (refine takeE 3 rfl rfl (runs_ld1 1 rfl rfl rfl rfl (by kernel_rfl)) HC.out (by kernel_rfl) (fun _ _ _ h => h) ?_)
    | (refine takeE 3 (v := ?_) rfl rfl (runs_of fun w => ?_) HC.out (by kernel_rfl) (fun _ _ _ h => h) ?_
       rotate_left
       · go_simp <;> (try with_reducible rfl))
    try simp only [put_rules]
    refine effE 4 rfl (by kernel_rfl) ?_
    refine wpList_callG 51 rfl Tryd.func51 HK1.out (al := [.pointer (some ⟨gw, 0, none⟩)]) rfl rfl (bytes_sl HW.out (by have := HL.out; show (encM r).length ≤ _; omega)) ?_
    rintro ex w3 ⟨v, rfl, hw'⟩
    replace hw' : Holds w3 (own v (encM r) :: WrH gw (encM r, false) :: sblk gb 46 r.segs :: R) := hw'
    obtain ⟨A2, n2, c2, rfl, hn2, hc2, -⟩ := hw'.own_form
    refine ⟨_, rfl, ?_⟩
    clear HW; have HW := Lib.hid hw'; clear hw'; (try simp only [hps_rules] at HW)
    try simp only [put_rules]
    refine wpList_behind (And.intro (fun _ => (by exact HW.out.tail)) ?_)
    clear HC; have HC := Lib.hid (HW.out.tail)
    first
    | (refine takeE 5 (v := ?_) rfl rfl (runs_of fun w => ?_) HC.out (by kernel_rfl) (fun _ _ _ h => h) ?_
       rotate_left
       · go_simp <;> (try with_reducible rfl))
    try simp only [put_rules]
    refine effE 6 rfl (by kernel_rfl) ?_
    refine wpList_callG 50 rfl Tryd.func50 HK2.out (al := [.agg #[.int .u8 (r.kb.toNat : Int), .slice A2 n2 c2]]) rfl rfl (fencode_ok r.kb A2 n2 c2 (encM r) _ _ HW.out Ent.own hn2 hc2 (by rw [hn2.out]; have := HL.out; omega) (((HKF.out.cons _).cons _).cons _)) ?_
    rintro ex w4 ⟨v, rfl, hw'⟩
    rw [HEF.out] at hw' ⊢
    obtain ⟨A3, n3, c3, rfl, hn3, hc3, -⟩ := hw'.own_form
    refine ⟨_, rfl, ?_⟩
    clear HW; have HW := Lib.hid hw'; clear hw'; (try simp only [hps_rules] at HW)
    try simp only [put_rules]
    refine wpList_behind (And.intro (fun _ => (by exact HW.out.tail.tail)) ?_)
    clear HC; have HC := Lib.hid (HW.out.tail.tail)
    first
    | (refine takeE 7 (v := ?_) rfl rfl (runs_of fun w => ?_) HC.out (by kernel_rfl) (fun _ _ _ h => h) ?_
       rotate_left
       · go_simp <;> (try with_reducible rfl))
    try simp only [put_rules]
    first
    | (refine takeE 8 (v := ?_) rfl rfl (runs_of fun w => ?_) HC.out (by kernel_rfl) (fun _ _ _ h => h) ?_
       rotate_left
       · go_simp <;> (try with_reducible rfl))
    try simp only [put_rules]
    first
    | (refine takeE 9 (v := ?_) rfl rfl (runs_of fun w => ?_) HC.out (by kernel_rfl) (fun _ _ _ h => h) ?_
       rotate_left
       · go_simp <;> (try with_reducible rfl))
    try simp only [put_rules]
    refine effE 10 rfl (by kernel_rfl) ?_
    refine wpList_runs HW.out rfl (v := ?_) (runs_of fun w => ?_) ?_
    rotate_left
    · go_simp <;> (try with_reducible rfl)
    try simp only [put_rules]
    refine wpList_behind (And.intro (fun h => Bool.noConfusion (show true = false from h)) ?_)
    refine doneE (by kernel_rfl) ?_ _
    go_wp2
    go_returns
    exact ⟨A3, n3, c3, rfl, hn3.out.trans (by simp), hc3, HW.out.drop 1 rfl |>.drop 1 rfl |>.drop 1 rfl⟩
  · cases hy
    · have HYF := Lib.hid HY
      obtain ⟨cn, hcn⟩ : ∃ f, Hid (r.code.toNat = f) := ⟨_, rfl⟩
      have hcw : IntKind.u64.wrap r.code = (cn : Int) := by
        have := HG.out.code hk HYF.out
        rw [← hcn.out]
        simp [IntKind.wrap, IntKind.signed, IntKind.bits]
        omega
      have HCD : Hid (cn ≤ 17) := by unfold Hid; rw [← hcn.out]; have := HG.out.code hk HYF.out; omega
      have e1 : (r.kind == 1) = false := beq_eq_false_iff_ne.2 (by omega)
      have e2 : (r.kind == 2) = true := by rw [hk]; rfl
      have e3 : (r.kind == 3) = false := beq_eq_false_iff_ne.2 (by omega)
      have e6 : (r.kind == 6) = false := beq_eq_false_iff_ne.2 (by omega)
      have HKK := Lib.hid hk
      clear hk
      go_wp2_with (first
        | go_skip
        | (refine wpList_runs HW.out rfl (runs_ld1 1 rfl rfl rfl rfl (by kernel_rfl)) ?_; simp only [put_rules, HYS]))
      refine (truth_sl false HW.out (by have := HB.out; simp; omega)).mono ?_
      rintro e w2 ⟨rfl, hw'⟩
      rw [wtruth_fit] at hw'
      clear HW; have HW := Lib.hid hw'; clear hw'; (try simp only [hps_rules] at HW)
      go_wp2_with (first
        | go_skip
        | (refine wpList_runs HW.out rfl (runs_ld1 1 rfl rfl rfl rfl (by kernel_rfl)) ?_; simp only [put_rules, HYS]))
      refine (number_sl cn (by have := HCD.out; omega) 1 HW.out (by have := HB.out; simp; omega)).mono ?_
      rintro e w2 ⟨rfl, hw'⟩
      rw [wnum1 _ _ (by have := HCD.out; omega)] at hw'
      clear HW; have HW := Lib.hid hw'; clear hw'; (try simp only [hps_rules] at HW)
      replace HW : Hid (Holds w2 (WrH gw (encM r, false) :: sblk gb 46 r.segs :: R)) := by
        have := HW.out
        refine Lib.hid ?_
        rw [encM_pre, show r.pre = P from HP.out, if_neg (show ¬ r.kind = 1 by rw [HKK.out]; decide), if_pos HKK.out, if_neg (by rw [HYF.out]; decide), hcn.out]
        simpa using this
      go_wp2_with (first
        | go_skip
        | (refine wpList_runs HW.out rfl (runs_ld1 1 rfl rfl rfl rfl (by kernel_rfl)) ?_; simp only [put_rules]))
      refine wp_region_untilA 10 (by kernel_rfl) HW.out (fun w' hw' => ?_)
      clear HW; have HW := Lib.hid hw'; have HC := Lib.hid hw'; clear hw'
      simp only [rep_rules]
      first
      | (refine takeE 0 rfl rfl (runs_ld1 1 rfl rfl rfl rfl (by kernel_rfl)) HC.out (by kernel_rfl) (fun _ _ _ h => h) ?_)
      | (refine takeE 0 (v := ?_) rfl rfl (runs_of fun w => ?_) HC.out (by kernel_rfl) (fun _ _ _ h => h) ?_
         rotate_left
         · go_simp <;> (try with_reducible rfl))
      try simp only [put_rules]
      first
      | (refine takeE 1 rfl rfl (runs_ld1 1 rfl rfl rfl rfl (by kernel_rfl)) HC.out (by kernel_rfl) (fun _ _ _ h => h) ?_)
      | (refine takeE 1 (v := ?_) rfl rfl (runs_of fun w => ?_) HC.out (by kernel_rfl) (fun _ _ _ h => h) ?_
         rotate_left
         · go_simp <;> (try with_reducible rfl))
      try simp only [put_rules]
      first
      | (refine takeE 2 rfl rfl (runs_ld1 1 rfl rfl rfl rfl (by kernel_rfl)) HC.out (by kernel_rfl) (fun _ _ _ h => h) ?_)
      | (refine takeE 2 (v := ?_) rfl rfl (runs_of fun w => ?_) HC.out (by kernel_rfl) (fun _ _ _ h => h) ?_
         rotate_left
         · go_simp <;> (try with_reducible rfl))
      try simp only [put_rules]
      first
      | (refine takeE 3 rfl rfl (runs_ld1 1 rfl rfl rfl rfl (by kernel_rfl)) HC.out (by kernel_rfl) (fun _ _ _ h => h) ?_)
      | (refine takeE 3 (v := ?_) rfl rfl (runs_of fun w => ?_) HC.out (by kernel_rfl) (fun _ _ _ h => h) ?_
         rotate_left
         · go_simp <;> (try with_reducible rfl))
      try simp only [put_rules]
      refine effE 4 rfl (by kernel_rfl) ?_
      refine wpList_callG 51 rfl Tryd.func51 HK1.out (al := [.pointer (some ⟨gw, 0, none⟩)]) rfl rfl (bytes_sl HW.out (by have := HL.out; show (encM r).length ≤ _; omega)) ?_
      rintro ex w3 ⟨v, rfl, hw'⟩
      replace hw' : Holds w3 (own v (encM r) :: WrH gw (encM r, false) :: sblk gb 46 r.segs :: R) := hw'
      obtain ⟨A2, n2, c2, rfl, hn2, hc2, -⟩ := hw'.own_form
      refine ⟨_, rfl, ?_⟩
      clear HW; have HW := Lib.hid hw'; clear hw'; (try simp only [hps_rules] at HW)
      try simp only [put_rules]
      refine wpList_behind (And.intro (fun _ => (by exact HW.out.tail)) ?_)
      clear HC; have HC := Lib.hid (HW.out.tail)
      first
      | (refine takeE 5 (v := ?_) rfl rfl (runs_of fun w => ?_) HC.out (by kernel_rfl) (fun _ _ _ h => h) ?_
         rotate_left
         · go_simp <;> (try with_reducible rfl))
      try simp only [put_rules]
      refine effE 6 rfl (by kernel_rfl) ?_
      refine wpList_callG 50 rfl Tryd.func50 HK2.out (al := [.agg #[.int .u8 (r.kb.toNat : Int), .slice A2 n2 c2]]) rfl rfl (fencode_ok r.kb A2 n2 c2 (encM r) _ _ HW.out Ent.own hn2 hc2 (by rw [hn2.out]; have := HL.out; omega) (((HKF.out.cons _).cons _).cons _)) ?_
      rintro ex w4 ⟨v, rfl, hw'⟩
      rw [HEF.out] at hw' ⊢
      obtain ⟨A3, n3, c3, rfl, hn3, hc3, -⟩ := hw'.own_form
      refine ⟨_, rfl, ?_⟩
      clear HW; have HW := Lib.hid hw'; clear hw'; (try simp only [hps_rules] at HW)
      try simp only [put_rules]
      refine wpList_behind (And.intro (fun _ => (by exact HW.out.tail.tail)) ?_)
      clear HC; have HC := Lib.hid (HW.out.tail.tail)
      first
      | (refine takeE 7 (v := ?_) rfl rfl (runs_of fun w => ?_) HC.out (by kernel_rfl) (fun _ _ _ h => h) ?_
         rotate_left
         · go_simp <;> (try with_reducible rfl))
      try simp only [put_rules]
      first
      | (refine takeE 8 (v := ?_) rfl rfl (runs_of fun w => ?_) HC.out (by kernel_rfl) (fun _ _ _ h => h) ?_
         rotate_left
         · go_simp <;> (try with_reducible rfl))
      try simp only [put_rules]
      first
      | (refine takeE 9 (v := ?_) rfl rfl (runs_of fun w => ?_) HC.out (by kernel_rfl) (fun _ _ _ h => h) ?_
         rotate_left
         · go_simp <;> (try with_reducible rfl))
      try simp only [put_rules]
      refine effE 10 rfl (by kernel_rfl) ?_
      refine wpList_runs HW.out rfl (v := ?_) (runs_of fun w => ?_) ?_
      rotate_left
      · go_simp <;> (try with_reducible rfl)
      try simp only [put_rules]
      refine wpList_behind (And.intro (fun h => Bool.noConfusion (show true = false from h)) ?_)
      refine doneE (by kernel_rfl) ?_ _
      go_wp2
      go_returns
      exact ⟨A3, n3, c3, rfl, hn3.out.trans (by simp), hc3, HW.out.drop 1 rfl |>.drop 1 rfl |>.drop 1 rfl⟩
    · have HYY := Lib.hid HY
      have e1 : (r.kind == 1) = false := beq_eq_false_iff_ne.2 (by omega)
      have e2 : (r.kind == 2) = true := by rw [hk]; rfl
      have e3 : (r.kind == 3) = false := beq_eq_false_iff_ne.2 (by omega)
      have e6 : (r.kind == 6) = false := beq_eq_false_iff_ne.2 (by omega)
      have HKK := Lib.hid hk
      clear hk
      go_wp2_with (first
        | go_skip
        | (refine wpList_runs HW.out rfl (runs_ld1 1 rfl rfl rfl rfl (by kernel_rfl)) ?_; simp only [put_rules, HYS]))
      refine (truth_sl true HW.out (by have := HB.out; simp; omega)).mono ?_
      rintro e w2 ⟨rfl, hw'⟩
      rw [wtruth_fit] at hw'
      clear HW; have HW := Lib.hid hw'; clear hw'; (try simp only [hps_rules] at HW)
      go_wp2_with (first
        | go_skip
        | (refine wpList_runs HW.out rfl (runs_ldR 1 (ty := 22) (n := 32) (m := [.b 32 r.hash]) rfl rfl rfl rfl Tryd.underlying22 rfl (by kernel_rfl)) ?_; simp only [put_rules])
        | (refine wpList_runs HW.out rfl (runs_ld1 1 rfl rfl rfl rfl (by kernel_rfl)) ?_; simp only [put_rules, HYS]))
      refine (hash_sl r.hash HR.out.ok.hash HW.out (by have := HB.out; simp; omega)).mono ?_
      rintro e w2 ⟨rfl, hw'⟩
      rw [whash_fit] at hw'
      clear HW; have HW := Lib.hid hw'; clear hw'; (try simp only [hps_rules] at HW)
      go_wp2_with (first
        | go_skip
        | (refine wpList_runs HW.out rfl (runs_ldR 1 (ty := 22) (n := 32) (m := [.b 32 r.root]) rfl rfl rfl rfl Tryd.underlying22 rfl (by kernel_rfl)) ?_; simp only [put_rules]))
      refine (hash_sl r.root HR.out.ok.root HW.out (by have := HB.out; simp; omega)).mono ?_
      rintro e w2 ⟨rfl, hw'⟩
      rw [whash_fit] at hw'
      clear HW; have HW := Lib.hid hw'; clear hw'; (try simp only [hps_rules] at HW)
      replace HW : Hid (Holds w2 (WrH gw (encM r, false) :: sblk gb 46 r.segs :: R)) := by
        have := HW.out
        refine Lib.hid ?_
        rw [encM_pre, show r.pre = P from HP.out, if_neg (show ¬ r.kind = 1 by rw [HKK.out]; decide), if_pos HKK.out, if_pos HYY.out]
        simpa using this
      go_wp2_with (first
        | go_skip
        | (refine wpList_runs HW.out rfl (runs_ld1 1 rfl rfl rfl rfl (by kernel_rfl)) ?_; simp only [put_rules]))
      refine wp_region_untilA 10 (by kernel_rfl) HW.out (fun w' hw' => ?_)
      clear HW; have HW := Lib.hid hw'; have HC := Lib.hid hw'; clear hw'
      simp only [rep_rules]
      first
      | (refine takeE 0 rfl rfl (runs_ld1 1 rfl rfl rfl rfl (by kernel_rfl)) HC.out (by kernel_rfl) (fun _ _ _ h => h) ?_)
      | (refine takeE 0 (v := ?_) rfl rfl (runs_of fun w => ?_) HC.out (by kernel_rfl) (fun _ _ _ h => h) ?_
         rotate_left
         · go_simp <;> (try with_reducible rfl))
      try simp only [put_rules]
      first
      | (refine takeE 1 rfl rfl (runs_ld1 1 rfl rfl rfl rfl (by kernel_rfl)) HC.out (by kernel_rfl) (fun _ _ _ h => h) ?_)
      | (refine takeE 1 (v := ?_) rfl rfl (runs_of fun w => ?_) HC.out (by kernel_rfl) (fun _ _ _ h => h) ?_
         rotate_left
         · go_simp <;> (try with_reducible rfl))
      try simp only [put_rules]
      first
      | (refine takeE 2 rfl rfl (runs_ld1 1 rfl rfl rfl rfl (by kernel_rfl)) HC.out (by kernel_rfl) (fun _ _ _ h => h) ?_)
      | (refine takeE 2 (v := ?_) rfl rfl (runs_of fun w => ?_) HC.out (by kernel_rfl) (fun _ _ _ h => h) ?_
         rotate_left
         · go_simp <;> (try with_reducible rfl))
      try simp only [put_rules]
      first
      | (refine takeE 3 rfl rfl (runs_ld1 1 rfl rfl rfl rfl (by kernel_rfl)) HC.out (by kernel_rfl) (fun _ _ _ h => h) ?_)
      | (refine takeE 3 (v := ?_) rfl rfl (runs_of fun w => ?_) HC.out (by kernel_rfl) (fun _ _ _ h => h) ?_
         rotate_left
         · go_simp <;> (try with_reducible rfl))
      try simp only [put_rules]
      refine effE 4 rfl (by kernel_rfl) ?_
      refine wpList_callG 51 rfl Tryd.func51 HK1.out (al := [.pointer (some ⟨gw, 0, none⟩)]) rfl rfl (bytes_sl HW.out (by have := HL.out; show (encM r).length ≤ _; omega)) ?_
      rintro ex w3 ⟨v, rfl, hw'⟩
      replace hw' : Holds w3 (own v (encM r) :: WrH gw (encM r, false) :: sblk gb 46 r.segs :: R) := hw'
      obtain ⟨A2, n2, c2, rfl, hn2, hc2, -⟩ := hw'.own_form
      refine ⟨_, rfl, ?_⟩
      clear HW; have HW := Lib.hid hw'; clear hw'; (try simp only [hps_rules] at HW)
      try simp only [put_rules]
      refine wpList_behind (And.intro (fun _ => (by exact HW.out.tail)) ?_)
      clear HC; have HC := Lib.hid (HW.out.tail)
      first
      | (refine takeE 5 (v := ?_) rfl rfl (runs_of fun w => ?_) HC.out (by kernel_rfl) (fun _ _ _ h => h) ?_
         rotate_left
         · go_simp <;> (try with_reducible rfl))
      try simp only [put_rules]
      refine effE 6 rfl (by kernel_rfl) ?_
      refine wpList_callG 50 rfl Tryd.func50 HK2.out (al := [.agg #[.int .u8 (r.kb.toNat : Int), .slice A2 n2 c2]]) rfl rfl (fencode_ok r.kb A2 n2 c2 (encM r) _ _ HW.out Ent.own hn2 hc2 (by rw [hn2.out]; have := HL.out; omega) (((HKF.out.cons _).cons _).cons _)) ?_
      rintro ex w4 ⟨v, rfl, hw'⟩
      rw [HEF.out] at hw' ⊢
      obtain ⟨A3, n3, c3, rfl, hn3, hc3, -⟩ := hw'.own_form
      refine ⟨_, rfl, ?_⟩
      clear HW; have HW := Lib.hid hw'; clear hw'; (try simp only [hps_rules] at HW)
      try simp only [put_rules]
      refine wpList_behind (And.intro (fun _ => (by exact HW.out.tail.tail)) ?_)
      clear HC; have HC := Lib.hid (HW.out.tail.tail)
      first
      | (refine takeE 7 (v := ?_) rfl rfl (runs_of fun w => ?_) HC.out (by kernel_rfl) (fun _ _ _ h => h) ?_
         rotate_left
         · go_simp <;> (try with_reducible rfl))
      try simp only [put_rules]
      first
      | (refine takeE 8 (v := ?_) rfl rfl (runs_of fun w => ?_) HC.out (by kernel_rfl) (fun _ _ _ h => h) ?_
         rotate_left
         · go_simp <;> (try with_reducible rfl))
      try simp only [put_rules]
      first
      | (refine takeE 9 (v := ?_) rfl rfl (runs_of fun w => ?_) HC.out (by kernel_rfl) (fun _ _ _ h => h) ?_
         rotate_left
         · go_simp <;> (try with_reducible rfl))
      try simp only [put_rules]
      refine effE 10 rfl (by kernel_rfl) ?_
      refine wpList_runs HW.out rfl (v := ?_) (runs_of fun w => ?_) ?_
      rotate_left
      · go_simp <;> (try with_reducible rfl)
      try simp only [put_rules]
      refine wpList_behind (And.intro (fun h => Bool.noConfusion (show true = false from h)) ?_)
      refine doneE (by kernel_rfl) ?_ _
      go_wp2
      go_returns
      exact ⟨A3, n3, c3, rfl, hn3.out.trans (by simp), hc3, HW.out.drop 1 rfl |>.drop 1 rfl |>.drop 1 rfl⟩
  · skip
    have e1 : (r.kind == 1) = false := beq_eq_false_iff_ne.2 (by omega)
    have e2 : (r.kind == 2) = false := beq_eq_false_iff_ne.2 (by omega)
    have e3 : (r.kind == 3) = true := by rw [hk]; rfl
    have e6 : (r.kind == 6) = false := beq_eq_false_iff_ne.2 (by omega)
    have HKK := Lib.hid hk
    clear hk
    go_wp2_with (first
      | go_skip
      | (refine wpList_runs HW.out rfl (runs_ld1 1 rfl rfl rfl rfl (by kernel_rfl)) ?_; simp only [put_rules, HYS]))
    refine (truth_sl r.commit HW.out (by have := HB.out; simp; omega)).mono ?_
    rintro e w2 ⟨rfl, hw'⟩
    rw [wtruth_fit] at hw'
    clear HW; have HW := Lib.hid hw'; clear hw'; (try simp only [hps_rules] at HW)
    replace HW : Hid (Holds w2 (WrH gw (encM r, false) :: sblk gb 46 r.segs :: R)) := by
      have := HW.out
      refine Lib.hid ?_
      rw [encM_pre, show r.pre = P from HP.out, if_neg (show ¬ r.kind = 1 by rw [HKK.out]; decide), if_neg (show ¬ r.kind = 2 by rw [HKK.out]; decide), if_pos HKK.out]
      simpa using this
    go_wp2_with (first
      | go_skip
      | (refine wpList_runs HW.out rfl (runs_ld1 1 rfl rfl rfl rfl (by kernel_rfl)) ?_; simp only [put_rules]))
    refine wp_region_untilA 10 (by kernel_rfl) HW.out (fun w' hw' => ?_)
    clear HW; have HW := Lib.hid hw'; have HC := Lib.hid hw'; clear hw'
    simp only [rep_rules]
    first
    | (refine takeE 0 rfl rfl (runs_ld1 1 rfl rfl rfl rfl (by kernel_rfl)) HC.out (by kernel_rfl) (fun _ _ _ h => h) ?_)
    | (refine takeE 0 (v := ?_) rfl rfl (runs_of fun w => ?_) HC.out (by kernel_rfl) (fun _ _ _ h => h) ?_
       rotate_left
       · go_simp <;> (try with_reducible rfl))
    try simp only [put_rules]
    first
    | (refine takeE 1 rfl rfl (runs_ld1 1 rfl rfl rfl rfl (by kernel_rfl)) HC.out (by kernel_rfl) (fun _ _ _ h => h) ?_)
    | (refine takeE 1 (v := ?_) rfl rfl (runs_of fun w => ?_) HC.out (by kernel_rfl) (fun _ _ _ h => h) ?_
       rotate_left
       · go_simp <;> (try with_reducible rfl))
    try simp only [put_rules]
    first
    | (refine takeE 2 rfl rfl (runs_ld1 1 rfl rfl rfl rfl (by kernel_rfl)) HC.out (by kernel_rfl) (fun _ _ _ h => h) ?_)
    | (refine takeE 2 (v := ?_) rfl rfl (runs_of fun w => ?_) HC.out (by kernel_rfl) (fun _ _ _ h => h) ?_
       rotate_left
       · go_simp <;> (try with_reducible rfl))
    try simp only [put_rules]
    first
    | (refine takeE 3 rfl rfl (runs_ld1 1 rfl rfl rfl rfl (by kernel_rfl)) HC.out (by kernel_rfl) (fun _ _ _ h => h) ?_)
    | (refine takeE 3 (v := ?_) rfl rfl (runs_of fun w => ?_) HC.out (by kernel_rfl) (fun _ _ _ h => h) ?_
       rotate_left
       · go_simp <;> (try with_reducible rfl))
    try simp only [put_rules]
    refine effE 4 rfl (by kernel_rfl) ?_
    refine wpList_callG 51 rfl Tryd.func51 HK1.out (al := [.pointer (some ⟨gw, 0, none⟩)]) rfl rfl (bytes_sl HW.out (by have := HL.out; show (encM r).length ≤ _; omega)) ?_
    rintro ex w3 ⟨v, rfl, hw'⟩
    replace hw' : Holds w3 (own v (encM r) :: WrH gw (encM r, false) :: sblk gb 46 r.segs :: R) := hw'
    obtain ⟨A2, n2, c2, rfl, hn2, hc2, -⟩ := hw'.own_form
    refine ⟨_, rfl, ?_⟩
    clear HW; have HW := Lib.hid hw'; clear hw'; (try simp only [hps_rules] at HW)
    try simp only [put_rules]
    refine wpList_behind (And.intro (fun _ => (by exact HW.out.tail)) ?_)
    clear HC; have HC := Lib.hid (HW.out.tail)
    first
    | (refine takeE 5 (v := ?_) rfl rfl (runs_of fun w => ?_) HC.out (by kernel_rfl) (fun _ _ _ h => h) ?_
       rotate_left
       · go_simp <;> (try with_reducible rfl))
    try simp only [put_rules]
    refine effE 6 rfl (by kernel_rfl) ?_
    refine wpList_callG 50 rfl Tryd.func50 HK2.out (al := [.agg #[.int .u8 (r.kb.toNat : Int), .slice A2 n2 c2]]) rfl rfl (fencode_ok r.kb A2 n2 c2 (encM r) _ _ HW.out Ent.own hn2 hc2 (by rw [hn2.out]; have := HL.out; omega) (((HKF.out.cons _).cons _).cons _)) ?_
    rintro ex w4 ⟨v, rfl, hw'⟩
    rw [HEF.out] at hw' ⊢
    obtain ⟨A3, n3, c3, rfl, hn3, hc3, -⟩ := hw'.own_form
    refine ⟨_, rfl, ?_⟩
    clear HW; have HW := Lib.hid hw'; clear hw'; (try simp only [hps_rules] at HW)
    try simp only [put_rules]
    refine wpList_behind (And.intro (fun _ => (by exact HW.out.tail.tail)) ?_)
    clear HC; have HC := Lib.hid (HW.out.tail.tail)
    first
    | (refine takeE 7 (v := ?_) rfl rfl (runs_of fun w => ?_) HC.out (by kernel_rfl) (fun _ _ _ h => h) ?_
       rotate_left
       · go_simp <;> (try with_reducible rfl))
    try simp only [put_rules]
    first
    | (refine takeE 8 (v := ?_) rfl rfl (runs_of fun w => ?_) HC.out (by kernel_rfl) (fun _ _ _ h => h) ?_
       rotate_left
       · go_simp <;> (try with_reducible rfl))
    try simp only [put_rules]
    first
    | (refine takeE 9 (v := ?_) rfl rfl (runs_of fun w => ?_) HC.out (by kernel_rfl) (fun _ _ _ h => h) ?_
       rotate_left
       · go_simp <;> (try with_reducible rfl))
    try simp only [put_rules]
    refine effE 10 rfl (by kernel_rfl) ?_
    refine wpList_runs HW.out rfl (v := ?_) (runs_of fun w => ?_) ?_
    rotate_left
    · go_simp <;> (try with_reducible rfl)
    try simp only [put_rules]
    refine wpList_behind (And.intro (fun h => Bool.noConfusion (show true = false from h)) ?_)
    refine doneE (by kernel_rfl) ?_ _
    go_wp2
    go_returns
    exact ⟨A3, n3, c3, rfl, hn3.out.trans (by simp), hc3, HW.out.drop 1 rfl |>.drop 1 rfl |>.drop 1 rfl⟩
  · skip
    have e1 : (r.kind == 1) = false := beq_eq_false_iff_ne.2 (by omega)
    have e2 : (r.kind == 2) = false := beq_eq_false_iff_ne.2 (by omega)
    have e3 : (r.kind == 3) = false := beq_eq_false_iff_ne.2 (by omega)
    have e6 : (r.kind == 6) = false := beq_eq_false_iff_ne.2 (by omega)
    have HKK := Lib.hid hk
    clear hk
    replace HW : Hid (Holds w4 (WrH gw (encM r, false) :: sblk gb 46 r.segs :: R)) := by
      have := HW.out
      refine Lib.hid ?_
      rw [encM_pre, show r.pre = P from HP.out, if_neg (show ¬ r.kind = 1 by rw [HKK.out]; decide), if_neg (show ¬ r.kind = 2 by rw [HKK.out]; decide), if_neg (show ¬ r.kind = 3 by rw [HKK.out]; decide), if_neg (show ¬ r.kind = 6 by rw [HKK.out]; decide), List.append_nil]
      simpa using this
    go_wp2_with (first
      | go_skip
      | (refine wpList_runs HW.out rfl (runs_ld1 1 rfl rfl rfl rfl (by kernel_rfl)) ?_; simp only [put_rules]))
    refine wp_region_untilA 10 (by kernel_rfl) HW.out (fun w' hw' => ?_)
    clear HW; have HW := Lib.hid hw'; have HC := Lib.hid hw'; clear hw'
    simp only [rep_rules]
    first
    | (refine takeE 0 rfl rfl (runs_ld1 1 rfl rfl rfl rfl (by kernel_rfl)) HC.out (by kernel_rfl) (fun _ _ _ h => h) ?_)
    | (refine takeE 0 (v := ?_) rfl rfl (runs_of fun w => ?_) HC.out (by kernel_rfl) (fun _ _ _ h => h) ?_
       rotate_left
       · go_simp <;> (try with_reducible rfl))
    try simp only [put_rules]
    first
    | (refine takeE 1 rfl rfl (runs_ld1 1 rfl rfl rfl rfl (by kernel_rfl)) HC.out (by kernel_rfl) (fun _ _ _ h => h) ?_)
    | (refine takeE 1 (v := ?_) rfl rfl (runs_of fun w => ?_) HC.out (by kernel_rfl) (fun _ _ _ h => h) ?_
       rotate_left
       · go_simp <;> (try with_reducible rfl))
    try simp only [put_rules]
    first
    | (refine takeE 2 rfl rfl (runs_ld1 1 rfl rfl rfl rfl (by kernel_rfl)) HC.out (by kernel_rfl) (fun _ _ _ h => h) ?_)
    | (refine takeE 2 (v := ?_) rfl rfl (runs_of fun w => ?_) HC.out (by kernel_rfl) (fun _ _ _ h => h) ?_
       rotate_left
       · go_simp <;> (try with_reducible rfl))
    try simp only [put_rules]
    first
    | (refine takeE 3 rfl rfl (runs_ld1 1 rfl rfl rfl rfl (by kernel_rfl)) HC.out (by kernel_rfl) (fun _ _ _ h => h) ?_)
    | (refine takeE 3 (v := ?_) rfl rfl (runs_of fun w => ?_) HC.out (by kernel_rfl) (fun _ _ _ h => h) ?_
       rotate_left
       · go_simp <;> (try with_reducible rfl))
    try simp only [put_rules]
    refine effE 4 rfl (by kernel_rfl) ?_
    refine wpList_callG 51 rfl Tryd.func51 HK1.out (al := [.pointer (some ⟨gw, 0, none⟩)]) rfl rfl (bytes_sl HW.out (by have := HL.out; show (encM r).length ≤ _; omega)) ?_
    rintro ex w3 ⟨v, rfl, hw'⟩
    replace hw' : Holds w3 (own v (encM r) :: WrH gw (encM r, false) :: sblk gb 46 r.segs :: R) := hw'
    obtain ⟨A2, n2, c2, rfl, hn2, hc2, -⟩ := hw'.own_form
    refine ⟨_, rfl, ?_⟩
    clear HW; have HW := Lib.hid hw'; clear hw'; (try simp only [hps_rules] at HW)
    try simp only [put_rules]
    refine wpList_behind (And.intro (fun _ => (by exact HW.out.tail)) ?_)
    clear HC; have HC := Lib.hid (HW.out.tail)
    first
    | (refine takeE 5 (v := ?_) rfl rfl (runs_of fun w => ?_) HC.out (by kernel_rfl) (fun _ _ _ h => h) ?_
       rotate_left
       · go_simp <;> (try with_reducible rfl))
    try simp only [put_rules]
    refine effE 6 rfl (by kernel_rfl) ?_
    refine wpList_callG 50 rfl Tryd.func50 HK2.out (al := [.agg #[.int .u8 (r.kb.toNat : Int), .slice A2 n2 c2]]) rfl rfl (fencode_ok r.kb A2 n2 c2 (encM r) _ _ HW.out Ent.own hn2 hc2 (by rw [hn2.out]; have := HL.out; omega) (((HKF.out.cons _).cons _).cons _)) ?_
    rintro ex w4 ⟨v, rfl, hw'⟩
    rw [HEF.out] at hw' ⊢
    obtain ⟨A3, n3, c3, rfl, hn3, hc3, -⟩ := hw'.own_form
    refine ⟨_, rfl, ?_⟩
    clear HW; have HW := Lib.hid hw'; clear hw'; (try simp only [hps_rules] at HW)
    try simp only [put_rules]
    refine wpList_behind (And.intro (fun _ => (by exact HW.out.tail.tail)) ?_)
    clear HC; have HC := Lib.hid (HW.out.tail.tail)
    first
    | (refine takeE 7 (v := ?_) rfl rfl (runs_of fun w => ?_) HC.out (by kernel_rfl) (fun _ _ _ h => h) ?_
       rotate_left
       · go_simp <;> (try with_reducible rfl))
    try simp only [put_rules]
    first
    | (refine takeE 8 (v := ?_) rfl rfl (runs_of fun w => ?_) HC.out (by kernel_rfl) (fun _ _ _ h => h) ?_
       rotate_left
       · go_simp <;> (try with_reducible rfl))
    try simp only [put_rules]
    first
    | (refine takeE 9 (v := ?_) rfl rfl (runs_of fun w => ?_) HC.out (by kernel_rfl) (fun _ _ _ h => h) ?_
       rotate_left
       · go_simp <;> (try with_reducible rfl))
    try simp only [put_rules]
    refine effE 10 rfl (by kernel_rfl) ?_
    refine wpList_runs HW.out rfl (v := ?_) (runs_of fun w => ?_) ?_
    rotate_left
    · go_simp <;> (try with_reducible rfl)
    try simp only [put_rules]
    refine wpList_behind (And.intro (fun h => Bool.noConfusion (show true = false from h)) ?_)
    refine doneE (by kernel_rfl) ?_ _
    go_wp2
    go_returns
    exact ⟨A3, n3, c3, rfl, hn3.out.trans (by simp), hc3, HW.out.drop 1 rfl |>.drop 1 rfl |>.drop 1 rfl⟩
  · skip
    have e1 : (r.kind == 1) = false := beq_eq_false_iff_ne.2 (by omega)
    have e2 : (r.kind == 2) = false := beq_eq_false_iff_ne.2 (by omega)
    have e3 : (r.kind == 3) = false := beq_eq_false_iff_ne.2 (by omega)
    have e6 : (r.kind == 6) = false := beq_eq_false_iff_ne.2 (by omega)
    have HKK := Lib.hid hk
    clear hk
    replace HW : Hid (Holds w4 (WrH gw (encM r, false) :: sblk gb 46 r.segs :: R)) := by
      have := HW.out
      refine Lib.hid ?_
      rw [encM_pre, show r.pre = P from HP.out, if_neg (show ¬ r.kind = 1 by rw [HKK.out]; decide), if_neg (show ¬ r.kind = 2 by rw [HKK.out]; decide), if_neg (show ¬ r.kind = 3 by rw [HKK.out]; decide), if_neg (show ¬ r.kind = 6 by rw [HKK.out]; decide), List.append_nil]
      simpa using this
    go_wp2_with (first
      | go_skip
      | (refine wpList_runs HW.out rfl (runs_ld1 1 rfl rfl rfl rfl (by kernel_rfl)) ?_; simp only [put_rules]))
    refine wp_region_untilA 10 (by kernel_rfl) HW.out (fun w' hw' => ?_)
    clear HW; have HW := Lib.hid hw'; have HC := Lib.hid hw'; clear hw'
    simp only [rep_rules]
    first
    | (refine takeE 0 rfl rfl (runs_ld1 1 rfl rfl rfl rfl (by kernel_rfl)) HC.out (by kernel_rfl) (fun _ _ _ h => h) ?_)
    | (refine takeE 0 (v := ?_) rfl rfl (runs_of fun w => ?_) HC.out (by kernel_rfl) (fun _ _ _ h => h) ?_
       rotate_left
       · go_simp <;> (try with_reducible rfl))
    try simp only [put_rules]
    first
    | (refine takeE 1 rfl rfl (runs_ld1 1 rfl rfl rfl rfl (by kernel_rfl)) HC.out (by kernel_rfl) (fun _ _ _ h => h) ?_)
    | (refine takeE 1 (v := ?_) rfl rfl (runs_of fun w => ?_) HC.out (by kernel_rfl) (fun _ _ _ h => h) ?_
       rotate_left
       · go_simp <;> (try with_reducible rfl))
    try simp only [put_rules]
    first
    | (refine takeE 2 rfl rfl (runs_ld1 1 rfl rfl rfl rfl (by kernel_rfl)) HC.out (by kernel_rfl) (fun _ _ _ h => h) ?_)
    | (refine takeE 2 (v := ?_) rfl rfl (runs_of fun w => ?_) HC.out (by kernel_rfl) (fun _ _ _ h => h) ?_
       rotate_left
       · go_simp <;> (try with_reducible rfl))
    try simp only [put_rules]
    first
    | (refine takeE 3 rfl rfl (runs_ld1 1 rfl rfl rfl rfl (by kernel_rfl)) HC.out (by kernel_rfl) (fun _ _ _ h => h) ?_)
    | (refine takeE 3 (v := ?_) rfl rfl (runs_of fun w => ?_) HC.out (by kernel_rfl) (fun _ _ _ h => h) ?_
       rotate_left
       · go_simp <;> (try with_reducible rfl))
    try simp only [put_rules]
    refine effE 4 rfl (by kernel_rfl) ?_
    refine wpList_callG 51 rfl Tryd.func51 HK1.out (al := [.pointer (some ⟨gw, 0, none⟩)]) rfl rfl (bytes_sl HW.out (by have := HL.out; show (encM r).length ≤ _; omega)) ?_
    rintro ex w3 ⟨v, rfl, hw'⟩
    replace hw' : Holds w3 (own v (encM r) :: WrH gw (encM r, false) :: sblk gb 46 r.segs :: R) := hw'
    obtain ⟨A2, n2, c2, rfl, hn2, hc2, -⟩ := hw'.own_form
    refine ⟨_, rfl, ?_⟩
    clear HW; have HW := Lib.hid hw'; clear hw'; (try simp only [hps_rules] at HW)
    try simp only [put_rules]
    refine wpList_behind (And.intro (fun _ => (by exact HW.out.tail)) ?_)
    clear HC; have HC := Lib.hid (HW.out.tail)
    first
    | (refine takeE 5 (v := ?_) rfl rfl (runs_of fun w => ?_) HC.out (by kernel_rfl) (fun _ _ _ h => h) ?_
       rotate_left
       · go_simp <;> (try with_reducible rfl))
    try simp only [put_rules]
    refine effE 6 rfl (by kernel_rfl) ?_
    refine wpList_callG 50 rfl Tryd.func50 HK2.out (al := [.agg #[.int .u8 (r.kb.toNat : Int), .slice A2 n2 c2]]) rfl rfl (fencode_ok r.kb A2 n2 c2 (encM r) _ _ HW.out Ent.own hn2 hc2 (by rw [hn2.out]; have := HL.out; omega) (((HKF.out.cons _).cons _).cons _)) ?_
    rintro ex w4 ⟨v, rfl, hw'⟩
    rw [HEF.out] at hw' ⊢
    obtain ⟨A3, n3, c3, rfl, hn3, hc3, -⟩ := hw'.own_form
    refine ⟨_, rfl, ?_⟩
    clear HW; have HW := Lib.hid hw'; clear hw'; (try simp only [hps_rules] at HW)
    try simp only [put_rules]
    refine wpList_behind (And.intro (fun _ => (by exact HW.out.tail.tail)) ?_)
    clear HC; have HC := Lib.hid (HW.out.tail.tail)
    first
    | (refine takeE 7 (v := ?_) rfl rfl (runs_of fun w => ?_) HC.out (by kernel_rfl) (fun _ _ _ h => h) ?_
       rotate_left
       · go_simp <;> (try with_reducible rfl))
    try simp only [put_rules]
    first
    | (refine takeE 8 (v := ?_) rfl rfl (runs_of fun w => ?_) HC.out (by kernel_rfl) (fun _ _ _ h => h) ?_
       rotate_left
       · go_simp <;> (try with_reducible rfl))
    try simp only [put_rules]
    first
    | (refine takeE 9 (v := ?_) rfl rfl (runs_of fun w => ?_) HC.out (by kernel_rfl) (fun _ _ _ h => h) ?_
       rotate_left
       · go_simp <;> (try with_reducible rfl))
    try simp only [put_rules]
    refine effE 10 rfl (by kernel_rfl) ?_
    refine wpList_runs HW.out rfl (v := ?_) (runs_of fun w => ?_) ?_
    rotate_left
    · go_simp <;> (try with_reducible rfl)
    try simp only [put_rules]
    refine wpList_behind (And.intro (fun h => Bool.noConfusion (show true = false from h)) ?_)
    refine doneE (by kernel_rfl) ?_ _
    go_wp2
    go_returns
    exact ⟨A3, n3, c3, rfl, hn3.out.trans (by simp), hc3, HW.out.drop 1 rfl |>.drop 1 rfl |>.drop 1 rfl⟩
  · skip
    have e1 : (r.kind == 1) = false := beq_eq_false_iff_ne.2 (by omega)
    have e2 : (r.kind == 2) = false := beq_eq_false_iff_ne.2 (by omega)
    have e3 : (r.kind == 3) = false := beq_eq_false_iff_ne.2 (by omega)
    have e6 : (r.kind == 6) = true := by rw [hk]; rfl
    have HKK := Lib.hid hk
    clear hk
    go_wp2_with (first
      | go_skip
      | (refine wpList_runs HW.out rfl (runs_ld1 1 rfl rfl rfl rfl (by kernel_rfl)) ?_; simp only [put_rules, HYS]))
    refine (truth_sl r.commit HW.out (by have := HB.out; simp; omega)).mono ?_
    rintro e w2 ⟨rfl, hw'⟩
    rw [wtruth_fit] at hw'
    clear HW; have HW := Lib.hid hw'; clear hw'; (try simp only [hps_rules] at HW)
    replace HW : Hid (Holds w2 (WrH gw (encM r, false) :: sblk gb 46 r.segs :: R)) := by
      have := HW.out
      refine Lib.hid ?_
      rw [encM_pre, show r.pre = P from HP.out, if_neg (show ¬ r.kind = 1 by rw [HKK.out]; decide), if_neg (show ¬ r.kind = 2 by rw [HKK.out]; decide), if_neg (show ¬ r.kind = 3 by rw [HKK.out]; decide), if_pos HKK.out]
      simpa using this
    go_wp2_with (first
      | go_skip
      | (refine wpList_runs HW.out rfl (runs_ld1 1 rfl rfl rfl rfl (by kernel_rfl)) ?_; simp only [put_rules]))
    refine wp_region_untilA 10 (by kernel_rfl) HW.out (fun w' hw' => ?_)
    clear HW; have HW := Lib.hid hw'; have HC := Lib.hid hw'; clear hw'
    simp only [rep_rules]
    first
    | (refine takeE 0 rfl rfl (runs_ld1 1 rfl rfl rfl rfl (by kernel_rfl)) HC.out (by kernel_rfl) (fun _ _ _ h => h) ?_)
    | (refine takeE 0 (v := ?_) rfl rfl (runs_of fun w => ?_) HC.out (by kernel_rfl) (fun _ _ _ h => h) ?_
       rotate_left
       · go_simp <;> (try with_reducible rfl))
    try simp only [put_rules]
    first
    | (refine takeE 1 rfl rfl (runs_ld1 1 rfl rfl rfl rfl (by kernel_rfl)) HC.out (by kernel_rfl) (fun _ _ _ h => h) ?_)
    | (refine takeE 1 (v := ?_) rfl rfl (runs_of fun w => ?_) HC.out (by kernel_rfl) (fun _ _ _ h => h) ?_
       rotate_left
       · go_simp <;> (try with_reducible rfl))
    try simp only [put_rules]
    first
    | (refine takeE 2 rfl rfl (runs_ld1 1 rfl rfl rfl rfl (by kernel_rfl)) HC.out (by kernel_rfl) (fun _ _ _ h => h) ?_)
    | (refine takeE 2 (v := ?_) rfl rfl (runs_of fun w => ?_) HC.out (by kernel_rfl) (fun _ _ _ h => h) ?_
       rotate_left
       · go_simp <;> (try with_reducible rfl))
    try simp only [put_rules]
    first
    | (refine takeE 3 rfl rfl (runs_ld1 1 rfl rfl rfl rfl (by kernel_rfl)) HC.out (by kernel_rfl) (fun _ _ _ h => h) ?_)
    | (refine takeE 3 (v := ?_) rfl rfl (runs_of fun w => ?_) HC.out (by kernel_rfl) (fun _ _ _ h => h) ?_
       rotate_left
       · go_simp <;> (try with_reducible rfl))
    try simp only [put_rules]
    refine effE 4 rfl (by kernel_rfl) ?_
    refine wpList_callG 51 rfl Tryd.func51 HK1.out (al := [.pointer (some ⟨gw, 0, none⟩)]) rfl rfl (bytes_sl HW.out (by have := HL.out; show (encM r).length ≤ _; omega)) ?_
    rintro ex w3 ⟨v, rfl, hw'⟩
    replace hw' : Holds w3 (own v (encM r) :: WrH gw (encM r, false) :: sblk gb 46 r.segs :: R) := hw'
    obtain ⟨A2, n2, c2, rfl, hn2, hc2, -⟩ := hw'.own_form
    refine ⟨_, rfl, ?_⟩
    clear HW; have HW := Lib.hid hw'; clear hw'; (try simp only [hps_rules] at HW)
    try simp only [put_rules]
    refine wpList_behind (And.intro (fun _ => (by exact HW.out.tail)) ?_)
    clear HC; have HC := Lib.hid (HW.out.tail)
    first
    | (refine takeE 5 (v := ?_) rfl rfl (runs_of fun w => ?_) HC.out (by kernel_rfl) (fun _ _ _ h => h) ?_
       rotate_left
       · go_simp <;> (try with_reducible rfl))
    try simp only [put_rules]
    refine effE 6 rfl (by kernel_rfl) ?_
    refine wpList_callG 50 rfl Tryd.func50 HK2.out (al := [.agg #[.int .u8 (r.kb.toNat : Int), .slice A2 n2 c2]]) rfl rfl (fencode_ok r.kb A2 n2 c2 (encM r) _ _ HW.out Ent.own hn2 hc2 (by rw [hn2.out]; have := HL.out; omega) (((HKF.out.cons _).cons _).cons _)) ?_
    rintro ex w4 ⟨v, rfl, hw'⟩
    rw [HEF.out] at hw' ⊢
    obtain ⟨A3, n3, c3, rfl, hn3, hc3, -⟩ := hw'.own_form
    refine ⟨_, rfl, ?_⟩
    clear HW; have HW := Lib.hid hw'; clear hw'; (try simp only [hps_rules] at HW)
    try simp only [put_rules]
    refine wpList_behind (And.intro (fun _ => (by exact HW.out.tail.tail)) ?_)
    clear HC; have HC := Lib.hid (HW.out.tail.tail)
    first
    | (refine takeE 7 (v := ?_) rfl rfl (runs_of fun w => ?_) HC.out (by kernel_rfl) (fun _ _ _ h => h) ?_
       rotate_left
       · go_simp <;> (try with_reducible rfl))
    try simp only [put_rules]
    first
    | (refine takeE 8 (v := ?_) rfl rfl (runs_of fun w => ?_) HC.out (by kernel_rfl) (fun _ _ _ h => h) ?_
       rotate_left
       · go_simp <;> (try with_reducible rfl))
    try simp only [put_rules]
    first
    | (refine takeE 9 (v := ?_) rfl rfl (runs_of fun w => ?_) HC.out (by kernel_rfl) (fun _ _ _ h => h) ?_
       rotate_left
       · go_simp <;> (try with_reducible rfl))
    try simp only [put_rules]
    refine effE 10 rfl (by kernel_rfl) ?_
    refine wpList_runs HW.out rfl (v := ?_) (runs_of fun w => ?_) ?_
    rotate_left
    · go_simp <;> (try with_reducible rfl)
    try simp only [put_rules]
    refine wpList_behind (And.intro (fun h => Bool.noConfusion (show true = false from h)) ?_)
    refine doneE (by kernel_rfl) ?_ _
    go_wp2
    go_returns
    exact ⟨A3, n3, c3, rfl, hn3.out.trans (by simp), hc3, HW.out.drop 1 rfl |>.drop 1 rfl |>.drop 1 rfl⟩
end Go.Proofs.YtibkngjacdggpaaDoor
/- message.Decode, and the reference's Read. -/
namespace Go.Proofs.YtibkngjacdggpaaDoor
set_option linter.unusedSimpArgs false
set_option linter.unusedVariables false
open Go.RowKit HP

def decMsg (xs : List UInt8) : Msg × Int :=
  if (decF xs).2.2.2 ≠ 0 then (Msg.zero, ((decF xs).2.2.2 : Int)) else if (decF xs).2.2.1 ≠ xs.length then (Msg.zero, 2) else decM (decF xs).1 (decF xs).2.1
theorem decF_body (xs : List UInt8) : (decF xs).2.1.length ≤ 1000 := by
  unfold decF
  split
  · simp
  · split
    · simp
    · split
      · simp
      · rename_i h1 h2 h3
        have hb : beginsF xs = true := by simpa using h1
        have h6 : 6 ≤ xs.length := by omega
        unfold beginsF at hb
        rw [if_pos h6] at hb
        simp only [Bool.and_eq_true, decide_eq_true_eq] at hb
        have := hb.2
        simp only [List.length_take, List.length_drop]
        omega
theorem decMsg_enc {m : Msg} (h : FormedM m) (ok : m.Ok) : decMsg (encB m.kb (encM m)) = (m, 0) := by
  have hkb : m.kb.toNat = m.kind.toNat := by have := h.k1; have := h.k6; unfold Msg.kb; rw [UInt8.toNat_ofNat']; omega
  have hl := length_encM ok h
  have hd := dec_enc m.kb (encM m) [] (fun e => by rw [e] at hkb; have := h.k1; simp at hkb; omega) (by omega)
  rw [List.append_nil] at hd
  unfold decMsg
  rw [hd]
  simp only
  rw [if_neg (by simp), if_neg (by simp)]
  exact decM_enc h ok (by rw [hkb]; have := h.k1; omega)
theorem decMsg_wf (xs : List UInt8) : (decMsg xs).1.Wf := by
  unfold decMsg
  split
  · exact Msg.zero_wf
  · split
    · exact Msg.zero_wf
    · exact decM_wf _ _ (by have := decF_body xs; omega)
theorem decF_encB {xs : List UInt8} (h0 : (decF xs).2.2.2 = 0) (hk : (decF xs).2.2.1 = xs.length) : encB (decF xs).1 (decF xs).2.1 = xs := by
  unfold decF at *
  split at h0
  · cases h0
  · rename_i h1
    rw [if_neg h1] at hk ⊢
    split at h0
    · cases h0
    · rename_i h2
      rw [if_neg h2] at hk ⊢
      split at h0
      · cases h0
      · rename_i h3
        rw [if_neg h3] at hk ⊢
        simp only at hk ⊢
        have hb : beginsF xs = true := by simpa using h1
        have hl : xs.length = 10 + lenF xs := hk.symm
        have h6 : 6 ≤ xs.length := by omega
        have hlen : lenF xs ≤ 1000 := by
          unfold beginsF at hb
          rw [if_pos h6] at hb
          simp only [Bool.and_eq_true, decide_eq_true_eq] at hb
          exact hb.2
        have hmag : xs.take 3 = magB := by
          unfold beginsF at hb
          simp only [Bool.and_eq_true, beq_iff_eq] at hb
          have := hb.1.1
          rw [show min xs.length 3 = 3 by omega] at this
          rw [this]; rfl
        have h10 : (xs.drop 10).take (lenF xs) = xs.drop 10 := List.take_of_length_le (by simp; omega)
        have hsum : sumF ((xs.drop 3).take 3) ((xs.drop 10).take (lenF xs)) = (xs.drop 6).take 4 := by
          by_cases e : sumF ((xs.drop 3).take 3) ((xs.drop 10).take (lenF xs)) = (xs.drop 6).take 4
          · exact e
          · exact absurd e h3
        have hfr : frontF (xs.getD 3 0) ((xs.drop 10).take (lenF xs)) = (xs.drop 3).take 3 := by
          unfold frontF
          have hbl : ((xs.drop 10).take (lenF xs)).length = lenF xs := by simp; omega
          rw [hbl]
          unfold lenF
          have h45 : ((xs.drop 4).take 2).length = 2 := by simp; omega
          rw [beL_unbe 2 _ h45]
          have h3' : xs.drop 3 = xs.getD 3 0 :: xs.drop 4 := by
            rw [List.drop_eq_getElem_cons (by omega)]
            simp [List.getD, show 3 < xs.length by omega]
          rw [h3', List.take_succ_cons]
        unfold encB
        rw [hfr, hsum, h10, ← hmag]
        have e1 : xs.drop 3 = (xs.drop 3).take 3 ++ xs.drop 6 := by
          have := (List.take_append_drop 3 (xs.drop 3)).symm
          rwa [List.drop_drop] at this
        have e2 : xs.drop 6 = (xs.drop 6).take 4 ++ xs.drop 10 := by
          have := (List.take_append_drop 4 (xs.drop 6)).symm
          rwa [List.drop_drop] at this
        rw [← e2, ← e1, List.take_append_drop]
/-- what is decoded is encoded as it stood -/
theorem decMsg_ok {xs : List UInt8} {m : Msg} (h : decMsg xs = (m, 0)) : formedM m = true ∧ encB m.kb (encM m) = xs := by
  unfold decMsg at h
  split at h
  · rename_i h1
    have := (Prod.mk.inj h).2
    omega
  · rename_i h1
    split at h
    · cases h
    · rename_i h2
      obtain ⟨h3, h4, h5⟩ := decM_ok h
      refine ⟨h3, ?_⟩
      have hk : m.kb = (decF xs).1 := by
        unfold Msg.kb
        apply UInt8.toNat.inj
        rw [UInt8.toNat_ofNat', h5]
        have := (decF xs).1.toNat_lt
        omega
      rw [hk, h4]
      exact decF_encB (by omega) (by omega)
theorem decMsg_no {xs : List UInt8} (h : (decMsg xs).2 ≠ 0) : decMsg xs = (Msg.zero, (decMsg xs).2) := by
  unfold decMsg at *
  split
  · rfl
  · rename_i h1
    rw [if_neg h1] at h
    split
    · rfl
    · rename_i h2
      rw [if_neg h2] at h
      have := decM_no h
      rw [this]
set_option maxRecDepth 100000 in
set_option maxHeartbeats 8000000 in
theorem msgDecode_ok (A : Option Addr) (n c : Nat) (xs : List UInt8) (w : World) (R : List HP) (hh : Holds w R) (hr : Ent R fun w => RD w A xs) (hn : Hid (n = xs.length)) (hc : n ≤ c) (hb : n ≤ 140737488355000) (hkf : Ent R KF) :
    Calls Tryd.prog 39 #[.slice A n c] w fun e w' => e = .returned (.tuple #[.agg (flat (decMsg xs).1.segs).toArray, .int .i64 (decMsg xs).2]) ∧ Holds w' R := by
  have HW := Lib.hid hh
  have HR := Lib.hid hr
  have HZ := Lib.hid (Msg.segs_ok Msg.zero_ok)
  obtain ⟨t, body, k, q, HX⟩ : ∃ t body k q, Hid (decF xs = (t, body, k, q)) := ⟨_, _, _, _, rfl⟩
  have HBL : Hid (body.length ≤ 1000) := by have := decF_body xs; rw [HX.out] at this; exact this
  have HM0 : Hid (decMsg xs = if q ≠ 0 then (Msg.zero, (q : Int)) else if k ≠ xs.length then (Msg.zero, 2) else decM t body) := by unfold Hid decMsg; rw [HX.out]
  have HD : Hid (∀ g w, Holds w (sblk g 46 Msg.zero.segs :: R) → Calls Tryd.prog 73 #[.slice A n c] w fun e w' => ∃ A1 n1 c1, e = .returned (.tuple #[.agg #[.int .u8 (t.toNat : Int), .slice A1 n1 c1], .int .i64 (k : Int), .int .i64 (q : Int)]) ∧ Hid (n1 = body.length) ∧ n1 ≤ c1 ∧ Holds w' (own (.slice A1 n1 c1) body :: sblk g 46 Msg.zero.segs :: R)) := fun g w hw => by
    refine (fdecode_ok A n c xs w _ hw (HR.out.cons _) hn hc (by omega) (hkf.cons _)).mono ?_
    rintro e w2 ⟨v, rfl, hw⟩
    obtain ⟨A1, n1, c1, rfl, hn1, hc1, -⟩ := hw.own_form
    rw [HX.out] at hn1 hw ⊢
    exact ⟨A1, n1, c1, rfl, hn1, hc1, hw⟩
  clear hh hr hb hc hkf
  by_cases hq : q = 0
  rotate_left
  · have HM : Hid (decMsg xs = (Msg.zero, (q : Int))) := by unfold Hid; rw [HM0.out, if_pos hq]
    have eq0 : ((q : Int) != 0) = true := by simp; omega
    go_enter Tryd.func39, Tryd.ntmps39
    go_wp2_with (first
      | go_skip
      | (refine wpList_alloc HW.out rfl (ty := 46) rfl (z := .agg (flat Msg.zero.segs).toArray) (by kernel_rfl) (M := Msg.zero.segs) rfl HZ.out (fun g2 w' hw' => ?_)
         clear HW; have HW := Lib.hid hw'; clear hw'; (try simp only [hps_rules] at HW); (try simp only [put_rules]))
      | (refine wpList_alloc HW.out rfl (ty := 78) rfl (z := .agg #[.int .u8 0, .slice none 0 0]) (by kernel_rfl) (M := [.o (.int .u8 0), .o (.slice none 0 0)]) rfl ⟨rfl, rfl, trivial⟩ (fun g4 w' hw' => ?_)
         clear HW; have HW := Lib.hid hw'; clear hw'; (try simp only [hps_rules] at HW); (try simp only [put_rules]))
      | (refine wpList_stA HW.out rfl (ty := 78) (n := 2) rfl rfl 0 rfl (M := [.o (.int .u8 (t.toNat : Int)), .o (.slice A1 n1 c1)]) rfl HFO (by kernel_rfl) (by kernel_rfl) (by kernel_rfl) (fun w' hw' => ?_)
         clear HW; have HW := Lib.hid hw'; clear hw'; (try simp only [hps_rules] at HW); (try simp only [put_rules]))
      | (go_at_call 73; have hc := HD.out _ _ HW.out; with_reducible refine hc.mono ?_; clear hc
         rintro e w2 ⟨A1, n1, c1, rfl, hn1, hc1, hw'⟩
         have HFO : SgOk [.o (.int .u8 (t.toNat : Int)), .o (.slice A1 n1 c1)] := ⟨rfl, rfl, trivial⟩
         replace hw' : Holds w2 (_ :: own (.slice A1 n1 c1) _ :: R) := hw'.push_ 1 (by simp)
         clear HW; have HW := Lib.hid hw'; clear hw')
      | (refine wpList_runs HW.out rfl (runs_build (zs := Msg.zero.segs) (M := Msg.zero.segs) rfl Tryd.underlying46 #[(0, 1), (1, 1), (2, 1), (3, 1), (4, 1), (5, 35), (40, 1), (41, 1), (42, 32), (74, 32), (106, 1)] (fun w => by kernel_rfl) (by kernel_rfl) rfl) ?_; simp only [put_rules])
      | (refine wpList_stA HW.out rfl (ty := 46) (n := 107) rfl rfl 1 rfl (M := Msg.zero.segs) rfl HZ.out (by kernel_rfl) (by kernel_rfl) (by kernel_rfl) (fun w' hw' => ?_)
         clear HW; have HW := Lib.hid hw'; clear hw'; (try simp only [hps_rules] at HW); (try simp only [put_rules]))
      | (refine bodyPost_ret (results_cellS rfl HW.out 1 rfl rfl Tryd.underlying46 rfl (by kernel_rfl)) rfl ?_
         rw [HM.out]
         exact ⟨rfl, HW.out.tail.tail.tail⟩))
  subst hq
  by_cases hk : k = xs.length
  rotate_left
  · have HM : Hid (decMsg xs = (Msg.zero, 2)) := by unfold Hid; rw [HM0.out, if_neg (by simp), if_pos hk]
    have ek : ((k : Int) != (n : Int)) = true := by have := hn.out; simp; omega
    clear hk
    go_enter Tryd.func39, Tryd.ntmps39
    go_wp2_with (first
      | go_skip
      | (refine wpList_alloc HW.out rfl (ty := 46) rfl (z := .agg (flat Msg.zero.segs).toArray) (by kernel_rfl) (M := Msg.zero.segs) rfl HZ.out (fun g2 w' hw' => ?_)
         clear HW; have HW := Lib.hid hw'; clear hw'; (try simp only [hps_rules] at HW); (try simp only [put_rules]))
      | (refine wpList_alloc HW.out rfl (ty := 78) rfl (z := .agg #[.int .u8 0, .slice none 0 0]) (by kernel_rfl) (M := [.o (.int .u8 0), .o (.slice none 0 0)]) rfl ⟨rfl, rfl, trivial⟩ (fun g4 w' hw' => ?_)
         clear HW; have HW := Lib.hid hw'; clear hw'; (try simp only [hps_rules] at HW); (try simp only [put_rules]))
      | (refine wpList_stA HW.out rfl (ty := 78) (n := 2) rfl rfl 0 rfl (M := [.o (.int .u8 (t.toNat : Int)), .o (.slice A1 n1 c1)]) rfl HFO (by kernel_rfl) (by kernel_rfl) (by kernel_rfl) (fun w' hw' => ?_)
         clear HW; have HW := Lib.hid hw'; clear hw'; (try simp only [hps_rules] at HW); (try simp only [put_rules]))
      | (go_at_call 73; have hc := HD.out _ _ HW.out; with_reducible refine hc.mono ?_; clear hc
         rintro e w2 ⟨A1, n1, c1, rfl, hn1, hc1, hw'⟩
         have HFO : SgOk [.o (.int .u8 (t.toNat : Int)), .o (.slice A1 n1 c1)] := ⟨rfl, rfl, trivial⟩
         replace hw' : Holds w2 (_ :: own (.slice A1 n1 c1) _ :: R) := hw'.push_ 1 (by simp)
         clear HW; have HW := Lib.hid hw'; clear hw')
      | (refine wpList_runs HW.out rfl (runs_build (zs := Msg.zero.segs) (M := Msg.zero.segs) rfl Tryd.underlying46 #[(0, 1), (1, 1), (2, 1), (3, 1), (4, 1), (5, 35), (40, 1), (41, 1), (42, 32), (74, 32), (106, 1)] (fun w => by kernel_rfl) (by kernel_rfl) rfl) ?_; simp only [put_rules])
      | (refine wpList_stA HW.out rfl (ty := 46) (n := 107) rfl rfl 1 rfl (M := Msg.zero.segs) rfl HZ.out (by kernel_rfl) (by kernel_rfl) (by kernel_rfl) (fun w' hw' => ?_)
         clear HW; have HW := Lib.hid hw'; clear hw'; (try simp only [hps_rules] at HW); (try simp only [put_rules]))
      | (refine bodyPost_ret (results_cellS rfl HW.out 1 rfl rfl Tryd.underlying46 rfl (by kernel_rfl)) rfl ?_
         rw [HM.out]
         exact ⟨rfl, HW.out.tail.tail.tail⟩))
  have HM : Hid (decMsg xs = decM t body) := by unfold Hid; rw [HM0.out, if_neg (by simp), if_neg (by simp [hk])]
  have ek : ((k : Int) != (n : Int)) = false := by have := hn.out; simp; omega
  have HWF := Lib.hid (decM_wf t body (by have := HBL.out; omega))
  obtain ⟨m, HMM⟩ : ∃ m, Hid ((decM t body).1 = m) := ⟨_, rfl⟩
  obtain ⟨qq, HQQ⟩ : ∃ m, Hid ((decM t body).2 = m) := ⟨_, rfl⟩
  replace HM : Hid (decMsg xs = (m, qq)) := by unfold Hid; rw [HM.out, ← HMM.out, ← HQQ.out]
  rw [HMM.out] at HWF
  have hS := Msg.segs_ok HWF.out.ok
  have HLN : Hid (sglen m.segs = 107) := by unfold Hid; rw [← flat_len hS]; exact Msg.length_segs HWF.out.ok
  have HO : Hid (∀ A n c w R, Hid (n = body.length) → n ≤ c → Holds w R → (Ent R fun w => RD w A body) → Calls Tryd.prog 74 #[.agg #[.int .u8 (t.toNat : Int), .slice A n c]] w fun e w' => e = .returned (.tuple #[.agg (flat m.segs).toArray, .int .i64 qq]) ∧ Holds w' R) := fun A n c w R hn hc hw hr => by
    have := msgOf_ok t A n c body w R hw hr hn (by rw [hn.out]; have := HBL.out; omega)
    rwa [HMM.out, HQQ.out] at this
  clear hk
  go_enter Tryd.func39, Tryd.ntmps39
  go_wp2_with (first
    | go_skip
    | (refine wpList_alloc HW.out rfl (ty := 46) rfl (z := .agg (flat Msg.zero.segs).toArray) (by kernel_rfl) (M := Msg.zero.segs) rfl HZ.out (fun g2 w' hw' => ?_)
       clear HW; have HW := Lib.hid hw'; clear hw'; (try simp only [hps_rules] at HW); (try simp only [put_rules]))
    | (refine wpList_alloc HW.out rfl (ty := 78) rfl (z := .agg #[.int .u8 0, .slice none 0 0]) (by kernel_rfl) (M := [.o (.int .u8 0), .o (.slice none 0 0)]) rfl ⟨rfl, rfl, trivial⟩ (fun g4 w' hw' => ?_)
       clear HW; have HW := Lib.hid hw'; clear hw'; (try simp only [hps_rules] at HW); (try simp only [put_rules]))
    | (refine wpList_stA HW.out rfl (ty := 78) (n := 2) rfl rfl 0 rfl (M := [.o (.int .u8 (t.toNat : Int)), .o (.slice A1 n1 c1)]) rfl HFO (by kernel_rfl) (by kernel_rfl) (by kernel_rfl) (fun w' hw' => ?_)
       clear HW; have HW := Lib.hid hw'; clear hw'; (try simp only [hps_rules] at HW); (try simp only [put_rules]))
    | (go_at_call 73; have hc := HD.out _ _ HW.out; with_reducible refine hc.mono ?_; clear hc
       rintro e w2 ⟨A1, n1, c1, rfl, hn1, hc1, hw'⟩
       have HFO : SgOk [.o (.int .u8 (t.toNat : Int)), .o (.slice A1 n1 c1)] := ⟨rfl, rfl, trivial⟩
       replace hw' : Holds w2 (_ :: own (.slice A1 n1 c1) _ :: R) := hw'.push_ 1 (by simp)
       clear HW; have HW := Lib.hid hw'; clear hw')
    | (refine wpList_runs HW.out rfl (runs_build (zs := Msg.zero.segs) (M := Msg.zero.segs) rfl Tryd.underlying46 #[(0, 1), (1, 1), (2, 1), (3, 1), (4, 1), (5, 35), (40, 1), (41, 1), (42, 32), (74, 32), (106, 1)] (fun w => by kernel_rfl) (by kernel_rfl) rfl) ?_; simp only [put_rules])
    | (refine wpList_runs HW.out rfl (runs_ldA 0 (ty := 78) (n := 2) rfl rfl rfl (by kernel_rfl) Tryd.underlying78 rfl (by kernel_rfl)) ?_; simp only [put_rules])
    | (go_at_call 74; have hc := HO.out A1 n1 c1 _ _ hn1 hc1 HW.out (fun w hw => (hw.pull 2 rfl).own_rd); refine hc.mono ?_; clear hc
       rintro e w3 ⟨rfl, hw'⟩
       replace hw' : Holds w3 (_ :: _ :: _ :: R) := hw'
       clear HW; have HW := Lib.hid hw'; clear hw')
    | (refine wpList_stA HW.out rfl (ty := 46) (n := 107) rfl rfl 1 rfl (M := Msg.segs m) rfl hS (by kernel_rfl) HLN.out (by kernel_rfl) (fun w' hw' => ?_)
       clear HW; have HW := Lib.hid hw'; clear hw'; (try simp only [hps_rules] at HW); (try simp only [put_rules]))
    | (refine bodyPost_ret (results_cellS rfl HW.out 1 rfl rfl Tryd.underlying46 rfl (by kernel_rfl)) rfl ?_
       rw [HM.out]
       exact ⟨rfl, HW.out.tail.tail.tail⟩))
set_option maxRecDepth 100000 in
set_option maxHeartbeats 8000000 in
theorem rReadMsg_ok (A : Option Addr) (n c : Nat) (xs : List UInt8) (w : World) (R : List HP) (hh : Holds w R) (hr : Ent R fun w => RD w A xs) (hn : Hid (n = xs.length)) (hc : n ≤ c) (hb : n ≤ 140737488355000) :
    Calls Tryd.prog 40 #[.slice A n c] w fun e w' => e = .returned (.tuple #[.agg (flat (decMsg xs).1.segs).toArray, .int .i64 (decMsg xs).2]) ∧ Holds w' R := by
  have HW := Lib.hid hh
  have HR := Lib.hid hr
  have HZ := Lib.hid (Msg.segs_ok Msg.zero_ok)
  obtain ⟨t, body, k, q, HX⟩ : ∃ t body k q, Hid (decF xs = (t, body, k, q)) := ⟨_, _, _, _, rfl⟩
  have HBL : Hid (body.length ≤ 1000) := by have := decF_body xs; rw [HX.out] at this; exact this
  have HM0 : Hid (decMsg xs = if q ≠ 0 then (Msg.zero, (q : Int)) else if k ≠ xs.length then (Msg.zero, 2) else decM t body) := by unfold Hid decMsg; rw [HX.out]
  have HD : Hid (∀ g w, Holds w (sblk g 42 Msg.zero.segs :: R) → Calls Tryd.prog 75 #[.slice A n c] w fun e w' => ∃ A1 n1 c1, e = .returned (.tuple #[.agg #[.int .u8 (t.toNat : Int), .slice A1 n1 c1], .int .i64 (k : Int), .int .i64 (q : Int)]) ∧ Hid (n1 = body.length) ∧ n1 ≤ c1 ∧ Holds w' (own (.slice A1 n1 c1) body :: sblk g 42 Msg.zero.segs :: R)) := fun g w hw => by
    refine (rdecode_ok A n c xs w _ hw (HR.out.cons _) hn hc (by omega)).mono ?_
    rintro e w2 ⟨v, rfl, hw⟩
    obtain ⟨A1, n1, c1, rfl, hn1, hc1, -⟩ := hw.own_form
    rw [HX.out] at hn1 hw ⊢
    exact ⟨A1, n1, c1, rfl, hn1, hc1, hw⟩
  clear hh hr hb hc
  by_cases hq : q = 0
  rotate_left
  · have HM : Hid (decMsg xs = (Msg.zero, (q : Int))) := by unfold Hid; rw [HM0.out, if_pos hq]
    have eq0 : ((q : Int) != 0) = true := by simp; omega
    go_enter Tryd.func40, Tryd.ntmps40
    go_wp2_with (first
      | go_skip
      | (refine wpList_alloc HW.out rfl (ty := 42) rfl (z := .agg (flat Msg.zero.segs).toArray) (by kernel_rfl) (M := Msg.zero.segs) rfl HZ.out (fun g2 w' hw' => ?_)
         clear HW; have HW := Lib.hid hw'; clear hw'; (try simp only [hps_rules] at HW); (try simp only [put_rules]))
      | (refine wpList_alloc HW.out rfl (ty := 100) rfl (z := .agg #[.int .u8 0, .slice none 0 0]) (by kernel_rfl) (M := [.o (.int .u8 0), .o (.slice none 0 0)]) rfl ⟨rfl, rfl, trivial⟩ (fun g4 w' hw' => ?_)
         clear HW; have HW := Lib.hid hw'; clear hw'; (try simp only [hps_rules] at HW); (try simp only [put_rules]))
      | (refine wpList_stA HW.out rfl (ty := 100) (n := 2) rfl rfl 0 rfl (M := [.o (.int .u8 (t.toNat : Int)), .o (.slice A1 n1 c1)]) rfl HFO (by kernel_rfl) (by kernel_rfl) (by kernel_rfl) (fun w' hw' => ?_)
         clear HW; have HW := Lib.hid hw'; clear hw'; (try simp only [hps_rules] at HW); (try simp only [put_rules]))
      | (go_at_call 75; have hc := HD.out _ _ HW.out; with_reducible refine hc.mono ?_; clear hc
         rintro e w2 ⟨A1, n1, c1, rfl, hn1, hc1, hw'⟩
         have HFO : SgOk [.o (.int .u8 (t.toNat : Int)), .o (.slice A1 n1 c1)] := ⟨rfl, rfl, trivial⟩
         replace hw' : Holds w2 (_ :: own (.slice A1 n1 c1) _ :: R) := hw'.push_ 1 (by simp)
         clear HW; have HW := Lib.hid hw'; clear hw')
      | (refine wpList_runs HW.out rfl (runs_build (zs := Msg.zero.segs) (M := Msg.zero.segs) rfl Tryd.underlying42 #[(0, 1), (1, 1), (2, 1), (3, 1), (4, 1), (5, 35), (40, 1), (41, 1), (42, 32), (74, 32), (106, 1)] (fun w => by kernel_rfl) (by kernel_rfl) rfl) ?_; simp only [put_rules])
      | (refine wpList_stA HW.out rfl (ty := 42) (n := 107) rfl rfl 1 rfl (M := Msg.zero.segs) rfl HZ.out (by kernel_rfl) (by kernel_rfl) (by kernel_rfl) (fun w' hw' => ?_)
         clear HW; have HW := Lib.hid hw'; clear hw'; (try simp only [hps_rules] at HW); (try simp only [put_rules]))
      | (refine bodyPost_ret (results_cellS rfl HW.out 1 rfl rfl Tryd.underlying42 rfl (by kernel_rfl)) rfl ?_
         rw [HM.out]
         exact ⟨rfl, HW.out.tail.tail.tail⟩))
  subst hq
  by_cases hk : k = xs.length
  rotate_left
  · have HM : Hid (decMsg xs = (Msg.zero, 2)) := by unfold Hid; rw [HM0.out, if_neg (by simp), if_pos hk]
    have ek : ((k : Int) != (n : Int)) = true := by have := hn.out; simp; omega
    clear hk
    go_enter Tryd.func40, Tryd.ntmps40
    go_wp2_with (first
      | go_skip
      | (refine wpList_alloc HW.out rfl (ty := 42) rfl (z := .agg (flat Msg.zero.segs).toArray) (by kernel_rfl) (M := Msg.zero.segs) rfl HZ.out (fun g2 w' hw' => ?_)
         clear HW; have HW := Lib.hid hw'; clear hw'; (try simp only [hps_rules] at HW); (try simp only [put_rules]))
      | (refine wpList_alloc HW.out rfl (ty := 100) rfl (z := .agg #[.int .u8 0, .slice none 0 0]) (by kernel_rfl) (M := [.o (.int .u8 0), .o (.slice none 0 0)]) rfl ⟨rfl, rfl, trivial⟩ (fun g4 w' hw' => ?_)
         clear HW; have HW := Lib.hid hw'; clear hw'; (try simp only [hps_rules] at HW); (try simp only [put_rules]))
      | (refine wpList_stA HW.out rfl (ty := 100) (n := 2) rfl rfl 0 rfl (M := [.o (.int .u8 (t.toNat : Int)), .o (.slice A1 n1 c1)]) rfl HFO (by kernel_rfl) (by kernel_rfl) (by kernel_rfl) (fun w' hw' => ?_)
         clear HW; have HW := Lib.hid hw'; clear hw'; (try simp only [hps_rules] at HW); (try simp only [put_rules]))
      | (go_at_call 75; have hc := HD.out _ _ HW.out; with_reducible refine hc.mono ?_; clear hc
         rintro e w2 ⟨A1, n1, c1, rfl, hn1, hc1, hw'⟩
         have HFO : SgOk [.o (.int .u8 (t.toNat : Int)), .o (.slice A1 n1 c1)] := ⟨rfl, rfl, trivial⟩
         replace hw' : Holds w2 (_ :: own (.slice A1 n1 c1) _ :: R) := hw'.push_ 1 (by simp)
         clear HW; have HW := Lib.hid hw'; clear hw')
      | (refine wpList_runs HW.out rfl (runs_build (zs := Msg.zero.segs) (M := Msg.zero.segs) rfl Tryd.underlying42 #[(0, 1), (1, 1), (2, 1), (3, 1), (4, 1), (5, 35), (40, 1), (41, 1), (42, 32), (74, 32), (106, 1)] (fun w => by kernel_rfl) (by kernel_rfl) rfl) ?_; simp only [put_rules])
      | (refine wpList_stA HW.out rfl (ty := 42) (n := 107) rfl rfl 1 rfl (M := Msg.zero.segs) rfl HZ.out (by kernel_rfl) (by kernel_rfl) (by kernel_rfl) (fun w' hw' => ?_)
         clear HW; have HW := Lib.hid hw'; clear hw'; (try simp only [hps_rules] at HW); (try simp only [put_rules]))
      | (refine bodyPost_ret (results_cellS rfl HW.out 1 rfl rfl Tryd.underlying42 rfl (by kernel_rfl)) rfl ?_
         rw [HM.out]
         exact ⟨rfl, HW.out.tail.tail.tail⟩))
  have HM : Hid (decMsg xs = decM t body) := by unfold Hid; rw [HM0.out, if_neg (by simp), if_neg (by simp [hk])]
  have ek : ((k : Int) != (n : Int)) = false := by have := hn.out; simp; omega
  have HWF := Lib.hid (decM_wf t body (by have := HBL.out; omega))
  obtain ⟨m, HMM⟩ : ∃ m, Hid ((decM t body).1 = m) := ⟨_, rfl⟩
  obtain ⟨qq, HQQ⟩ : ∃ m, Hid ((decM t body).2 = m) := ⟨_, rfl⟩
  replace HM : Hid (decMsg xs = (m, qq)) := by unfold Hid; rw [HM.out, ← HMM.out, ← HQQ.out]
  rw [HMM.out] at HWF
  have hS := Msg.segs_ok HWF.out.ok
  have HLN : Hid (sglen m.segs = 107) := by unfold Hid; rw [← flat_len hS]; exact Msg.length_segs HWF.out.ok
  have HO : Hid (∀ A n c w R, Hid (n = body.length) → n ≤ c → Holds w R → (Ent R fun w => RD w A body) → Calls Tryd.prog 76 #[.agg #[.int .u8 (t.toNat : Int), .slice A n c]] w fun e w' => e = .returned (.tuple #[.agg (flat m.segs).toArray, .int .i64 qq]) ∧ Holds w' R) := fun A n c w R hn hc hw hr => by
    have := rOfFrame_ok t A n c body w R hw hr hn hc (by rw [hn.out]; exact HBL.out)
    rwa [HMM.out, HQQ.out] at this
  clear hk
  go_enter Tryd.func40, Tryd.ntmps40
  go_wp2_with (first
    | go_skip
    | (refine wpList_alloc HW.out rfl (ty := 42) rfl (z := .agg (flat Msg.zero.segs).toArray) (by kernel_rfl) (M := Msg.zero.segs) rfl HZ.out (fun g2 w' hw' => ?_)
       clear HW; have HW := Lib.hid hw'; clear hw'; (try simp only [hps_rules] at HW); (try simp only [put_rules]))
    | (refine wpList_alloc HW.out rfl (ty := 100) rfl (z := .agg #[.int .u8 0, .slice none 0 0]) (by kernel_rfl) (M := [.o (.int .u8 0), .o (.slice none 0 0)]) rfl ⟨rfl, rfl, trivial⟩ (fun g4 w' hw' => ?_)
       clear HW; have HW := Lib.hid hw'; clear hw'; (try simp only [hps_rules] at HW); (try simp only [put_rules]))
    | (refine wpList_stA HW.out rfl (ty := 100) (n := 2) rfl rfl 0 rfl (M := [.o (.int .u8 (t.toNat : Int)), .o (.slice A1 n1 c1)]) rfl HFO (by kernel_rfl) (by kernel_rfl) (by kernel_rfl) (fun w' hw' => ?_)
       clear HW; have HW := Lib.hid hw'; clear hw'; (try simp only [hps_rules] at HW); (try simp only [put_rules]))
    | (go_at_call 75; have hc := HD.out _ _ HW.out; with_reducible refine hc.mono ?_; clear hc
       rintro e w2 ⟨A1, n1, c1, rfl, hn1, hc1, hw'⟩
       have HFO : SgOk [.o (.int .u8 (t.toNat : Int)), .o (.slice A1 n1 c1)] := ⟨rfl, rfl, trivial⟩
       replace hw' : Holds w2 (_ :: own (.slice A1 n1 c1) _ :: R) := hw'.push_ 1 (by simp)
       clear HW; have HW := Lib.hid hw'; clear hw')
    | (refine wpList_runs HW.out rfl (runs_build (zs := Msg.zero.segs) (M := Msg.zero.segs) rfl Tryd.underlying42 #[(0, 1), (1, 1), (2, 1), (3, 1), (4, 1), (5, 35), (40, 1), (41, 1), (42, 32), (74, 32), (106, 1)] (fun w => by kernel_rfl) (by kernel_rfl) rfl) ?_; simp only [put_rules])
    | (refine wpList_runs HW.out rfl (runs_ldA 0 (ty := 100) (n := 2) rfl rfl rfl (by kernel_rfl) Tryd.underlying100 rfl (by kernel_rfl)) ?_; simp only [put_rules])
    | (go_at_call 76; have hc := HO.out A1 n1 c1 _ _ hn1 hc1 HW.out (fun w hw => (hw.pull 2 rfl).own_rd); refine hc.mono ?_; clear hc
       rintro e w3 ⟨rfl, hw'⟩
       replace hw' : Holds w3 (_ :: _ :: _ :: R) := hw'
       clear HW; have HW := Lib.hid hw'; clear hw')
    | (refine wpList_stA HW.out rfl (ty := 42) (n := 107) rfl rfl 1 rfl (M := Msg.segs m) rfl hS (by kernel_rfl) HLN.out (by kernel_rfl) (fun w' hw' => ?_)
       clear HW; have HW := Lib.hid hw'; clear hw'; (try simp only [hps_rules] at HW); (try simp only [put_rules]))
    | (refine bodyPost_ret (results_cellS rfl HW.out 1 rfl rfl Tryd.underlying42 rfl (by kernel_rfl)) rfl ?_
       rw [HM.out]
       exact ⟨rfl, HW.out.tail.tail.tail⟩))
end Go.Proofs.YtibkngjacdggpaaDoor
/- Any message is formed, and has the bytes, as the document says; and is decoded as it was (the walk of MessageEncodes). -/
namespace Go.Proofs.YtibkngjacdggpaaDoor
set_option linter.unusedSimpArgs false
set_option linter.unusedVariables false
open Go.RowKit HP

def fewM (m : Msg) : Bool := decide (m.ed.s.length ≤ 2000)
set_option maxRecDepth 100000 in
theorem msgfew_ok (r : Msg) (h : r.Ok) {b : Bool} (hb : fewM r = b) (w : World) (R : List HP) (hh : Holds w R) : Calls Tryd.prog 23 #[.agg (flat r.segs).toArray] w fun e w' => e = .returned (.bool b) ∧ Holds w' R := by
  have HW := Lib.hid hh
  have HS := Lib.hid (Msg.segs_ok h)
  have ns := strSize r.ed.s
  have hd : decide ((r.ed.s.length : Int) ≤ 2000) = b := by rw [← hb]; unfold fewM; rw [decide_eq_decide]; omega
  clear hh hb
  go_enter Tryd.func23, Tryd.ntmps23
  go_wp2_with (first
    | go_skip
    | (refine wpList_runs HW.out rfl (runs_ld1 0 rfl rfl rfl rfl (by kernel_rfl)) ?_; simp only [put_rules])
    | (refine wpList_box HW.out rfl rfl rfl rfl HS.out (fun gb w' hw' => ?_)
       clear HW; have HW := Lib.hid hw'; clear hw'; (try simp only [hps_rules] at HW); (try simp only [put_rules])))
  go_ret
  exact ⟨rfl, HW.out.tail⟩
theorem Msg.lenS {r : Msg} (h : r.Ok) : sglen r.segs = 107 := by rw [← flat_len (Msg.segs_ok h)]; exact Msg.length_segs h
set_option maxRecDepth 100000 in
set_option maxHeartbeats 8000000 in
theorem messageEncodes_ok (r : Msg) (h : r.Wf) (w : World) (R : List HP) (hh : Holds w R) (hkf : Ent R KF) : Calls Tryd.prog 11 #[.agg (flat r.segs).toArray] w fun e w' => e = .returned (.bool true) ∧ Holds w' R := by
  have HW := Lib.hid hh
  have HKF := Lib.hid hkf
  have HS := Lib.hid (Msg.segs_ok h.ok)
  have HR := Lib.hid h
  have HLN := Lib.hid (Msg.lenS h.ok)
  have HZ := Lib.hid (Msg.segs_ok Msg.zero_ok)
  have HKP : Hid ((Tryd.f37.name == "runtime.NumGoroutine" || Tryd.f37.body.isNone) = false) := by unfold Hid; kernel_rfl
  have HKQ : Hid ((Tryd.f38.name == "runtime.NumGoroutine" || Tryd.f38.body.isNone) = false) := by unfold Hid; kernel_rfl
  clear hh h hkf
  obtain ⟨b1, HB1⟩ : ∃ b, Hid (fewM r = b) := ⟨_, rfl⟩
  cases b1
  · go_enter Tryd.func11, Tryd.ntmps11
    go_wp2_with (first
      | go_skip
      | (refine wpList_runs HW.out rfl (runs_ldA 0 (ty := 42) (n := 107) rfl rfl rfl HLN.out Tryd.underlying42 rfl (by kernel_rfl)) ?_; simp only [put_rules])
      | (refine wpList_box HW.out rfl rfl rfl rfl HS.out (fun gb w' hw' => ?_)
         clear HW; have HW := Lib.hid hw'; clear hw'; (try simp only [hps_rules] at HW); (try simp only [put_rules]))
      | ((go_at_call 22; have hc := msgawake_ok _ _ HW.out; with_reducible refine hc.mono ?_; clear hc)
         rintro e w2 ⟨rfl, hw'⟩
         clear HW; have HW := Lib.hid hw'; clear hw'; (try simp only [hps_rules] at HW))
      | ((go_at_call 23; have hc := msgfew_ok r HR.out.ok HB1.out _ _ HW.out; with_reducible refine hc.mono ?_; clear hc)
         rintro e w2 ⟨rfl, hw'⟩
         clear HW; have HW := Lib.hid hw'; clear hw'; (try simp only [hps_rules] at HW)))
    go_ret
    exact ⟨rfl, HW.out.tail⟩
  obtain ⟨b2, HB2⟩ : ∃ b, Hid (formedM r = b) := ⟨_, rfl⟩
  cases b2
  · have HWD := Lib.hid (decMsg_wf [])
    obtain ⟨r2, HR2⟩ : ∃ x, Hid ((decMsg []).1 = x) := ⟨_, rfl⟩
    obtain ⟨m2, HM2⟩ : ∃ x, Hid ((decMsg []).2 = x) := ⟨_, rfl⟩
    rw [HR2.out] at HWD
    have HS2 := Lib.hid (Msg.segs_ok HWD.out.ok)
    have HL2 := Lib.hid (Msg.lenS HWD.out.ok)
    have HDC : Hid (∀ A n c w R, Hid (n = ([] : List UInt8).length) → n ≤ c → Holds w (own (.slice A n c) [] :: R) → (Ent (own (.slice A n c) [] :: R) KF) → Calls Tryd.prog 39 #[.slice A n c] w fun e w' => e = .returned (.tuple #[.agg (flat r2.segs).toArray, .int .i64 m2]) ∧ Holds w' (own (.slice A n c) [] :: R)) := fun A n c w R hn hc hw hk => by
      have := msgDecode_ok A n c [] w _ hw Ent.own hn hc (by rw [hn.out]; simp) hk
      rwa [HR2.out, HM2.out] at this
    have HE1 : Hid (∀ w R, Holds w R → Ent R KF → Calls Tryd.prog 24 #[.agg (flat r.segs).toArray] w fun e w' => ∃ A n c, e = .returned (.tuple #[.slice A n c, .int .i64 1]) ∧ Hid (n = ([] : List UInt8).length) ∧ n ≤ c ∧ Holds w' (own (.slice A n c) [] :: R)) := fun w R hw hk => msgEncode_ok r HR.out w R hw hk HB2.out
    have HE2 : Hid (∀ w R, Holds w R → Calls Tryd.prog 36 #[.agg (flat r.segs).toArray] w fun e w' => ∃ A n c, e = .returned (.tuple #[.slice A n c, .int .i64 1]) ∧ Hid (n = ([] : List UInt8).length) ∧ n ≤ c ∧ Holds w' (own (.slice A n c) [] :: R)) := fun w R hw => rWriteS r HR.out w R hw HB2.out
    go_enter Tryd.func11, Tryd.ntmps11
    go_wp2_with (first
      | go_skip
      | (refine wpList_runs HW.out rfl (runs_ldA 0 (ty := 42) (n := 107) rfl rfl rfl HLN.out Tryd.underlying42 rfl (by kernel_rfl)) ?_; simp only [put_rules])
      | (refine wpList_box HW.out rfl rfl rfl rfl HS.out (fun gb w' hw' => ?_)
         clear HW; have HW := Lib.hid hw'; clear hw'; (try simp only [hps_rules] at HW); (try simp only [put_rules]))
      | ((go_at_call 22; have hc := msgawake_ok _ _ HW.out; with_reducible refine hc.mono ?_; clear hc)
         rintro e w2 ⟨rfl, hw'⟩
         clear HW; have HW := Lib.hid hw'; clear hw'; (try simp only [hps_rules] at HW))
      | ((go_at_call 23; have hc := msgfew_ok r HR.out.ok HB1.out _ _ HW.out; with_reducible refine hc.mono ?_; clear hc)
         rintro e w2 ⟨rfl, hw'⟩
         clear HW; have HW := Lib.hid hw'; clear hw'; (try simp only [hps_rules] at HW))
      | (go_at_call 24; have hc := HE1.out _ _ HW.out (HKF.out.cons _); with_reducible refine hc.mono ?_; clear hc
         rintro e w2 ⟨A1, n1, c1, rfl, hn1, hc1, hw'⟩
         replace hw' := (hw'.push_ 1 (by simp) : Holds w2 (_ :: own (.slice A1 n1 c1) [] :: R))
         clear HW; have HW := Lib.hid hw'; clear hw'; (try simp only [hps_rules] at HW); (try simp only [put_rules]))
      | (go_at_call 36; have hc := HE2.out _ _ HW.out; with_reducible refine hc.mono ?_; clear hc
         rintro e w3 ⟨A2, n2, c2, rfl, hn2, hc2, hw'⟩
         replace hw' := (hw'.push_ 1 (by simp) : Holds w3 (_ :: own (.slice A2 n2 c2) [] :: own (.slice A1 n1 c1) [] :: R))
         clear HW; have HW := Lib.hid hw'; clear hw'; (try simp only [hps_rules] at HW); (try simp only [put_rules])))
    refine wp_region_quietC (fun v => Holds v _) (by kernel_rfl) (by kernel_rfl) (HW.out.drewN 1) ?_
    repeat (first
      | go_big_quiet_skip
      | (go_big_quiet_want
         first
         | (refine quiet_runs (runs_ldA 0 (ty := 42) (n := 107) rfl rfl rfl HLN.out Tryd.underlying42 rfl (by kernel_rfl)) ?_)
         | (refine quiet_callF 37 rfl Tryd.func37 HKP.out (al := [.agg (flat r.segs).toArray]) rfl (fun v hv => mformed_ok r HR.out v _ hv HB2.out) ?_)
         | (refine quiet_callF 38 rfl Tryd.func38 HKQ.out (al := [.agg (flat r.segs).toArray]) rfl (fun v hv => mrformed_ok r HR.out v _ hv HB2.out) ?_)
         | (refine quiet_runs (runs_b2s (A := A1) (n := n1) (c := c1) (xs := []) rfl rfl hn1 (fun w hw => (hw.pull 2 rfl).own_rd)) ?_)
         | (refine quiet_runs (runs_b2s (A := A2) (n := n2) (c := c2) (xs := []) rfl rfl hn2 (fun w hw => (hw.pull 1 rfl).own_rd)) ?_)
         | (refine quiet_runs (runs_ld1 0 rfl rfl rfl rfl (by kernel_rfl)) ?_)
         | (refine quietV ?_ (fun v hv => ?_) ?_
            rotate_left
            · clear hv; go_simp <;> (try with_reducible rfl))
         (try simp only [put_rules])
         go_big_quiet_on))
    refine wpQuiet_nil (fun w' hw' => ?_)
    clear HW; have HW := Lib.hid hw'; clear hw'
    go_wp2_with (first
      | go_skip
      | (go_at_call 39; have hc := HDC.out A1 n1 c1 _ _ hn1 hc1 (HW.out.pull 2 rfl) (((HKF.out.cons _).cons _).cons _); with_reducible refine hc.mono ?_; clear hc
         rintro e w4 ⟨rfl, hw'⟩
         replace hw' : Holds w4 (_ :: _ :: _ :: R) := hw'.push_ 2 (by simp)
         clear HW; have HW := Lib.hid hw'; clear hw'; (try simp only [hps_rules] at HW); (try simp only [put_rules]))
      | (refine wpList_runs HW.out rfl (runs_ldA 0 (ty := 46) (n := 107) rfl rfl rfl HL2.out Tryd.underlying46 rfl (by kernel_rfl)) ?_; simp only [put_rules])
      | (refine wpList_runs HW.out rfl (runs_ldA 1 (ty := 42) (n := 107) rfl rfl rfl HLN.out Tryd.underlying42 rfl (by kernel_rfl)) ?_; simp only [put_rules])
      | (refine wpList_alloc HW.out rfl (ty := 46) rfl (z := .agg (flat Msg.zero.segs).toArray) (by kernel_rfl) (M := Msg.zero.segs) rfl HZ.out (fun g9 w' hw' => ?_)
         clear HW; have HW := Lib.hid hw'; clear hw'; (try simp only [hps_rules] at HW); (try simp only [put_rules]))
      | (refine wpList_stA HW.out rfl (ty := 46) (n := 107) rfl rfl 0 rfl (M := Msg.segs r2) rfl HS2.out (by kernel_rfl) HL2.out (by kernel_rfl) (fun w' hw' => ?_)
         clear HW; have HW := Lib.hid hw'; clear hw'; (try simp only [hps_rules] at HW); (try simp only [put_rules])))
    go_ret
    exact ⟨rfl, HW.out.tail.tail.tail.tail⟩
  have HDE := Lib.hid (decMsg_enc ((formedM_iff r).1 HB2.out) HR.out.ok)
  have HLE : Hid ((encB r.kb (encM r)).length ≤ 610) := by unfold Hid; have := length_encM HR.out.ok ((formedM_iff r).1 HB2.out); simp; omega
  have he : ∀ w, (Op.equalIn 10000 42 (.agg (flat r.segs).toArray) (.agg (flat r.segs).toArray)).run Tryd.prog w = .ok true w := fun w => by
    have := run_equal_msg (T := 42) (.inr rfl) HR.out HR.out w
    rwa [sameM_self] at this
  obtain ⟨X, HX⟩ : ∃ x, Hid (encB r.kb (encM r) = x) := ⟨_, rfl⟩
  rw [HX.out] at HDE HLE
  have HDC : Hid (∀ A n c w R, Hid (n = X.length) → n ≤ c → Holds w (own (.slice A n c) X :: R) → (Ent (own (.slice A n c) X :: R) KF) → Calls Tryd.prog 39 #[.slice A n c] w fun e w' => e = .returned (.tuple #[.agg (flat r.segs).toArray, .int .i64 0]) ∧ Holds w' (own (.slice A n c) X :: R)) := fun A n c w R hn hc hw hk => by
    have := msgDecode_ok A n c X w _ hw Ent.own hn hc (by rw [hn.out]; have := HLE.out; omega) hk
    rwa [HDE.out] at this
  have HE1 : Hid (∀ w R, Holds w R → Ent R KF → Calls Tryd.prog 24 #[.agg (flat r.segs).toArray] w fun e w' => ∃ A n c, e = .returned (.tuple #[.slice A n c, .int .i64 0]) ∧ Hid (n = X.length) ∧ n ≤ c ∧ Holds w' (own (.slice A n c) X :: R)) := fun w R hw hk => by
    have := msgEncode_ok r HR.out w R hw hk HB2.out
    rw [if_pos rfl, if_pos rfl, HX.out] at this
    exact this
  have HE2 : Hid (∀ w R, Holds w R → Calls Tryd.prog 36 #[.agg (flat r.segs).toArray] w fun e w' => ∃ A n c, e = .returned (.tuple #[.slice A n c, .int .i64 0]) ∧ Hid (n = X.length) ∧ n ≤ c ∧ Holds w' (own (.slice A n c) X :: R)) := fun w R hw => by
    have := rWriteS r HR.out w R hw HB2.out
    rw [if_pos rfl, if_pos rfl, HX.out] at this
    exact this
  go_enter Tryd.func11, Tryd.ntmps11
  go_wp2_with (first
    | go_skip
    | (refine wpList_runs HW.out rfl (runs_ldA 0 (ty := 42) (n := 107) rfl rfl rfl HLN.out Tryd.underlying42 rfl (by kernel_rfl)) ?_; simp only [put_rules])
    | (refine wpList_box HW.out rfl rfl rfl rfl HS.out (fun gb w' hw' => ?_)
       clear HW; have HW := Lib.hid hw'; clear hw'; (try simp only [hps_rules] at HW); (try simp only [put_rules]))
    | ((go_at_call 22; have hc := msgawake_ok _ _ HW.out; with_reducible refine hc.mono ?_; clear hc)
       rintro e w2 ⟨rfl, hw'⟩
       clear HW; have HW := Lib.hid hw'; clear hw'; (try simp only [hps_rules] at HW))
    | ((go_at_call 23; have hc := msgfew_ok r HR.out.ok HB1.out _ _ HW.out; with_reducible refine hc.mono ?_; clear hc)
       rintro e w2 ⟨rfl, hw'⟩
       clear HW; have HW := Lib.hid hw'; clear hw'; (try simp only [hps_rules] at HW))
    | (go_at_call 24; have hc := HE1.out _ _ HW.out (HKF.out.cons _); with_reducible refine hc.mono ?_; clear hc
       rintro e w2 ⟨A1, n1, c1, rfl, hn1, hc1, hw'⟩
       replace hw' := (hw'.push_ 1 (by simp) : Holds w2 (_ :: own (.slice A1 n1 c1) X :: R))
       clear HW; have HW := Lib.hid hw'; clear hw'; (try simp only [hps_rules] at HW); (try simp only [put_rules]))
    | (go_at_call 36; have hc := HE2.out _ _ HW.out; with_reducible refine hc.mono ?_; clear hc
       rintro e w3 ⟨A2, n2, c2, rfl, hn2, hc2, hw'⟩
       replace hw' := (hw'.push_ 1 (by simp) : Holds w3 (_ :: own (.slice A2 n2 c2) X :: own (.slice A1 n1 c1) X :: R))
       clear HW; have HW := Lib.hid hw'; clear hw'; (try simp only [hps_rules] at HW); (try simp only [put_rules])))
  refine wp_region_quietC (fun v => Holds v _) (by kernel_rfl) (by kernel_rfl) (HW.out.drewN 1) ?_
  repeat (first
    | go_big_quiet_skip
    | (go_big_quiet_want
       first
       | (refine quiet_runs (runs_ldA 0 (ty := 42) (n := 107) rfl rfl rfl HLN.out Tryd.underlying42 rfl (by kernel_rfl)) ?_)
       | (refine quiet_callF 37 rfl Tryd.func37 HKP.out (al := [.agg (flat r.segs).toArray]) rfl (fun v hv => mformed_ok r HR.out v _ hv HB2.out) ?_)
       | (refine quiet_callF 38 rfl Tryd.func38 HKQ.out (al := [.agg (flat r.segs).toArray]) rfl (fun v hv => mrformed_ok r HR.out v _ hv HB2.out) ?_)
       | (refine quiet_runs (runs_b2s (A := A1) (n := n1) (c := c1) (xs := X) rfl rfl hn1 (fun w hw => (hw.pull 2 rfl).own_rd)) ?_)
       | (refine quiet_runs (runs_b2s (A := A2) (n := n2) (c := c2) (xs := X) rfl rfl hn2 (fun w hw => (hw.pull 1 rfl).own_rd)) ?_)
       | (refine quiet_runs (runs_ld1 0 rfl rfl rfl rfl (by kernel_rfl)) ?_)
       | (refine quietV ?_ (fun v hv => ?_) ?_
          rotate_left
          · clear hv; go_simp <;> (try with_reducible rfl))
       (try simp only [put_rules])
       go_big_quiet_on))
  refine wpQuiet_nil (fun w' hw' => ?_)
  clear HW; have HW := Lib.hid hw'; clear hw'
  go_wp2_with (first
    | go_skip
    | (go_at_call 39; have hc := HDC.out A1 n1 c1 _ _ hn1 hc1 (HW.out.pull 2 rfl) (((HKF.out.cons _).cons _).cons _); with_reducible refine hc.mono ?_; clear hc
       rintro e w4 ⟨rfl, hw'⟩
       replace hw' : Holds w4 (_ :: _ :: _ :: R) := hw'.push_ 2 (by simp)
       clear HW; have HW := Lib.hid hw'; clear hw'; (try simp only [hps_rules] at HW); (try simp only [put_rules]))
    | (refine wpList_runs HW.out rfl (runs_ldA 0 (ty := 46) (n := 107) rfl rfl rfl HLN.out Tryd.underlying46 rfl (by kernel_rfl)) ?_; simp only [put_rules])
    | (refine wpList_runs HW.out rfl (runs_ldA 1 (ty := 42) (n := 107) rfl rfl rfl HLN.out Tryd.underlying42 rfl (by kernel_rfl)) ?_; simp only [put_rules])
    | (refine wpList_alloc HW.out rfl (ty := 46) rfl (z := .agg (flat Msg.zero.segs).toArray) (by kernel_rfl) (M := Msg.zero.segs) rfl HZ.out (fun g9 w' hw' => ?_)
       clear HW; have HW := Lib.hid hw'; clear hw'; (try simp only [hps_rules] at HW); (try simp only [put_rules]))
    | (refine wpList_stA HW.out rfl (ty := 46) (n := 107) rfl rfl 0 rfl (M := Msg.segs r) rfl HS.out (by kernel_rfl) HLN.out (by kernel_rfl) (fun w' hw' => ?_)
       clear HW; have HW := Lib.hid hw'; clear hw'; (try simp only [hps_rules] at HW); (try simp only [put_rules])))
  go_ret
  exact ⟨rfl, HW.out.tail.tail.tail.tail⟩
end Go.Proofs.YtibkngjacdggpaaDoor
