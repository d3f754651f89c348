/- The reference's Write. -/
import Derived.Test.YtibkngjacdggpaaDoorRecR3
import Derived.Test.YtibkngjacdggpaaDoorRefH
import Derived.Test.YtibkngjacdggpaaDoorMsgFR
import Derived.Test.YtibkngjacdggpaaDoorMsgM
namespace Go.Proofs.YtibkngjacdggpaaDoor
set_option linter.unusedSimpArgs false
set_option linter.unusedVariables false
open Go.RowKit HP

def Msg.kb (r : Msg) : UInt8 := UInt8.ofNat r.kind.toNat
def Msg.fb (r : Msg) : UInt8 := UInt8.ofNat r.frm.toNat
def Msg.tb (r : Msg) : UInt8 := UInt8.ofNat r.to.toNat
def Msg.cb (r : Msg) : UInt8 := UInt8.ofNat r.code.toNat
def Msg.pre (r : Msg) : List UInt8 := r.fb :: r.tb :: beL r.id 4
theorem Msg.length_pre (r : Msg) : r.pre.length = 6 := by simp [Msg.pre]
theorem encM_pre (r : Msg) : encM r = r.pre ++ (if r.kind = 1 then beL r.base 4 ++ encE r.ed else if r.kind = 2 then (if r.yes = true then beL (bitN true) 1 ++ (r.hash ++ r.root) else beL (bitN false) 1 ++ beL r.code.toNat 1)
      else if r.kind = 3 then beL (bitN r.commit) 1 else if r.kind = 6 then beL (bitN r.commit) 1 else []) := by
  unfold encM Msg.pre Msg.fb Msg.tb
  rw [beL_oneM, beL_oneM]
  simp
theorem length_encM {r : Msg} (ok : r.Ok) (h : FormedM r) : (encM r).length ≤ 600 := by
  have h1 := length_encEM ok.ed
  have h2 := h.s
  have h3 := ok.hash
  have h4 := ok.root
  have h5 := r.length_pre
  rw [encM_pre]
  repeat' split
  all_goals simp
  all_goals omega
set_option maxRecDepth 100000 in
set_option maxHeartbeats 16000000 in
theorem rWrite_ok (r : Msg) (h : r.Wf) (w : World) (R : List HP) (hh : Holds w R) :
    Calls Tryd.prog 36 #[.agg (flat r.segs).toArray] w fun e w' => ∃ v, e = .returned (.tuple #[v, .int .i64 (if formedM r = true then 0 else 1)]) ∧ Holds w' (own v (if formedM r = true then encB r.kb (encM r) else []) :: R) := by
  have HW := Lib.hid hh
  have HS := Lib.hid (Msg.segs_ok h.ok)
  have HR := Lib.hid h
  have HK1 : Hid ((Tryd.f67.name == "runtime.NumGoroutine" || Tryd.f67.body.isNone) = false) := by unfold Hid; kernel_rfl
  have HK2 : Hid ((Tryd.f61.name == "runtime.NumGoroutine" || Tryd.f61.body.isNone) = false) := by unfold Hid; kernel_rfl
  have HK3 : Hid ((Tryd.f53.name == "runtime.NumGoroutine" || Tryd.f53.body.isNone) = false) := by unfold Hid; kernel_rfl
  have HK4 : Hid ((Tryd.f66.name == "runtime.NumGoroutine" || Tryd.f66.body.isNone) = false) := by unfold Hid; kernel_rfl
  clear hh h
  cases hf : formedM r
  · have HF := Lib.hid hf
    clear hf
    go_enter Tryd.func36, Tryd.ntmps36
    go_wp2_with (first
      | go_skip
      | (refine wpList_runs HW.out rfl (runs_ldA 0 (ty := 42) (n := 107) rfl rfl rfl (by kernel_rfl) Tryd.underlying42 rfl (by kernel_rfl)) ?_; simp only [put_rules])
      | (refine wpList_box HW.out rfl rfl rfl rfl HS.out (fun gb w' hw' => ?_)
         clear HW; have HW := Lib.hid hw'; clear hw'; (try simp only [hps_rules] at HW); (try simp only [put_rules]))
      | ((go_at_call 38; have hc := mrformed_ok r HR.out _ _ HW.out HF.out; with_reducible refine hc.mono ?_; clear hc)
         rintro e w2 ⟨rfl, hw'⟩
         clear HW; have HW := Lib.hid hw'; clear hw'; (try simp only [hps_rules] at HW)))
    go_returns
    exact ⟨_, rfl, HW.out.tail.nil_own⟩
  have HF := Lib.hid hf
  have HG := Lib.hid ((formedM_iff r).1 hf)
  have HB : Hid (r.ed.s.length ≤ 500 ∧ r.pre.length = 6 ∧ (encE r.ed).length = 36 + r.ed.s.length ∧ r.hash.length = 32 ∧ r.root.length = 32) := ⟨HG.out.s, r.length_pre, length_encEM HR.out.ok.ed, HR.out.ok.hash, HR.out.ok.root⟩
  have HL := Lib.hid (length_encM HR.out.ok HG.out)
  have hkb : r.kb.toNat = r.kind.toNat := by have := HG.out.k1; have := HG.out.k6; unfold Msg.kb; rw [UInt8.toNat_ofNat']; omega
  have HEF : Hid (encF r.kb (encM r) = (encB r.kb (encM r), 0)) := by
    unfold Hid encF
    rw [if_neg (fun e => by rw [e] at hkb; have := HG.out.k1; simp at hkb; omega), if_neg (by have := HL.out; omega)]
  have hkw : IntKind.u8.wrap r.kind = (r.kb.toNat : Int) := by
    have := HG.out.k1
    have := HG.out.k6
    rw [hkb]
    simp [IntKind.wrap, IntKind.signed, IntKind.bits]
    omega
  have hfw : IntKind.u8.wrap r.frm = (r.fb.toNat : Int) := by
    have := HG.out.f0
    have := HG.out.f1
    unfold Msg.fb
    rw [UInt8.toNat_ofNat']
    simp [IntKind.wrap, IntKind.signed, IntKind.bits]
    omega
  have htw : IntKind.u8.wrap r.to = (r.tb.toNat : Int) := by
    have := HG.out.t0
    have := HG.out.t1
    unfold Msg.tb
    rw [UInt8.toNat_ofNat']
    simp [IntKind.wrap, IntKind.signed, IntKind.bits]
    omega
  clear hf hkb
  rw [if_pos rfl, if_pos rfl]
  go_enter Tryd.func36, Tryd.ntmps36
  go_wp2_with (first
    | go_skip
    | (refine wpList_runs HW.out rfl (runs_ldA 0 (ty := 42) (n := 107) rfl rfl rfl (by kernel_rfl) Tryd.underlying42 rfl (by kernel_rfl)) ?_; simp only [put_rules])
    | (refine wpList_box HW.out rfl rfl rfl rfl HS.out (fun gb w' hw' => ?_)
       clear HW; have HW := Lib.hid hw'; clear hw'; (try simp only [hps_rules] at HW); (try simp only [put_rules]))
    | ((go_at_call 38; have hc := mrformed_ok r HR.out _ _ HW.out HF.out; with_reducible refine hc.mono ?_; clear hc)
       rintro e w2 ⟨rfl, hw'⟩
       clear HW; have HW := Lib.hid hw'; clear hw'; (try simp only [hps_rules] at HW)))
  refine wp_region_untilA 12 (by kernel_rfl) HW.out (fun w' hw' => ?_)
  clear HW; have HW := Lib.hid hw'; have HC := Lib.hid hw'; clear hw'
  simp only [rep_rules]
  first
  | (refine takeE 0 rfl rfl (runs_ld1 0 rfl rfl rfl rfl (by kernel_rfl)) HC.out (by kernel_rfl) (fun _ _ _ h => h) ?_)
  | (refine takeE 0 (v := ?_) rfl rfl (runs_of fun w => ?_) HC.out (by kernel_rfl) (fun _ _ _ h => h) ?_
     rotate_left
     · go_simp <;> (try with_reducible rfl))
  try simp only [put_rules]
  first
  | (refine takeE 1 rfl rfl (runs_ld1 0 rfl rfl rfl rfl (by kernel_rfl)) HC.out (by kernel_rfl) (fun _ _ _ h => h) ?_)
  | (refine takeE 1 (v := ?_) rfl rfl (runs_of fun w => ?_) HC.out (by kernel_rfl) (fun _ _ _ h => h) ?_
     rotate_left
     · go_simp <;> (try with_reducible rfl))
  try simp only [put_rules]
  first
  | (refine takeE 2 rfl rfl (runs_ld1 0 rfl rfl rfl rfl (by kernel_rfl)) HC.out (by kernel_rfl) (fun _ _ _ h => h) ?_)
  | (refine takeE 2 (v := ?_) rfl rfl (runs_of fun w => ?_) HC.out (by kernel_rfl) (fun _ _ _ h => h) ?_
     rotate_left
     · go_simp <;> (try with_reducible rfl))
  try simp only [put_rules]
  first
  | (refine takeE 3 rfl rfl (runs_ld1 0 rfl rfl rfl rfl (by kernel_rfl)) HC.out (by kernel_rfl) (fun _ _ _ h => h) ?_)
  | (refine takeE 3 (v := ?_) rfl rfl (runs_of fun w => ?_) HC.out (by kernel_rfl) (fun _ _ _ h => h) ?_
     rotate_left
     · go_simp <;> (try with_reducible rfl))
  try simp only [put_rules]
  first
  | (refine takeE 4 rfl rfl (runs_ld1 0 rfl rfl rfl rfl (by kernel_rfl)) HC.out (by kernel_rfl) (fun _ _ _ h => h) ?_)
  | (refine takeE 4 (v := ?_) rfl rfl (runs_of fun w => ?_) HC.out (by kernel_rfl) (fun _ _ _ h => h) ?_
     rotate_left
     · go_simp <;> (try with_reducible rfl))
  try simp only [put_rules]
  first
  | (refine takeE 5 rfl rfl (runs_ld1 0 rfl rfl rfl rfl (by kernel_rfl)) HC.out (by kernel_rfl) (fun _ _ _ h => h) ?_)
  | (refine takeE 5 (v := ?_) rfl rfl (runs_of fun w => ?_) HC.out (by kernel_rfl) (fun _ _ _ h => h) ?_
     rotate_left
     · go_simp <;> (try with_reducible rfl))
  try simp only [put_rules]
  first
  | (refine takeE 7 rfl rfl (runs_ld1 0 rfl rfl rfl rfl (by kernel_rfl)) HC.out (by kernel_rfl) (fun _ _ _ h => h) ?_)
  | (refine takeE 7 (v := ?_) rfl rfl (runs_of fun w => ?_) HC.out (by kernel_rfl) (fun _ _ _ h => h) ?_
     rotate_left
     · go_simp <;> (try with_reducible rfl))
  try simp only [put_rules]
  first
  | (refine takeE 8 rfl rfl (runs_ld1 0 rfl rfl rfl rfl (by kernel_rfl)) HC.out (by kernel_rfl) (fun _ _ _ h => h) ?_)
  | (refine takeE 8 (v := ?_) rfl rfl (runs_of fun w => ?_) HC.out (by kernel_rfl) (fun _ _ _ h => h) ?_
     rotate_left
     · go_simp <;> (try with_reducible rfl))
  try simp only [put_rules]
  refine wpAnyE_phaseA (fun a0 listed a w' => ∃ (b6 b9 : Bool) (g6 n9 c9 : Nat) (A9 : Option Addr),
    listed = #[true, true, true, true, true, true, b6, true, true, b9, false, false, false] ∧
    a = (a0.put (some 14) (Fl b6 (.slice (some ⟨g6, 0, none⟩) 2 2) undef)).put (some 17) (Fl b9 (.slice A9 n9 c9) undef) ∧
    Hid (n9 = (beL r.id 4).length) ∧ n9 ≤ c9 ∧
    Holds w' (opt b6 (own (.slice (some ⟨g6, 0, none⟩) 2 2) [r.fb, r.tb]) :: opt b9 (own (.slice A9 n9 c9) (beL r.id 4)) :: sblk gb 42 r.segs :: R))
    12 #[true, true, true, true, true, true, true, true, true, true, false, false, false] 3 (by kernel_rfl) (by kernel_rfl) (by kernel_rfl) ?h0 ?hJ ?hend ?hstep
  case h0 => exact ⟨false, false, 0, 4, 4, none, rfl, rfl, by unfold Hid; simp, by omega, HC.out.emp_cons.emp_cons⟩
  case hJ =>
    rintro _ _ _ ⟨_, _, _, _, _, _, rfl, -, -, -, h⟩
    exact ⟨rfl, rfl, h.tail.tail⟩
  case hstep =>
    rintro _ _ w1 ⟨b6, b9, g6, n9, c9, A9, rfl, rfl, hn9, hc9, hh⟩
    refine ⟨fun hne hun hdep => ?_, fun hne hun hdep => ?_, fun hne hun hdep => ?_, fun hne hun hdep => ?_, fun hne hun hdep => ?_, fun hne hun hdep => ?_, fun hne hun hdep => ?_, fun hne hun hdep => ?_, fun hne hun hdep => ?_, fun hne hun hdep => ?_, fun hne hun hdep => ?_, fun hne hun hdep => ?_, fun hne hun hdep => ?_, trivial⟩
    all_goals (try exact Bool.noConfusion (show true = false from hun))
    · obtain rfl : b6 = false := hun
      refine ⟨rfl, fun K hK => ?_⟩
      clear hne hdep
      simp only [Act.put, List.setIfInBounds_toArray, List.set_cons_zero, List.set_cons_succ]
      refine wp_slb2 hh rfl Tryd.underlying23 (by kernel_rfl) (b := r.fb) (c := r.tb) rfl rfl (fun g w' hw' => ?_)
      exact hK.out _ _ ⟨true, b9, g, n9, c9, A9, rfl, rfl, hn9, hc9, hw'.drop 1 rfl⟩
    · obtain rfl : b9 = false := hun
      refine ⟨rfl, fun K hK => ?_⟩
      clear hne hdep
      simp only [Act.put, List.setIfInBounds_toArray, List.set_cons_zero, List.set_cons_succ]
      refine wp_callG 61 rfl Tryd.func61 HK2.out (al := [.int .u64 (r.id : Int), .int .i64 4]) rfl (rnumb_at2 r.id 4 4 rfl (by omega) w1 _ hh) ?_
      rintro ex w2 ⟨v2, rfl, hh2⟩
      obtain ⟨A2, n2, c2, rfl, hn2, hc2, -⟩ := hh2.own_form
      exact ⟨_, rfl, hK.out _ _ ⟨b6, true, g6, n2, c2, A2, rfl, rfl, hn2, hc2, (hh2.drop 2 rfl).push_ 1 (by simp)⟩⟩
    all_goals
      exfalso
      clear hh
      revert hne hdep
      cases b6 <;> cases b9 <;> intro hne hdep <;> first | exact absurd rfl hne | exact Bool.noConfusion (show false = true from hdep)
  rintro _ w1 ⟨b6, b9, g6, n9, c9, A9, hl, rfl, hn9, hc9, hh⟩
  simp only [Array.mk.injEq, List.cons.injEq, true_and, and_true] at hl
  obtain ⟨rfl, rfl⟩ := hl
  have hk2 : Holds w1 (own (.slice (some ⟨g6, 0, none⟩) 2 2) [r.fb, r.tb] :: own (.slice A9 n9 c9) (beL r.id 4) :: sblk gb 42 r.segs :: R) := hh
  clear hh HW HC
  have HW := Lib.hid hk2
  clear hk2
  simp only [Act.put, List.setIfInBounds_toArray, List.set_cons_zero, List.set_cons_succ, Fl_true]
  refine effE 10 rfl (by kernel_rfl) ?_
  refine wpList_parts HW.out rfl rfl Tryd.underlying29 (z := .slice none 0 0) (by kernel_rfl) [⟨some ⟨g6, 0, none⟩, 2, 2, [r.fb, r.tb]⟩, ⟨A9, n9, c9, beL r.id 4⟩] rfl rfl (by decide) (by decide) (fun gp w' hw' => ?_)
  clear HW; have HW := Lib.hid hw'; clear hw'; (try simp only [hps_rules] at HW)
  try simp only [put_rules]
  refine wpList_behind (And.intro (fun _ => (by exact HW.out.tail.tail.tail)) ?_)
  refine effE 11 rfl (by kernel_rfl) ?_
  refine wpList_callG 53 rfl Tryd.func53 HK3.out (al := [.slice (some ⟨gp, 0, none⟩) 2 2]) rfl rfl (join_ok (some ⟨gp, 0, none⟩) 2 2 [⟨some ⟨g6, 0, none⟩, 2, 2, [r.fb, r.tb]⟩, ⟨A9, n9, c9, beL r.id 4⟩] _ _ HW.out (Ent.parts rfl (Ent.oks Ent.own rfl (by omega) (Ent.oks (Ent.own.cons _) hn9 hc9 Ent.oks_nil))) rfl (by omega) (by simp [bsAll])) ?_
  rintro ex w2 ⟨v, rfl, hw'⟩
  refine ⟨_, rfl, ?_⟩
  clear HW; have HW := Lib.hid hw'; clear hw'; (try simp only [hps_rules] at HW)
  try simp only [put_rules]
  refine wpList_behind (And.intro (fun _ => (by exact HW.out.tail.tail.tail.tail)) ?_)
  refine effE 12 rfl (by kernel_rfl) ?_
  refine wpList_runs HW.out rfl (v := ?_) (runs_of fun w => ?_) ?_
  rotate_left
  · go_simp <;> (try with_reducible rfl)
  try simp only [put_rules]
  refine wpList_behind (And.intro (fun h => Bool.noConfusion (show true = false from h)) ?_)
  refine doneE (by kernel_rfl) ?_ _
  replace HW : Hid (Holds w2 (own v r.pre :: sblk gb 42 r.segs :: R)) := by
    have := HW.out.drop 1 rfl |>.drop 1 rfl |>.drop 1 rfl
    rw [show bsAll [⟨some ⟨g6, 0, none⟩, 2, 2, [r.fb, r.tb]⟩, ⟨A9, n9, c9, beL r.id 4⟩] = r.pre from by simp [bsAll, Msg.pre]] at this
    exact this
  obtain ⟨Ab, nb, cb, rfl, hnb, hcb, -⟩ := HW.out.own_form
  have hcase := HG.out.k_cases
  obtain ⟨hy, HY⟩ : ∃ b, r.yes = b := ⟨_, rfl⟩
  have HYS := HY
  rcases hcase with hk | hk | hk | hk | hk | hk
  · skip
    have e1 : (r.kind == 1) = true := by rw [hk]; rfl
    have HKK := Lib.hid hk
    clear hk
    go_wp2_with (first
      | go_skip
      | (refine wpList_runs HW.out rfl (runs_ldR 1 (ty := 40) (n := 35) (m := Ed.segs r.ed) rfl rfl rfl rfl Tryd.underlying40 rfl (by kernel_rfl)) ?_; simp only [put_rules])
      | (refine wpList_runs HW.out rfl (runs_ld1 1 rfl rfl rfl rfl (by kernel_rfl)) ?_; simp only [put_rules]))
    refine wp_region_untilA 9 (by kernel_rfl) HW.out (fun w' hw' => ?_)
    clear HW; have HW := Lib.hid hw'; have HC := Lib.hid hw'; clear hw'
    simp only [rep_rules]
    first
    | (refine takeE 0 rfl rfl ((runs_ldR 1 (ty := 40) (n := 35) (m := Ed.segs r.ed) rfl rfl rfl rfl Tryd.underlying40 rfl (by kernel_rfl))) HC.out (by kernel_rfl) (fun _ _ _ h => h) ?_)
    | (refine takeE 0 rfl rfl ((runs_ld1 1 rfl rfl rfl rfl (by kernel_rfl))) HC.out (by kernel_rfl) (fun _ _ _ h => h) ?_)
    | (refine takeE 0 (v := ?_) rfl rfl (runs_of fun w => ?_) HC.out (by kernel_rfl) (fun _ _ _ h => h) ?_
       rotate_left
       · go_simp <;> (try with_reducible rfl))
    try simp only [put_rules]
    first
    | (refine takeE 1 rfl rfl ((runs_ldR 1 (ty := 40) (n := 35) (m := Ed.segs r.ed) rfl rfl rfl rfl Tryd.underlying40 rfl (by kernel_rfl))) HC.out (by kernel_rfl) (fun _ _ _ h => h) ?_)
    | (refine takeE 1 rfl rfl ((runs_ld1 1 rfl rfl rfl rfl (by kernel_rfl))) HC.out (by kernel_rfl) (fun _ _ _ h => h) ?_)
    | (refine takeE 1 (v := ?_) rfl rfl (runs_of fun w => ?_) HC.out (by kernel_rfl) (fun _ _ _ h => h) ?_
       rotate_left
       · go_simp <;> (try with_reducible rfl))
    try simp only [put_rules]
    first
    | (refine takeE 2 rfl rfl ((runs_ldR 1 (ty := 40) (n := 35) (m := Ed.segs r.ed) rfl rfl rfl rfl Tryd.underlying40 rfl (by kernel_rfl))) HC.out (by kernel_rfl) (fun _ _ _ h => h) ?_)
    | (refine takeE 2 rfl rfl ((runs_ld1 1 rfl rfl rfl rfl (by kernel_rfl))) HC.out (by kernel_rfl) (fun _ _ _ h => h) ?_)
    | (refine takeE 2 (v := ?_) rfl rfl (runs_of fun w => ?_) HC.out (by kernel_rfl) (fun _ _ _ h => h) ?_
       rotate_left
       · go_simp <;> (try with_reducible rfl))
    try simp only [put_rules]
    first
    | (refine takeE 4 rfl rfl ((runs_ldR 1 (ty := 40) (n := 35) (m := Ed.segs r.ed) rfl rfl rfl rfl Tryd.underlying40 rfl (by kernel_rfl))) HC.out (by kernel_rfl) (fun _ _ _ h => h) ?_)
    | (refine takeE 4 rfl rfl ((runs_ld1 1 rfl rfl rfl rfl (by kernel_rfl))) HC.out (by kernel_rfl) (fun _ _ _ h => h) ?_)
    | (refine takeE 4 (v := ?_) rfl rfl (runs_of fun w => ?_) HC.out (by kernel_rfl) (fun _ _ _ h => h) ?_
       rotate_left
       · go_simp <;> (try with_reducible rfl))
    try simp only [put_rules]
    first
    | (refine takeE 5 rfl rfl ((runs_ldR 1 (ty := 40) (n := 35) (m := Ed.segs r.ed) rfl rfl rfl rfl Tryd.underlying40 rfl (by kernel_rfl))) HC.out (by kernel_rfl) (fun _ _ _ h => h) ?_)
    | (refine takeE 5 rfl rfl ((runs_ld1 1 rfl rfl rfl rfl (by kernel_rfl))) HC.out (by kernel_rfl) (fun _ _ _ h => h) ?_)
    | (refine takeE 5 (v := ?_) rfl rfl (runs_of fun w => ?_) HC.out (by kernel_rfl) (fun _ _ _ h => h) ?_
       rotate_left
       · go_simp <;> (try with_reducible rfl))
    try simp only [put_rules]
    refine effE 3 rfl (by kernel_rfl) ?_
    refine wpList_callG 61 rfl Tryd.func61 HK2.out (al := [.int .u64 (r.base : Int), .int .i64 4]) rfl rfl (rnumb_at2 r.base 4 4 rfl (by omega) _ _ HW.out) ?_
    rintro ex w3 ⟨v, rfl, hw'⟩
    obtain ⟨A2, n2, c2, rfl, hn2, hc2, -⟩ := hw'.own_form
    refine ⟨_, rfl, ?_⟩
    clear HW; have HW := Lib.hid hw'; clear hw'; (try simp only [hps_rules] at HW)
    try simp only [put_rules]
    refine wpList_behind (And.intro (fun _ => (by exact HW.out.tail)) ?_)
    refine effE 6 rfl (by kernel_rfl) ?_
    refine wpList_callG 66 rfl Tryd.func66 HK4.out (al := [.agg (flat r.ed.segs).toArray]) rfl rfl (EditBytes_ok r.ed HR.out.ok.ed (by have := HB.out; omega) _ _ HW.out) ?_
    rintro ex w3 ⟨v, rfl, hw'⟩
    obtain ⟨A3, n3, c3, rfl, hn3, hc3, -⟩ := hw'.own_form
    refine ⟨_, rfl, ?_⟩
    clear HW; have HW := Lib.hid hw'; clear hw'; (try simp only [hps_rules] at HW)
    try simp only [put_rules]
    refine wpList_behind (And.intro (fun _ => (by exact HW.out.tail.tail)) ?_)
    refine effE 7 rfl (by kernel_rfl) ?_
    refine wpList_parts HW.out rfl rfl Tryd.underlying29 (z := .slice none 0 0) (by kernel_rfl) [⟨Ab, nb, cb, r.pre⟩, ⟨A2, n2, c2, beL r.base 4⟩, ⟨A3, n3, c3, encE r.ed⟩] rfl rfl (by decide) (by decide) (fun gp w' hw' => ?_)
    clear HW; have HW := Lib.hid hw'; clear hw'; (try simp only [hps_rules] at HW)
    try simp only [put_rules]
    refine wpList_behind (And.intro (fun _ => (by exact HW.out.tail.tail.tail)) ?_)
    refine effE 8 rfl (by kernel_rfl) ?_
    refine wpList_callG 53 rfl Tryd.func53 HK3.out (al := [.slice (some ⟨gp, 0, none⟩) 3 3]) rfl rfl (join_ok (some ⟨gp, 0, none⟩) 3 3 [⟨Ab, nb, cb, r.pre⟩, ⟨A2, n2, c2, beL r.base 4⟩, ⟨A3, n3, c3, encE r.ed⟩] _ _ HW.out (Ent.parts rfl (Ent.oks (Ent.own.cons _ |>.cons _) hnb hcb (Ent.oks (Ent.own.cons _) hn2 hc2 (Ent.oks Ent.own hn3 hc3 Ent.oks_nil)))) rfl (by omega) (by have := HB.out; simp [bsAll]; omega)) ?_
    rintro ex w2 ⟨v, rfl, hw'⟩
    refine ⟨_, rfl, ?_⟩
    clear HW; have HW := Lib.hid hw'; clear hw'; (try simp only [hps_rules] at HW)
    try simp only [put_rules]
    refine wpList_behind (And.intro (fun _ => (by exact HW.out.tail.tail.tail.tail)) ?_)
    refine effE 9 rfl (by kernel_rfl) ?_
    refine wpList_runs HW.out rfl (v := ?_) (runs_of fun w => ?_) ?_
    rotate_left
    · go_simp <;> (try with_reducible rfl)
    try simp only [put_rules]
    refine wpList_behind (And.intro (fun h => Bool.noConfusion (show true = false from h)) ?_)
    refine doneE (by kernel_rfl) ?_ _
    replace HW : Hid (Holds w2 (own v (encM r) :: sblk gb 42 r.segs :: R)) := by
      refine Lib.hid ?_
      have := HW.out |>.drop 1 rfl |>.drop 1 rfl |>.drop 1 rfl |>.drop 1 rfl
      rw [encM_pre, if_pos HKK.out]
      simpa [bsAll] using this
    obtain ⟨A5, n5, c5, rfl, hn5, hc5, -⟩ := HW.out.own_form
    go_wp2_with (first
      | go_skip
      | (refine wpList_runs HW.out rfl (runs_ld1 1 rfl rfl rfl rfl (by kernel_rfl)) ?_; simp only [put_rules, HYS])
      | (go_at_call 68; have hc := rencode_ok r.kb A5 n5 c5 (encM r) _ _ HW.out Ent.own hn5 hc5 (by rw [hn5.out]; have := HL.out; omega); with_reducible refine hc.mono ?_; clear hc
         rintro e w3 ⟨v, rfl, hw'⟩
         rw [HEF.out] at hw' ⊢
         clear HW; have HW := Lib.hid hw'; clear hw'; (try simp only [hps_rules] at HW); (try simp only [put_rules])))
    go_returns
    exact ⟨_, rfl, HW.out.drop 1 rfl |>.drop 1 rfl⟩
  · cases hy
    · have HYF := Lib.hid HY
      have hcw : IntKind.u8.wrap r.code = (r.cb.toNat : Int) := by
        have := HG.out.code hk HYF.out
        unfold Msg.cb
        rw [UInt8.toNat_ofNat']
        simp [IntKind.wrap, IntKind.signed, IntKind.bits]
        omega
      have e1 : (r.kind == 1) = false := beq_eq_false_iff_ne.2 (by omega)
      have e2 : (r.kind == 2) = true := by rw [hk]; rfl
      have HKK := Lib.hid hk
      clear hk
      go_wp2_with (first
        | go_skip
        | (refine wpList_runs HW.out rfl (runs_ldR 1 (ty := 40) (n := 35) (m := Ed.segs r.ed) rfl rfl rfl rfl Tryd.underlying40 rfl (by kernel_rfl)) ?_; simp only [put_rules, HY])
        | (refine wpList_runs HW.out rfl (runs_ld1 1 rfl rfl rfl rfl (by kernel_rfl)) ?_; simp only [put_rules, HY])
        | (refine wpList_byte2 HW.out rfl rfl Tryd.underlying23 (by kernel_rfl) (b := 0) (c := r.cb) rfl rfl (fun g1 w' hw' => ?_)
           clear HW; have HW := Lib.hid hw'; clear hw'; (try simp only [hps_rules] at HW); (try simp only [put_rules]))
        | (refine wpList_parts HW.out rfl rfl Tryd.underlying29 (z := .slice none 0 0) (by kernel_rfl) [⟨Ab, nb, cb, r.pre⟩, ⟨some ⟨g1, 0, none⟩, 2, 2, [0, r.cb]⟩] rfl rfl (by decide) (by decide) (fun gp w' hw' => ?_)
           clear HW; have HW := Lib.hid hw'; clear hw'; (try simp only [hps_rules] at HW); (try simp only [put_rules]))
        | (go_at_call 53; have hc := join_ok (some ⟨gp, 0, none⟩) 2 2 [⟨Ab, nb, cb, r.pre⟩, ⟨some ⟨g1, 0, none⟩, 2, 2, [0, r.cb]⟩] _ _ HW.out (Ent.parts rfl (Ent.oks (Ent.own.cons _) hnb hcb (Ent.oks Ent.own rfl (by omega) Ent.oks_nil))) rfl (by omega) (by have := HB.out; simp [bsAll]; omega); with_reducible refine hc.mono ?_; clear hc
           rintro e w3 ⟨v, rfl, hw'⟩
           replace hw' : Holds w3 (own v (encM r) :: sblk gb 42 r.segs :: R) := by
             have := hw' |>.drop 1 rfl |>.drop 1 rfl |>.drop 1 rfl
             rw [encM_pre, if_neg (show ¬ r.kind = 1 by rw [HKK.out]; decide), if_pos HKK.out, if_neg (by rw [HYF.out]; decide), show beL (bitN false) 1 = [0] from rfl, beL_oneM]
             simpa [bsAll, Msg.cb] using this
           obtain ⟨A5, n5, c5, rfl, hn5, hc5, -⟩ := hw'.own_form
           clear HW; have HW := Lib.hid hw'; clear hw'; (try simp only [hps_rules] at HW); (try simp only [put_rules]))
        | (refine wpList_runs HW.out rfl (runs_ld1 1 rfl rfl rfl rfl (by kernel_rfl)) ?_; simp only [put_rules, HYS])
        | (go_at_call 68; have hc := rencode_ok r.kb A5 n5 c5 (encM r) _ _ HW.out Ent.own hn5 hc5 (by rw [hn5.out]; have := HL.out; omega); with_reducible refine hc.mono ?_; clear hc
           rintro e w3 ⟨v, rfl, hw'⟩
           rw [HEF.out] at hw' ⊢
           clear HW; have HW := Lib.hid hw'; clear hw'; (try simp only [hps_rules] at HW); (try simp only [put_rules])))
      go_returns
      exact ⟨_, rfl, HW.out.drop 1 rfl |>.drop 1 rfl⟩
    · have HYY := Lib.hid HY
      have e1 : (r.kind == 1) = false := beq_eq_false_iff_ne.2 (by omega)
      have e2 : (r.kind == 2) = true := by rw [hk]; rfl
      have HKK := Lib.hid hk
      clear hk
      go_wp2_with (first
        | go_skip
        | (refine wpList_runs HW.out rfl (runs_ldR 1 (ty := 40) (n := 35) (m := Ed.segs r.ed) rfl rfl rfl rfl Tryd.underlying40 rfl (by kernel_rfl)) ?_; simp only [put_rules, HY])
        | (refine wpList_runs HW.out rfl (runs_ld1 1 rfl rfl rfl rfl (by kernel_rfl)) ?_; simp only [put_rules, HY]))
      refine wp_region_untilA 8 (by kernel_rfl) HW.out (fun w' hw' => ?_)
      clear HW; have HW := Lib.hid hw'; have HC := Lib.hid hw'; clear hw'
      simp only [rep_rules]
      first
      | (refine takeE 0 (v := ?_) rfl rfl (runs_of fun w => ?_) HC.out (by kernel_rfl) (fun _ _ _ h => h) ?_
         rotate_left
         · go_simp <;> (try with_reducible rfl))
      try simp only [put_rules]
      first
      | (refine takeE 2 (v := ?_) rfl rfl (runs_of fun w => ?_) HC.out (by kernel_rfl) (fun _ _ _ h => h) ?_
         rotate_left
         · go_simp <;> (try with_reducible rfl))
      try simp only [put_rules]
      first
      | (refine takeE 3 (v := ?_) rfl rfl (runs_of fun w => ?_) HC.out (by kernel_rfl) (fun _ _ _ h => h) ?_
         rotate_left
         · go_simp <;> (try with_reducible rfl))
      try simp only [put_rules]
      first
      | (refine takeE 4 (v := ?_) rfl rfl (runs_of fun w => ?_) HC.out (by kernel_rfl) (fun _ _ _ h => h) ?_
         rotate_left
         · go_simp <;> (try with_reducible rfl))
      try simp only [put_rules]
      first
      | (refine takeE 5 (v := ?_) rfl rfl (runs_of fun w => ?_) HC.out (by kernel_rfl) (fun _ _ _ h => h) ?_
         rotate_left
         · go_simp <;> (try with_reducible rfl))
      try simp only [put_rules]
      refine effE 1 rfl (by kernel_rfl) ?_
      refine wpList_byte1 HW.out rfl rfl Tryd.underlying23 (by kernel_rfl) (b := 1) rfl (fun g1 w' hw' => ?_)
      clear HW; have HW := Lib.hid hw'; clear hw'; (try simp only [hps_rules] at HW)
      try simp only [put_rules]
      refine wpList_behind (And.intro (fun _ => (by exact HW.out.tail)) ?_)
      refine effE 6 rfl (by kernel_rfl) ?_
      refine wpList_parts HW.out rfl rfl Tryd.underlying29 (z := .slice none 0 0) (by kernel_rfl) [⟨Ab, nb, cb, r.pre⟩, ⟨some ⟨g1, 0, none⟩, 1, 1, [1]⟩, ⟨some ⟨gb, 42, none⟩, 32, 32, r.hash⟩, ⟨some ⟨gb, 74, none⟩, 32, 32, r.root⟩] rfl rfl (by decide) (by decide) (fun gp w' hw' => ?_)
      clear HW; have HW := Lib.hid hw'; clear hw'; (try simp only [hps_rules] at HW)
      try simp only [put_rules]
      refine wpList_behind (And.intro (fun _ => (by exact HW.out.tail.tail)) ?_)
      refine effE 7 rfl (by kernel_rfl) ?_
      refine wpList_callG 53 rfl Tryd.func53 HK3.out (al := [.slice (some ⟨gp, 0, none⟩) 4 4]) rfl rfl (join_ok (some ⟨gp, 0, none⟩) 4 4 [⟨Ab, nb, cb, r.pre⟩, ⟨some ⟨g1, 0, none⟩, 1, 1, [1]⟩, ⟨some ⟨gb, 42, none⟩, 32, 32, r.hash⟩, ⟨some ⟨gb, 74, none⟩, 32, 32, r.root⟩] _ _ HW.out (Ent.parts rfl (Ent.oks (Ent.own.cons _) hnb hcb (Ent.oks Ent.own rfl (by omega) (Ent.oks (Ent.sblk (i := 2) (n := 32) (T := 42) (S := r.segs) rfl rfl) HR.out.ok.hash.symm (by omega) (Ent.oks (Ent.sblk (i := 2) (n := 32) (T := 42) (S := r.segs) rfl rfl) HR.out.ok.root.symm (by omega) Ent.oks_nil))))) rfl (by omega) (by have := HB.out; simp [bsAll]; omega)) ?_
      rintro ex w2 ⟨v, rfl, hw'⟩
      refine ⟨_, rfl, ?_⟩
      clear HW; have HW := Lib.hid hw'; clear hw'; (try simp only [hps_rules] at HW)
      try simp only [put_rules]
      refine wpList_behind (And.intro (fun _ => (by exact HW.out.tail.tail.tail)) ?_)
      refine effE 8 rfl (by kernel_rfl) ?_
      refine wpList_runs HW.out rfl (v := ?_) (runs_of fun w => ?_) ?_
      rotate_left
      · go_simp <;> (try with_reducible rfl)
      try simp only [put_rules]
      refine wpList_behind (And.intro (fun h => Bool.noConfusion (show true = false from h)) ?_)
      refine doneE (by kernel_rfl) ?_ _
      replace HW : Hid (Holds w2 (own v (encM r) :: sblk gb 42 r.segs :: R)) := by
        refine Lib.hid ?_
        have := HW.out |>.drop 1 rfl |>.drop 1 rfl |>.drop 1 rfl
        rw [encM_pre, if_neg (show ¬ r.kind = 1 by rw [HKK.out]; decide), if_pos HKK.out, if_pos HYY.out, show beL (bitN true) 1 = [1] from rfl]
        simpa [bsAll] using this
      obtain ⟨A5, n5, c5, rfl, hn5, hc5, -⟩ := HW.out.own_form
      go_wp2_with (first
        | go_skip
        | (refine wpList_runs HW.out rfl (runs_ld1 1 rfl rfl rfl rfl (by kernel_rfl)) ?_; simp only [put_rules, HYS])
        | (go_at_call 68; have hc := rencode_ok r.kb A5 n5 c5 (encM r) _ _ HW.out Ent.own hn5 hc5 (by rw [hn5.out]; have := HL.out; omega); with_reducible refine hc.mono ?_; clear hc
           rintro e w3 ⟨v, rfl, hw'⟩
           rw [HEF.out] at hw' ⊢
           clear HW; have HW := Lib.hid hw'; clear hw'; (try simp only [hps_rules] at HW); (try simp only [put_rules])))
      go_returns
      exact ⟨_, rfl, HW.out.drop 1 rfl |>.drop 1 rfl⟩
  · skip
    have e1 : (r.kind == 1) = false := beq_eq_false_iff_ne.2 (by omega)
    have e2 : (r.kind == 2) = false := beq_eq_false_iff_ne.2 (by omega)
    have e3 : (r.kind == 3) = true := by rw [hk]; rfl
    have HKK := Lib.hid hk
    clear hk
    go_wp2_with (first
      | go_skip
      | (refine wpList_runs HW.out rfl (runs_ldR 1 (ty := 40) (n := 35) (m := Ed.segs r.ed) rfl rfl rfl rfl Tryd.underlying40 rfl (by kernel_rfl)) ?_; simp only [put_rules])
      | (refine wpList_runs HW.out rfl (runs_ld1 1 rfl rfl rfl rfl (by kernel_rfl)) ?_; simp only [put_rules])
      | (go_at_call 67; have hc := rtruth1_ok HW.out r.commit; with_reducible refine hc.mono ?_; clear hc
         rintro e w3 ⟨rfl, hw'⟩
         clear HW; have HW := Lib.hid hw'; clear hw'; (try simp only [hps_rules] at HW); (try simp only [put_rules]))
      | (refine wpList_byte1 HW.out rfl rfl Tryd.underlying23 (by kernel_rfl) (b := UInt8.ofNat (bitN r.commit)) rfl (fun g1 w' hw' => ?_)
         clear HW; have HW := Lib.hid hw'; clear hw'; (try simp only [hps_rules] at HW); (try simp only [put_rules]))
      | (refine wpList_parts HW.out rfl rfl Tryd.underlying29 (z := .slice none 0 0) (by kernel_rfl) [⟨Ab, nb, cb, r.pre⟩, ⟨some ⟨g1, 0, none⟩, 1, 1, [UInt8.ofNat (bitN r.commit)]⟩] rfl rfl (by decide) (by decide) (fun gp w' hw' => ?_)
         clear HW; have HW := Lib.hid hw'; clear hw'; (try simp only [hps_rules] at HW); (try simp only [put_rules]))
      | (go_at_call 53; have hc := join_ok (some ⟨gp, 0, none⟩) 2 2 [⟨Ab, nb, cb, r.pre⟩, ⟨some ⟨g1, 0, none⟩, 1, 1, [UInt8.ofNat (bitN r.commit)]⟩] _ _ HW.out (Ent.parts rfl (Ent.oks (Ent.own.cons _) hnb hcb (Ent.oks Ent.own rfl (by omega) Ent.oks_nil))) rfl (by omega) (by have := HB.out; simp [bsAll]; omega); with_reducible refine hc.mono ?_; clear hc
         rintro e w3 ⟨v, rfl, hw'⟩
         replace hw' : Holds w3 (own v (encM r) :: sblk gb 42 r.segs :: R) := by
           have := hw' |>.drop 1 rfl |>.drop 1 rfl |>.drop 1 rfl
           rw [encM_pre, if_neg (show ¬ r.kind = 1 by rw [HKK.out]; decide), if_neg (show ¬ r.kind = 2 by rw [HKK.out]; decide), if_pos HKK.out, beL_oneM]
           simpa [bsAll, Msg.cb] using this
         obtain ⟨A5, n5, c5, rfl, hn5, hc5, -⟩ := hw'.own_form
         clear HW; have HW := Lib.hid hw'; clear hw'; (try simp only [hps_rules] at HW); (try simp only [put_rules]))
      | (refine wpList_runs HW.out rfl (runs_ld1 1 rfl rfl rfl rfl (by kernel_rfl)) ?_; simp only [put_rules, HYS])
      | (go_at_call 68; have hc := rencode_ok r.kb A5 n5 c5 (encM r) _ _ HW.out Ent.own hn5 hc5 (by rw [hn5.out]; have := HL.out; omega); with_reducible refine hc.mono ?_; clear hc
         rintro e w3 ⟨v, rfl, hw'⟩
         rw [HEF.out] at hw' ⊢
         clear HW; have HW := Lib.hid hw'; clear hw'; (try simp only [hps_rules] at HW); (try simp only [put_rules])))
    go_returns
    exact ⟨_, rfl, HW.out.drop 1 rfl |>.drop 1 rfl⟩
  · skip
    have e1 : (r.kind == 1) = false := beq_eq_false_iff_ne.2 (by omega)
    have e2 : (r.kind == 2) = false := beq_eq_false_iff_ne.2 (by omega)
    have e3 : (r.kind == 3) = false := beq_eq_false_iff_ne.2 (by omega)
    have e6 : (r.kind == 6) = false := beq_eq_false_iff_ne.2 (by omega)
    have HKK := Lib.hid hk
    clear hk
    replace HW : Hid (Holds w2 (own (.slice Ab nb cb) (encM r) :: sblk gb 42 r.segs :: R)) := by
      refine Lib.hid ?_
      have := HW.out
      rw [encM_pre, if_neg (show ¬ r.kind = 1 by rw [HKK.out]; decide), if_neg (show ¬ r.kind = 2 by rw [HKK.out]; decide), if_neg (show ¬ r.kind = 3 by rw [HKK.out]; decide), if_neg (show ¬ r.kind = 6 by rw [HKK.out]; decide), List.append_nil]
      exact this
    have hn5 : Hid (nb = (encM r).length) := by unfold Hid; rw [hnb.out, encM_pre, if_neg (show ¬ r.kind = 1 by rw [HKK.out]; decide), if_neg (show ¬ r.kind = 2 by rw [HKK.out]; decide), if_neg (show ¬ r.kind = 3 by rw [HKK.out]; decide), if_neg (show ¬ r.kind = 6 by rw [HKK.out]; decide), List.append_nil]
    go_wp2_with (first
      | go_skip
      | (refine wpList_runs HW.out rfl (runs_ld1 1 rfl rfl rfl rfl (by kernel_rfl)) ?_; simp only [put_rules])
      | (go_at_call 68; have hc := rencode_ok r.kb Ab nb cb (encM r) _ _ HW.out Ent.own hn5 hcb (by rw [hn5.out]; have := HL.out; omega); with_reducible refine hc.mono ?_; clear hc
         rintro e w3 ⟨v, rfl, hw'⟩
         rw [HEF.out] at hw' ⊢
         clear HW; have HW := Lib.hid hw'; clear hw'; (try simp only [hps_rules] at HW); (try simp only [put_rules])))
    go_returns
    exact ⟨_, rfl, HW.out.drop 1 rfl |>.drop 1 rfl⟩
  · skip
    have e1 : (r.kind == 1) = false := beq_eq_false_iff_ne.2 (by omega)
    have e2 : (r.kind == 2) = false := beq_eq_false_iff_ne.2 (by omega)
    have e3 : (r.kind == 3) = false := beq_eq_false_iff_ne.2 (by omega)
    have e6 : (r.kind == 6) = false := beq_eq_false_iff_ne.2 (by omega)
    have HKK := Lib.hid hk
    clear hk
    replace HW : Hid (Holds w2 (own (.slice Ab nb cb) (encM r) :: sblk gb 42 r.segs :: R)) := by
      refine Lib.hid ?_
      have := HW.out
      rw [encM_pre, if_neg (show ¬ r.kind = 1 by rw [HKK.out]; decide), if_neg (show ¬ r.kind = 2 by rw [HKK.out]; decide), if_neg (show ¬ r.kind = 3 by rw [HKK.out]; decide), if_neg (show ¬ r.kind = 6 by rw [HKK.out]; decide), List.append_nil]
      exact this
    have hn5 : Hid (nb = (encM r).length) := by unfold Hid; rw [hnb.out, encM_pre, if_neg (show ¬ r.kind = 1 by rw [HKK.out]; decide), if_neg (show ¬ r.kind = 2 by rw [HKK.out]; decide), if_neg (show ¬ r.kind = 3 by rw [HKK.out]; decide), if_neg (show ¬ r.kind = 6 by rw [HKK.out]; decide), List.append_nil]
    go_wp2_with (first
      | go_skip
      | (refine wpList_runs HW.out rfl (runs_ld1 1 rfl rfl rfl rfl (by kernel_rfl)) ?_; simp only [put_rules])
      | (go_at_call 68; have hc := rencode_ok r.kb Ab nb cb (encM r) _ _ HW.out Ent.own hn5 hcb (by rw [hn5.out]; have := HL.out; omega); with_reducible refine hc.mono ?_; clear hc
         rintro e w3 ⟨v, rfl, hw'⟩
         rw [HEF.out] at hw' ⊢
         clear HW; have HW := Lib.hid hw'; clear hw'; (try simp only [hps_rules] at HW); (try simp only [put_rules])))
    go_returns
    exact ⟨_, rfl, HW.out.drop 1 rfl |>.drop 1 rfl⟩
  · skip
    have e1 : (r.kind == 1) = false := beq_eq_false_iff_ne.2 (by omega)
    have e2 : (r.kind == 2) = false := beq_eq_false_iff_ne.2 (by omega)
    have e3 : (r.kind == 3) = false := beq_eq_false_iff_ne.2 (by omega)
    have e6 : (r.kind == 6) = true := by rw [hk]; rfl
    have HKK := Lib.hid hk
    clear hk
    go_wp2_with (first
      | go_skip
      | (refine wpList_runs HW.out rfl (runs_ldR 1 (ty := 40) (n := 35) (m := Ed.segs r.ed) rfl rfl rfl rfl Tryd.underlying40 rfl (by kernel_rfl)) ?_; simp only [put_rules])
      | (refine wpList_runs HW.out rfl (runs_ld1 1 rfl rfl rfl rfl (by kernel_rfl)) ?_; simp only [put_rules])
      | (go_at_call 67; have hc := rtruth1_ok HW.out r.commit; with_reducible refine hc.mono ?_; clear hc
         rintro e w3 ⟨rfl, hw'⟩
         clear HW; have HW := Lib.hid hw'; clear hw'; (try simp only [hps_rules] at HW); (try simp only [put_rules]))
      | (refine wpList_byte1 HW.out rfl rfl Tryd.underlying23 (by kernel_rfl) (b := UInt8.ofNat (bitN r.commit)) rfl (fun g1 w' hw' => ?_)
         clear HW; have HW := Lib.hid hw'; clear hw'; (try simp only [hps_rules] at HW); (try simp only [put_rules]))
      | (refine wpList_parts HW.out rfl rfl Tryd.underlying29 (z := .slice none 0 0) (by kernel_rfl) [⟨Ab, nb, cb, r.pre⟩, ⟨some ⟨g1, 0, none⟩, 1, 1, [UInt8.ofNat (bitN r.commit)]⟩] rfl rfl (by decide) (by decide) (fun gp w' hw' => ?_)
         clear HW; have HW := Lib.hid hw'; clear hw'; (try simp only [hps_rules] at HW); (try simp only [put_rules]))
      | (go_at_call 53; have hc := join_ok (some ⟨gp, 0, none⟩) 2 2 [⟨Ab, nb, cb, r.pre⟩, ⟨some ⟨g1, 0, none⟩, 1, 1, [UInt8.ofNat (bitN r.commit)]⟩] _ _ HW.out (Ent.parts rfl (Ent.oks (Ent.own.cons _) hnb hcb (Ent.oks Ent.own rfl (by omega) Ent.oks_nil))) rfl (by omega) (by have := HB.out; simp [bsAll]; omega); with_reducible refine hc.mono ?_; clear hc
         rintro e w3 ⟨v, rfl, hw'⟩
         replace hw' : Holds w3 (own v (encM r) :: sblk gb 42 r.segs :: R) := by
           have := hw' |>.drop 1 rfl |>.drop 1 rfl |>.drop 1 rfl
           rw [encM_pre, if_neg (show ¬ r.kind = 1 by rw [HKK.out]; decide), if_neg (show ¬ r.kind = 2 by rw [HKK.out]; decide), if_neg (show ¬ r.kind = 3 by rw [HKK.out]; decide), if_pos HKK.out, beL_oneM]
           simpa [bsAll, Msg.cb] using this
         obtain ⟨A5, n5, c5, rfl, hn5, hc5, -⟩ := hw'.own_form
         clear HW; have HW := Lib.hid hw'; clear hw'; (try simp only [hps_rules] at HW); (try simp only [put_rules]))
      | (refine wpList_runs HW.out rfl (runs_ld1 1 rfl rfl rfl rfl (by kernel_rfl)) ?_; simp only [put_rules, HYS])
      | (go_at_call 68; have hc := rencode_ok r.kb A5 n5 c5 (encM r) _ _ HW.out Ent.own hn5 hc5 (by rw [hn5.out]; have := HL.out; omega); with_reducible refine hc.mono ?_; clear hc
         rintro e w3 ⟨v, rfl, hw'⟩
         rw [HEF.out] at hw' ⊢
         clear HW; have HW := Lib.hid hw'; clear hw'; (try simp only [hps_rules] at HW); (try simp only [put_rules])))
    go_returns
    exact ⟨_, rfl, HW.out.drop 1 rfl |>.drop 1 rfl⟩
end Go.Proofs.YtibkngjacdggpaaDoor
