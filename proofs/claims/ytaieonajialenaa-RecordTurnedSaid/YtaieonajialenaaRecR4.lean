/- The reference's EncodeRecord. -/
import Derived.Test.YtaieonajialenaaRecR3
import Derived.Test.YtaieonajialenaaRecE
namespace Go.Proofs.Ytaieonajialenaa
open Go.RowKit HP

def Rec.kb (r : Rec) : UInt8 := UInt8.ofNat r.kind.toNat
def Rec.cb (r : Rec) : UInt8 := UInt8.ofNat r.code.toNat
def Rec.pre (r : Rec) : List UInt8 := r.kb :: beL r.id 4
theorem beL_one (n : Nat) : beL n 1 = [UInt8.ofNat n] := by simp [beL]
theorem Rec.length_pre (r : Rec) : r.pre.length = 5 := by simp [Rec.pre]
theorem encR_pre (r : Rec) : encR r = r.pre ++ (if r.kind = 1 then encE r.ed else if r.kind = 2 then beL r.base 4 ++ (encE r.ed ++ r.root) else if r.kind = 3 then beL r.code.toNat 1
      else beL (bitN r.commit) 1 ++ (beL (bitN r.has) 1 ++ if r.has = true then beL r.text.length 2 ++ r.text else [])) := by
  unfold encR Rec.pre Rec.kb
  rw [beL_one]
  simp
theorem length_encE {e : Ed} (h : e.Ok) : (encE e).length = 36 + e.s.length := by unfold Ed.Ok at h; simp [encE, h]; omega
set_option maxRecDepth 100000 in
set_option maxHeartbeats 8000000 in
theorem rEncodeRec_ok (r : Rec) (h : r.Wf) (w : World) (R : List HP) (hh : Holds w R) :
    Calls Try.prog 34 #[.agg (flat r.segs).toArray] w fun e w' => ∃ v, e = .returned (.tuple #[v, .int .i64 (if formedR r = true then 0 else 1)]) ∧ Holds w' (own v (if formedR r = true then encR r else []) :: R) := by
  have HW := Lib.hid hh
  have HS := Lib.hid (Rec.segs_ok h.ok)
  have HR := Lib.hid h
  have HK1 : Hid ((Try.f76.name == "runtime.NumGoroutine" || Try.f76.body.isNone) = false) := by unfold Hid; kernel_rfl
  have HK2 : Hid ((Try.f74.name == "runtime.NumGoroutine" || Try.f74.body.isNone) = false) := by unfold Hid; kernel_rfl
  have HK3 : Hid ((Try.f73.name == "runtime.NumGoroutine" || Try.f73.body.isNone) = false) := by unfold Hid; kernel_rfl
  have HK4 : Hid ((Try.f75.name == "runtime.NumGoroutine" || Try.f75.body.isNone) = false) := by unfold Hid; kernel_rfl
  clear hh h
  cases hf : formedR r
  · have HF := Lib.hid hf
    clear hf
    go_enter Try.func34, Try.ntmps34
    go_wp2_with (first
      | go_skip
      | (refine wpList_runs HW.out rfl (runs_ldR 0 (ty := 38) (n := 74) (m := Rec.segs r) rfl rfl rfl rfl Try.underlying38 rfl (by kernel_rfl)) ?_; simp only [put_rules])
      | (refine wpList_box HW.out rfl rfl rfl rfl HS.out (fun gb w' hw' => ?_)
         clear HW; have HW := Lib.hid hw'; clear hw'; (try simp only [hps_rules] at HW); (try simp only [put_rules]))
      | ((go_at_call 36; have hc := rformedS r HR.out _ _ HW.out HF.out; with_reducible refine hc.mono ?_; clear hc)
         rintro e w2 ⟨rfl, hw'⟩
         clear HW; have HW := Lib.hid hw'; clear hw'; (try simp only [hps_rules] at HW)))
    go_returns
    exact ⟨_, rfl, HW.out.tail.nil_own⟩
  have HF := Lib.hid hf
  have HG := Lib.hid ((formedR_iff r).1 hf)
  have HB : Hid (r.ed.s.length ≤ 500 ∧ r.text.length ≤ 2000 ∧ r.pre.length = 5 ∧ (encE r.ed).length = 36 + r.ed.s.length ∧ r.root.length = 32) := ⟨HG.out.s, HG.out.t, r.length_pre, length_encE HR.out.ok.ed, HR.out.ok.root⟩
  have hkw : IntKind.u8.wrap r.kind = (r.kb.toNat : Int) := by
    have := HG.out.k1
    have := HG.out.k4
    unfold Rec.kb
    rw [UInt8.toNat_ofNat']
    simp [IntKind.wrap, IntKind.signed, IntKind.bits]
    omega
  clear hf
  rw [if_pos rfl, if_pos rfl]
  go_enter Try.func34, Try.ntmps34
  go_wp2_with (first
    | go_skip
    | (refine wpList_runs HW.out rfl (runs_ldR 0 (ty := 38) (n := 74) (m := Rec.segs r) rfl rfl rfl rfl Try.underlying38 rfl (by kernel_rfl)) ?_; simp only [put_rules])
    | (refine wpList_box HW.out rfl rfl rfl rfl HS.out (fun gb w' hw' => ?_)
       clear HW; have HW := Lib.hid hw'; clear hw'; (try simp only [hps_rules] at HW); (try simp only [put_rules]))
    | ((go_at_call 36; have hc := rformedS r HR.out _ _ HW.out HF.out; with_reducible refine hc.mono ?_; clear hc)
       rintro e w2 ⟨rfl, hw'⟩
       clear HW; have HW := Lib.hid hw'; clear hw'; (try simp only [hps_rules] at HW)))
  refine wp_region_untilA 9 (by kernel_rfl) HW.out (fun w' hw' => ?_)
  clear HW; have HW := Lib.hid hw'; have HC := Lib.hid hw'; clear hw'
  simp only [rep_rules]
  first
  | (refine takeE 0 rfl rfl (runs_ld1 0 rfl rfl rfl rfl (by kernel_rfl)) HC.out (by kernel_rfl) (fun _ _ _ h => h) ?_)
  | (refine takeE 0 (v := ?_) rfl rfl (runs_of fun w => ?_) HC.out (by kernel_rfl) (fun _ _ _ h => h) ?_
     rotate_left
     · go_simp <;> (try with_reducible rfl))
  try simp only [put_rules]
  first
  | (refine takeE 1 rfl rfl (runs_ld1 0 rfl rfl rfl rfl (by kernel_rfl)) HC.out (by kernel_rfl) (fun _ _ _ h => h) ?_)
  | (refine takeE 1 (v := ?_) rfl rfl (runs_of fun w => ?_) HC.out (by kernel_rfl) (fun _ _ _ h => h) ?_
     rotate_left
     · go_simp <;> (try with_reducible rfl))
  try simp only [put_rules]
  first
  | (refine takeE 2 rfl rfl (runs_ld1 0 rfl rfl rfl rfl (by kernel_rfl)) HC.out (by kernel_rfl) (fun _ _ _ h => h) ?_)
  | (refine takeE 2 (v := ?_) rfl rfl (runs_of fun w => ?_) HC.out (by kernel_rfl) (fun _ _ _ h => h) ?_
     rotate_left
     · go_simp <;> (try with_reducible rfl))
  try simp only [put_rules]
  first
  | (refine takeE 4 rfl rfl (runs_ld1 0 rfl rfl rfl rfl (by kernel_rfl)) HC.out (by kernel_rfl) (fun _ _ _ h => h) ?_)
  | (refine takeE 4 (v := ?_) rfl rfl (runs_of fun w => ?_) HC.out (by kernel_rfl) (fun _ _ _ h => h) ?_
     rotate_left
     · go_simp <;> (try with_reducible rfl))
  try simp only [put_rules]
  first
  | (refine takeE 5 rfl rfl (runs_ld1 0 rfl rfl rfl rfl (by kernel_rfl)) HC.out (by kernel_rfl) (fun _ _ _ h => h) ?_)
  | (refine takeE 5 (v := ?_) rfl rfl (runs_of fun w => ?_) HC.out (by kernel_rfl) (fun _ _ _ h => h) ?_
     rotate_left
     · go_simp <;> (try with_reducible rfl))
  try simp only [put_rules]
  refine wpAnyE_phaseA (fun a0 listed a w' => ∃ (b3 b6 : Bool) (g3 n6 c6 : Nat) (A6 : Option Addr),
    listed = #[true, true, true, b3, true, true, b6, false, false, false] ∧
    a = (a0.put (some 11) (Fl b3 (.slice (some ⟨g3, 0, none⟩) 1 1) undef)).put (some 14) (Fl b6 (.slice A6 n6 c6) undef) ∧
    Hid (n6 = (beL r.id 4).length) ∧ n6 ≤ c6 ∧
    Holds w' (opt b3 (own (.slice (some ⟨g3, 0, none⟩) 1 1) [r.kb]) :: opt b6 (own (.slice A6 n6 c6) (beL r.id 4)) :: sblk gb 38 r.segs :: R))
    9 #[true, true, true, true, true, true, true, false, false, false] 3 (by kernel_rfl) (by kernel_rfl) (by kernel_rfl) ?h0 ?hJ ?hend ?hstep
  case h0 => exact ⟨false, false, 0, 4, 4, none, rfl, rfl, by unfold Hid; simp, by omega, HC.out.emp_cons.emp_cons⟩
  case hJ =>
    rintro _ _ _ ⟨_, _, _, _, _, _, rfl, -, -, -, h⟩
    exact ⟨rfl, rfl, h.tail.tail⟩
  case hstep =>
    rintro _ _ w1 ⟨b3, b6, g3, n6, c6, A6, rfl, rfl, hn6, hc6, hh⟩
    refine ⟨fun hne hun hdep => ?_, fun hne hun hdep => ?_, fun hne hun hdep => ?_, fun hne hun hdep => ?_, fun hne hun hdep => ?_, fun hne hun hdep => ?_, fun hne hun hdep => ?_, fun hne hun hdep => ?_, fun hne hun hdep => ?_, fun hne hun hdep => ?_, trivial⟩
    all_goals (try exact Bool.noConfusion (show true = false from hun))
    · obtain rfl : b3 = false := hun
      refine ⟨rfl, fun K hK => ?_⟩
      clear hne hdep
      simp only [Act.put, List.setIfInBounds_toArray, List.set_cons_zero, List.set_cons_succ]
      refine wp_slb1 hh rfl Try.underlying51 (by kernel_rfl) (b := r.kb) rfl (fun g w' hw' => ?_)
      exact hK.out _ _ ⟨true, b6, g, n6, c6, A6, rfl, rfl, hn6, hc6, hw'.drop 1 rfl⟩
    · obtain rfl : b6 = false := hun
      refine ⟨rfl, fun K hK => ?_⟩
      clear hne hdep
      simp only [Act.put, List.setIfInBounds_toArray, List.set_cons_zero, List.set_cons_succ]
      refine wp_callG 74 rfl Try.func74 HK2.out (al := [.int .u64 (r.id : Int), .int .i64 4]) rfl (rnumb_at2 r.id 4 4 rfl (by omega) w1 _ hh) ?_
      rintro ex w2 ⟨v2, rfl, hh2⟩
      obtain ⟨A2, n2, c2, rfl, hn2, hc2, -⟩ := hh2.own_form
      exact ⟨_, rfl, hK.out _ _ ⟨b3, true, g3, n2, c2, A2, rfl, rfl, hn2, hc2, (hh2.drop 2 rfl).push_ 1 (by simp)⟩⟩
    all_goals
      exfalso
      clear hh
      revert hne hdep
      cases b3 <;> cases b6 <;> intro hne hdep <;> first | exact absurd rfl hne | exact Bool.noConfusion (show false = true from hdep)
  rintro _ w1 ⟨b3, b6, g3, n6, c6, A6, hl, rfl, hn6, hc6, hh⟩
  simp only [Array.mk.injEq, List.cons.injEq, true_and, and_true] at hl
  obtain ⟨rfl, rfl⟩ := hl
  have hk2 : Holds w1 (own (.slice (some ⟨g3, 0, none⟩) 1 1) [r.kb] :: own (.slice A6 n6 c6) (beL r.id 4) :: sblk gb 38 r.segs :: R) := hh
  clear hh HW HC
  have HW := Lib.hid hk2
  clear hk2
  simp only [Act.put, List.setIfInBounds_toArray, List.set_cons_zero, List.set_cons_succ, Fl_true]
  refine effE 7 rfl (by kernel_rfl) ?_
  refine wpList_parts HW.out rfl rfl Try.underlying87 (z := .slice none 0 0) (by kernel_rfl) [⟨some ⟨g3, 0, none⟩, 1, 1, [r.kb]⟩, ⟨A6, n6, c6, beL r.id 4⟩] rfl rfl (by decide) (by decide) (fun gp w' hw' => ?_)
  clear HW; have HW := Lib.hid hw'; clear hw'; (try simp only [hps_rules] at HW)
  try simp only [put_rules]
  refine wpList_behind (And.intro (fun _ => (by exact HW.out.tail.tail.tail)) ?_)
  refine effE 8 rfl (by kernel_rfl) ?_
  refine wpList_callG 73 rfl Try.func73 HK3.out (al := [.slice (some ⟨gp, 0, none⟩) 2 2]) rfl rfl (join_ok (some ⟨gp, 0, none⟩) 2 2 [⟨some ⟨g3, 0, none⟩, 1, 1, [r.kb]⟩, ⟨A6, n6, c6, beL r.id 4⟩] _ _ HW.out (Ent.parts rfl (Ent.oks Ent.own rfl (by omega) (Ent.oks (Ent.own.cons _) hn6 hc6 Ent.oks_nil))) rfl (by omega) (by simp [bsAll])) ?_
  rintro ex w2 ⟨v, rfl, hw'⟩
  refine ⟨_, rfl, ?_⟩
  clear HW; have HW := Lib.hid hw'; clear hw'; (try simp only [hps_rules] at HW)
  try simp only [put_rules]
  refine wpList_behind (And.intro (fun _ => (by exact HW.out.tail.tail.tail.tail)) ?_)
  refine effE 9 rfl (by kernel_rfl) ?_
  refine wpList_runs HW.out rfl (v := ?_) (runs_of fun w => ?_) ?_
  rotate_left
  · go_simp <;> (try with_reducible rfl)
  try simp only [put_rules]
  refine wpList_behind (And.intro (fun h => Bool.noConfusion (show true = false from h)) ?_)
  refine doneE (by kernel_rfl) ?_ _
  replace HW : Hid (Holds w2 (own v r.pre :: sblk gb 38 r.segs :: R)) := by
    have := HW.out.drop 1 rfl |>.drop 1 rfl |>.drop 1 rfl
    rw [show bsAll [⟨some ⟨g3, 0, none⟩, 1, 1, [r.kb]⟩, ⟨A6, n6, c6, beL r.id 4⟩] = r.pre from by simp [bsAll, Rec.pre]] at this
    exact this
  obtain ⟨Ab, nb, cb, rfl, hnb, hcb, -⟩ := HW.out.own_form
  have hcase : r.kind = 1 ∨ r.kind = 2 ∨ r.kind = 3 ∨ r.kind = 4 := by have := HG.out.k1; have := HG.out.k4; omega
  rcases hcase with hk | hk | hk | hk
  · skip
    have e1 : (r.kind == 1) = true := by rw [hk]; rfl
    have HKK := Lib.hid hk
    clear hk
    go_wp2_with (first
      | go_skip
      | (refine wpList_runs HW.out rfl (runs_ldR 1 (ty := 35) (n := 35) (m := Ed.segs r.ed) rfl rfl rfl rfl Try.underlying35 rfl (by kernel_rfl)) ?_; simp only [put_rules])
      | (refine wpList_runs HW.out rfl (runs_ld1 1 rfl rfl rfl rfl (by kernel_rfl)) ?_; simp only [put_rules])
      | (go_at_call 75; have hc := EditBytes_ok r.ed HR.out.ok.ed (by have := HB.out; omega) _ _ HW.out; with_reducible refine hc.mono ?_; clear hc
         rintro e w3 ⟨v, rfl, hw'⟩
         obtain ⟨A1, n1, c1, rfl, hn1, hc1, -⟩ := hw'.own_form
         clear HW; have HW := Lib.hid hw'; clear hw'; (try simp only [hps_rules] at HW))
      | (refine wpList_parts HW.out rfl rfl Try.underlying87 (z := .slice none 0 0) (by kernel_rfl) [⟨Ab, nb, cb, r.pre⟩, ⟨A1, n1, c1, encE r.ed⟩] rfl rfl (by decide) (by decide) (fun gp w' hw' => ?_)
         clear HW; have HW := Lib.hid hw'; clear hw'; (try simp only [hps_rules] at HW); (try simp only [put_rules]))
      | (go_at_call 73; have hc := join_ok (some ⟨gp, 0, none⟩) 2 2 [⟨Ab, nb, cb, r.pre⟩, ⟨A1, n1, c1, encE r.ed⟩] _ _ HW.out (Ent.parts rfl (Ent.oks (Ent.own.cons _) hnb hcb (Ent.oks Ent.own hn1 hc1 Ent.oks_nil))) rfl (by omega) (by have := HB.out; simp [bsAll]; omega); with_reducible refine hc.mono ?_; clear hc
         rintro e w3 ⟨v, rfl, hw'⟩
         clear HW; have HW := Lib.hid hw'; clear hw'; (try simp only [hps_rules] at HW)))
    go_returns
    refine ⟨_, rfl, ?_⟩
    have := HW.out |>.drop 1 rfl |>.drop 1 rfl |>.drop 1 rfl |>.drop 1 rfl
    rw [encR_pre, if_pos HKK.out]
    simpa [bsAll] using this
  · skip
    have e1 : (r.kind == 1) = false := beq_eq_false_iff_ne.2 (by omega)
    have e2 : (r.kind == 2) = true := by rw [hk]; rfl
    have HKK := Lib.hid hk
    clear hk
    go_wp2_with (first
      | go_skip
      | (refine wpList_runs HW.out rfl (runs_ldR 1 (ty := 35) (n := 35) (m := Ed.segs r.ed) rfl rfl rfl rfl Try.underlying35 rfl (by kernel_rfl)) ?_; simp only [put_rules])
      | (refine wpList_runs HW.out rfl (runs_ld1 1 rfl rfl rfl rfl (by kernel_rfl)) ?_; simp only [put_rules]))
    refine wp_region_untilA 11 (by kernel_rfl) HW.out (fun w' hw' => ?_)
    clear HW; have HW := Lib.hid hw'; have HC := Lib.hid hw'; clear hw'
    simp only [rep_rules]
    first
    | (refine takeE 0 rfl rfl ((runs_ldR 1 (ty := 35) (n := 35) (m := Ed.segs r.ed) rfl rfl rfl rfl Try.underlying35 rfl (by kernel_rfl))) HC.out (by kernel_rfl) (fun _ _ _ h => h) ?_)
    | (refine takeE 0 rfl rfl ((runs_ld1 1 rfl rfl rfl rfl (by kernel_rfl))) HC.out (by kernel_rfl) (fun _ _ _ h => h) ?_)
    | (refine takeE 0 (v := ?_) rfl rfl (runs_of fun w => ?_) HC.out (by kernel_rfl) (fun _ _ _ h => h) ?_
       rotate_left
       · go_simp <;> (try with_reducible rfl))
    try simp only [put_rules]
    first
    | (refine takeE 1 rfl rfl ((runs_ldR 1 (ty := 35) (n := 35) (m := Ed.segs r.ed) rfl rfl rfl rfl Try.underlying35 rfl (by kernel_rfl))) HC.out (by kernel_rfl) (fun _ _ _ h => h) ?_)
    | (refine takeE 1 rfl rfl ((runs_ld1 1 rfl rfl rfl rfl (by kernel_rfl))) HC.out (by kernel_rfl) (fun _ _ _ h => h) ?_)
    | (refine takeE 1 (v := ?_) rfl rfl (runs_of fun w => ?_) HC.out (by kernel_rfl) (fun _ _ _ h => h) ?_
       rotate_left
       · go_simp <;> (try with_reducible rfl))
    try simp only [put_rules]
    first
    | (refine takeE 2 rfl rfl ((runs_ldR 1 (ty := 35) (n := 35) (m := Ed.segs r.ed) rfl rfl rfl rfl Try.underlying35 rfl (by kernel_rfl))) HC.out (by kernel_rfl) (fun _ _ _ h => h) ?_)
    | (refine takeE 2 rfl rfl ((runs_ld1 1 rfl rfl rfl rfl (by kernel_rfl))) HC.out (by kernel_rfl) (fun _ _ _ h => h) ?_)
    | (refine takeE 2 (v := ?_) rfl rfl (runs_of fun w => ?_) HC.out (by kernel_rfl) (fun _ _ _ h => h) ?_
       rotate_left
       · go_simp <;> (try with_reducible rfl))
    try simp only [put_rules]
    first
    | (refine takeE 4 rfl rfl ((runs_ldR 1 (ty := 35) (n := 35) (m := Ed.segs r.ed) rfl rfl rfl rfl Try.underlying35 rfl (by kernel_rfl))) HC.out (by kernel_rfl) (fun _ _ _ h => h) ?_)
    | (refine takeE 4 rfl rfl ((runs_ld1 1 rfl rfl rfl rfl (by kernel_rfl))) HC.out (by kernel_rfl) (fun _ _ _ h => h) ?_)
    | (refine takeE 4 (v := ?_) rfl rfl (runs_of fun w => ?_) HC.out (by kernel_rfl) (fun _ _ _ h => h) ?_
       rotate_left
       · go_simp <;> (try with_reducible rfl))
    try simp only [put_rules]
    first
    | (refine takeE 5 rfl rfl ((runs_ldR 1 (ty := 35) (n := 35) (m := Ed.segs r.ed) rfl rfl rfl rfl Try.underlying35 rfl (by kernel_rfl))) HC.out (by kernel_rfl) (fun _ _ _ h => h) ?_)
    | (refine takeE 5 rfl rfl ((runs_ld1 1 rfl rfl rfl rfl (by kernel_rfl))) HC.out (by kernel_rfl) (fun _ _ _ h => h) ?_)
    | (refine takeE 5 (v := ?_) rfl rfl (runs_of fun w => ?_) HC.out (by kernel_rfl) (fun _ _ _ h => h) ?_
       rotate_left
       · go_simp <;> (try with_reducible rfl))
    try simp only [put_rules]
    first
    | (refine takeE 7 rfl rfl ((runs_ldR 1 (ty := 35) (n := 35) (m := Ed.segs r.ed) rfl rfl rfl rfl Try.underlying35 rfl (by kernel_rfl))) HC.out (by kernel_rfl) (fun _ _ _ h => h) ?_)
    | (refine takeE 7 rfl rfl ((runs_ld1 1 rfl rfl rfl rfl (by kernel_rfl))) HC.out (by kernel_rfl) (fun _ _ _ h => h) ?_)
    | (refine takeE 7 (v := ?_) rfl rfl (runs_of fun w => ?_) HC.out (by kernel_rfl) (fun _ _ _ h => h) ?_
       rotate_left
       · go_simp <;> (try with_reducible rfl))
    try simp only [put_rules]
    first
    | (refine takeE 8 rfl rfl ((runs_ldR 1 (ty := 35) (n := 35) (m := Ed.segs r.ed) rfl rfl rfl rfl Try.underlying35 rfl (by kernel_rfl))) HC.out (by kernel_rfl) (fun _ _ _ h => h) ?_)
    | (refine takeE 8 rfl rfl ((runs_ld1 1 rfl rfl rfl rfl (by kernel_rfl))) HC.out (by kernel_rfl) (fun _ _ _ h => h) ?_)
    | (refine takeE 8 (v := ?_) rfl rfl (runs_of fun w => ?_) HC.out (by kernel_rfl) (fun _ _ _ h => h) ?_
       rotate_left
       · go_simp <;> (try with_reducible rfl))
    try simp only [put_rules]
    refine effE 3 rfl (by kernel_rfl) ?_
    refine wpList_callG 74 rfl Try.func74 HK2.out (al := [.int .u64 (r.base : Int), .int .i64 4]) rfl rfl (rnumb_at2 r.base 4 4 rfl (by omega) _ _ HW.out) ?_
    rintro ex w3 ⟨v, rfl, hw'⟩
    obtain ⟨A2, n2, c2, rfl, hn2, hc2, -⟩ := hw'.own_form
    refine ⟨_, rfl, ?_⟩
    clear HW; have HW := Lib.hid hw'; clear hw'; (try simp only [hps_rules] at HW)
    try simp only [put_rules]
    refine wpList_behind (And.intro (fun _ => (by exact HW.out.tail)) ?_)
    refine effE 6 rfl (by kernel_rfl) ?_
    refine wpList_callG 75 rfl Try.func75 HK4.out (al := [.agg (flat r.ed.segs).toArray]) rfl rfl (EditBytes_ok r.ed HR.out.ok.ed (by have := HB.out; omega) _ _ HW.out) ?_
    rintro ex w3 ⟨v, rfl, hw'⟩
    obtain ⟨A3, n3, c3, rfl, hn3, hc3, -⟩ := hw'.own_form
    refine ⟨_, rfl, ?_⟩
    clear HW; have HW := Lib.hid hw'; clear hw'; (try simp only [hps_rules] at HW)
    try simp only [put_rules]
    refine wpList_behind (And.intro (fun _ => (by exact HW.out.tail.tail)) ?_)
    refine effE 9 rfl (by kernel_rfl) ?_
    refine wpList_parts HW.out rfl rfl Try.underlying87 (z := .slice none 0 0) (by kernel_rfl) [⟨Ab, nb, cb, r.pre⟩, ⟨A2, n2, c2, beL r.base 4⟩, ⟨A3, n3, c3, encE r.ed⟩, ⟨some ⟨gb, 38, none⟩, 32, 32, r.root⟩] rfl rfl (by decide) (by decide) (fun gp w' hw' => ?_)
    clear HW; have HW := Lib.hid hw'; clear hw'; (try simp only [hps_rules] at HW)
    try simp only [put_rules]
    refine wpList_behind (And.intro (fun _ => (by exact HW.out.tail.tail.tail)) ?_)
    refine effE 10 rfl (by kernel_rfl) ?_
    refine wpList_callG 73 rfl Try.func73 HK3.out (al := [.slice (some ⟨gp, 0, none⟩) 4 4]) rfl rfl (join_ok (some ⟨gp, 0, none⟩) 4 4 [⟨Ab, nb, cb, r.pre⟩, ⟨A2, n2, c2, beL r.base 4⟩, ⟨A3, n3, c3, encE r.ed⟩, ⟨some ⟨gb, 38, none⟩, 32, 32, r.root⟩] _ _ HW.out (Ent.parts rfl (Ent.oks (Ent.own.cons _ |>.cons _) hnb hcb (Ent.oks (Ent.own.cons _) hn2 hc2 (Ent.oks Ent.own hn3 hc3 (Ent.oks (Ent.sblk (i := 3) (n := 32) (T := 38) (S := r.segs) rfl rfl) HR.out.ok.root.symm (by omega) Ent.oks_nil))))) rfl (by omega) (by have := HB.out; simp [bsAll]; omega)) ?_
    rintro ex w2 ⟨v, rfl, hw'⟩
    refine ⟨_, rfl, ?_⟩
    clear HW; have HW := Lib.hid hw'; clear hw'; (try simp only [hps_rules] at HW)
    try simp only [put_rules]
    refine wpList_behind (And.intro (fun _ => (by exact HW.out.tail.tail.tail.tail)) ?_)
    refine effE 11 rfl (by kernel_rfl) ?_
    refine wpList_runs HW.out rfl (v := ?_) (runs_of fun w => ?_) ?_
    rotate_left
    · go_simp <;> (try with_reducible rfl)
    try simp only [put_rules]
    refine wpList_behind (And.intro (fun h => Bool.noConfusion (show true = false from h)) ?_)
    refine doneE (by kernel_rfl) ?_ _
    go_wp2
    go_returns
    refine ⟨_, rfl, ?_⟩
    have := HW.out |>.drop 1 rfl |>.drop 1 rfl |>.drop 1 rfl |>.drop 1 rfl |>.drop 1 rfl
    rw [encR_pre, if_neg (show ¬ r.kind = 1 by rw [HKK.out]; decide), if_pos HKK.out]
    simpa [bsAll] using this
  · skip
    have hcw : IntKind.u8.wrap r.code = (r.cb.toNat : Int) := by
      have := HG.out.code hk
      unfold Rec.cb
      rw [UInt8.toNat_ofNat']
      simp [IntKind.wrap, IntKind.signed, IntKind.bits]
      omega
    have e1 : (r.kind == 1) = false := beq_eq_false_iff_ne.2 (by omega)
    have e2 : (r.kind == 2) = false := beq_eq_false_iff_ne.2 (by omega)
    have e3 : (r.kind == 3) = true := by rw [hk]; rfl
    have HKK := Lib.hid hk
    clear hk
    go_wp2_with (first
      | go_skip
      | (refine wpList_runs HW.out rfl (runs_ldR 1 (ty := 35) (n := 35) (m := Ed.segs r.ed) rfl rfl rfl rfl Try.underlying35 rfl (by kernel_rfl)) ?_; simp only [put_rules])
      | (refine wpList_runs HW.out rfl (runs_ld1 1 rfl rfl rfl rfl (by kernel_rfl)) ?_; simp only [put_rules])
      | (refine wpList_byte1 HW.out rfl rfl Try.underlying51 (by kernel_rfl) (b := r.cb) rfl (fun gc w' hw' => ?_)
         clear HW; have HW := Lib.hid hw'; clear hw'; (try simp only [hps_rules] at HW); (try simp only [put_rules]))
      | (refine wpList_app_sl rfl _ _ 51 rfl Try.underlying51 (by kernel_rfl) _ r.pre (HW.out.pull 1 rfl) rfl _ [r.cb] 1 1 rfl rfl HW.out.own_rd (by have := HB.out; simp; omega) (fun v' w' hw' => ?_)
         clear HW; have HW := Lib.hid hw'; clear hw'; (try simp only [hps_rules] at HW); (try simp only [put_rules])))
    go_returns
    refine ⟨_, rfl, ?_⟩
    have := HW.out.drop 1 rfl |>.drop 1 rfl
    rw [encR_pre, if_neg (show ¬ r.kind = 1 by rw [HKK.out]; decide), if_neg (show ¬ r.kind = 2 by rw [HKK.out]; decide), if_pos HKK.out, beL_one]
    exact this
  · skip
    have e1 : (r.kind == 1) = false := beq_eq_false_iff_ne.2 (by omega)
    have e2 : (r.kind == 2) = false := beq_eq_false_iff_ne.2 (by omega)
    have e3 : (r.kind == 3) = false := beq_eq_false_iff_ne.2 (by omega)
    have e4 : (r.kind == 4) = true := by rw [hk]; rfl
    have HKK := Lib.hid hk
    clear hk
    go_wp2_with (first
      | go_skip
      | (refine wpList_runs HW.out rfl (runs_ldR 1 (ty := 35) (n := 35) (m := Ed.segs r.ed) rfl rfl rfl rfl Try.underlying35 rfl (by kernel_rfl)) ?_; simp only [put_rules])
      | (refine wpList_runs HW.out rfl (runs_ld1 1 rfl rfl rfl rfl (by kernel_rfl)) ?_; simp only [put_rules]))
    refine wp_region_untilA 9 (by kernel_rfl) HW.out (fun w' hw' => ?_)
    clear HW; have HW := Lib.hid hw'; have HC := Lib.hid hw'; clear hw'
    simp only [rep_rules]
    first
    | (refine takeE 0 rfl rfl (runs_ld1 1 rfl rfl rfl rfl (by kernel_rfl)) HC.out (by kernel_rfl) (fun _ _ _ h => h) ?_)
    | (refine takeE 0 (v := ?_) rfl rfl (runs_of fun w => ?_) HC.out (by kernel_rfl) (fun _ _ _ h => h) ?_
       rotate_left
       · go_simp <;> (try with_reducible rfl))
    try simp only [put_rules]
    first
    | (refine takeE 1 rfl rfl (runs_ld1 1 rfl rfl rfl rfl (by kernel_rfl)) HC.out (by kernel_rfl) (fun _ _ _ h => h) ?_)
    | (refine takeE 1 (v := ?_) rfl rfl (runs_of fun w => ?_) HC.out (by kernel_rfl) (fun _ _ _ h => h) ?_
       rotate_left
       · go_simp <;> (try with_reducible rfl))
    try simp only [put_rules]
    first
    | (refine takeE 2 rfl rfl (runs_ld1 1 rfl rfl rfl rfl (by kernel_rfl)) HC.out (by kernel_rfl) (fun _ _ _ h => h) ?_)
    | (refine takeE 2 (v := ?_) rfl rfl (runs_of fun w => ?_) HC.out (by kernel_rfl) (fun _ _ _ h => h) ?_
       rotate_left
       · go_simp <;> (try with_reducible rfl))
    try simp only [put_rules]
    first
    | (refine takeE 4 rfl rfl (runs_ld1 1 rfl rfl rfl rfl (by kernel_rfl)) HC.out (by kernel_rfl) (fun _ _ _ h => h) ?_)
    | (refine takeE 4 (v := ?_) rfl rfl (runs_of fun w => ?_) HC.out (by kernel_rfl) (fun _ _ _ h => h) ?_
       rotate_left
       · go_simp <;> (try with_reducible rfl))
    try simp only [put_rules]
    first
    | (refine takeE 5 rfl rfl (runs_ld1 1 rfl rfl rfl rfl (by kernel_rfl)) HC.out (by kernel_rfl) (fun _ _ _ h => h) ?_)
    | (refine takeE 5 (v := ?_) rfl rfl (runs_of fun w => ?_) HC.out (by kernel_rfl) (fun _ _ _ h => h) ?_
       rotate_left
       · go_simp <;> (try with_reducible rfl))
    try simp only [put_rules]
    refine effE 3 rfl (by kernel_rfl) ?_
    refine wpList_callG 76 rfl Try.func76 HK1.out (al := [.bool r.commit]) rfl rfl (rtruth22_ok HW.out r.commit) ?_
    rintro ex w3 ⟨v, rfl, hw'⟩
    obtain ⟨A2, n2, c2, rfl, hn2, hc2, -⟩ := hw'.own_form
    refine ⟨_, rfl, ?_⟩
    clear HW; have HW := Lib.hid hw'; clear hw'; (try simp only [hps_rules] at HW)
    try simp only [put_rules]
    refine wpList_behind (And.intro (fun _ => (by exact HW.out.tail)) ?_)
    refine effE 6 rfl (by kernel_rfl) ?_
    refine wpList_callG 76 rfl Try.func76 HK1.out (al := [.bool r.has]) rfl rfl (rtruth22_ok HW.out r.has) ?_
    rintro ex w3 ⟨v, rfl, hw'⟩
    obtain ⟨A3, n3, c3, rfl, hn3, hc3, -⟩ := hw'.own_form
    refine ⟨_, rfl, ?_⟩
    clear HW; have HW := Lib.hid hw'; clear hw'; (try simp only [hps_rules] at HW)
    try simp only [put_rules]
    refine wpList_behind (And.intro (fun _ => (by exact HW.out.tail.tail)) ?_)
    refine effE 7 rfl (by kernel_rfl) ?_
    refine wpList_parts HW.out rfl rfl Try.underlying87 (z := .slice none 0 0) (by kernel_rfl) [⟨Ab, nb, cb, r.pre⟩, ⟨A2, n2, c2, beL (bitN r.commit) 1⟩, ⟨A3, n3, c3, beL (bitN r.has) 1⟩] rfl rfl (by decide) (by decide) (fun gp w' hw' => ?_)
    clear HW; have HW := Lib.hid hw'; clear hw'; (try simp only [hps_rules] at HW)
    try simp only [put_rules]
    refine wpList_behind (And.intro (fun _ => (by exact HW.out.tail.tail.tail)) ?_)
    refine effE 8 rfl (by kernel_rfl) ?_
    refine wpList_callG 73 rfl Try.func73 HK3.out (al := [.slice (some ⟨gp, 0, none⟩) 3 3]) rfl rfl (join_ok (some ⟨gp, 0, none⟩) 3 3 [⟨Ab, nb, cb, r.pre⟩, ⟨A2, n2, c2, beL (bitN r.commit) 1⟩, ⟨A3, n3, c3, beL (bitN r.has) 1⟩] _ _ HW.out (Ent.parts rfl (Ent.oks (Ent.own.cons _ |>.cons _) hnb hcb (Ent.oks (Ent.own.cons _) hn2 hc2 (Ent.oks Ent.own hn3 hc3 Ent.oks_nil)))) rfl (by omega) (by have := HB.out; simp [bsAll]; omega)) ?_
    rintro ex w2 ⟨v, rfl, hw'⟩
    refine ⟨_, rfl, ?_⟩
    clear HW; have HW := Lib.hid hw'; clear hw'; (try simp only [hps_rules] at HW)
    try simp only [put_rules]
    refine wpList_behind (And.intro (fun _ => (by exact HW.out.tail.tail.tail.tail)) ?_)
    refine effE 9 rfl (by kernel_rfl) ?_
    refine wpList_runs HW.out rfl (v := ?_) (runs_of fun w => ?_) ?_
    rotate_left
    · go_simp <;> (try with_reducible rfl)
    try simp only [put_rules]
    refine wpList_behind (And.intro (fun h => Bool.noConfusion (show true = false from h)) ?_)
    refine doneE (by kernel_rfl) ?_ _
    replace HW : Hid (Holds w2 (own v (r.pre ++ (beL (bitN r.commit) 1 ++ beL (bitN r.has) 1)) :: sblk gb 38 r.segs :: R)) := by
      have := HW.out.drop 1 rfl |>.drop 1 rfl |>.drop 1 rfl |>.drop 1 rfl
      rw [show bsAll [⟨Ab, nb, cb, r.pre⟩, ⟨A2, n2, c2, beL (bitN r.commit) 1⟩, ⟨A3, n3, c3, beL (bitN r.has) 1⟩] = r.pre ++ (beL (bitN r.commit) 1 ++ beL (bitN r.has) 1) from by simp [bsAll]] at this
      exact this
    obtain ⟨A5, n5, c5, rfl, hn5, hc5, -⟩ := HW.out.own_form
    obtain ⟨hz, HZ⟩ : ∃ b, r.has = b := ⟨_, rfl⟩
    cases hz
    · have HZZ := Lib.hid HZ
      go_wp2_with (first
        | go_skip
        | (refine wpList_runs HW.out rfl (runs_ldR 1 (ty := 35) (n := 35) (m := Ed.segs r.ed) rfl rfl rfl rfl Try.underlying35 rfl (by kernel_rfl)) ?_; simp only [put_rules, HZ])
        | (refine wpList_runs HW.out rfl (runs_ld1 1 rfl rfl rfl rfl (by kernel_rfl)) ?_; simp only [put_rules, HZ]))
      go_returns
      refine ⟨_, rfl, ?_⟩
      have := HW.out.drop 1 rfl
      rw [encR_pre, if_neg (show ¬ r.kind = 1 by rw [HKK.out]; decide), if_neg (show ¬ r.kind = 2 by rw [HKK.out]; decide), if_neg (show ¬ r.kind = 3 by rw [HKK.out]; decide), if_neg (by rw [HZZ.out]; decide), List.append_nil]
      exact this
    · have HZZ := Lib.hid HZ
      go_wp2_with (first
        | go_skip
        | (refine wpList_runs HW.out rfl (runs_ldR 1 (ty := 35) (n := 35) (m := Ed.segs r.ed) rfl rfl rfl rfl Try.underlying35 rfl (by kernel_rfl)) ?_; simp only [put_rules, HZ])
        | (refine wpList_runs HW.out rfl (runs_ld1 1 rfl rfl rfl rfl (by kernel_rfl)) ?_; simp only [put_rules, HZ])
        | (go_at_call 77; have hc := rtext_okR HW.out r.text (by have := HB.out; omega); with_reducible refine hc.mono ?_; clear hc
           rintro e w3 ⟨v, rfl, hw'⟩
           obtain ⟨A1, n1, c1, rfl, hn1, hc1, -⟩ := hw'.own_form
           clear HW; have HW := Lib.hid hw'; clear hw'; (try simp only [hps_rules] at HW))
        | (refine wpList_parts HW.out rfl rfl Try.underlying87 (z := .slice none 0 0) (by kernel_rfl) [⟨A5, n5, c5, r.pre ++ (beL (bitN r.commit) 1 ++ beL (bitN r.has) 1)⟩, ⟨A1, n1, c1, beL r.text.length 2 ++ r.text⟩] rfl rfl (by decide) (by decide) (fun gp w' hw' => ?_)
           clear HW; have HW := Lib.hid hw'; clear hw'; (try simp only [hps_rules] at HW); (try simp only [put_rules]))
        | (go_at_call 73; have hc := join_ok (some ⟨gp, 0, none⟩) 2 2 [⟨A5, n5, c5, r.pre ++ (beL (bitN r.commit) 1 ++ beL (bitN r.has) 1)⟩, ⟨A1, n1, c1, beL r.text.length 2 ++ r.text⟩] _ _ HW.out (Ent.parts rfl (Ent.oks (Ent.own.cons _) hn5 hc5 (Ent.oks Ent.own hn1 hc1 Ent.oks_nil))) rfl (by omega) (by have := HB.out; simp [bsAll]; omega); with_reducible refine hc.mono ?_; clear hc
           rintro e w3 ⟨v, rfl, hw'⟩
           clear HW; have HW := Lib.hid hw'; clear hw'; (try simp only [hps_rules] at HW)))
      go_returns
      refine ⟨_, rfl, ?_⟩
      have := HW.out.drop 1 rfl |>.drop 1 rfl |>.drop 1 rfl |>.drop 1 rfl
      rw [encR_pre, if_neg (show ¬ r.kind = 1 by rw [HKK.out]; decide), if_neg (show ¬ r.kind = 2 by rw [HKK.out]; decide), if_neg (show ¬ r.kind = 3 by rw [HKK.out]; decide), if_pos HZZ.out]
      simpa [bsAll] using this
end Go.Proofs.Ytaieonajialenaa
