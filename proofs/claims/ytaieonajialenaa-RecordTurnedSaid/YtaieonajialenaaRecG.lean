/- RecordApart. -/
import Derived.Test.YtaieonajialenaaRecE
import Derived.Test.YtaieonajialenaaRecInj
namespace Go.Proofs.Ytaieonajialenaa
open Go.RowKit HP

theorem kept_of {P : Program} {f : FuncId} {args : Array Value} {w : World} {v : Value} (h : Calls P f args w fun e w' => e = .returned v ∧ Holds w' [since w]) : Calls P f args w fun e w' => e = .returned v ∧ Kept w w' No :=
  h.mono fun _ _ ⟨he, hw⟩ => ⟨he, hw.since_kept⟩
def fewR (r : Rec) : Bool := decide (r.ed.s.length ≤ 1000) && decide (r.text.length ≤ 4000)
theorem fewrec_ok (r : Rec) (h : r.Ok) (w : World) (R : List HP) (hh : Holds w R) :
    Calls Try.prog 25 #[.agg r.cells.toArray] w fun e w' => e = .returned (.bool (fewR r)) ∧ Holds w' R := by
  have h0 := hh.alloc 38 r.cells.toArray
  have c3 := (h0.cells 3).trans Rec.get3
  have c73 := (h0.cells 73).trans (Rec.get73 h)
  have HH := Lib.hid h0
  generalize hcr : r.cells.toArray = CR at *
  clear h0 hh hcr h
  have n1 := strSize r.ed.s
  have n2 := strSize r.text
  by_cases h1 : r.ed.s.length ≤ 1000
  · by_cases h2 : r.text.length ≤ 4000
    · have HF : Hid (fewR r = true) := by unfold Hid; simp [fewR, h1, h2]
      have d1 : decide (((strOf r.ed.s).size : Int) ≤ 1000) = true := decide_eq_true (by omega)
      have d2 : decide (((strOf r.text).size : Int) ≤ 4000) = true := decide_eq_true (by omega)
      clear h1 h2 n1 n2
      go_enter Try.func25, Try.ntmps25
      go_wp2
      go_returns
      exact ⟨by rw [HF.out]; rfl, HH.out.tail⟩
    · have HF : Hid (fewR r = false) := by unfold Hid; simp [fewR, h2]
      have d1 : decide (((strOf r.ed.s).size : Int) ≤ 1000) = true := decide_eq_true (by omega)
      have d2 : decide (((strOf r.text).size : Int) ≤ 4000) = false := decide_eq_false (by omega)
      clear h1 h2 n1 n2
      go_enter Try.func25, Try.ntmps25
      go_wp2
      go_returns
      exact ⟨by rw [HF.out]; rfl, HH.out.tail⟩
  · have HF : Hid (fewR r = false) := by unfold Hid; simp [fewR, h1]
    have d1 : decide (((strOf r.ed.s).size : Int) ≤ 1000) = false := decide_eq_false (by omega)
    clear h1 n1 n2
    go_enter Try.func25, Try.ntmps25
    go_wp2
    go_returns
    exact ⟨by rw [HF.out]; rfl, HH.out.tail⟩
def awR : Rec := ⟨3, 1, 0, Ed.zero, zeros 32, 15, false, false, []⟩
theorem awR_ok : awR.Ok := ⟨Ed.zero_ok, length_zeros 32⟩
theorem awR_wf : awR.Wf := ⟨awR_ok, Ed.zero_wf, by decide, by decide, by decide, by decide, by decide, by decide, by decide⟩
theorem awR_build : ((Try.zeroCells37.setIfInBounds 0 (.int .i64 3)).setIfInBounds 1 (.int .u64 1)).setIfInBounds 70 (.int .i64 15) = awR.cells.toArray := by
  rw [Try.zeroRecord]; rfl
theorem awR_formed : formedR awR = true := (formedR_iff _).2 ⟨by decide, by decide, by decide, by decide, by decide, by decide, by decide, fun _ => by decide, fun h => Bool.noConfusion (show false = true from h), by simp [bareR, awR, Rec.zero]⟩
theorem awR_len : (encR awR).length = 6 := by simp [encR, awR]
theorem rcawake_ok (w : World) (R : List HP) (hh : Holds w R) :
    Calls Try.prog 24 #[] w fun e w' => e = .returned (.bool true) ∧ Holds w' R := by
  have HB := Lib.hid awR_build
  have HH := Lib.hid hh; clear hh
  go_enter Try.func24, Try.ntmps24
  go_wp2_with fail
  rw [HB.out]
  refine (rcEncode_ok awR awR_wf _ _ HH.out).mono ?_
  rintro e w1 ⟨v, rfl, h1⟩
  rw [if_pos awR_formed] at h1 ⊢
  obtain ⟨A, n, c, rfl, hn, hc, hr⟩ := h1.own_form
  have hn6 : n = 6 := by rw [hn.out, awR_len]
  subst hn6
  have H1 := Lib.hid h1.tail; clear h1 hn hc hr
  go_wp2
  go_returns
  exact ⟨rfl, H1.out⟩
set_option maxRecDepth 100000 in
set_option maxHeartbeats 4000000 in
theorem recordApart_ok (a b : Rec) (wa : a.Wf) (wb : b.Wf) (w : World) (R : List HP) (hh : Holds w R) :
    Calls Try.prog 4 #[.agg a.cells.toArray, .agg b.cells.toArray] w fun e w' => e = .returned (.bool true) ∧ Holds w' R := by
  have HKa := Lib.hid wa.ok
  have HKb := Lib.hid wb.ok
  have HWa := Lib.hid wa
  have HWb := Lib.hid wb
  have HE := Lib.hid (run_equal_rec (T := 38) (.inr rfl) wa wb)
  have hh2 : Holds ((w.alloc (.cells a.cells.toArray 38)).alloc (.cells b.cells.toArray 38)) (blk (w.heap.size + 1) 38 b.cells.toArray :: blk w.heap.size 38 a.cells.toArray :: R) := by
    have := (hh.alloc 38 a.cells.toArray).alloc 38 b.cells.toArray
    rwa [heap_size_alloc] at this
  have HH := Lib.hid hh2
  have HFab := Lib.hid (fun x y => encR_inj (a := a) (b := b) wa.ok wb.ok x y)
  clear hh hh2 wa wb
  obtain ⟨CA, HCA⟩ : ∃ CA, Hid (a.cells.toArray = CA) := ⟨_, rfl⟩
  obtain ⟨CB, HCB⟩ : ∃ CB, Hid (b.cells.toArray = CB) := ⟨_, rfl⟩
  rw [HCA.out, HCB.out] at HH ⊢
  go_enter Try.func4, Try.ntmps4
  go_wp2_with fail
  refine (rcawake_ok _ _ HH.out).mono ?_
  rintro e w1 ⟨rfl, h1⟩
  have LA : Hid (w1.rangeAt w.heap.size 0 a.cells) := by
    have := (h1.pull 1 rfl).blk
    rw [← HCA.out] at this
    exact this.range
  have H1 := Lib.hid h1; clear h1 HH
  cases hfa : fewR a
  · have HFA := Lib.hid hfa; clear hfa
    go_wp2_with (refine wpList_load_midg rfl 38 (.tmp 2) rfl w.heap.size 0 rfl a.cells _ LA.out Try.underlying38 rfl (Rec.sizeLR HKa.out) ?_; simp only [Act.put, List.setIfInBounds_toArray, List.set_cons_zero, List.set_cons_succ])
    refine (fewrec_ok a HKa.out _ _ H1.out).mono ?_
    rintro e w2 ⟨rfl, h2⟩
    rw [HFA.out]
    have H2 := Lib.hid h2; clear h2
    go_wp2_with fail
    refine (rcawake_ok _ _ H2.out).mono ?_
    rintro e w9 ⟨rfl, h9⟩
    have H9 := Lib.hid h9.tail.tail; clear h9
    go_wp2
    go_returns
    exact ⟨rfl, H9.out⟩
  have HFA := Lib.hid hfa; clear hfa
  go_wp2_with (refine wpList_load_midg rfl 38 (.tmp 2) rfl w.heap.size 0 rfl a.cells _ LA.out Try.underlying38 rfl (Rec.sizeLR HKa.out) ?_; simp only [Act.put, List.setIfInBounds_toArray, List.set_cons_zero, List.set_cons_succ])
  refine (fewrec_ok a HKa.out _ _ H1.out).mono ?_
  rintro e w2 ⟨rfl, h2⟩
  rw [HFA.out]
  have LB : Hid (w2.rangeAt (w.heap.size + 1) 0 b.cells) := by
    have := (h2).blk
    rw [← HCB.out] at this
    exact this.range
  have H2 := Lib.hid h2; clear h2
  go_wp2_with (refine wpList_load_midg rfl 38 (.tmp 3) rfl (w.heap.size + 1) 0 rfl b.cells _ LB.out Try.underlying38 rfl (Rec.sizeLR HKb.out) ?_; simp only [Act.put, List.setIfInBounds_toArray, List.set_cons_zero, List.set_cons_succ])
  refine (fewrec_ok b HKb.out _ _ H2.out).mono ?_
  rintro e w3 ⟨rfl, h3⟩
  have LA3 : Hid (w3.rangeAt w.heap.size 0 a.cells) := by
    have := (h3.pull 1 rfl).blk
    rw [← HCA.out] at this
    exact this.range
  have H3 := Lib.hid h3; clear h3
  cases hfb : fewR b
  · clear hfb
    go_wp2_with fail
    refine (rcawake_ok _ _ H3.out).mono ?_
    rintro e w9 ⟨rfl, h9⟩
    have H9 := Lib.hid h9.tail.tail; clear h9
    go_wp2
    go_returns
    exact ⟨rfl, H9.out⟩
  clear hfb
  go_wp2_with (refine wpList_load_mid rfl 38 (.tmp 2) rfl w.heap.size 0 rfl a.cells _ LA3.out Try.underlying38 rfl (Rec.sizeLR HKa.out) ?_; simp only [Act.put, List.setIfInBounds_toArray, List.set_cons_zero, List.set_cons_succ])
  refine (rcEncode_ok a HWa.out _ _ H3.out).mono ?_
  rintro e w4 ⟨v4, rfl, h4⟩
  obtain ⟨ea, EA⟩ : ∃ ea : Int, Hid ((if formedR a = true then 0 else 1) = ea) := ⟨_, rfl⟩
  rw [EA.out]
  have LB4 : Hid (w4.rangeAt (w.heap.size + 1) 0 b.cells) := by
    have := (h4.pull 1 rfl).blk
    rw [← HCB.out] at this
    exact this.range
  have H4 := Lib.hid h4; clear h4
  go_wp2_with (refine wpList_load_mid rfl 38 (.tmp 3) rfl (w.heap.size + 1) 0 rfl b.cells _ LB4.out Try.underlying38 rfl (Rec.sizeLR HKb.out) ?_; simp only [Act.put, List.setIfInBounds_toArray, List.set_cons_zero, List.set_cons_succ])
  refine (rcEncode_ok b HWb.out _ _ H4.out).mono ?_
  rintro e w5 ⟨v5, rfl, h5⟩
  obtain ⟨eb, EB⟩ : ∃ eb : Int, Hid ((if formedR b = true then 0 else 1) = eb) := ⟨_, rfl⟩
  rw [EB.out]
  have H5 := Lib.hid h5; clear h5
  cases hga : formedR a
  · obtain rfl : ea = 1 := by rw [← EA.out, hga]; rfl
    have HX := Lib.hid H5.out.tail.tail
    clear hga
    go_wp2_with fail
    refine wp_region_quietC (fun v => Holds v (blk (w.heap.size + 1) 38 CB :: blk w.heap.size 38 CA :: R)) (by kernel_rfl) (by kernel_rfl) (HX.out.drewN 1) ?_
    repeat (first
      | go_big_quiet_skip
      | (go_big_quiet_want
         refine quietV ?_ (fun v hv => ?_) ?_
         rotate_left
         · clear hv; go_simp <;> (try with_reducible rfl)
         simp only [Act.put, List.setIfInBounds_toArray, List.set_cons_zero, List.set_cons_succ]
         go_big_quiet_on))
    refine wpQuiet_nil (fun w' hw' => ?_)
    go_wp2
    go_returns
    exact ⟨rfl, hw'.tail.tail⟩
  cases hgb : formedR b
  · obtain rfl : ea = 0 := by rw [← EA.out, hga]; rfl
    obtain rfl : eb = 1 := by rw [← EB.out, hgb]; rfl
    have HX := Lib.hid H5.out.tail.tail
    clear hga hgb
    go_wp2_with fail
    refine wp_region_quietC (fun v => Holds v (blk (w.heap.size + 1) 38 CB :: blk w.heap.size 38 CA :: R)) (by kernel_rfl) (by kernel_rfl) (HX.out.drewN 1) ?_
    repeat (first
      | go_big_quiet_skip
      | (go_big_quiet_want
         refine quietV ?_ (fun v hv => ?_) ?_
         rotate_left
         · clear hv; go_simp <;> (try with_reducible rfl)
         simp only [Act.put, List.setIfInBounds_toArray, List.set_cons_zero, List.set_cons_succ]
         go_big_quiet_on))
    refine wpQuiet_nil (fun w' hw' => ?_)
    go_wp2
    go_returns
    exact ⟨rfl, hw'.tail.tail⟩
  obtain rfl : ea = 0 := by rw [← EA.out, hga]; rfl
  obtain rfl : eb = 0 := by rw [← EB.out, hgb]; rfl
  have h5 := H5.out
  rw [hga, hgb, if_pos rfl, if_pos rfl] at h5
  have HFX : Hid ((((strOf (encR a)).toList == (strOf (encR b)).toList) == sameR a b) = true) := by
    have key : (encR a == encR b) = sameR a b := by
      rw [Bool.eq_iff_iff, beq_iff_eq, sameR_iff]
      exact ⟨HFab.out ((formedR_iff a).1 hga) ((formedR_iff b).1 hgb), fun e => by rw [e]⟩
    unfold Hid
    rw [strOf_list, strOf_list, key]
    exact beq_self_eq_true _
  obtain ⟨A5, n5, c5, rfl, hn5, hc5, hr5⟩ := h5.own_form
  obtain ⟨A4, n4, c4, rfl, hn4, hc4, hr4⟩ := h5.tail.own_form
  have HX := Lib.hid h5
  clear hga hgb h5 hr5 hr4 hc5 hc4
  generalize encR a = xa at HX hn4 HFX
  generalize encR b = xb at HX hn5 HFX
  go_wp2_with fail
  refine wp_region_quietC (fun v => Holds v (own (.slice A5 n5 c5) xb :: own (.slice A4 n4 c4) xa :: blk (w.heap.size + 1) 38 CB :: blk w.heap.size 38 CA :: R)) (by kernel_rfl) (by kernel_rfl) (HX.out.drewN 1) ?_
  repeat (first
    | go_big_quiet_skip
    | (go_big_quiet_want
       first
       | (refine quietLoad 38 (.tmp 2) rfl w.heap.size 0 rfl a.cells _ (fun v hv => by have := (hv.pull 3 rfl).blk; rw [← HCA.out] at this; exact this.range) Try.underlying38 rfl (Rec.sizeLR HKa.out) ?_)
       | (refine quietLoad 38 (.tmp 3) rfl (w.heap.size + 1) 0 rfl b.cells _ (fun v hv => by have := (hv.pull 2 rfl).blk; rw [← HCB.out] at this; exact this.range) Try.underlying38 rfl (Rec.sizeLR HKb.out) ?_)
       | (refine quietV ?_ (fun v hv => ?_) ?_
          rotate_left
          · have he := HE.out
            have cv1 := conv_rd (c := c5) hn5.out hv.own_rd
            have cv2 := conv_rd (c := c4) hn4.out hv.tail.own_rd
            clear hv
            go_simp <;> (try with_reducible rfl))
       simp only [Act.put, List.setIfInBounds_toArray, List.set_cons_zero, List.set_cons_succ]
       go_big_quiet_on))
  refine wpQuiet_nil (fun w' hw' => ?_)
  go_wp2
  go_returns
  exact ⟨ret_bool HFX.out, hw'.tail.tail.tail.tail⟩
end Go.Proofs.Ytaieonajialenaa
