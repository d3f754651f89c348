/- record.Encode. -/
import Derived.Test.YtaieonajialenaaRecD
namespace Go.Proofs.Ytaieonajialenaa
open Go.RowKit HP

theorem Rec.codeN {r : Rec} (h : Formed r) (h3 : r.kind = 3) : r.code = ((r.code.toNat : Nat) : Int) := by have := h.code h3; omega
set_option maxRecDepth 100000 in
set_option maxHeartbeats 4000000 in
theorem rcEncode_ok (r : Rec) (h : r.Wf) (w : World) (R : List HP) (hh : Holds w R) :
    Calls Try.prog 26 #[.agg r.cells.toArray] w fun e w' => ∃ v, e = .returned (.tuple #[v, .int .i64 (if formedR r = true then 0 else 1)]) ∧ Holds w' (own v (if formedR r = true then encR r else []) :: R) := by
  have HH := Lib.hid (hh.alloc 37 r.cells.toArray)
  have HK := Lib.hid h.ok
  have HW := Lib.hid h
  have HR := Lib.hid (show (Try.prog.info? 33).map (·.size) = some (bcs r.root).length by rw [Try.sizeHash]; simp [h.ok.root])
  have HRG := Lib.hid (show (w.alloc (.cells r.cells.toArray 37)).rangeAt w.heap.size 0 r.cells from HH.out.blk.range)
  clear hh h
  generalize hcr : r.cells.toArray = CR at HH HRG ⊢
  have HCR := Lib.hid hcr; clear hcr
  cases hf : formedR r with
  | false =>
    have HF := Lib.hid hf; clear hf
    go_enter Try.func26, Try.ntmps26
    go_wp2_with (refine wpList_load_mid rfl 37 (.tmp 1) rfl w.heap.size 0 rfl r.cells _ HRG.out Try.underlying37 rfl (Rec.sizeL HK.out) ?_; simp only [Act.put, List.setIfInBounds_toArray, List.set_cons_zero, List.set_cons_succ])
    refine (formed_ok r HW.out _ _ HH.out).mono ?_
    rintro e w1 ⟨rfl, h1⟩
    rw [HF.out]
    have H1 := Lib.hid h1.tail; clear h1
    go_wp2_with fail
    go_returns
    exact ⟨_, rfl, H1.out.nil_own⟩
  | true =>
    have HF := Lib.hid hf
    have HG := Lib.hid ((formedR_iff r).1 hf)
    have HWB := Lib.hid (wrec_bytes HG.out)
    have hkn : r.kind = ((r.kind.toNat : Nat) : Int) := by have := HG.out.k1; omega
    generalize hm : r.kind.toNat = m at hkn
    have m1 : 1 ≤ m := by have := HG.out.k1; omega
    have m4 : m ≤ 4 := by have := HG.out.k4; omega
    have HKN := Lib.hid hkn
    have HM := Lib.hid hm
    have M1 := Lib.hid m1
    have M4 := Lib.hid m4
    have ID := Lib.hid HG.out.i1
    have BS := Lib.hid HG.out.b1
    clear hf m1 m4 hkn hm
    go_enter Try.func26, Try.ntmps26
    go_wp2_with (refine wpList_load_mid rfl 37 (.tmp 1) rfl w.heap.size 0 rfl r.cells _ HRG.out Try.underlying37 rfl (Rec.sizeL HK.out) ?_; simp only [Act.put, List.setIfInBounds_toArray, List.set_cons_zero, List.set_cons_succ])
    refine (formed_ok r HW.out _ _ HH.out).mono ?_
    rintro e w1 ⟨rfl, h1⟩
    rw [HF.out]
    rw [← HCR.out] at h1
    have hs := ((h1.alloc 119 #[.slice none 0 0, .bool false]).wr_new)
    rw [HCR.out] at hs
    have c0 := (hs.pull 1 rfl).cells 0
    rw [← HCR.out, Rec.get0, HKN.out] at c0
    have wr0 : IntKind.u64.wrap (m : Int) = m := by have := M4.out; simp [IntKind.wrap, IntKind.signed, IntKind.bits]; omega
    have HS := Lib.hid hs; clear hs h1
    go_wp2_with fail
    refine (number_sl m (by have := M4.out; omega) 1 HS.out (by simp)).mono ?_
    rintro e w2 ⟨rfl, h2⟩
    have c1 := (h2.pull 1 rfl).cells 1
    rw [← HCR.out, Rec.get1] at c1
    have H2 := Lib.hid h2; clear h2 c0 wr0
    go_wp2_with fail
    refine (number_sl r.id (by have := ID.out; omega) 4 H2.out (by have := wnum_len ([], false) m 1; simp only [List.length_nil] at this; omega)).mono ?_
    rintro e w3 ⟨rfl, h3⟩
    obtain ⟨s3, E3⟩ : ∃ s3, Hid (wnum (wnum ([], false) m 1) r.id 4 = s3) := ⟨_, rfl⟩
    have L3 := Lib.hid (show s3.1.length ≤ 16 by rw [← E3.out]; have a := wnum_len ([], false) m 1; have b := wnum_len (wnum ([], false) m 1) r.id 4; simp only [List.length_nil] at a; omega)
    rw [E3.out] at h3
    have c0 := (h3.pull 1 rfl).cells 0
    rw [← HCR.out, Rec.get0, HKN.out] at c0
    have H3 := Lib.hid h3; clear h3 c1
    obtain rfl | rfl | rfl | rfl : m = 1 ∨ m = 2 ∨ m = 3 ∨ m = 4 := by have := M1.out; have := M4.out; omega
    · have HRE := Lib.hid (Rec.range_ed (r := r) (by have := (H3.out.pull 1 rfl).blk; rwa [← HCR.out] at this))
      go_wp2_with (refine wpList_load_mid rfl 35 (.tmp 24) rfl w.heap.size 3 rfl r.ed.cells _ HRE.out Try.underlying35 rfl (Ed.sizeL HK.out.ed) ?_; simp only [Act.put, List.setIfInBounds_toArray, List.set_cons_zero, List.set_cons_succ])
      refine (wedit_ok r.ed HW.out.ed H3.out (by have := L3.out; omega)).mono ?_
      rintro e w4 ⟨rfl, h4⟩
      obtain ⟨sE, EE⟩ : ∃ sE, Hid (wedit s3 r.ed = sE) := ⟨_, rfl⟩
      have HE : Hid (wbytes sE = encR r) := by
        unfold Hid
        rw [← HWB.out, ← EE.out, ← E3.out]
        unfold wrec
        rw [if_pos (show r.kind = 1 by rw [HKN.out]; rfl), HM.out]
      have LE : Hid (sE.1.length ≤ 140737488355328) := by
        unfold Hid
        have := L3.out
        rw [← EE.out]
        have := wedit_len s3 HK.out.ed
        omega
      rw [EE.out] at h4
      have HX := Lib.hid h4; clear h4
      go_wp2_with fail
      refine (bytes_sl HX.out LE.out).mono ?_
      rintro e w9 ⟨v9, rfl, h9⟩
      rw [HE.out] at h9
      have HY := Lib.hid h9; clear h9
      go_wp2_with fail
      go_returns
      exact ⟨_, rfl, (HY.out.drop 1 rfl).drop 1 rfl⟩
    · have c2 := (H3.out.pull 1 rfl).cells 2
      rw [← HCR.out, Rec.get2] at c2
      go_wp2_with fail
      refine (number_sl r.base (by have := BS.out; omega) 4 H3.out (by have := L3.out; omega)).mono ?_
      rintro e w4 ⟨rfl, h4⟩
      have H4 := Lib.hid h4; clear h4 c2 c0
      have HRE := Lib.hid (Rec.range_ed (r := r) (by have := (H4.out.pull 1 rfl).blk; rwa [← HCR.out] at this))
      go_wp2_with (refine wpList_load_mid rfl 35 (.tmp 34) rfl w.heap.size 3 rfl r.ed.cells _ HRE.out Try.underlying35 rfl (Ed.sizeL HK.out.ed) ?_; simp only [Act.put, List.setIfInBounds_toArray, List.set_cons_zero, List.set_cons_succ])
      refine (wedit_ok r.ed HW.out.ed H4.out (by have := L3.out; have := wnum_len s3 r.base 4; omega)).mono ?_
      rintro e w5 ⟨rfl, h5⟩
      have H5 := Lib.hid h5; clear h5
      have HRH := Lib.hid (Rec.range_root (r := r) HK.out (by have := (H5.out.pull 1 rfl).blk; rwa [← HCR.out] at this))
      go_wp2_with (refine wpList_load_mid rfl 33 (.tmp 38) rfl w.heap.size 38 rfl (bcs r.root) _ HRH.out Try.underlying33 rfl HR.out ?_; simp only [Act.put, List.setIfInBounds_toArray, List.set_cons_zero, List.set_cons_succ])
      refine (hash_sl r.root HK.out.root H5.out (by have := L3.out; have := wnum_len s3 r.base 4; have := wedit_len (wnum s3 r.base 4) HK.out.ed; omega)).mono ?_
      rintro e w6 ⟨rfl, h6⟩
      obtain ⟨sE, EE⟩ : ∃ sE, Hid (whash (wedit (wnum s3 r.base 4) r.ed) r.root = sE) := ⟨_, rfl⟩
      have HE : Hid (wbytes sE = encR r) := by
        unfold Hid
        rw [← HWB.out, ← EE.out, ← E3.out]
        unfold wrec
        rw [if_neg (show ¬ r.kind = 1 by rw [HKN.out]; decide), if_pos (show r.kind = 2 by rw [HKN.out]; rfl), HM.out]
      have LE : Hid (sE.1.length ≤ 140737488355328) := by
        unfold Hid
        have := L3.out
        rw [← EE.out]
        have := wnum_len s3 r.base 4
        have := wedit_len (wnum s3 r.base 4) HK.out.ed
        have := whash_len (wedit (wnum s3 r.base 4) r.ed) HK.out.root
        omega
      rw [EE.out] at h6
      have HX := Lib.hid h6; clear h6
      go_wp2_with fail
      refine (bytes_sl HX.out LE.out).mono ?_
      rintro e w9 ⟨v9, rfl, h9⟩
      rw [HE.out] at h9
      have HY := Lib.hid h9; clear h9
      go_wp2_with fail
      go_returns
      exact ⟨_, rfl, (HY.out.drop 1 rfl).drop 1 rfl⟩
    · have c70 := (H3.out.pull 1 rfl).cells 70
      have hcd := Rec.codeN HG.out (show r.kind = 3 by rw [HKN.out]; rfl)
      have hcb := HG.out.code (show r.kind = 3 by rw [HKN.out]; rfl)
      rw [← HCR.out, Rec.get70 HK.out, hcd] at c70
      generalize hq : r.code.toNat = q at hcd c70
      have hq1 : q ≤ 17 := by omega
      have wr1 : IntKind.u64.wrap (q : Int) = q := by simp [IntKind.wrap, IntKind.signed, IntKind.bits]; omega
      have HQ := Lib.hid hq
      have HQ1 := Lib.hid hq1
      clear hcd hcb hq hq1
      go_wp2_with fail
      refine (number_sl q (by have := HQ1.out; omega) 1 H3.out (by have := L3.out; omega)).mono ?_
      rintro e w4 ⟨rfl, h4⟩
      clear wr1 c70
      obtain ⟨sE, EE⟩ : ∃ sE, Hid (wnum s3 q 1 = sE) := ⟨_, rfl⟩
      have HE : Hid (wbytes sE = encR r) := by
        unfold Hid
        rw [← HWB.out, ← EE.out, ← E3.out]
        unfold wrec
        rw [if_neg (show ¬ r.kind = 1 by rw [HKN.out]; decide), if_neg (show ¬ r.kind = 2 by rw [HKN.out]; decide), if_pos (show r.kind = 3 by rw [HKN.out]; rfl), HM.out, HQ.out]
      have LE : Hid (sE.1.length ≤ 140737488355328) := by
        unfold Hid
        have := L3.out
        rw [← EE.out]
        have := wnum_len s3 q 1
        omega
      rw [EE.out] at h4
      have HX := Lib.hid h4; clear h4
      go_wp2_with fail
      refine (bytes_sl HX.out LE.out).mono ?_
      rintro e w9 ⟨v9, rfl, h9⟩
      rw [HE.out] at h9
      have HY := Lib.hid h9; clear h9
      go_wp2_with fail
      go_returns
      exact ⟨_, rfl, (HY.out.drop 1 rfl).drop 1 rfl⟩
    · have c71 := (H3.out.pull 1 rfl).cells 71
      rw [← HCR.out, Rec.get71 HK.out] at c71
      go_wp2_with fail
      refine (truth_sl r.commit H3.out (by have := L3.out; omega)).mono ?_
      rintro e w4 ⟨rfl, h4⟩
      have c72 := (h4.pull 1 rfl).cells 72
      rw [← HCR.out, Rec.get72 HK.out] at c72
      have H4 := Lib.hid h4; clear h4 c71 c0
      go_wp2_with fail
      refine (truth_sl r.has H4.out (by have := L3.out; have := wtruth_len s3 r.commit; omega)).mono ?_
      rintro e w5 ⟨rfl, h5⟩
      have c72 := (h5.pull 1 rfl).cells 72
      have c73 := (h5.pull 1 rfl).cells 73
      rw [← HCR.out, Rec.get72 HK.out] at c72
      rw [← HCR.out, Rec.get73 HK.out] at c73
      have H5 := Lib.hid h5; clear h5
      have HLT := Lib.hid (show (strOf r.text).size ≤ 9223372036854775807 by rw [strOf_size]; have := HG.out.t; omega)
      cases hhas : r.has
      · rw [hhas] at c72
        have h5 := H5.out
        clear H5 c73
        have HH1 := Lib.hid hhas; clear hhas
        obtain ⟨sE, EE⟩ : ∃ sE, Hid (wtruth (wtruth s3 r.commit) r.has = sE) := ⟨_, rfl⟩
        have HE : Hid (wbytes sE = encR r) := by
          unfold Hid
          rw [← HWB.out, ← EE.out, ← E3.out]
          unfold wrec
          rw [if_neg (show ¬ r.kind = 1 by rw [HKN.out]; decide), if_neg (show ¬ r.kind = 2 by rw [HKN.out]; decide), if_neg (show ¬ r.kind = 3 by rw [HKN.out]; decide), if_neg (show ¬ r.has = true by rw [HH1.out]; decide), HM.out]
        have LE : Hid (sE.1.length ≤ 140737488355328) := by
          unfold Hid
          have := L3.out
          rw [← EE.out]
          have := wtruth_len s3 r.commit
          have := wtruth_len (wtruth s3 r.commit) r.has
          omega
        rw [EE.out] at h5
        have HX := Lib.hid h5; clear h5
        go_wp2_with fail
        refine (bytes_sl HX.out LE.out).mono ?_
        rintro e w9 ⟨v9, rfl, h9⟩
        rw [HE.out] at h9
        have HY := Lib.hid h9; clear h9
        go_wp2_with fail
        go_returns
        exact ⟨_, rfl, (HY.out.drop 1 rfl).drop 1 rfl⟩
      · rw [hhas] at c72
        have HH1 := Lib.hid hhas; clear hhas
        go_wp2_with fail
        refine (text_sl (strOf r.text) HLT.out H5.out (by have := L3.out; have := wtruth_len s3 r.commit; have := wtruth_len (wtruth s3 r.commit) r.has; omega)).mono ?_
        rintro e w6 ⟨rfl, h6⟩
        rw [show (strOf r.text).data.toList = r.text by simp [strOf]] at h6
        clear c72 c73
        obtain ⟨sE, EE⟩ : ∃ sE, Hid (wtext (wtruth (wtruth s3 r.commit) r.has) r.text = sE) := ⟨_, rfl⟩
        have HE : Hid (wbytes sE = encR r) := by
          unfold Hid
          rw [← HWB.out, ← EE.out, ← E3.out]
          unfold wrec
          rw [if_neg (show ¬ r.kind = 1 by rw [HKN.out]; decide), if_neg (show ¬ r.kind = 2 by rw [HKN.out]; decide), if_neg (show ¬ r.kind = 3 by rw [HKN.out]; decide), if_pos HH1.out, HM.out]
        have LE : Hid (sE.1.length ≤ 140737488355328) := by
          unfold Hid
          have := L3.out
          rw [← EE.out]
          have := wtruth_len s3 r.commit
          have := wtruth_len (wtruth s3 r.commit) r.has
          have := wtext_len (wtruth (wtruth s3 r.commit) r.has) r.text
          omega
        rw [EE.out] at h6
        have HX := Lib.hid h6; clear h6
        go_wp2_with fail
        refine (bytes_sl HX.out LE.out).mono ?_
        rintro e w9 ⟨v9, rfl, h9⟩
        rw [HE.out] at h9
        have HY := Lib.hid h9; clear h9
        go_wp2_with fail
        go_returns
        exact ⟨_, rfl, (HY.out.drop 1 rfl).drop 1 rfl⟩
end Go.Proofs.Ytaieonajialenaa
