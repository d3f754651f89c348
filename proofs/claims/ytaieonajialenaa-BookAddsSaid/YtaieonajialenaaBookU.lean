/- Whatever records come, each fits, or not, and the book says, what the document says (the walk of BookAdds). -/
import Derived.Test.YtaieonajialenaaBookT
import Derived.Test.YtaieonajialenaaBookL
namespace Go.Proofs.Ytaieonajialenaa
open Go.RowKit HP

section
variable {P : Program} {ops : Array Oper} {rest : List Oper} {o : Oper} {a : Act} {w : World} {Q : Exit → Act → World → Prop}
/-- a call, by a contract -/
theorem wpList_callF (f : FuncId) {xs : Array Operand} {ts : Array TypeId} (ho : o.op = .call { callee := .value (.func f), args := xs, argTypes := ts }) {fn : Func} (hf : P.funcs[f]? = some fn) (hk : (fn.name == "runtime.NumGoroutine" || fn.body.isNone) = false) {al : List Value} (hx : xs.toList.map a.eval = al)
    (hw : Region.wanted o (yielded ops a.tmps) = true) {R : Ending → World → Prop} (hc : Calls P f al.toArray w R) (hn : ∀ e w', R e w' → ∃ v, e = .returned v ∧ wpList P ops Q rest (a.put o.dst v) w') : wpList P ops Q (o :: rest) a w :=
  wpList_wanted hw fun K hK => by
    unfold Oper.wp
    rw [run_callF ho hf hk w, show Array.map a.eval xs = al.toArray from Array.ext' (by rw [← hx]; simp), Oper.upon_enter]
    refine hc.mono fun e w' h => ?_
    obtain ⟨v, rfl, h'⟩ := hn e w' h
    exact hK _ _ h'
end
theorem add_same {first : List UInt8} {Q : List Rec} (hG : Good first Q) (r : Rec) : ((foldS first Q).add r).2 = (rAdd Q r).2 ∧ ((foldS first Q).add r).1 = foldS first (rAdd Q r).1 ∧ Good first (rAdd Q r).1 ∧ (rAdd Q r).1.length ≤ Q.length + 1 ∧ (∀ x ∈ (rAdd Q r).1, x ∈ Q ∨ x = r) := by
  unfold Bk.add rAdd
  rw [hG.fits]
  by_cases hf : formedR r = true
  · rw [if_pos hf, if_pos hf]
    by_cases hf2 : rFits Q r = true
    · rw [if_pos hf2, if_pos hf2]
      refine ⟨rfl, (foldS_snoc first Q r).symm, Good.snoc hG hf (by rw [hG.fits]; exact hf2), by simp, fun x hx => ?_⟩
      rcases List.mem_append.1 hx with h | h
      · exact .inl h
      · exact .inr (List.mem_singleton.1 h)
    · rw [if_neg hf2, if_neg hf2]
      exact ⟨rfl, rfl, hG, by simp, fun x hx => .inl hx⟩
  · rw [if_neg hf, if_neg hf]
    exact ⟨rfl, rfl, hG, by simp, fun x hx => .inl hx⟩
set_option maxRecDepth 100000 in
theorem bNew_big (s : List UInt8) (hs : ¬ s.length ≤ 2000) (w : World) (R : List HP) (hh : Holds w R) :
    Calls Try.prog 17 #[.string (strOf s)] w fun e w' => e = .returned (.tuple #[.pointer none, .int .i64 14]) ∧ Holds w' R := by
  have HW := Lib.hid hh
  have n1 := strSize s
  have d1 : decide ((2000 : Int) < (s.length : Int)) = true := decide_eq_true (by omega)
  clear hh hs
  go_enter Try.func17, Try.ntmps17
  go_wp2
  go_ret2
  exact ⟨rfl, HW.out⟩
set_option maxRecDepth 100000 in
set_option maxHeartbeats 8000000 in
theorem bookAdds_ok (first : List UInt8) (A : Option Addr) (n c : Nat) (l : List Rec) (hl : ∀ r ∈ l, r.Wf) (hn : Hid (n = l.length)) (hm : n ≤ maxLen) (w : World) (R : List HP) (hh : Holds w R) (hr : Ent R fun w => RecsAt w A l) :
    Calls Try.prog 6 #[.string (strOf first), .slice A n c] w fun e w' => e = .returned (.bool true) ∧ Holds w' R := by
  have HW := Lib.hid hh
  have HR := Lib.hid hr
  have HL := Lib.hid hl
  obtain ⟨f1, HF1⟩ : ∃ f, Hid (fewL l = f) := ⟨_, rfl⟩
  have HM := Lib.hid hm
  have ns := strSize first
  clear hh hr hl hm
  by_cases h3 : first.length ≤ 3000
  rotate_left
  · have d3 : decide ((3000 : Int) < (first.length : Int)) = true := decide_eq_true (by omega)
    clear h3
    go_enter Try.func6, Try.ntmps6
    go_wp2_with (first
      | go_skip
      | ((go_at_call 15; have hc := bkawake_ok _ _ HW.out; with_reducible refine hc.mono ?_; clear hc)
         rintro e w2 ⟨rfl, hw'⟩
         clear HW; have HW := Lib.hid hw'; clear hw'; (try simp only [hps_rules] at HW)))
    go_ret
    exact ⟨rfl, HW.out⟩
  have d3 : decide ((3000 : Int) < (first.length : Int)) = false := decide_eq_false (by omega)
  cases f1
  · clear h3
    go_enter Try.func6, Try.ntmps6
    go_wp2_with (first
      | go_skip
      | ((go_at_call 15; have hc := bkawake_ok _ _ HW.out; with_reducible refine hc.mono ?_; clear hc)
         rintro e w2 ⟨rfl, hw'⟩
         clear HW; have HW := Lib.hid hw'; clear hw'; (try simp only [hps_rules] at HW))
      | ((go_at_call 16; have hc := bkfew_ok A n c l HL.out hn HM.out _ _ HW.out HR.out HF1.out; with_reducible refine hc.mono ?_; clear hc)
         rintro e w2 ⟨rfl, hw'⟩
         clear HW; have HW := Lib.hid hw'; clear hw'; (try simp only [hps_rules] at HW)))
    go_ret
    exact ⟨rfl, HW.out⟩
  by_cases h2 : first.length ≤ 2000
  rotate_left
  · have d2 : decide ((2000 : Int) < (first.length : Int)) = true := decide_eq_true (by omega)
    have HB2 := Lib.hid h2
    clear h3 h2
    go_enter Try.func6, Try.ntmps6
    go_wp2_with (first
      | go_skip
      | ((go_at_call 15; have hc := bkawake_ok _ _ HW.out; with_reducible refine hc.mono ?_; clear hc)
         rintro e w2 ⟨rfl, hw'⟩
         clear HW; have HW := Lib.hid hw'; clear hw'; (try simp only [hps_rules] at HW))
      | ((go_at_call 16; have hc := bkfew_ok A n c l HL.out hn HM.out _ _ HW.out HR.out HF1.out; with_reducible refine hc.mono ?_; clear hc)
         rintro e w2 ⟨rfl, hw'⟩
         clear HW; have HW := Lib.hid hw'; clear hw'; (try simp only [hps_rules] at HW))
      | ((go_at_call 17; have hc := bNew_big first HB2.out _ _ HW.out; with_reducible refine hc.mono ?_; clear hc)
         rintro e w2 ⟨rfl, hw'⟩
         clear HW; have HW := Lib.hid hw'; clear hw'; (try simp only [hps_rules] at HW)))
    go_ret
    exact ⟨rfl, HW.out⟩
  have d2 : decide ((2000 : Int) < (first.length : Int)) = false := decide_eq_false (by omega)
  have HB2 := Lib.hid h2
  have hn60 : n ≤ 60 := by rw [hn.out]; exact fewL_len HF1.out
  have HZ := Lib.hid (Rec.segs_ok Rec.zero_ok)
  clear h3 h2
  go_enter Try.func6, Try.ntmps6
  go_wp2_with (first
    | go_skip
    | ((go_at_call 15; have hc := bkawake_ok _ _ HW.out; with_reducible refine hc.mono ?_; clear hc)
       rintro e w2 ⟨rfl, hw'⟩
       clear HW; have HW := Lib.hid hw'; clear hw'; (try simp only [hps_rules] at HW))
    | ((go_at_call 16; have hc := bkfew_ok A n c l HL.out hn HM.out _ _ HW.out HR.out HF1.out; with_reducible refine hc.mono ?_; clear hc)
       rintro e w2 ⟨rfl, hw'⟩
       clear HW; have HW := Lib.hid hw'; clear hw'; (try simp only [hps_rules] at HW))
    | (go_at_call 17; have hc := bNew_ok first HB2.out _ _ HW.out; with_reducible refine hc.mono ?_; clear hc
       rintro e w2 ⟨b, rfl, hw'⟩
       clear HW; have HW := Lib.hid hw'; clear hw'; (try simp only [hps_rules] at HW); (try simp only [put_rules]))
    | (refine wpList_runs HW.out rfl (runs_build (zs := RbS [] none 0 0) (M := RbS first none 0 0) rfl Try.underlying58 #[(0, 1), (1, 1)] (fun w => by kernel_rfl) (by kernel_rfl) (fill_cons (off := 0) (n := 1) (M := [.o (.string (strOf first))]) rfl rfl ⟨rfl, trivial⟩ rfl ⟨rfl, rfl, trivial⟩ rfl (fun _ => rfl))) ?_; simp only [put_rules])
    | (refine wpList_box HW.out rfl rfl rfl (M := RbS first none 0 0) rfl ⟨rfl, rfl, trivial⟩ (fun p w' hw' => ?_)
       replace hw' : Holds _ (BkH b (foldS first []) :: RbH p first [] :: R) := (Holds.rb_close (p := p) (first := first) (Q := []) (A := none) (c := 0) ((hw'.arr_nil 38 74 Rec.segs).pull 1 rfl)).pull 1 rfl
       clear HW; have HW := Lib.hid hw'; clear hw'; (try simp only [hps_rules] at HW); (try simp only [put_rules])))
  go_loopw [44] (fun i wr => ∃ j : Nat, j ≤ n ∧ i = .int .i64 j ∧ Hid (∃ Q, Good first Q ∧ (∀ r ∈ Q, r.Wf) ∧ Q.length ≤ j ∧ Holds wr (BkH b (foldS first Q) :: RbH p first Q :: R))) (fun i _ => n - (intOf i).toNat)
  case atStart => exact ⟨0, by omega, rfl, Lib.hid ⟨[], .nil, fun _ h => (by cases h), Nat.le_refl _, HW.out⟩⟩
  case round =>
    obtain ⟨j, hj, rfl, hq⟩ := hrel
    clear HW
    obtain ⟨Q, hG, hQW, hQl, hq⟩ := hq.out
    have HW := Lib.hid hq
    have HGG := Lib.hid hG
    have HQW := Lib.hid hQW
    have HK := Lib.hid (foldS_wf (first := first) hQW)
    have hel : (foldS first Q).edits.length ≤ 60 := by rw [hG.len]; have := rEdits_le Q; omega
    have hvl : (foldS first Q).vers.length ≤ 61 := by rw [show (foldS first Q).vers = rVers first Q from hG.vers]; have := rVers_le first Q; omega
    have HLN : Hid ((foldS first Q).edits.length < 1099511627776 ∧ (foldS first Q).vers.length < 1099511627776 ∧ Q.length ≤ 60 ∧ Q.length ≤ 1000) := by unfold Hid; omega
    clear hG hQW hel hvl hq
    by_cases hlt : j < n
    · have hjl : j < l.length := by rw [← hn.out]; exact hlt
      obtain ⟨r, hr⟩ : ∃ r, l[j]? = some r := ⟨_, List.getElem?_eq_getElem hjl⟩
      obtain ⟨g, o, hA, HE0⟩ := recs_load HL.out HR.out HW.out.tail.tail hr
      subst hA
      have HE : Hid (∀ w, Holds w (BkH b (foldS first Q) :: RbH p first Q :: R) → w.rangeAt g (o + j * 74) (flat r.segs)) := fun w hw => HE0.out w hw.tail.tail
      have HRW := Lib.hid (HL.out r (List.mem_of_getElem? hr))
      have HS := Lib.hid (Rec.segs_ok HRW.out.ok)
      have hid := HRW.out.id
      have HS1 := Lib.hid (add_same HGG.out r)
      obtain ⟨fo, HFO⟩ : ∃ f, Hid ((formedR r && rFits Q r) = f) := ⟨_, rfl⟩
      obtain ⟨m, HMM⟩ : ∃ m, Hid ((rAdd Q r).2 = m) := ⟨_, rfl⟩
      obtain ⟨Q2, HQ2⟩ : ∃ q, Hid ((rAdd Q r).1 = q) := ⟨_, rfl⟩
      have HC1 : Hid (∀ w L, Holds w (BkH b (foldS first Q) :: L) → Calls Try.prog 28 #[.pointer (some ⟨b, 0, none⟩), .agg (flat r.segs).toArray] w fun e w' => e = .returned (.bool fo) ∧ Holds w' (BkH b (foldS first Q) :: L)) := fun w L h => by
        obtain ⟨hk, x, h⟩ := h.bk_open
        refine (bFits_ok (foldS first Q) hk HLN.out.1 b r HRW.out w L x h (bo := fo) (by rw [HGG.out.fits]; exact HFO.out)).mono ?_
        rintro e w2 ⟨rfl, hw⟩
        exact ⟨rfl, hw.bk_close hk⟩
      have HC2 : Hid (∀ w L, Holds w (BkH b (foldS first Q) :: RbH p first Q :: L) → Calls Try.prog 29 #[.pointer (some ⟨p, 0, none⟩), .agg (flat r.segs).toArray] w fun e w' => e = .returned (.bool fo) ∧ Holds w' (BkH b (foldS first Q) :: RbH p first Q :: L)) := fun w L h => by
        obtain ⟨A, c, h⟩ := (h.pull 1 rfl).rb_open
        refine (rbFits_ok HLN.out.2.2.2 r HRW.out h HFO.out).mono ?_
        rintro e w2 ⟨rfl, hw⟩
        exact ⟨rfl, (hw.rb_close).pull 1 rfl⟩
      have HC3 : Hid (∀ w L, Holds w (BkH b (foldS first Q) :: L) → Calls Try.prog 18 #[.pointer (some ⟨b, 0, none⟩), .agg (flat r.segs).toArray] w fun e w' => e = .returned (.int .i64 m) ∧ Holds w' (BkH b (foldS first Q2) :: L)) := fun w L h => by
        refine (bAdd_ok (foldS first Q) HK.out.ok HLN.out.1 b r HRW.out w L HLN.out.2.1 h).mono ?_
        rintro e w2 ⟨rfl, hw⟩
        rw [HS1.out.1, HMM.out, HS1.out.2.1, HQ2.out] at *
        exact ⟨rfl, hw⟩
      have HC4 : Hid (∀ w k L, Holds w (BkH b k :: RbH p first Q :: L) → Calls Try.prog 30 #[.pointer (some ⟨p, 0, none⟩), .agg (flat r.segs).toArray] w fun e w' => e = .returned (.int .i64 m) ∧ Holds w' (BkH b k :: RbH p first Q2 :: L)) := fun w k L h => by
        refine (rbAdd_ok HLN.out.2.2.2 r HRW.out (h.pull 1 rfl) HMM.out).mono ?_
        rintro e w2 ⟨rfl, hw⟩
        rw [HQ2.out] at hw
        exact ⟨rfl, hw.pull 1 rfl⟩
      have HG2 : Hid (Good first Q2 ∧ (∀ x ∈ Q2, x.Wf) ∧ Q2.length ≤ j + 1) := by
        obtain ⟨_, _, h3, h4, h5⟩ := HS1.out
        rw [HQ2.out] at h3 h4 h5
        refine ⟨h3, fun x hx => ?_, by omega⟩
        rcases h5 x hx with h | h
        · exact HQW.out x h
        · rw [h]; exact HRW.out
      have HC5 : Hid (∀ w L, Holds w (BkH b (foldS first Q2) :: RbH p first Q2 :: L) → Calls Try.prog 31 #[.pointer (some ⟨b, 0, none⟩), .pointer (some ⟨p, 0, none⟩), .int .u64 8, .int .u64 (r.id : Int)] w fun e w' => e = .returned (.bool true) ∧ Holds w' (BkH b (foldS first Q2) :: RbH p first Q2 :: L)) := fun w L h =>
        bkSame_ok HG2.out.1 HG2.out.2.1 (by have := HG2.out.2.2; omega) r.id hid h
      have HE0' := HE0.out
      clear hr hjl HE0 hid
      have HK1 : Hid ((Try.f28.name == "runtime.NumGoroutine" || Try.f28.body.isNone) = false) := by unfold Hid; kernel_rfl
      have HK2 : Hid ((Try.f29.name == "runtime.NumGoroutine" || Try.f29.body.isNone) = false) := by unfold Hid; kernel_rfl
      have HK3 : Hid ((Try.f18.name == "runtime.NumGoroutine" || Try.f18.body.isNone) = false) := by unfold Hid; kernel_rfl
      have HK4 : Hid ((Try.f30.name == "runtime.NumGoroutine" || Try.f30.body.isNone) = false) := by unfold Hid; kernel_rfl
      have HK5 : Hid ((Try.f31.name == "runtime.NumGoroutine" || Try.f31.body.isNone) = false) := by unfold Hid; kernel_rfl
      go_wp2_with (first
        | go_skip
        | (refine wpList_runs HW.out rfl (runs_ldEnt (ty := 38) rfl rfl HE.out Try.underlying38 rfl (Rec.sizeF HRW.out.ok)) ?_; simp only [put_rules])
        | (refine wpList_alloc HW.out rfl (ty := 37) rfl (z := .agg (flat Rec.zero.segs).toArray) (by kernel_rfl) (M := Rec.zero.segs) rfl HZ.out (fun g9 w' hw' => ?_)
           clear HW; have HW := Lib.hid hw'; clear hw'; (try simp only [hps_rules] at HW); (try simp only [put_rules]))
        | (refine wpList_stR HW.out rfl (ty := 37) (n := 74) rfl rfl 0 rfl (M := Rec.segs r) rfl rfl HS.out rfl (by kernel_rfl) (fun w' hw' => ?_)
           replace hw' : Holds _ (BkH b (foldS first Q) :: RbH p first Q :: sblk _ _ _ :: R) := hw'.push_ 2 (by simp)
           clear HW; have HW := Lib.hid hw'; clear hw'; (try simp only [hps_rules] at HW); (try simp only [put_rules])))
      have HEC : Hid (∀ w, Holds w (sblk g9 37 r.segs :: R) → w.rangeAt g (o + j * 74) (flat r.segs)) := fun w hw => HE0' w hw.tail
      have HEI : Hid (∀ w, Holds w (sblk g9 37 r.segs :: R) → w.cell? ⟨g, o + j * 74 + 1, none⟩ = some (.int .u64 (r.id : Int))) := fun w hw => HE0' w hw.tail 1 _ rfl
      refine wp_region_until (sblk g9 37 r.segs :: R) 32 (by kernel_rfl) HW.out (fun w' hw' => ?_)
      clear HW; have HW := Lib.hid hw'; have HC := Lib.hid hw'.tail.tail; clear hw'
      simp only [rep_rules]
      first
      | (refine takeE 0 rfl rfl ((runs_ldR 0 (ty := 37) (n := 74) (m := Rec.segs r) rfl rfl rfl rfl Try.underlying37 rfl (by kernel_rfl))) HC.out (by kernel_rfl) (fun _ _ _ h => h) ?_)
      | (refine takeE 0 rfl rfl ((runs_ldEnt (ty := 38) rfl rfl HEC.out Try.underlying38 rfl (Rec.sizeF HRW.out.ok))) HC.out (by kernel_rfl) (fun _ _ _ h => h) ?_)
      | (refine takeE 0 rfl rfl ((runs_ldEnt1 (ty := 23) rfl rfl HEI.out (by kernel_rfl))) HC.out (by kernel_rfl) (fun _ _ _ h => h) ?_)
      | (refine takeE 0 (v := ?_) rfl rfl (runs_of fun w => ?_) HC.out (by kernel_rfl) (fun _ _ _ h => h) ?_
         rotate_left
         · go_simp <;> (try with_reducible rfl))
      try simp only [put_rules]
      first
      | (refine takeE 1 rfl rfl ((runs_ldR 0 (ty := 37) (n := 74) (m := Rec.segs r) rfl rfl rfl rfl Try.underlying37 rfl (by kernel_rfl))) HC.out (by kernel_rfl) (fun _ _ _ h => h) ?_)
      | (refine takeE 1 rfl rfl ((runs_ldEnt (ty := 38) rfl rfl HEC.out Try.underlying38 rfl (Rec.sizeF HRW.out.ok))) HC.out (by kernel_rfl) (fun _ _ _ h => h) ?_)
      | (refine takeE 1 rfl rfl ((runs_ldEnt1 (ty := 23) rfl rfl HEI.out (by kernel_rfl))) HC.out (by kernel_rfl) (fun _ _ _ h => h) ?_)
      | (refine takeE 1 (v := ?_) rfl rfl (runs_of fun w => ?_) HC.out (by kernel_rfl) (fun _ _ _ h => h) ?_
         rotate_left
         · go_simp <;> (try with_reducible rfl))
      try simp only [put_rules]
      first
      | (refine takeE 3 rfl rfl ((runs_ldR 0 (ty := 37) (n := 74) (m := Rec.segs r) rfl rfl rfl rfl Try.underlying37 rfl (by kernel_rfl))) HC.out (by kernel_rfl) (fun _ _ _ h => h) ?_)
      | (refine takeE 3 rfl rfl ((runs_ldEnt (ty := 38) rfl rfl HEC.out Try.underlying38 rfl (Rec.sizeF HRW.out.ok))) HC.out (by kernel_rfl) (fun _ _ _ h => h) ?_)
      | (refine takeE 3 rfl rfl ((runs_ldEnt1 (ty := 23) rfl rfl HEI.out (by kernel_rfl))) HC.out (by kernel_rfl) (fun _ _ _ h => h) ?_)
      | (refine takeE 3 (v := ?_) rfl rfl (runs_of fun w => ?_) HC.out (by kernel_rfl) (fun _ _ _ h => h) ?_
         rotate_left
         · go_simp <;> (try with_reducible rfl))
      try simp only [put_rules]
      first
      | (refine takeE 4 rfl rfl ((runs_ldR 0 (ty := 37) (n := 74) (m := Rec.segs r) rfl rfl rfl rfl Try.underlying37 rfl (by kernel_rfl))) HC.out (by kernel_rfl) (fun _ _ _ h => h) ?_)
      | (refine takeE 4 rfl rfl ((runs_ldEnt (ty := 38) rfl rfl HEC.out Try.underlying38 rfl (Rec.sizeF HRW.out.ok))) HC.out (by kernel_rfl) (fun _ _ _ h => h) ?_)
      | (refine takeE 4 rfl rfl ((runs_ldEnt1 (ty := 23) rfl rfl HEI.out (by kernel_rfl))) HC.out (by kernel_rfl) (fun _ _ _ h => h) ?_)
      | (refine takeE 4 (v := ?_) rfl rfl (runs_of fun w => ?_) HC.out (by kernel_rfl) (fun _ _ _ h => h) ?_
         rotate_left
         · go_simp <;> (try with_reducible rfl))
      try simp only [put_rules]
      first
      | (refine takeE 5 rfl rfl ((runs_ldR 0 (ty := 37) (n := 74) (m := Rec.segs r) rfl rfl rfl rfl Try.underlying37 rfl (by kernel_rfl))) HC.out (by kernel_rfl) (fun _ _ _ h => h) ?_)
      | (refine takeE 5 rfl rfl ((runs_ldEnt (ty := 38) rfl rfl HEC.out Try.underlying38 rfl (Rec.sizeF HRW.out.ok))) HC.out (by kernel_rfl) (fun _ _ _ h => h) ?_)
      | (refine takeE 5 rfl rfl ((runs_ldEnt1 (ty := 23) rfl rfl HEI.out (by kernel_rfl))) HC.out (by kernel_rfl) (fun _ _ _ h => h) ?_)
      | (refine takeE 5 (v := ?_) rfl rfl (runs_of fun w => ?_) HC.out (by kernel_rfl) (fun _ _ _ h => h) ?_
         rotate_left
         · go_simp <;> (try with_reducible rfl))
      try simp only [put_rules]
      first
      | (refine takeE 6 rfl rfl ((runs_ldR 0 (ty := 37) (n := 74) (m := Rec.segs r) rfl rfl rfl rfl Try.underlying37 rfl (by kernel_rfl))) HC.out (by kernel_rfl) (fun _ _ _ h => h) ?_)
      | (refine takeE 6 rfl rfl ((runs_ldEnt (ty := 38) rfl rfl HEC.out Try.underlying38 rfl (Rec.sizeF HRW.out.ok))) HC.out (by kernel_rfl) (fun _ _ _ h => h) ?_)
      | (refine takeE 6 rfl rfl ((runs_ldEnt1 (ty := 23) rfl rfl HEI.out (by kernel_rfl))) HC.out (by kernel_rfl) (fun _ _ _ h => h) ?_)
      | (refine takeE 6 (v := ?_) rfl rfl (runs_of fun w => ?_) HC.out (by kernel_rfl) (fun _ _ _ h => h) ?_
         rotate_left
         · go_simp <;> (try with_reducible rfl))
      try simp only [put_rules]
      first
      | (refine takeE 7 rfl rfl ((runs_ldR 0 (ty := 37) (n := 74) (m := Rec.segs r) rfl rfl rfl rfl Try.underlying37 rfl (by kernel_rfl))) HC.out (by kernel_rfl) (fun _ _ _ h => h) ?_)
      | (refine takeE 7 rfl rfl ((runs_ldEnt (ty := 38) rfl rfl HEC.out Try.underlying38 rfl (Rec.sizeF HRW.out.ok))) HC.out (by kernel_rfl) (fun _ _ _ h => h) ?_)
      | (refine takeE 7 rfl rfl ((runs_ldEnt1 (ty := 23) rfl rfl HEI.out (by kernel_rfl))) HC.out (by kernel_rfl) (fun _ _ _ h => h) ?_)
      | (refine takeE 7 (v := ?_) rfl rfl (runs_of fun w => ?_) HC.out (by kernel_rfl) (fun _ _ _ h => h) ?_
         rotate_left
         · go_simp <;> (try with_reducible rfl))
      try simp only [put_rules]
      refine effE 2 rfl (by kernel_rfl) ?_
      refine wpList_callF 28 rfl Try.func28 HK1.out (al := [.pointer (some ⟨b, 0, none⟩), .agg (flat r.segs).toArray]) rfl rfl (HC1.out _ _ HW.out) ?_
      rintro e w2 ⟨rfl, hw'⟩
      refine ⟨_, rfl, ?_⟩
      clear HW; have HW := Lib.hid hw'; clear hw'; (try simp only [hps_rules] at HW)
      refine wpList_behind (And.intro (fun _ => (by exact HW.out.tail.tail)) ?_)
      clear HC; have HC := Lib.hid (HW.out.tail.tail)
      refine effE 8 rfl (by kernel_rfl) ?_
      refine wpList_callF 29 rfl Try.func29 HK2.out (al := [.pointer (some ⟨p, 0, none⟩), .agg (flat r.segs).toArray]) rfl rfl (HC2.out _ _ HW.out) ?_
      rintro e w2 ⟨rfl, hw'⟩
      refine ⟨_, rfl, ?_⟩
      clear HW; have HW := Lib.hid hw'; clear hw'; (try simp only [hps_rules] at HW)
      refine wpList_behind (And.intro (fun _ => (by exact HW.out.tail.tail)) ?_)
      clear HC; have HC := Lib.hid (HW.out.tail.tail)
      first
      | (refine takeE 9 rfl rfl ((runs_ldR 0 (ty := 37) (n := 74) (m := Rec.segs r) rfl rfl rfl rfl Try.underlying37 rfl (by kernel_rfl))) HC.out (by kernel_rfl) (fun _ _ _ h => h) ?_)
      | (refine takeE 9 rfl rfl ((runs_ldEnt (ty := 38) rfl rfl HEC.out Try.underlying38 rfl (Rec.sizeF HRW.out.ok))) HC.out (by kernel_rfl) (fun _ _ _ h => h) ?_)
      | (refine takeE 9 rfl rfl ((runs_ldEnt1 (ty := 23) rfl rfl HEI.out (by kernel_rfl))) HC.out (by kernel_rfl) (fun _ _ _ h => h) ?_)
      | (refine takeE 9 (v := ?_) rfl rfl (runs_of fun w => ?_) HC.out (by kernel_rfl) (fun _ _ _ h => h) ?_
         rotate_left
         · go_simp <;> (try with_reducible rfl))
      try simp only [put_rules]
      first
      | (refine takeE 10 rfl rfl ((runs_ldR 0 (ty := 37) (n := 74) (m := Rec.segs r) rfl rfl rfl rfl Try.underlying37 rfl (by kernel_rfl))) HC.out (by kernel_rfl) (fun _ _ _ h => h) ?_)
      | (refine takeE 10 rfl rfl ((runs_ldEnt (ty := 38) rfl rfl HEC.out Try.underlying38 rfl (Rec.sizeF HRW.out.ok))) HC.out (by kernel_rfl) (fun _ _ _ h => h) ?_)
      | (refine takeE 10 rfl rfl ((runs_ldEnt1 (ty := 23) rfl rfl HEI.out (by kernel_rfl))) HC.out (by kernel_rfl) (fun _ _ _ h => h) ?_)
      | (refine takeE 10 (v := ?_) rfl rfl (runs_of fun w => ?_) HC.out (by kernel_rfl) (fun _ _ _ h => h) ?_
         rotate_left
         · go_simp <;> (try with_reducible rfl))
      try simp only [put_rules]
      first
      | (refine takeE 11 rfl rfl ((runs_ldR 0 (ty := 37) (n := 74) (m := Rec.segs r) rfl rfl rfl rfl Try.underlying37 rfl (by kernel_rfl))) HC.out (by kernel_rfl) (fun _ _ _ h => h) ?_)
      | (refine takeE 11 rfl rfl ((runs_ldEnt (ty := 38) rfl rfl HEC.out Try.underlying38 rfl (Rec.sizeF HRW.out.ok))) HC.out (by kernel_rfl) (fun _ _ _ h => h) ?_)
      | (refine takeE 11 rfl rfl ((runs_ldEnt1 (ty := 23) rfl rfl HEI.out (by kernel_rfl))) HC.out (by kernel_rfl) (fun _ _ _ h => h) ?_)
      | (refine takeE 11 (v := ?_) rfl rfl (runs_of fun w => ?_) HC.out (by kernel_rfl) (fun _ _ _ h => h) ?_
         rotate_left
         · go_simp <;> (try with_reducible rfl))
      try simp only [put_rules]
      first
      | (refine takeE 12 rfl rfl ((runs_ldR 0 (ty := 37) (n := 74) (m := Rec.segs r) rfl rfl rfl rfl Try.underlying37 rfl (by kernel_rfl))) HC.out (by kernel_rfl) (fun _ _ _ h => h) ?_)
      | (refine takeE 12 rfl rfl ((runs_ldEnt (ty := 38) rfl rfl HEC.out Try.underlying38 rfl (Rec.sizeF HRW.out.ok))) HC.out (by kernel_rfl) (fun _ _ _ h => h) ?_)
      | (refine takeE 12 rfl rfl ((runs_ldEnt1 (ty := 23) rfl rfl HEI.out (by kernel_rfl))) HC.out (by kernel_rfl) (fun _ _ _ h => h) ?_)
      | (refine takeE 12 (v := ?_) rfl rfl (runs_of fun w => ?_) HC.out (by kernel_rfl) (fun _ _ _ h => h) ?_
         rotate_left
         · go_simp <;> (try with_reducible rfl))
      try simp only [put_rules]
      first
      | (refine takeE 14 rfl rfl ((runs_ldR 0 (ty := 37) (n := 74) (m := Rec.segs r) rfl rfl rfl rfl Try.underlying37 rfl (by kernel_rfl))) HC.out (by kernel_rfl) (fun _ _ _ h => h) ?_)
      | (refine takeE 14 rfl rfl ((runs_ldEnt (ty := 38) rfl rfl HEC.out Try.underlying38 rfl (Rec.sizeF HRW.out.ok))) HC.out (by kernel_rfl) (fun _ _ _ h => h) ?_)
      | (refine takeE 14 rfl rfl ((runs_ldEnt1 (ty := 23) rfl rfl HEI.out (by kernel_rfl))) HC.out (by kernel_rfl) (fun _ _ _ h => h) ?_)
      | (refine takeE 14 (v := ?_) rfl rfl (runs_of fun w => ?_) HC.out (by kernel_rfl) (fun _ _ _ h => h) ?_
         rotate_left
         · go_simp <;> (try with_reducible rfl))
      try simp only [put_rules]
      first
      | (refine takeE 15 rfl rfl ((runs_ldR 0 (ty := 37) (n := 74) (m := Rec.segs r) rfl rfl rfl rfl Try.underlying37 rfl (by kernel_rfl))) HC.out (by kernel_rfl) (fun _ _ _ h => h) ?_)
      | (refine takeE 15 rfl rfl ((runs_ldEnt (ty := 38) rfl rfl HEC.out Try.underlying38 rfl (Rec.sizeF HRW.out.ok))) HC.out (by kernel_rfl) (fun _ _ _ h => h) ?_)
      | (refine takeE 15 rfl rfl ((runs_ldEnt1 (ty := 23) rfl rfl HEI.out (by kernel_rfl))) HC.out (by kernel_rfl) (fun _ _ _ h => h) ?_)
      | (refine takeE 15 (v := ?_) rfl rfl (runs_of fun w => ?_) HC.out (by kernel_rfl) (fun _ _ _ h => h) ?_
         rotate_left
         · go_simp <;> (try with_reducible rfl))
      try simp only [put_rules]
      first
      | (refine takeE 16 rfl rfl ((runs_ldR 0 (ty := 37) (n := 74) (m := Rec.segs r) rfl rfl rfl rfl Try.underlying37 rfl (by kernel_rfl))) HC.out (by kernel_rfl) (fun _ _ _ h => h) ?_)
      | (refine takeE 16 rfl rfl ((runs_ldEnt (ty := 38) rfl rfl HEC.out Try.underlying38 rfl (Rec.sizeF HRW.out.ok))) HC.out (by kernel_rfl) (fun _ _ _ h => h) ?_)
      | (refine takeE 16 rfl rfl ((runs_ldEnt1 (ty := 23) rfl rfl HEI.out (by kernel_rfl))) HC.out (by kernel_rfl) (fun _ _ _ h => h) ?_)
      | (refine takeE 16 (v := ?_) rfl rfl (runs_of fun w => ?_) HC.out (by kernel_rfl) (fun _ _ _ h => h) ?_
         rotate_left
         · go_simp <;> (try with_reducible rfl))
      try simp only [put_rules]
      first
      | (refine takeE 17 rfl rfl ((runs_ldR 0 (ty := 37) (n := 74) (m := Rec.segs r) rfl rfl rfl rfl Try.underlying37 rfl (by kernel_rfl))) HC.out (by kernel_rfl) (fun _ _ _ h => h) ?_)
      | (refine takeE 17 rfl rfl ((runs_ldEnt (ty := 38) rfl rfl HEC.out Try.underlying38 rfl (Rec.sizeF HRW.out.ok))) HC.out (by kernel_rfl) (fun _ _ _ h => h) ?_)
      | (refine takeE 17 rfl rfl ((runs_ldEnt1 (ty := 23) rfl rfl HEI.out (by kernel_rfl))) HC.out (by kernel_rfl) (fun _ _ _ h => h) ?_)
      | (refine takeE 17 (v := ?_) rfl rfl (runs_of fun w => ?_) HC.out (by kernel_rfl) (fun _ _ _ h => h) ?_
         rotate_left
         · go_simp <;> (try with_reducible rfl))
      try simp only [put_rules]
      first
      | (refine takeE 18 rfl rfl ((runs_ldR 0 (ty := 37) (n := 74) (m := Rec.segs r) rfl rfl rfl rfl Try.underlying37 rfl (by kernel_rfl))) HC.out (by kernel_rfl) (fun _ _ _ h => h) ?_)
      | (refine takeE 18 rfl rfl ((runs_ldEnt (ty := 38) rfl rfl HEC.out Try.underlying38 rfl (Rec.sizeF HRW.out.ok))) HC.out (by kernel_rfl) (fun _ _ _ h => h) ?_)
      | (refine takeE 18 rfl rfl ((runs_ldEnt1 (ty := 23) rfl rfl HEI.out (by kernel_rfl))) HC.out (by kernel_rfl) (fun _ _ _ h => h) ?_)
      | (refine takeE 18 (v := ?_) rfl rfl (runs_of fun w => ?_) HC.out (by kernel_rfl) (fun _ _ _ h => h) ?_
         rotate_left
         · go_simp <;> (try with_reducible rfl))
      try simp only [put_rules]
      refine effE 13 rfl (by kernel_rfl) ?_
      refine wpList_callF 18 rfl Try.func18 HK3.out (al := [.pointer (some ⟨b, 0, none⟩), .agg (flat r.segs).toArray]) rfl rfl (HC3.out _ _ HW.out) ?_
      rintro e w2 ⟨rfl, hw'⟩
      refine ⟨_, rfl, ?_⟩
      clear HW; have HW := Lib.hid hw'; clear hw'; (try simp only [hps_rules] at HW)
      refine wpList_behind (And.intro (fun _ => (by exact HW.out.tail.tail)) ?_)
      clear HC; have HC := Lib.hid (HW.out.tail.tail)
      refine effE 19 rfl (by kernel_rfl) ?_
      refine wpList_callF 30 rfl Try.func30 HK4.out (al := [.pointer (some ⟨p, 0, none⟩), .agg (flat r.segs).toArray]) rfl rfl (HC4.out _ _ _ HW.out) ?_
      rintro e w2 ⟨rfl, hw'⟩
      refine ⟨_, rfl, ?_⟩
      clear HW; have HW := Lib.hid hw'; clear hw'; (try simp only [hps_rules] at HW)
      refine wpList_behind (And.intro (fun _ => (by exact HW.out.tail.tail)) ?_)
      clear HC; have HC := Lib.hid (HW.out.tail.tail)
      first
      | (refine takeE 20 rfl rfl ((runs_ldR 0 (ty := 37) (n := 74) (m := Rec.segs r) rfl rfl rfl rfl Try.underlying37 rfl (by kernel_rfl))) HC.out (by kernel_rfl) (fun _ _ _ h => h) ?_)
      | (refine takeE 20 rfl rfl ((runs_ldEnt (ty := 38) rfl rfl HEC.out Try.underlying38 rfl (Rec.sizeF HRW.out.ok))) HC.out (by kernel_rfl) (fun _ _ _ h => h) ?_)
      | (refine takeE 20 rfl rfl ((runs_ldEnt1 (ty := 23) rfl rfl HEI.out (by kernel_rfl))) HC.out (by kernel_rfl) (fun _ _ _ h => h) ?_)
      | (refine takeE 20 (v := ?_) rfl rfl (runs_of fun w => ?_) HC.out (by kernel_rfl) (fun _ _ _ h => h) ?_
         rotate_left
         · go_simp <;> (try with_reducible rfl))
      try simp only [put_rules]
      first
      | (refine takeE 21 rfl rfl ((runs_ldR 0 (ty := 37) (n := 74) (m := Rec.segs r) rfl rfl rfl rfl Try.underlying37 rfl (by kernel_rfl))) HC.out (by kernel_rfl) (fun _ _ _ h => h) ?_)
      | (refine takeE 21 rfl rfl ((runs_ldEnt (ty := 38) rfl rfl HEC.out Try.underlying38 rfl (Rec.sizeF HRW.out.ok))) HC.out (by kernel_rfl) (fun _ _ _ h => h) ?_)
      | (refine takeE 21 rfl rfl ((runs_ldEnt1 (ty := 23) rfl rfl HEI.out (by kernel_rfl))) HC.out (by kernel_rfl) (fun _ _ _ h => h) ?_)
      | (refine takeE 21 (v := ?_) rfl rfl (runs_of fun w => ?_) HC.out (by kernel_rfl) (fun _ _ _ h => h) ?_
         rotate_left
         · go_simp <;> (try with_reducible rfl))
      try simp only [put_rules]
      first
      | (refine takeE 22 rfl rfl ((runs_ldR 0 (ty := 37) (n := 74) (m := Rec.segs r) rfl rfl rfl rfl Try.underlying37 rfl (by kernel_rfl))) HC.out (by kernel_rfl) (fun _ _ _ h => h) ?_)
      | (refine takeE 22 rfl rfl ((runs_ldEnt (ty := 38) rfl rfl HEC.out Try.underlying38 rfl (Rec.sizeF HRW.out.ok))) HC.out (by kernel_rfl) (fun _ _ _ h => h) ?_)
      | (refine takeE 22 rfl rfl ((runs_ldEnt1 (ty := 23) rfl rfl HEI.out (by kernel_rfl))) HC.out (by kernel_rfl) (fun _ _ _ h => h) ?_)
      | (refine takeE 22 (v := ?_) rfl rfl (runs_of fun w => ?_) HC.out (by kernel_rfl) (fun _ _ _ h => h) ?_
         rotate_left
         · go_simp <;> (try with_reducible rfl))
      try simp only [put_rules]
      first
      | (refine takeE 23 rfl rfl ((runs_ldR 0 (ty := 37) (n := 74) (m := Rec.segs r) rfl rfl rfl rfl Try.underlying37 rfl (by kernel_rfl))) HC.out (by kernel_rfl) (fun _ _ _ h => h) ?_)
      | (refine takeE 23 rfl rfl ((runs_ldEnt (ty := 38) rfl rfl HEC.out Try.underlying38 rfl (Rec.sizeF HRW.out.ok))) HC.out (by kernel_rfl) (fun _ _ _ h => h) ?_)
      | (refine takeE 23 rfl rfl ((runs_ldEnt1 (ty := 23) rfl rfl HEI.out (by kernel_rfl))) HC.out (by kernel_rfl) (fun _ _ _ h => h) ?_)
      | (refine takeE 23 (v := ?_) rfl rfl (runs_of fun w => ?_) HC.out (by kernel_rfl) (fun _ _ _ h => h) ?_
         rotate_left
         · go_simp <;> (try with_reducible rfl))
      try simp only [put_rules]
      first
      | (refine takeE 24 rfl rfl ((runs_ldR 0 (ty := 37) (n := 74) (m := Rec.segs r) rfl rfl rfl rfl Try.underlying37 rfl (by kernel_rfl))) HC.out (by kernel_rfl) (fun _ _ _ h => h) ?_)
      | (refine takeE 24 rfl rfl ((runs_ldEnt (ty := 38) rfl rfl HEC.out Try.underlying38 rfl (Rec.sizeF HRW.out.ok))) HC.out (by kernel_rfl) (fun _ _ _ h => h) ?_)
      | (refine takeE 24 rfl rfl ((runs_ldEnt1 (ty := 23) rfl rfl HEI.out (by kernel_rfl))) HC.out (by kernel_rfl) (fun _ _ _ h => h) ?_)
      | (refine takeE 24 (v := ?_) rfl rfl (runs_of fun w => ?_) HC.out (by kernel_rfl) (fun _ _ _ h => h) ?_
         rotate_left
         · go_simp <;> (try with_reducible rfl))
      try simp only [put_rules]
      first
      | (refine takeE 25 rfl rfl ((runs_ldR 0 (ty := 37) (n := 74) (m := Rec.segs r) rfl rfl rfl rfl Try.underlying37 rfl (by kernel_rfl))) HC.out (by kernel_rfl) (fun _ _ _ h => h) ?_)
      | (refine takeE 25 rfl rfl ((runs_ldEnt (ty := 38) rfl rfl HEC.out Try.underlying38 rfl (Rec.sizeF HRW.out.ok))) HC.out (by kernel_rfl) (fun _ _ _ h => h) ?_)
      | (refine takeE 25 rfl rfl ((runs_ldEnt1 (ty := 23) rfl rfl HEI.out (by kernel_rfl))) HC.out (by kernel_rfl) (fun _ _ _ h => h) ?_)
      | (refine takeE 25 (v := ?_) rfl rfl (runs_of fun w => ?_) HC.out (by kernel_rfl) (fun _ _ _ h => h) ?_
         rotate_left
         · go_simp <;> (try with_reducible rfl))
      try simp only [put_rules]
      first
      | (refine takeE 26 rfl rfl ((runs_ldR 0 (ty := 37) (n := 74) (m := Rec.segs r) rfl rfl rfl rfl Try.underlying37 rfl (by kernel_rfl))) HC.out (by kernel_rfl) (fun _ _ _ h => h) ?_)
      | (refine takeE 26 rfl rfl ((runs_ldEnt (ty := 38) rfl rfl HEC.out Try.underlying38 rfl (Rec.sizeF HRW.out.ok))) HC.out (by kernel_rfl) (fun _ _ _ h => h) ?_)
      | (refine takeE 26 rfl rfl ((runs_ldEnt1 (ty := 23) rfl rfl HEI.out (by kernel_rfl))) HC.out (by kernel_rfl) (fun _ _ _ h => h) ?_)
      | (refine takeE 26 (v := ?_) rfl rfl (runs_of fun w => ?_) HC.out (by kernel_rfl) (fun _ _ _ h => h) ?_
         rotate_left
         · go_simp <;> (try with_reducible rfl))
      try simp only [put_rules]
      first
      | (refine takeE 27 rfl rfl ((runs_ldR 0 (ty := 37) (n := 74) (m := Rec.segs r) rfl rfl rfl rfl Try.underlying37 rfl (by kernel_rfl))) HC.out (by kernel_rfl) (fun _ _ _ h => h) ?_)
      | (refine takeE 27 rfl rfl ((runs_ldEnt (ty := 38) rfl rfl HEC.out Try.underlying38 rfl (Rec.sizeF HRW.out.ok))) HC.out (by kernel_rfl) (fun _ _ _ h => h) ?_)
      | (refine takeE 27 rfl rfl ((runs_ldEnt1 (ty := 23) rfl rfl HEI.out (by kernel_rfl))) HC.out (by kernel_rfl) (fun _ _ _ h => h) ?_)
      | (refine takeE 27 (v := ?_) rfl rfl (runs_of fun w => ?_) HC.out (by kernel_rfl) (fun _ _ _ h => h) ?_
         rotate_left
         · go_simp <;> (try with_reducible rfl))
      try simp only [put_rules]
      first
      | (refine takeE 28 rfl rfl ((runs_ldR 0 (ty := 37) (n := 74) (m := Rec.segs r) rfl rfl rfl rfl Try.underlying37 rfl (by kernel_rfl))) HC.out (by kernel_rfl) (fun _ _ _ h => h) ?_)
      | (refine takeE 28 rfl rfl ((runs_ldEnt (ty := 38) rfl rfl HEC.out Try.underlying38 rfl (Rec.sizeF HRW.out.ok))) HC.out (by kernel_rfl) (fun _ _ _ h => h) ?_)
      | (refine takeE 28 rfl rfl ((runs_ldEnt1 (ty := 23) rfl rfl HEI.out (by kernel_rfl))) HC.out (by kernel_rfl) (fun _ _ _ h => h) ?_)
      | (refine takeE 28 (v := ?_) rfl rfl (runs_of fun w => ?_) HC.out (by kernel_rfl) (fun _ _ _ h => h) ?_
         rotate_left
         · go_simp <;> (try with_reducible rfl))
      try simp only [put_rules]
      first
      | (refine takeE 29 rfl rfl ((runs_ldR 0 (ty := 37) (n := 74) (m := Rec.segs r) rfl rfl rfl rfl Try.underlying37 rfl (by kernel_rfl))) HC.out (by kernel_rfl) (fun _ _ _ h => h) ?_)
      | (refine takeE 29 rfl rfl ((runs_ldEnt (ty := 38) rfl rfl HEC.out Try.underlying38 rfl (Rec.sizeF HRW.out.ok))) HC.out (by kernel_rfl) (fun _ _ _ h => h) ?_)
      | (refine takeE 29 rfl rfl ((runs_ldEnt1 (ty := 23) rfl rfl HEI.out (by kernel_rfl))) HC.out (by kernel_rfl) (fun _ _ _ h => h) ?_)
      | (refine takeE 29 (v := ?_) rfl rfl (runs_of fun w => ?_) HC.out (by kernel_rfl) (fun _ _ _ h => h) ?_
         rotate_left
         · go_simp <;> (try with_reducible rfl))
      try simp only [put_rules]
      refine effE 30 rfl (by kernel_rfl) ?_
      refine wpList_callF 31 rfl Try.func31 HK5.out (al := [.pointer (some ⟨b, 0, none⟩), .pointer (some ⟨p, 0, none⟩), .int .u64 8, .int .u64 (r.id : Int)]) rfl rfl (HC5.out _ _ HW.out) ?_
      rintro e w2 ⟨rfl, hw'⟩
      refine ⟨_, rfl, ?_⟩
      clear HW; have HW := Lib.hid hw'; clear hw'; (try simp only [hps_rules] at HW)
      refine wpList_behind (And.intro (fun _ => (by exact HW.out.tail.tail)) ?_)
      clear HC; have HC := Lib.hid (HW.out.tail.tail)
      first
      | (refine takeE 31 rfl rfl ((runs_ldR 0 (ty := 37) (n := 74) (m := Rec.segs r) rfl rfl rfl rfl Try.underlying37 rfl (by kernel_rfl))) HC.out (by kernel_rfl) (fun _ _ _ h => h) ?_)
      | (refine takeE 31 rfl rfl ((runs_ldEnt (ty := 38) rfl rfl HEC.out Try.underlying38 rfl (Rec.sizeF HRW.out.ok))) HC.out (by kernel_rfl) (fun _ _ _ h => h) ?_)
      | (refine takeE 31 rfl rfl ((runs_ldEnt1 (ty := 23) rfl rfl HEI.out (by kernel_rfl))) HC.out (by kernel_rfl) (fun _ _ _ h => h) ?_)
      | (refine takeE 31 (v := ?_) rfl rfl (runs_of fun w => ?_) HC.out (by kernel_rfl) (fun _ _ _ h => h) ?_
         rotate_left
         · go_simp <;> (try with_reducible rfl))
      try simp only [put_rules]
      refine effE 32 rfl (by kernel_rfl) ?_
      refine wpList_runs HW.out rfl (v := ?_) (runs_of fun w => ?_) ?_
      rotate_left
      · go_simp <;> (try with_reducible rfl)
      try simp only [put_rules]
      refine wpList_behind (And.intro (fun h => Bool.noConfusion (show true = false from h)) ?_)
      refine doneE (by kernel_rfl) ?_ _
      go_wp2
      go_roundw
      case rel => exact ⟨j + 1, by omega, by go_num, Lib.hid ⟨Q2, HG2.out.1, HG2.out.2.1, HG2.out.2.2, (HW.out.pull 2 rfl).tail⟩⟩
      case measure => simp [intOf]; omega
    · go_wp2_with (first
        | go_skip
        | ((go_at_call 31; have hc := bkSame_ok HGG.out HQW.out HLN.out.2.2.1 0 (by omega) HW.out; refine hc.mono ?_; clear hc)
           rintro e w2 ⟨rfl, hw'⟩
           clear HW; have HW := Lib.hid hw'; clear hw'; (try simp only [hps_rules] at HW)))
      go_ret
      exact ⟨rfl, HW.out.tail.tail⟩
end Go.Proofs.Ytaieonajialenaa
