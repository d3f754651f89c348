/- Any record is formed, and has the bytes, as the document says; and is decoded as it was (the walk of RecordEncodes). -/
import Derived.Test.YtaieonajialenaaRecR4
import Derived.Test.YtaieonajialenaaRecPure
import Derived.Test.YtaieonajialenaaRecN
import Derived.Test.YtaieonajialenaaRecG
namespace Go.Proofs.Ytaieonajialenaa
open Go.RowKit HP

theorem fewSS (r : Rec) (h : r.Ok) (w : World) (R : List HP) (hh : Holds w R) {bo : Bool} (hb : fewR r = bo) : Calls Try.prog 25 #[.agg (flat r.segs).toArray] w fun e w' => e = .returned (.bool bo) ∧ Holds w' R := by
  subst hb
  exact fewrec_ok r h w R hh
theorem rcEncodeS (r : Rec) (h : r.Wf) (w : World) (R : List HP) (hh : Holds w R) {b : Bool} (hb : formedR r = b) :
    Calls Try.prog 26 #[.agg (flat r.segs).toArray] w fun e w' => ∃ A n c, e = .returned (.tuple #[.slice A n c, .int .i64 (if b = true then 0 else 1)]) ∧ Hid (n = (if b = true then encR r else []).length) ∧ n ≤ c ∧ Holds w' (own (.slice A n c) (if b = true then encR r else []) :: R) := by
  subst hb
  refine (rcEncode_ok r h w R hh).mono ?_
  rintro e w2 ⟨v, rfl, hw⟩
  obtain ⟨A, n, c, rfl, hn, hc, -⟩ := hw.own_form
  exact ⟨A, n, c, rfl, hn, hc, hw⟩
theorem rEncodeRecS (r : Rec) (h : r.Wf) (w : World) (R : List HP) (hh : Holds w R) {b : Bool} (hb : formedR r = b) :
    Calls Try.prog 34 #[.agg (flat r.segs).toArray] w fun e w' => ∃ A n c, e = .returned (.tuple #[.slice A n c, .int .i64 (if b = true then 0 else 1)]) ∧ Hid (n = (if b = true then encR r else []).length) ∧ n ≤ c ∧ Holds w' (own (.slice A n c) (if b = true then encR r else []) :: R) := by
  subst hb
  refine (rEncodeRec_ok r h w R hh).mono ?_
  rintro e w2 ⟨v, rfl, hw⟩
  obtain ⟨A, n, c, rfl, hn, hc, -⟩ := hw.own_form
  exact ⟨A, n, c, rfl, hn, hc, hw⟩
theorem length_encR {r : Rec} (ok : r.Ok) (h : Formed r) : (encR r).length ≤ 5000 := by
  have h1 := length_encE ok.ed
  have h2 := h.s
  have h3 := h.t
  have h4 := ok.root
  have h5 := r.length_pre
  rw [encR_pre]
  repeat' split
  all_goals simp
  all_goals omega
set_option maxRecDepth 100000 in
set_option maxHeartbeats 8000000 in
theorem recordEncodes_ok (r : Rec) (h : r.Wf) (w : World) (R : List HP) (hh : Holds w R) : Calls Try.prog 8 #[.agg (flat r.segs).toArray] w fun e w' => e = .returned (.bool true) ∧ Holds w' R := by
  have HW := Lib.hid hh
  have HS := Lib.hid (Rec.segs_ok h.ok)
  have HR := Lib.hid h
  have HZ := Lib.hid (Rec.segs_ok Rec.zero_ok)
  have HKP : Hid ((Try.f35.name == "runtime.NumGoroutine" || Try.f35.body.isNone) = false) := by unfold Hid; kernel_rfl
  have HKQ : Hid ((Try.f36.name == "runtime.NumGoroutine" || Try.f36.body.isNone) = false) := by unfold Hid; kernel_rfl
  clear hh h
  obtain ⟨b1, HB1⟩ : ∃ b, Hid (fewR r = b) := ⟨_, rfl⟩
  cases b1
  · go_enter Try.func8, Try.ntmps8
    go_wp2_with (first
      | go_skip
      | (refine wpList_runs HW.out rfl (runs_ldR 0 (ty := 38) (n := 74) (m := Rec.segs r) rfl rfl rfl rfl Try.underlying38 rfl (by kernel_rfl)) ?_; simp only [put_rules])
      | (refine wpList_box HW.out rfl rfl rfl rfl HS.out (fun gb w' hw' => ?_)
         clear HW; have HW := Lib.hid hw'; clear hw'; (try simp only [hps_rules] at HW); (try simp only [put_rules]))
      | ((go_at_call 24; have hc := rcawake_ok _ _ HW.out; with_reducible refine hc.mono ?_; clear hc)
         rintro e w2 ⟨rfl, hw'⟩
         clear HW; have HW := Lib.hid hw'; clear hw'; (try simp only [hps_rules] at HW))
      | ((go_at_call 25; have hc := fewSS r HR.out.ok _ _ HW.out HB1.out; with_reducible refine hc.mono ?_; clear hc)
         rintro e w2 ⟨rfl, hw'⟩
         clear HW; have HW := Lib.hid hw'; clear hw'; (try simp only [hps_rules] at HW)))
    go_ret
    exact ⟨rfl, HW.out.tail⟩
  obtain ⟨b2, HB2⟩ : ∃ b, Hid (formedR r = b) := ⟨_, rfl⟩
  cases b2
  · have HD : Hid ((decR []).1.Ok) := (decR_wf [] (by simp)).ok
    obtain ⟨r2, HR2⟩ : ∃ x, Hid ((decR []).1 = x) := ⟨_, rfl⟩
    obtain ⟨m2, HM2⟩ : ∃ x, Hid ((decR []).2 = x) := ⟨_, rfl⟩
    have HDC : Hid (∀ A n c w R, Hid (n = ([] : List UInt8).length) → Holds w (own (.slice A n c) [] :: R) → Calls Try.prog 37 #[.slice A n c] w fun e w' => e = .returned (.tuple #[.agg (flat r2.segs).toArray, .int .i64 m2]) ∧ Holds w' (own (.slice A n c) [] :: R)) := fun A n c w R hn hw => by
      have := rcDecode_ok A n c [] w _ hw Ent.own hn (by rw [hn.out]; simp)
      rwa [HR2.out, HM2.out] at this
    rw [HR2.out] at HD
    have HS2 := Lib.hid (Rec.segs_ok HD.out)
    go_enter Try.func8, Try.ntmps8
    go_wp2_with (first
      | go_skip
      | (refine wpList_runs HW.out rfl (runs_ldR 0 (ty := 38) (n := 74) (m := Rec.segs r) rfl rfl rfl rfl Try.underlying38 rfl (by kernel_rfl)) ?_; simp only [put_rules])
      | (refine wpList_box HW.out rfl rfl rfl rfl HS.out (fun gb w' hw' => ?_)
         clear HW; have HW := Lib.hid hw'; clear hw'; (try simp only [hps_rules] at HW); (try simp only [put_rules]))
      | ((go_at_call 24; have hc := rcawake_ok _ _ HW.out; with_reducible refine hc.mono ?_; clear hc)
         rintro e w2 ⟨rfl, hw'⟩
         clear HW; have HW := Lib.hid hw'; clear hw'; (try simp only [hps_rules] at HW))
      | ((go_at_call 25; have hc := fewSS r HR.out.ok _ _ HW.out HB1.out; with_reducible refine hc.mono ?_; clear hc)
         rintro e w2 ⟨rfl, hw'⟩
         clear HW; have HW := Lib.hid hw'; clear hw'; (try simp only [hps_rules] at HW))
      | (go_at_call 26; have hc := rcEncodeS r HR.out _ _ HW.out HB2.out; with_reducible refine hc.mono ?_; clear hc
         rintro e w2 ⟨A1, n1, c1, rfl, hn1, hc1, hw'⟩
         replace hw' := (hw'.push_ 1 (by simp) : Holds w2 (_ :: own (.slice A1 n1 c1) [] :: R))
         clear HW; have HW := Lib.hid hw'; clear hw'; (try simp only [hps_rules] at HW))
      | (go_at_call 34; have hc := rEncodeRecS r HR.out _ _ HW.out HB2.out; with_reducible refine hc.mono ?_; clear hc
         rintro e w3 ⟨A2, n2, c2, rfl, hn2, hc2, hw'⟩
         replace hw' := (hw'.push_ 1 (by simp) : Holds w3 (_ :: own (.slice A2 n2 c2) [] :: own (.slice A1 n1 c1) [] :: R))
         clear HW; have HW := Lib.hid hw'; clear hw'; (try simp only [hps_rules] at HW)))
    refine wp_region_quietC (fun v => Holds v _) (by kernel_rfl) (by kernel_rfl) (HW.out.drewN 1) ?_
    repeat (first
      | go_big_quiet_skip
      | (go_big_quiet_want
         first
         | (refine quiet_runs (runs_ldR 0 (ty := 38) (n := 74) (m := Rec.segs r) rfl rfl rfl rfl Try.underlying38 rfl (by kernel_rfl)) ?_)
         | (refine quiet_callF 35 rfl Try.func35 HKP.out (al := [.agg (flat r.segs).toArray]) rfl (fun v hv => formedS r HR.out v _ hv HB2.out) ?_)
         | (refine quiet_callF 36 rfl Try.func36 HKQ.out (al := [.agg (flat r.segs).toArray]) rfl (fun v hv => rformedS r HR.out v _ hv HB2.out) ?_)
         | (refine quiet_runs (runs_b2s (A := A1) (n := n1) (c := c1) (xs := []) rfl rfl hn1 (fun w hw => (hw.pull 2 rfl).own_rd)) ?_)
         | (refine quiet_runs (runs_b2s (A := A2) (n := n2) (c := c2) (xs := []) rfl rfl hn2 (fun w hw => (hw.pull 1 rfl).own_rd)) ?_)
         | (refine quiet_runs (runs_ld1 0 rfl rfl rfl rfl (by kernel_rfl)) ?_)
         | (refine quietV ?_ (fun v hv => ?_) ?_
            rotate_left
            · clear hv; go_simp <;> (try with_reducible rfl))
         (try simp only [put_rules])
         go_big_quiet_on))
    refine wpQuiet_nil (fun w' hw' => ?_)
    clear HW; have HW := Lib.hid hw'; clear hw'
    go_wp2_with (first
      | go_skip
      | (go_at_call 37; have hc := HDC.out A1 n1 c1 _ _ hn1 (HW.out.pull 2 rfl); with_reducible refine hc.mono ?_; clear hc
         rintro e w4 ⟨rfl, hw'⟩
         replace hw' : Holds w4 (_ :: _ :: _ :: R) := hw'.push_ 2 (by simp)
         clear HW; have HW := Lib.hid hw'; clear hw'; (try simp only [hps_rules] at HW))
      | (refine wpList_alloc HW.out rfl (ty := 37) rfl (z := .agg (flat Rec.zero.segs).toArray) (by kernel_rfl) (M := Rec.zero.segs) rfl HZ.out (fun g9 w' hw' => ?_)
         clear HW; have HW := Lib.hid hw'; clear hw'; (try simp only [hps_rules] at HW); (try simp only [put_rules]))
      | (refine wpList_stR HW.out rfl (ty := 37) (n := 74) rfl rfl 0 rfl (M := Rec.segs r2) rfl rfl HS2.out rfl (by kernel_rfl) (fun w' hw' => ?_)
         clear HW; have HW := Lib.hid hw'; clear hw'; (try simp only [hps_rules] at HW); (try simp only [put_rules])))
    go_ret
    exact ⟨rfl, HW.out.tail.tail.tail.tail⟩
  have HDE := Lib.hid (decR_enc ((formedR_iff r).1 HB2.out) HR.out.ok)
  have HLE := Lib.hid (length_encR HR.out.ok ((formedR_iff r).1 HB2.out))
  have he : ∀ w, (Op.equalIn 10000 38 (.agg (flat r.segs).toArray) (.agg (flat r.segs).toArray)).run Try.prog w = .ok true w := fun w => by
    have := run_equal_rec (T := 38) (.inr rfl) HR.out HR.out w
    rwa [sameR_self] at this
  obtain ⟨X, HX⟩ : ∃ x, Hid (encR r = x) := ⟨_, rfl⟩
  rw [HX.out] at HDE HLE
  have HDC : Hid (∀ A n c w R, Hid (n = X.length) → Holds w (own (.slice A n c) X :: R) → Calls Try.prog 37 #[.slice A n c] w fun e w' => e = .returned (.tuple #[.agg (flat r.segs).toArray, .int .i64 0]) ∧ Holds w' (own (.slice A n c) X :: R)) := fun A n c w R hn hw => by
    have := rcDecode_ok A n c X w _ hw Ent.own hn (by rw [hn.out]; have := HLE.out; omega)
    rwa [HDE.out] at this
  have HE1 : Hid (∀ w R, Holds w R → Calls Try.prog 26 #[.agg (flat r.segs).toArray] w fun e w' => ∃ A n c, e = .returned (.tuple #[.slice A n c, .int .i64 0]) ∧ Hid (n = X.length) ∧ n ≤ c ∧ Holds w' (own (.slice A n c) X :: R)) := fun w R hw => by
    have := rcEncodeS r HR.out w R hw HB2.out
    rw [if_pos rfl, if_pos rfl, HX.out] at this
    exact this
  have HE2 : Hid (∀ w R, Holds w R → Calls Try.prog 34 #[.agg (flat r.segs).toArray] w fun e w' => ∃ A n c, e = .returned (.tuple #[.slice A n c, .int .i64 0]) ∧ Hid (n = X.length) ∧ n ≤ c ∧ Holds w' (own (.slice A n c) X :: R)) := fun w R hw => by
    have := rEncodeRecS r HR.out w R hw HB2.out
    rw [if_pos rfl, if_pos rfl, HX.out] at this
    exact this
  go_enter Try.func8, Try.ntmps8
  go_wp2_with (first
    | go_skip
    | (refine wpList_runs HW.out rfl (runs_ldR 0 (ty := 38) (n := 74) (m := Rec.segs r) rfl rfl rfl rfl Try.underlying38 rfl (by kernel_rfl)) ?_; simp only [put_rules])
    | (refine wpList_box HW.out rfl rfl rfl rfl HS.out (fun gb w' hw' => ?_)
       clear HW; have HW := Lib.hid hw'; clear hw'; (try simp only [hps_rules] at HW); (try simp only [put_rules]))
    | ((go_at_call 24; have hc := rcawake_ok _ _ HW.out; with_reducible refine hc.mono ?_; clear hc)
       rintro e w2 ⟨rfl, hw'⟩
       clear HW; have HW := Lib.hid hw'; clear hw'; (try simp only [hps_rules] at HW))
    | ((go_at_call 25; have hc := fewSS r HR.out.ok _ _ HW.out HB1.out; with_reducible refine hc.mono ?_; clear hc)
       rintro e w2 ⟨rfl, hw'⟩
       clear HW; have HW := Lib.hid hw'; clear hw'; (try simp only [hps_rules] at HW))
    | (go_at_call 26; have hc := HE1.out _ _ HW.out; with_reducible refine hc.mono ?_; clear hc
       rintro e w2 ⟨A1, n1, c1, rfl, hn1, hc1, hw'⟩
       replace hw' := (hw'.push_ 1 (by simp) : Holds w2 (_ :: own (.slice A1 n1 c1) X :: R))
       clear HW; have HW := Lib.hid hw'; clear hw'; (try simp only [hps_rules] at HW))
    | (go_at_call 34; have hc := HE2.out _ _ HW.out; with_reducible refine hc.mono ?_; clear hc
       rintro e w3 ⟨A2, n2, c2, rfl, hn2, hc2, hw'⟩
       replace hw' := (hw'.push_ 1 (by simp) : Holds w3 (_ :: own (.slice A2 n2 c2) X :: own (.slice A1 n1 c1) X :: R))
       clear HW; have HW := Lib.hid hw'; clear hw'; (try simp only [hps_rules] at HW)))
  refine wp_region_quietC (fun v => Holds v _) (by kernel_rfl) (by kernel_rfl) (HW.out.drewN 1) ?_
  repeat (first
    | go_big_quiet_skip
    | (go_big_quiet_want
       first
       | (refine quiet_runs (runs_ldR 0 (ty := 38) (n := 74) (m := Rec.segs r) rfl rfl rfl rfl Try.underlying38 rfl (by kernel_rfl)) ?_)
       | (refine quiet_callF 35 rfl Try.func35 HKP.out (al := [.agg (flat r.segs).toArray]) rfl (fun v hv => formedS r HR.out v _ hv HB2.out) ?_)
       | (refine quiet_callF 36 rfl Try.func36 HKQ.out (al := [.agg (flat r.segs).toArray]) rfl (fun v hv => rformedS r HR.out v _ hv HB2.out) ?_)
       | (refine quiet_runs (runs_b2s (A := A1) (n := n1) (c := c1) (xs := X) rfl rfl hn1 (fun w hw => (hw.pull 2 rfl).own_rd)) ?_)
       | (refine quiet_runs (runs_b2s (A := A2) (n := n2) (c := c2) (xs := X) rfl rfl hn2 (fun w hw => (hw.pull 1 rfl).own_rd)) ?_)
       | (refine quiet_runs (runs_ld1 0 rfl rfl rfl rfl (by kernel_rfl)) ?_)
       | (refine quietV ?_ (fun v hv => ?_) ?_
          rotate_left
          · clear hv; go_simp <;> (try with_reducible rfl))
       (try simp only [put_rules])
       go_big_quiet_on))
  refine wpQuiet_nil (fun w' hw' => ?_)
  clear HW; have HW := Lib.hid hw'; clear hw'
  go_wp2_with (first
    | go_skip
    | (go_at_call 37; have hc := HDC.out A1 n1 c1 _ _ hn1 (HW.out.pull 2 rfl); with_reducible refine hc.mono ?_; clear hc
       rintro e w4 ⟨rfl, hw'⟩
       replace hw' : Holds w4 (_ :: _ :: _ :: R) := hw'.push_ 2 (by simp)
       clear HW; have HW := Lib.hid hw'; clear hw'; (try simp only [hps_rules] at HW))
    | (refine wpList_alloc HW.out rfl (ty := 37) rfl (z := .agg (flat Rec.zero.segs).toArray) (by kernel_rfl) (M := Rec.zero.segs) rfl HZ.out (fun g9 w' hw' => ?_)
       clear HW; have HW := Lib.hid hw'; clear hw'; (try simp only [hps_rules] at HW); (try simp only [put_rules]))
    | (refine wpList_stR HW.out rfl (ty := 37) (n := 74) rfl rfl 0 rfl (M := Rec.segs r) rfl rfl HS.out rfl (by kernel_rfl) (fun w' hw' => ?_)
       clear HW; have HW := Lib.hid hw'; clear hw'; (try simp only [hps_rules] at HW); (try simp only [put_rules]))
    | (refine wpList_runs HW.out rfl (runs_ldR 0 (ty := 37) (n := 74) (m := Rec.segs r) rfl rfl rfl rfl Try.underlying37 rfl (by kernel_rfl)) ?_; simp only [put_rules])
    | (refine wpList_runs HW.out rfl (runs_ldR 1 (ty := 38) (n := 74) (m := Rec.segs r) rfl rfl rfl rfl Try.underlying38 rfl (by kernel_rfl)) ?_; simp only [put_rules]))
  go_ret
  exact ⟨rfl, HW.out.tail.tail.tail.tail⟩
end Go.Proofs.Ytaieonajialenaa
