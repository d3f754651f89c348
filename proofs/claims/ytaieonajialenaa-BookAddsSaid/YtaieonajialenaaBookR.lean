/- The reference's book: Fits. -/
import Derived.Test.YtaieonajialenaaBookQ
import Derived.Test.YtaieonajialenaaRecO
namespace Go.Proofs.Ytaieonajialenaa
open Go.RowKit HP

section
variable {p : Nat} {A : Option Addr} {c : Nat} {first : List UInt8} {Q : List Rec} {w : World} {R : List HP}
set_option maxRecDepth 100000 in
set_option maxHeartbeats 2000000 in
theorem rbFits_ok (hQ : Q.length ≤ 1000) (r : Rec) (hr : r.Wf) (hh : Holds w (RbL p A c first Q R)) {bo : Bool} (hb : (formedR r && rFits Q r) = bo) :
    Calls Try.prog 29 #[.pointer (some ⟨p, 0, none⟩), .agg (flat r.segs).toArray] w fun e w' => e = .returned (.bool bo) ∧ Holds w' (RbL p A c first Q R) := by
  have HW : Hid (Holds w (_ :: _)) := hh
  have HR := Lib.hid hr
  have HS := Lib.hid (Rec.segs_ok hr.ok)
  have HB := Lib.hid hb
  clear hh hb hr
  obtain ⟨f1, hf⟩ : ∃ f, formedR r = f := ⟨_, rfl⟩
  have HF := Lib.hid hf
  cases f1
  · have hbo : bo = false := by rw [← HB.out, hf]; rfl
    subst hbo
    clear hf
    go_enter Try.func29, Try.ntmps29
    go_wp2_with (first
      | go_skip
      | (refine wpList_runs HW.out rfl (runs_ldR 2 (ty := 38) (n := 74) (m := Rec.segs r) rfl rfl rfl rfl Try.underlying38 rfl (by kernel_rfl)) ?_; simp only [put_rules])
      | go_skip
      | (refine wpList_runs HW.out rfl (runs_ld1 2 rfl rfl rfl rfl (by kernel_rfl)) ?_; simp only [put_rules])
      | (refine wpList_box HW.out rfl rfl rfl rfl HS.out (fun gb w' hw' => ?_)
         replace hw' : Holds w' (_ :: _ :: _ :: R) := RbL.behind hw'
         clear HW; have HW := Lib.hid hw'; clear hw'; (try simp only [hps_rules] at HW); (try simp only [put_rules]))
      | ((go_at_call 36; have hc := rformedS r HR.out _ _ HW.out HF.out; with_reducible refine hc.mono ?_; clear hc)
         rintro e w2 ⟨rfl, hw'⟩
         clear HW; have HW := Lib.hid hw'; clear hw'; (try simp only [hps_rules] at HW)))
    go_ret
    exact ⟨rfl, (RbL.front HW.out).tail⟩
  have HB2 : Hid (rFits Q r = bo) := by
    have := HB.out
    rw [hf, Bool.true_and] at this
    exact this
  have HKF := HF.out
  have HK14 : Hid (1 ≤ r.kind ∧ r.kind ≤ 4) := ⟨((formedR_iff r).1 HKF).k1, ((formedR_iff r).1 HKF).k4⟩
  clear hf HB HKF
  by_cases h1 : r.kind = 1
  · have e1 : (r.kind == 1) = true := by rw [h1]; rfl
    have hm := rEdits_le Q
    obtain ⟨m, HM⟩ : ∃ m, Hid (rEdits Q = m) := ⟨_, rfl⟩
    rw [HM.out] at hm
    have hw1 : IntKind.u64.wrap (m : Int) = m := wrapU (by omega)
    have hw2 : IntKind.u64.wrap ((m : Int) + 1) = (m : Int) + 1 := wrapU1 (by omega)
    have HKP : Hid ((Try.f65.name == "runtime.NumGoroutine" || Try.f65.body.isNone) = false) := by unfold Hid; kernel_rfl
    have hbo : ((r.id : Int) == (m : Int) + 1) = bo := by
      rw [← HB2.out]
      unfold rFits
      rw [if_pos h1]
      show _ = (r.id == rEdits Q + 1)
      rw [HM.out, Bool.eq_iff_iff]
      simp
      omega
    have HBO := Lib.hid hbo
    have HC : Hid (∀ v L, Holds v (RbL p A c first Q L) → Calls Try.prog 65 #[.pointer (some ⟨p, 0, none⟩)] v fun e w' => e = .returned (.int .i64 (m : Int)) ∧ Holds w' (RbL p A c first Q L)) := fun v L h => by
      have := rbEdits_ok hQ h
      rwa [HM.out] at this
    clear h1 hm
    go_enter Try.func29, Try.ntmps29
    go_wp2_with (first
      | go_skip
      | (refine wpList_runs HW.out rfl (runs_ldR 2 (ty := 38) (n := 74) (m := Rec.segs r) rfl rfl rfl rfl Try.underlying38 rfl (by kernel_rfl)) ?_; simp only [put_rules])
      | go_skip
      | (refine wpList_runs HW.out rfl (runs_ld1 2 rfl rfl rfl rfl (by kernel_rfl)) ?_; simp only [put_rules])
      | (refine wpList_box HW.out rfl rfl rfl rfl HS.out (fun gb w' hw' => ?_)
         replace hw' : Holds w' (_ :: _ :: _ :: R) := RbL.behind hw'
         clear HW; have HW := Lib.hid hw'; clear hw'; (try simp only [hps_rules] at HW); (try simp only [put_rules]))
      | ((go_at_call 36; have hc := rformedS r HR.out _ _ HW.out HF.out; with_reducible refine hc.mono ?_; clear hc)
         rintro e w2 ⟨rfl, hw'⟩
         clear HW; have HW := Lib.hid hw'; clear hw'; (try simp only [hps_rules] at HW)))
    refine wp_region_quietC (fun v => Holds v _) (by kernel_rfl) (by kernel_rfl) (HW.out.drewN 1) ?_
    repeat (first
      | go_big_quiet_skip
      | (go_big_quiet_want
         first
         | (refine quiet_callF 65 rfl Try.func65 HKP.out (al := [.pointer (some ⟨p, 0, none⟩)]) rfl (fun v hv => HC.out v _ hv) ?_)
         | (refine quiet_runs (runs_ld1 2 rfl rfl rfl rfl (by kernel_rfl)) ?_)
         | (refine quietV ?_ (fun v hv => ?_) ?_
            rotate_left
            · clear hv; go_simp <;> (try with_reducible rfl))
         (try simp only [put_rules])
         go_big_quiet_on))
    refine wpQuiet_nil (fun w' hw' => ?_)
    clear HW; have HW := Lib.hid hw'; clear hw'
    go_wp2
    go_ret
    exact ⟨rfl, (RbL.front HW.out).tail⟩
  have e1 : (r.kind == 1) = false := beq_eq_false_iff_ne.2 h1
  by_cases h2 : r.kind = 2
  · have e2 : (r.kind == 2) = true := by rw [h2]; rfl
    have HB3 : Hid (((rfind k234 r.id Q).isNone && rPrep Q == 0) = bo) := by
      have := HB2.out
      unfold rFits at this
      rwa [if_neg h1, if_pos h2] at this
    clear h1 h2 HB2
    cases h4 : rfind k234 r.id Q with
    | some r4 =>
      have H4 := Lib.hid h4
      have hbo : bo = false := by rw [← HB3.out, h4]; rfl
      subst hbo
      clear h4
      go_enter Try.func29, Try.ntmps29
      go_wp2_with (first
        | go_skip
        | (refine wpList_runs HW.out rfl (runs_ldR 2 (ty := 38) (n := 74) (m := Rec.segs r) rfl rfl rfl rfl Try.underlying38 rfl (by kernel_rfl)) ?_; simp only [put_rules])
        | go_skip
        | (refine wpList_runs HW.out rfl (runs_ld1 2 rfl rfl rfl rfl (by kernel_rfl)) ?_; simp only [put_rules])
        | (refine wpList_box HW.out rfl rfl rfl rfl HS.out (fun gb w' hw' => ?_)
           replace hw' : Holds w' (_ :: _ :: _ :: R) := RbL.behind hw'
           clear HW; have HW := Lib.hid hw'; clear hw'; (try simp only [hps_rules] at HW); (try simp only [put_rules]))
        | ((go_at_call 36; have hc := rformedS r HR.out _ _ HW.out HF.out; with_reducible refine hc.mono ?_; clear hc)
           rintro e w2 ⟨rfl, hw'⟩
           clear HW; have HW := Lib.hid hw'; clear hw'; (try simp only [hps_rules] at HW))
        | (go_at_call 66; have hc := rbfind_some234 r.id hQ HW.out H4.out; with_reducible refine hc.mono ?_; clear hc
           rintro e w2 ⟨j, rfl, -, -, hj9, hw'⟩
           have hj0 : decide ((j : Int) < 0) = false := decide_eq_false (by omega)
           have hj1 : decide ((0 : Int) ≤ (j : Int)) = true := decide_eq_true (by omega)
           replace hw' : Holds w2 (_ :: _ :: _ :: R) := hw'
           clear HW; have HW := Lib.hid hw'; clear hw'; (try simp only [hps_rules] at HW); (try simp only [put_rules])))
      go_ret
      exact ⟨rfl, (RbL.front HW.out).tail⟩
    | none =>
      have H4 := Lib.hid h4
      have hbo : ((rPrep Q : Int) == 0) = bo := by
        rw [← HB3.out, h4, Bool.eq_iff_iff]
        simp
      have HBO := Lib.hid hbo
      have HC : Hid (∀ v L, Holds v (RbL p A c first Q L) → Calls Try.prog 67 #[.pointer (some ⟨p, 0, none⟩)] v fun e w' => e = .returned (.int .u64 (rPrep Q : Int)) ∧ Holds w' (RbL p A c first Q L)) := fun v L h => rbPrepared_ok hQ h
      generalize rPrep Q = pp at *
      clear h4 HB3
      go_enter Try.func29, Try.ntmps29
      go_wp2_with (first
        | go_skip
        | (refine wpList_runs HW.out rfl (runs_ldR 2 (ty := 38) (n := 74) (m := Rec.segs r) rfl rfl rfl rfl Try.underlying38 rfl (by kernel_rfl)) ?_; simp only [put_rules])
        | go_skip
        | (refine wpList_runs HW.out rfl (runs_ld1 2 rfl rfl rfl rfl (by kernel_rfl)) ?_; simp only [put_rules])
        | (refine wpList_box HW.out rfl rfl rfl rfl HS.out (fun gb w' hw' => ?_)
           replace hw' : Holds w' (_ :: _ :: _ :: R) := RbL.behind hw'
           clear HW; have HW := Lib.hid hw'; clear hw'; (try simp only [hps_rules] at HW); (try simp only [put_rules]))
        | ((go_at_call 36; have hc := rformedS r HR.out _ _ HW.out HF.out; with_reducible refine hc.mono ?_; clear hc)
           rintro e w2 ⟨rfl, hw'⟩
           clear HW; have HW := Lib.hid hw'; clear hw'; (try simp only [hps_rules] at HW))
        | ((go_at_call 66; have hc := rbfind_none234 r.id hQ HW.out H4.out; with_reducible refine hc.mono ?_; clear hc)
           rintro e w2 ⟨rfl, hw'⟩
           replace hw' : Holds w2 (_ :: _ :: _ :: R) := hw'
           clear HW; have HW := Lib.hid hw'; clear hw'; (try simp only [hps_rules] at HW))
        | ((go_at_call 67; have hc := HC.out _ _ HW.out; with_reducible refine hc.mono ?_; clear hc)
           rintro e w2 ⟨rfl, hw'⟩
           replace hw' : Holds w2 (_ :: _ :: _ :: R) := hw'
           clear HW; have HW := Lib.hid hw'; clear hw'; (try simp only [hps_rules] at HW)))
      go_ret
      exact ⟨rfl, (RbL.front HW.out).tail⟩
  have e2 : (r.kind == 2) = false := beq_eq_false_iff_ne.2 h2
  by_cases h3 : r.kind = 3
  · have e3 : (r.kind == 3) = true := by rw [h3]; rfl
    have HB3 : Hid ((rfind k234 r.id Q).isNone = bo) := by
      have := HB2.out
      unfold rFits at this
      rwa [if_neg h1, if_neg h2, if_pos h3] at this
    clear h1 h2 h3 HB2
    cases h4 : rfind k234 r.id Q with
    | some r4 =>
      have H4 := Lib.hid h4
      have hbo : bo = false := by rw [← HB3.out, h4]; rfl
      subst hbo
      clear h4
      go_enter Try.func29, Try.ntmps29
      go_wp2_with (first
        | go_skip
        | (refine wpList_runs HW.out rfl (runs_ldR 2 (ty := 38) (n := 74) (m := Rec.segs r) rfl rfl rfl rfl Try.underlying38 rfl (by kernel_rfl)) ?_; simp only [put_rules])
        | go_skip
        | (refine wpList_runs HW.out rfl (runs_ld1 2 rfl rfl rfl rfl (by kernel_rfl)) ?_; simp only [put_rules])
        | (refine wpList_box HW.out rfl rfl rfl rfl HS.out (fun gb w' hw' => ?_)
           replace hw' : Holds w' (_ :: _ :: _ :: R) := RbL.behind hw'
           clear HW; have HW := Lib.hid hw'; clear hw'; (try simp only [hps_rules] at HW); (try simp only [put_rules]))
        | ((go_at_call 36; have hc := rformedS r HR.out _ _ HW.out HF.out; with_reducible refine hc.mono ?_; clear hc)
           rintro e w2 ⟨rfl, hw'⟩
           clear HW; have HW := Lib.hid hw'; clear hw'; (try simp only [hps_rules] at HW))
        | (go_at_call 66; have hc := rbfind_some234 r.id hQ HW.out H4.out; with_reducible refine hc.mono ?_; clear hc
           rintro e w2 ⟨j, rfl, -, -, hj9, hw'⟩
           have hj0 : decide ((j : Int) < 0) = false := decide_eq_false (by omega)
           have hj1 : decide ((0 : Int) ≤ (j : Int)) = true := decide_eq_true (by omega)
           replace hw' : Holds w2 (_ :: _ :: _ :: R) := hw'
           clear HW; have HW := Lib.hid hw'; clear hw'; (try simp only [hps_rules] at HW); (try simp only [put_rules])))
      go_ret
      exact ⟨rfl, (RbL.front HW.out).tail⟩
    | none =>
      have H4 := Lib.hid h4
      have hbo : bo = true := by rw [← HB3.out, h4]; rfl
      subst hbo
      clear h4
      go_enter Try.func29, Try.ntmps29
      go_wp2_with (first
        | go_skip
        | (refine wpList_runs HW.out rfl (runs_ldR 2 (ty := 38) (n := 74) (m := Rec.segs r) rfl rfl rfl rfl Try.underlying38 rfl (by kernel_rfl)) ?_; simp only [put_rules])
        | go_skip
        | (refine wpList_runs HW.out rfl (runs_ld1 2 rfl rfl rfl rfl (by kernel_rfl)) ?_; simp only [put_rules])
        | (refine wpList_box HW.out rfl rfl rfl rfl HS.out (fun gb w' hw' => ?_)
           replace hw' : Holds w' (_ :: _ :: _ :: R) := RbL.behind hw'
           clear HW; have HW := Lib.hid hw'; clear hw'; (try simp only [hps_rules] at HW); (try simp only [put_rules]))
        | ((go_at_call 36; have hc := rformedS r HR.out _ _ HW.out HF.out; with_reducible refine hc.mono ?_; clear hc)
           rintro e w2 ⟨rfl, hw'⟩
           clear HW; have HW := Lib.hid hw'; clear hw'; (try simp only [hps_rules] at HW))
        | ((go_at_call 66; have hc := rbfind_none234 r.id hQ HW.out H4.out; with_reducible refine hc.mono ?_; clear hc)
           rintro e w2 ⟨rfl, hw'⟩
           replace hw' : Holds w2 (_ :: _ :: _ :: R) := hw'
           clear HW; have HW := Lib.hid hw'; clear hw'; (try simp only [hps_rules] at HW)))
      go_ret
      exact ⟨rfl, (RbL.front HW.out).tail⟩
  have e3 : (r.kind == 3) = false := beq_eq_false_iff_ne.2 h3
  have HB3 : Hid (((rfind k4 r.id Q).isNone && (!r.has || (rfind k2 r.id Q).isSome)) = bo) := by
    have := HB2.out
    unfold rFits at this
    rwa [if_neg h1, if_neg h2, if_neg h3] at this
  clear h1 h2 h3 HB2 HK14
  cases h4 : rfind k4 r.id Q with
  | some r4 =>
    have H4 := Lib.hid h4
    have hbo : bo = false := by rw [← HB3.out, h4]; rfl
    subst hbo
    clear h4
    go_enter Try.func29, Try.ntmps29
    go_wp2_with (first
      | go_skip
      | (refine wpList_runs HW.out rfl (runs_ldR 2 (ty := 38) (n := 74) (m := Rec.segs r) rfl rfl rfl rfl Try.underlying38 rfl (by kernel_rfl)) ?_; simp only [put_rules])
      | go_skip
      | (refine wpList_runs HW.out rfl (runs_ld1 2 rfl rfl rfl rfl (by kernel_rfl)) ?_; simp only [put_rules])
      | (refine wpList_box HW.out rfl rfl rfl rfl HS.out (fun gb w' hw' => ?_)
         replace hw' : Holds w' (_ :: _ :: _ :: R) := RbL.behind hw'
         clear HW; have HW := Lib.hid hw'; clear hw'; (try simp only [hps_rules] at HW); (try simp only [put_rules]))
      | ((go_at_call 36; have hc := rformedS r HR.out _ _ HW.out HF.out; with_reducible refine hc.mono ?_; clear hc)
         rintro e w2 ⟨rfl, hw'⟩
         clear HW; have HW := Lib.hid hw'; clear hw'; (try simp only [hps_rules] at HW))
      | (go_at_call 66; have hc := rbfind_some4 r.id hQ HW.out H4.out; with_reducible refine hc.mono ?_; clear hc
         rintro e w2 ⟨j, rfl, -, -, hj9, hw'⟩
         have hj0 : decide ((j : Int) < 0) = false := decide_eq_false (by omega)
         have hj1 : decide ((0 : Int) ≤ (j : Int)) = true := decide_eq_true (by omega)
         replace hw' : Holds w2 (_ :: _ :: _ :: R) := hw'
         clear HW; have HW := Lib.hid hw'; clear hw'; (try simp only [hps_rules] at HW); (try simp only [put_rules])))
    go_ret
    exact ⟨rfl, (RbL.front HW.out).tail⟩
  | none =>
    have H4 := Lib.hid h4
    have HB4 : Hid ((!r.has || (rfind k2 r.id Q).isSome) = bo) := by
      have := HB3.out
      rw [h4, Option.isNone_none, Bool.true_and] at this
      exact this
    clear h4 HB3
    obtain ⟨hz, HZ⟩ : ∃ b, r.has = b := ⟨_, rfl⟩
    cases hz
    · have hbo : bo = true := by rw [← HB4.out, HZ]; rfl
      subst hbo
      go_enter Try.func29, Try.ntmps29
      go_wp2_with (first
        | go_skip
        | (refine wpList_runs HW.out rfl (runs_ldR 2 (ty := 38) (n := 74) (m := Rec.segs r) rfl rfl rfl rfl Try.underlying38 rfl (by kernel_rfl)) ?_; simp only [put_rules])
        | go_skip
        | (refine wpList_runs HW.out rfl (runs_ld1 2 rfl rfl rfl rfl (by kernel_rfl)) ?_; simp only [put_rules])
        | (refine wpList_box HW.out rfl rfl rfl rfl HS.out (fun gb w' hw' => ?_)
           replace hw' : Holds w' (_ :: _ :: _ :: R) := RbL.behind hw'
           clear HW; have HW := Lib.hid hw'; clear hw'; (try simp only [hps_rules] at HW); (try simp only [put_rules]))
        | ((go_at_call 36; have hc := rformedS r HR.out _ _ HW.out HF.out; with_reducible refine hc.mono ?_; clear hc)
           rintro e w2 ⟨rfl, hw'⟩
           clear HW; have HW := Lib.hid hw'; clear hw'; (try simp only [hps_rules] at HW))
        | ((go_at_call 66; have hc := rbfind_none4 r.id hQ HW.out H4.out; with_reducible refine hc.mono ?_; clear hc)
           rintro e w2 ⟨rfl, hw'⟩
           replace hw' : Holds w2 (_ :: _ :: _ :: R) := hw'
           clear HW; have HW := Lib.hid hw'; clear hw'; (try simp only [hps_rules] at HW)))
      go_ret
      exact ⟨rfl, (RbL.front HW.out).tail⟩
    · have HB5 : Hid ((rfind k2 r.id Q).isSome = bo) := by
        have := HB4.out
        rw [HZ, Bool.not_true, Bool.false_or] at this
        exact this
      cases h5 : rfind k2 r.id Q with
      | some r4 =>
        have H5 := Lib.hid h5
        have hbo : bo = true := by rw [← HB5.out, h5]; rfl
        subst hbo
        clear h5
        go_enter Try.func29, Try.ntmps29
        go_wp2_with (first
          | go_skip
          | (refine wpList_runs HW.out rfl (runs_ldR 2 (ty := 38) (n := 74) (m := Rec.segs r) rfl rfl rfl rfl Try.underlying38 rfl (by kernel_rfl)) ?_; simp only [put_rules])
          | go_skip
          | (refine wpList_runs HW.out rfl (runs_ld1 2 rfl rfl rfl rfl (by kernel_rfl)) ?_; simp only [put_rules])
          | (refine wpList_box HW.out rfl rfl rfl rfl HS.out (fun gb w' hw' => ?_)
             replace hw' : Holds w' (_ :: _ :: _ :: R) := RbL.behind hw'
             clear HW; have HW := Lib.hid hw'; clear hw'; (try simp only [hps_rules] at HW); (try simp only [put_rules]))
          | ((go_at_call 36; have hc := rformedS r HR.out _ _ HW.out HF.out; with_reducible refine hc.mono ?_; clear hc)
             rintro e w2 ⟨rfl, hw'⟩
             clear HW; have HW := Lib.hid hw'; clear hw'; (try simp only [hps_rules] at HW))
          | ((go_at_call 66; have hc := rbfind_none4 r.id hQ HW.out H4.out; with_reducible refine hc.mono ?_; clear hc)
             rintro e w2 ⟨rfl, hw'⟩
             replace hw' : Holds w2 (_ :: _ :: _ :: R) := hw'
             clear HW; have HW := Lib.hid hw'; clear hw'; (try simp only [hps_rules] at HW))
          | (go_at_call 66; have hc := rbfind_some2 r.id hQ HW.out H5.out; with_reducible refine hc.mono ?_; clear hc
             rintro e w2 ⟨j, rfl, -, -, hj9, hw'⟩
             have hj0 : decide ((j : Int) < 0) = false := decide_eq_false (by omega)
             have hj1 : decide ((0 : Int) ≤ (j : Int)) = true := decide_eq_true (by omega)
             replace hw' : Holds w2 (_ :: _ :: _ :: R) := hw'
             clear HW; have HW := Lib.hid hw'; clear hw'; (try simp only [hps_rules] at HW); (try simp only [put_rules])))
        go_ret
        exact ⟨rfl, (RbL.front HW.out).tail⟩
      | none =>
        have H5 := Lib.hid h5
        have hbo : bo = false := by rw [← HB5.out, h5]; rfl
        subst hbo
        clear h5
        go_enter Try.func29, Try.ntmps29
        go_wp2_with (first
          | go_skip
          | (refine wpList_runs HW.out rfl (runs_ldR 2 (ty := 38) (n := 74) (m := Rec.segs r) rfl rfl rfl rfl Try.underlying38 rfl (by kernel_rfl)) ?_; simp only [put_rules])
          | go_skip
          | (refine wpList_runs HW.out rfl (runs_ld1 2 rfl rfl rfl rfl (by kernel_rfl)) ?_; simp only [put_rules])
          | (refine wpList_box HW.out rfl rfl rfl rfl HS.out (fun gb w' hw' => ?_)
             replace hw' : Holds w' (_ :: _ :: _ :: R) := RbL.behind hw'
             clear HW; have HW := Lib.hid hw'; clear hw'; (try simp only [hps_rules] at HW); (try simp only [put_rules]))
          | ((go_at_call 36; have hc := rformedS r HR.out _ _ HW.out HF.out; with_reducible refine hc.mono ?_; clear hc)
             rintro e w2 ⟨rfl, hw'⟩
             clear HW; have HW := Lib.hid hw'; clear hw'; (try simp only [hps_rules] at HW))
          | ((go_at_call 66; have hc := rbfind_none4 r.id hQ HW.out H4.out; with_reducible refine hc.mono ?_; clear hc)
             rintro e w2 ⟨rfl, hw'⟩
             replace hw' : Holds w2 (_ :: _ :: _ :: R) := hw'
             clear HW; have HW := Lib.hid hw'; clear hw'; (try simp only [hps_rules] at HW))
          | ((go_at_call 66; have hc := rbfind_none2 r.id hQ HW.out H5.out; with_reducible refine hc.mono ?_; clear hc)
             rintro e w2 ⟨rfl, hw'⟩
             replace hw' : Holds w2 (_ :: _ :: _ :: R) := hw'
             clear HW; have HW := Lib.hid hw'; clear hw'; (try simp only [hps_rules] at HW)))
        go_ret
        exact ⟨rfl, (RbL.front HW.out).tail⟩
end
end Go.Proofs.Ytaieonajialenaa
