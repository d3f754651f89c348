/- Books: fits. -/
import Derived.Test.YtaieonajialenaaBookA
namespace Go.Proofs.Ytaieonajialenaa
open Go.RowKit HP

def Bk.fits (k : Bk) (r : Rec) : Bool :=
  if r.kind = 1 then r.id == k.edits.length + 1
  else if r.kind = 2 then k.fresh r.id && k.prep == 0
  else if r.kind = 3 then k.fresh r.id
  else !(kget k.ends r.id).isSome && (!r.has || ((kget k.votes r.id).getD Vt.zero).yes)
theorem wrapU {n : Nat} (h : n < 18446744073709551616) : IntKind.u64.wrap (n : Int) = n := by simp [IntKind.wrap, IntKind.signed, IntKind.bits]; omega
theorem wrapU1 {n : Nat} (h : n < 1099511627776) : IntKind.u64.wrap ((n : Int) + 1) = (n : Int) + 1 := by simp [IntKind.wrap, IntKind.signed, IntKind.bits]; omega
set_option maxRecDepth 100000 in
set_option maxHeartbeats 4000000 in
theorem bfits_ok (k : Bk) (hk : k.Ok) (hl : k.edits.length < 1099511627776) (b : Nat) (x : BX) (r : Rec) (hr : r.Ok) {bo : Bool} (hbo : k.fits r = bo) (w : World) (R : List HP) (hh : Holds w (BkL b x k R)) :
    Calls Try.prog 57 #[.pointer (some ⟨b, 0, none⟩), .agg (flat r.segs).toArray] w fun e w' => e = .returned (.bool bo) ∧ Holds w' (BkL b x k R) := by
  have hR := Rec.segs_ok hr
  have HW : Hid (Holds w (_ :: _)) := hh
  have HK := Lib.hid hk
  have hw0 := wrapU (n := k.edits.length) (by omega)
  have hw1 := wrapU1 hl
  clear hh hr hk hl
  obtain ⟨kind, id, base, ed, root, code, commit, has, text⟩ := r
  by_cases h1 : kind = 1
  · subst h1
    have HB : Hid ((id == k.edits.length + 1) = bo) := hbo
    clear hbo
    go_enter Try.func57, Try.ntmps57
    go_wp2_with (first
      | go_skip
      | (refine wpList_runs HW.out rfl (runs_ld1 0 rfl rfl rfl rfl (by kernel_rfl)) ?_; simp only [put_rules])
      | (refine wpList_runs HW.out rfl (runs_ld1 1 rfl rfl rfl rfl (by kernel_rfl)) ?_; simp only [put_rules])
      | (refine wpList_st1 HW.out rfl rfl rfl 0 rfl rfl rfl rfl (by kernel_rfl) (fun w' hw' => ?_); clear HW; have HW := Lib.hid hw'; clear hw'; (try simp only [hps_rules] at HW); (try simp only [put_rules]))
      | (refine wpList_st1 HW.out rfl rfl rfl 1 rfl rfl rfl rfl (by kernel_rfl) (fun w' hw' => ?_); clear HW; have HW := Lib.hid hw'; clear hw'; (try simp only [hps_rules] at HW); (try simp only [put_rules]))
      | (refine wpList_box HW.out rfl rfl rfl rfl hR (fun g w' hw' => ?_)
         clear HW; have HW := Lib.hid hw'; clear hw'; (try simp only [hps_rules] at HW); (try simp only [put_rules])))
    refine wp_region_quietC (fun v => Holds v _) (by kernel_rfl) (by kernel_rfl) (HW.out.drewN 1) ?_
    repeat (first
      | go_big_quiet_skip
      | (go_big_quiet_want
         first
         | (refine quiet_runs (runs_ld1 0 rfl rfl rfl rfl (by kernel_rfl)) ?_)
         | (refine quiet_runs (runs_ld1 1 rfl rfl rfl rfl (by kernel_rfl)) ?_)
         | (refine quietV ?_ (fun v hv => ?_) ?_
            rotate_left
            · clear hv; go_simp <;> (try with_reducible rfl))
         (try simp only [put_rules])
         go_big_quiet_on))
    refine wpQuiet_nil (fun w' hw' => ?_)
    clear HW; have HW := Lib.hid hw'; clear hw'
    go_wp2
    go_ret
    exact ⟨ret_bool (by rw [← HB.out, Bool.eq_iff_iff]; simp; omega), HW.out.tail⟩
  have e1 : (kind == 1) = false := beq_eq_false_iff_ne.2 h1
  by_cases h2 : kind = 2
  · subst h2
    have HB : Hid ((k.fresh id && k.prep == 0) = bo) := hbo
    obtain ⟨bf, HF⟩ : ∃ v, Hid (k.fresh id = v) := ⟨_, rfl⟩
    rw [HF.out] at HB
    clear hbo h1 e1
    cases bf
    all_goals
      go_enter Try.func57, Try.ntmps57
      go_wp2_with (first
        | go_skip
        | (refine wpList_runs HW.out rfl (runs_ld1 0 rfl rfl rfl rfl (by kernel_rfl)) ?_; simp only [put_rules])
        | (refine wpList_runs HW.out rfl (runs_ld1 1 rfl rfl rfl rfl (by kernel_rfl)) ?_; simp only [put_rules])
        | (refine wpList_st1 HW.out rfl rfl rfl 0 rfl rfl rfl rfl (by kernel_rfl) (fun w' hw' => ?_); clear HW; have HW := Lib.hid hw'; clear hw'; (try simp only [hps_rules] at HW); (try simp only [put_rules]))
        | (refine wpList_st1 HW.out rfl rfl rfl 1 rfl rfl rfl rfl (by kernel_rfl) (fun w' hw' => ?_); clear HW; have HW := Lib.hid hw'; clear hw'; (try simp only [hps_rules] at HW); (try simp only [put_rules]))
        | (refine wpList_box HW.out rfl rfl rfl rfl hR (fun g w' hw' => ?_)
           clear HW; have HW := Lib.hid hw'; clear hw'; (try simp only [hps_rules] at HW); (try simp only [put_rules]))
        | ((go_at_call 106; have hc := fresh_ok k HK.out b x id HF.out _ _ (BkL.behind (x := x) (k := k) HW.out); refine hc.mono ?_; clear hc)
           rintro e w2 ⟨rfl, hw'⟩
           replace hw' := BkL.front hw'
           unfold BkL at hw'
           clear HW; have HW := Lib.hid hw'; clear hw'; (try simp only [hps_rules] at HW)))
      go_ret
      exact ⟨ret_bool (by rw [← HB.out]; first | rfl | (rw [Bool.eq_iff_iff]; simp)), HW.out.tail⟩
  have e2 : (kind == 2) = false := beq_eq_false_iff_ne.2 h2
  by_cases h3 : kind = 3
  · subst h3
    have HB : Hid (k.fresh id = bo) := hbo
    clear hbo h1 e1 h2 e2
    go_enter Try.func57, Try.ntmps57
    go_wp2_with (first
      | go_skip
      | (refine wpList_runs HW.out rfl (runs_ld1 0 rfl rfl rfl rfl (by kernel_rfl)) ?_; simp only [put_rules])
      | (refine wpList_runs HW.out rfl (runs_ld1 1 rfl rfl rfl rfl (by kernel_rfl)) ?_; simp only [put_rules])
      | (refine wpList_st1 HW.out rfl rfl rfl 0 rfl rfl rfl rfl (by kernel_rfl) (fun w' hw' => ?_); clear HW; have HW := Lib.hid hw'; clear hw'; (try simp only [hps_rules] at HW); (try simp only [put_rules]))
      | (refine wpList_st1 HW.out rfl rfl rfl 1 rfl rfl rfl rfl (by kernel_rfl) (fun w' hw' => ?_); clear HW; have HW := Lib.hid hw'; clear hw'; (try simp only [hps_rules] at HW); (try simp only [put_rules]))
      | (refine wpList_box HW.out rfl rfl rfl rfl hR (fun g w' hw' => ?_)
         clear HW; have HW := Lib.hid hw'; clear hw'; (try simp only [hps_rules] at HW); (try simp only [put_rules]))
      | ((go_at_call 106; have hc := fresh_ok k HK.out b x id HB.out _ _ (BkL.behind (x := x) (k := k) HW.out); refine hc.mono ?_; clear hc)
         rintro e w2 ⟨rfl, hw'⟩
         replace hw' := BkL.front hw'
         unfold BkL at hw'
         clear HW; have HW := Lib.hid hw'; clear hw'; (try simp only [hps_rules] at HW)))
    go_ret
    exact ⟨rfl, HW.out.tail⟩
  have e3 : (kind == 3) = false := beq_eq_false_iff_ne.2 h3
  obtain ⟨v, HV⟩ : ∃ v, Hid ((kget k.votes id).getD Vt.zero = v) := ⟨_, rfl⟩
  obtain ⟨b1, H1⟩ : ∃ v, Hid ((kget k.votes id).isSome = v) := ⟨_, rfl⟩
  obtain ⟨b2, H2⟩ : ∃ v, Hid ((kget k.ends id).isSome = v) := ⟨_, rfl⟩
  obtain ⟨b3, H3⟩ : ∃ v, Hid ((kget k.ends id).getD false = v) := ⟨_, rfl⟩
  have HB : Hid ((!b2 && (!has || v.yes)) = bo) := by
    unfold Hid; rw [← hbo]
    unfold Bk.fits
    rw [if_neg h1, if_neg h2, if_neg h3]
    show _ = (!(kget k.ends id).isSome && (!has || ((kget k.votes id).getD Vt.zero).yes))
    rw [HV.out, H2.out]
  have hv : SgOk v.segs := by have := Vt.segs_ok (Bk.vote_ok HK.out id); rwa [HV.out] at this
  clear hbo h1 h2 h3
  cases b2 <;> cases has
  all_goals
    go_enter Try.func57, Try.ntmps57
    go_wp2_with (first
      | go_skip
      | (refine wpList_runs HW.out rfl (runs_ld1 0 rfl rfl rfl rfl (by kernel_rfl)) ?_; simp only [put_rules])
      | (refine wpList_runs HW.out rfl (runs_ld1 1 rfl rfl rfl rfl (by kernel_rfl)) ?_; simp only [put_rules])
      | (refine wpList_st1 HW.out rfl rfl rfl 0 rfl rfl rfl rfl (by kernel_rfl) (fun w' hw' => ?_); clear HW; have HW := Lib.hid hw'; clear hw'; (try simp only [hps_rules] at HW); (try simp only [put_rules]))
      | (refine wpList_st1 HW.out rfl rfl rfl 1 rfl rfl rfl rfl (by kernel_rfl) (fun w' hw' => ?_); clear HW; have HW := Lib.hid hw'; clear hw'; (try simp only [hps_rules] at HW); (try simp only [put_rules]))
      | (refine wpList_box HW.out rfl rfl rfl rfl hR (fun g w' hw' => ?_)
         clear HW; have HW := Lib.hid hw'; clear hw'; (try simp only [hps_rules] at HW); (try simp only [put_rules])))
    refine wp_region_quietC (fun v => Holds v _) (by kernel_rfl) (by kernel_rfl) (HW.out.drewN 1) ?_
    repeat (first
      | go_big_quiet_skip
      | (go_big_quiet_want
         first
         | (refine quiet_runs (runs_lookup 4 rfl rfl rfl rfl Try.underlying111 Try.underlying23 false (by kernel_rfl) H3.out H2.out) ?_)
         | (refine quiet_runs (runs_ld1 0 rfl rfl rfl rfl (by kernel_rfl)) ?_)
         | (refine quiet_runs (runs_ld1 1 rfl rfl rfl rfl (by kernel_rfl)) ?_)
         | (refine quietV ?_ (fun v hv => ?_) ?_
            rotate_left
            · clear hv; go_simp <;> (try with_reducible rfl))
         (try simp only [put_rules])
         go_big_quiet_on))
    refine wpQuiet_nil (fun w' hw' => ?_)
    clear HW; have HW := Lib.hid hw'; clear hw'
    go_wp2_with (first
      | go_skip
      | (refine wpList_runs HW.out rfl (runs_ld1 0 rfl rfl rfl rfl (by kernel_rfl)) ?_; simp only [put_rules])
      | (refine wpList_runs HW.out rfl (runs_ld1 1 rfl rfl rfl rfl (by kernel_rfl)) ?_; simp only [put_rules])
      | (refine wpList_st1 HW.out rfl rfl rfl 0 rfl rfl rfl rfl (by kernel_rfl) (fun w' hw' => ?_); clear HW; have HW := Lib.hid hw'; clear hw'; (try simp only [hps_rules] at HW); (try simp only [put_rules]))
      | (refine wpList_st1 HW.out rfl rfl rfl 1 rfl rfl rfl rfl (by kernel_rfl) (fun w' hw' => ?_); clear HW; have HW := Lib.hid hw'; clear hw'; (try simp only [hps_rules] at HW); (try simp only [put_rules])))
    refine wp_region_quietC (fun v => Holds v _) (by kernel_rfl) (by kernel_rfl) (HW.out.drewN 1) ?_
    repeat (first
      | go_big_quiet_skip
      | (go_big_quiet_want
         first
         | (refine quiet_runs (runs_lookup 3 rfl rfl rfl rfl Try.underlying110 Try.underlying23 Vt.zero (by kernel_rfl) HV.out H1.out) ?_)
         | (refine quiet_runs (runs_field1 rfl rfl hv Try.underlying40 rfl rfl (by kernel_rfl)) ?_)
         | (refine quiet_runs (runs_ld1 0 rfl rfl rfl rfl (by kernel_rfl)) ?_)
         | (refine quiet_runs (runs_ld1 1 rfl rfl rfl rfl (by kernel_rfl)) ?_)
         | (refine quietV ?_ (fun v hv => ?_) ?_
            rotate_left
            · clear hv; go_simp <;> (try with_reducible rfl))
         (try simp only [put_rules])
         go_big_quiet_on))
    refine wpQuiet_nil (fun w' hw' => ?_)
    clear HW; have HW := Lib.hid hw'; clear hw'
    go_wp2
    go_ret
    exact ⟨ret_bool (by rw [← HB.out]; first | rfl | simp), HW.out.tail⟩
end Go.Proofs.Ytaieonajialenaa
