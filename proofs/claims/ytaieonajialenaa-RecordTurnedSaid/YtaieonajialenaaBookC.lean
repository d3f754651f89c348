/- Books: say. -/
import Derived.Test.YtaieonajialenaaBookB
namespace Go.Proofs.Ytaieonajialenaa
open Go.RowKit HP

def Rec.vt (r : Rec) : Vt := if r.kind = 2 then ⟨true, r.base, r.ed, r.root, 0⟩ else ⟨false, 0, Ed.zero, zeros 32, r.code⟩
def Bk.say (k : Bk) (r : Rec) : Bk :=
  if r.kind = 1 then { k with edits := k.edits ++ [r.ed] }
  else if r.kind = 2 then { k with votes := kput k.votes r.id r.vt, prep := r.id }
  else if r.kind = 3 then { k with votes := kput k.votes r.id r.vt }
  else { k with ends := kput k.ends r.id r.commit, prep := if k.prep = r.id then 0 else k.prep, vers := if r.has = true then k.vers ++ [r.text] else k.vers }
theorem Bk.say_ok {k : Bk} (h : k.Ok) {r : Rec} (hr : r.Ok) : (k.say r).Ok := by
  have key : r.vt.Ok := by
    unfold Rec.vt
    split
    · exact ⟨hr.ed, hr.root⟩
    · exact ⟨Ed.zero_ok, length_zeros 32⟩
  unfold Bk.say
  split
  · exact ⟨h.votes⟩
  · split
    · exact ⟨fun p hp => (kput_mem _ _ _ p hp).elim (h.votes p) (fun e => by rw [e]; exact key)⟩
    · split
      · exact ⟨fun p hp => (kput_mem _ _ _ p hp).elim (h.votes p) (fun e => by rw [e]; exact key)⟩
      · exact ⟨h.votes⟩
def Ed.val (e : Ed) : Value := .agg (flat e.segs).toArray
set_option maxRecDepth 100000 in
set_option maxHeartbeats 4000000 in
theorem bsay_ok (k : Bk) (hk : k.Ok) (hl : k.edits.length < 1099511627776) (hl2 : k.vers.length < 1099511627776) (b : Nat) (x : BX) (r : Rec) (hr : r.Ok) (hk1 : 1 ≤ r.kind) (hk4 : r.kind ≤ 4) (w : World) (R : List HP) (hh : Holds w (BkL b x k R)) :
    Calls Try.prog 58 #[.pointer (some ⟨b, 0, none⟩), .agg (flat r.segs).toArray] w fun e w' => e = .returned (.tuple #[]) ∧ Holds w' (BkH b (k.say r) :: R) := by
  have hR := Rec.segs_ok hr
  have hE := Ed.segs_ok hr.ed
  have HW : Hid (Holds w (_ :: _)) := hh
  have HK := Lib.hid (Bk.say_ok hk hr)
  have hroot := hr.root
  clear hh hr hk
  obtain ⟨kind, id, base, ed, root, code, commit, has, text⟩ := r
  have HK14 : Hid (1 ≤ kind ∧ kind ≤ 4) := ⟨hk1, hk4⟩
  clear hk1 hk4
  by_cases h1 : kind = 1
  · subst h1
    have hl3 : k.edits.length + 1 ≤ maxLen := by unfold maxLen; omega
    have hl4 : (k.edits.length + 1) * 56 ≤ 140737488355328 := by omega
    have HL := Lib.hid (And.intro hl3 hl4)
    clear hl hl2 hl3 hl4
    go_enter Try.func58, Try.ntmps58
    go_wp2_with (first
      | go_skip
      | (refine wpList_runs HW.out rfl (runs_ld1 0 rfl rfl rfl rfl (by kernel_rfl)) ?_; simp only [put_rules])
      | (refine wpList_runs HW.out rfl (runs_ld1 1 rfl rfl rfl rfl (by kernel_rfl)) ?_; simp only [put_rules])
      | (refine wpList_st1 HW.out rfl rfl rfl 0 rfl rfl rfl rfl (by kernel_rfl) (fun w' hw' => ?_); clear HW; have HW := Lib.hid hw'; clear hw'; (try simp only [hps_rules] at HW); (try simp only [put_rules]))
      | (refine wpList_st1 HW.out rfl rfl rfl 1 rfl rfl rfl rfl (by kernel_rfl) (fun w' hw' => ?_); clear HW; have HW := Lib.hid hw'; clear hw'; (try simp only [hps_rules] at HW); (try simp only [put_rules]))
      | (refine wpList_box HW.out rfl rfl rfl rfl hR (fun g w' hw' => ?_)
         clear HW; have HW := Lib.hid hw'; clear hw'; (try simp only [hps_rules] at HW); (try simp only [put_rules])))
    refine wp_region_untilD 2 11 (by kernel_rfl) HW.out (fun w' hw' => ?_)
    clear HW; have HW := Lib.hid hw'; have HC := Lib.hid (hw'.drop 2 rfl); clear hw'
    simp only [era_rules] at HC ⊢
    simp only [rep_rules]
    first
    | (refine takeE 0 rfl rfl (runs_ldR 0 (ty := 35) (n := 35) rfl rfl rfl rfl Try.underlying35 rfl (by kernel_rfl)) HC.out (by kernel_rfl) (fun _ _ _ h => h) ?_)
    | (refine takeE 0 rfl rfl (runs_ldR 1 (ty := 35) (n := 35) rfl rfl rfl rfl Try.underlying35 rfl (by kernel_rfl)) HC.out (by kernel_rfl) (fun _ _ _ h => h) ?_)
    | (refine takeE 0 rfl rfl (runs_ld1 0 rfl rfl rfl rfl (by kernel_rfl)) HC.out (by kernel_rfl) (fun _ _ _ h => h) ?_)
    | (refine takeE 0 rfl rfl (runs_ld1 1 rfl rfl rfl rfl (by kernel_rfl)) HC.out (by kernel_rfl) (fun _ _ _ h => h) ?_)
    | (refine takeE 0 (v := ?_) rfl rfl (runs_of fun w => ?_) HC.out (by kernel_rfl) (fun _ _ _ h => h) ?_
       rotate_left
       · go_simp <;> (try with_reducible rfl))
    try simp only [put_rules]
    first
    | (refine takeE 1 rfl rfl (runs_ldR 0 (ty := 35) (n := 35) rfl rfl rfl rfl Try.underlying35 rfl (by kernel_rfl)) HC.out (by kernel_rfl) (fun _ _ _ h => h) ?_)
    | (refine takeE 1 rfl rfl (runs_ldR 1 (ty := 35) (n := 35) rfl rfl rfl rfl Try.underlying35 rfl (by kernel_rfl)) HC.out (by kernel_rfl) (fun _ _ _ h => h) ?_)
    | (refine takeE 1 rfl rfl (runs_ld1 0 rfl rfl rfl rfl (by kernel_rfl)) HC.out (by kernel_rfl) (fun _ _ _ h => h) ?_)
    | (refine takeE 1 rfl rfl (runs_ld1 1 rfl rfl rfl rfl (by kernel_rfl)) HC.out (by kernel_rfl) (fun _ _ _ h => h) ?_)
    | (refine takeE 1 (v := ?_) rfl rfl (runs_of fun w => ?_) HC.out (by kernel_rfl) (fun _ _ _ h => h) ?_
       rotate_left
       · go_simp <;> (try with_reducible rfl))
    try simp only [put_rules]
    first
    | (refine takeE 2 rfl rfl (runs_ldR 0 (ty := 35) (n := 35) rfl rfl rfl rfl Try.underlying35 rfl (by kernel_rfl)) HC.out (by kernel_rfl) (fun _ _ _ h => h) ?_)
    | (refine takeE 2 rfl rfl (runs_ldR 1 (ty := 35) (n := 35) rfl rfl rfl rfl Try.underlying35 rfl (by kernel_rfl)) HC.out (by kernel_rfl) (fun _ _ _ h => h) ?_)
    | (refine takeE 2 rfl rfl (runs_ld1 0 rfl rfl rfl rfl (by kernel_rfl)) HC.out (by kernel_rfl) (fun _ _ _ h => h) ?_)
    | (refine takeE 2 rfl rfl (runs_ld1 1 rfl rfl rfl rfl (by kernel_rfl)) HC.out (by kernel_rfl) (fun _ _ _ h => h) ?_)
    | (refine takeE 2 (v := ?_) rfl rfl (runs_of fun w => ?_) HC.out (by kernel_rfl) (fun _ _ _ h => h) ?_
       rotate_left
       · go_simp <;> (try with_reducible rfl))
    try simp only [put_rules]
    first
    | (refine takeE 3 rfl rfl (runs_ldR 0 (ty := 35) (n := 35) rfl rfl rfl rfl Try.underlying35 rfl (by kernel_rfl)) HC.out (by kernel_rfl) (fun _ _ _ h => h) ?_)
    | (refine takeE 3 rfl rfl (runs_ldR 1 (ty := 35) (n := 35) rfl rfl rfl rfl Try.underlying35 rfl (by kernel_rfl)) HC.out (by kernel_rfl) (fun _ _ _ h => h) ?_)
    | (refine takeE 3 rfl rfl (runs_ld1 0 rfl rfl rfl rfl (by kernel_rfl)) HC.out (by kernel_rfl) (fun _ _ _ h => h) ?_)
    | (refine takeE 3 rfl rfl (runs_ld1 1 rfl rfl rfl rfl (by kernel_rfl)) HC.out (by kernel_rfl) (fun _ _ _ h => h) ?_)
    | (refine takeE 3 (v := ?_) rfl rfl (runs_of fun w => ?_) HC.out (by kernel_rfl) (fun _ _ _ h => h) ?_
       rotate_left
       · go_simp <;> (try with_reducible rfl))
    try simp only [put_rules]
    first
    | (refine takeE 4 rfl rfl (runs_ldR 0 (ty := 35) (n := 35) rfl rfl rfl rfl Try.underlying35 rfl (by kernel_rfl)) HC.out (by kernel_rfl) (fun _ _ _ h => h) ?_)
    | (refine takeE 4 rfl rfl (runs_ldR 1 (ty := 35) (n := 35) rfl rfl rfl rfl Try.underlying35 rfl (by kernel_rfl)) HC.out (by kernel_rfl) (fun _ _ _ h => h) ?_)
    | (refine takeE 4 rfl rfl (runs_ld1 0 rfl rfl rfl rfl (by kernel_rfl)) HC.out (by kernel_rfl) (fun _ _ _ h => h) ?_)
    | (refine takeE 4 rfl rfl (runs_ld1 1 rfl rfl rfl rfl (by kernel_rfl)) HC.out (by kernel_rfl) (fun _ _ _ h => h) ?_)
    | (refine takeE 4 (v := ?_) rfl rfl (runs_of fun w => ?_) HC.out (by kernel_rfl) (fun _ _ _ h => h) ?_
       rotate_left
       · go_simp <;> (try with_reducible rfl))
    try simp only [put_rules]
    first
    | (refine takeE 5 rfl rfl (runs_ldR 0 (ty := 35) (n := 35) rfl rfl rfl rfl Try.underlying35 rfl (by kernel_rfl)) HC.out (by kernel_rfl) (fun _ _ _ h => h) ?_)
    | (refine takeE 5 rfl rfl (runs_ldR 1 (ty := 35) (n := 35) rfl rfl rfl rfl Try.underlying35 rfl (by kernel_rfl)) HC.out (by kernel_rfl) (fun _ _ _ h => h) ?_)
    | (refine takeE 5 rfl rfl (runs_ld1 0 rfl rfl rfl rfl (by kernel_rfl)) HC.out (by kernel_rfl) (fun _ _ _ h => h) ?_)
    | (refine takeE 5 rfl rfl (runs_ld1 1 rfl rfl rfl rfl (by kernel_rfl)) HC.out (by kernel_rfl) (fun _ _ _ h => h) ?_)
    | (refine takeE 5 (v := ?_) rfl rfl (runs_of fun w => ?_) HC.out (by kernel_rfl) (fun _ _ _ h => h) ?_
       rotate_left
       · go_simp <;> (try with_reducible rfl))
    try simp only [put_rules]
    first
    | (refine takeE 6 rfl rfl (runs_ldR 0 (ty := 35) (n := 35) rfl rfl rfl rfl Try.underlying35 rfl (by kernel_rfl)) HC.out (by kernel_rfl) (fun _ _ _ h => h) ?_)
    | (refine takeE 6 rfl rfl (runs_ldR 1 (ty := 35) (n := 35) rfl rfl rfl rfl Try.underlying35 rfl (by kernel_rfl)) HC.out (by kernel_rfl) (fun _ _ _ h => h) ?_)
    | (refine takeE 6 rfl rfl (runs_ld1 0 rfl rfl rfl rfl (by kernel_rfl)) HC.out (by kernel_rfl) (fun _ _ _ h => h) ?_)
    | (refine takeE 6 rfl rfl (runs_ld1 1 rfl rfl rfl rfl (by kernel_rfl)) HC.out (by kernel_rfl) (fun _ _ _ h => h) ?_)
    | (refine takeE 6 (v := ?_) rfl rfl (runs_of fun w => ?_) HC.out (by kernel_rfl) (fun _ _ _ h => h) ?_
       rotate_left
       · go_simp <;> (try with_reducible rfl))
    try simp only [put_rules]
    refine effE 7 rfl (by kernel_rfl) ?_
    refine wpList_slice1 HW.out rfl rfl Try.underlying113 (z := Ed.zero.val) (n := 35) (by kernel_rfl) (by decide) (by decide) (M := Ed.segs ed) rfl hE rfl (fun g2 w' hw' => ?_)
    clear HW; have HW := Lib.hid hw'; clear hw'; (try simp only [hps_rules] at HW); (try simp only [put_rules])
    refine wpList_behind (And.intro (fun _ => (by exact HW.out.tail.drop 2 rfl)) ?_)
    refine effE 8 rfl (by kernel_rfl) ?_
    refine wpList_app1 HW.out 3 0 rfl rfl rfl rfl rfl ed rfl hE rfl Try.underlying113 Ed.zero.val 56 (by kernel_rfl) rfl (by decide) HL.out.1 HL.out.2 (fun v' w' hw' => ?_)
    clear HW; have HW := Lib.hid hw'; clear hw'; (try simp only [hps_rules] at HW); (try simp only [put_rules])
    refine wpList_behind (And.intro (fun _ => (by exact HW.out.tail.drop 2 rfl)) ?_)
    obtain ⟨A1, c1, rfl, _, _, _⟩ := HW.out.arr_form 3 rfl
    clear HC; have HC := Lib.hid (HW.out.tail.drop 2 rfl)
    first
    | (refine takeE 9 rfl rfl (runs_ldR 0 (ty := 35) (n := 35) rfl rfl rfl rfl Try.underlying35 rfl (by kernel_rfl)) HC.out (by kernel_rfl) (fun _ _ _ h => h) ?_)
    | (refine takeE 9 rfl rfl (runs_ldR 1 (ty := 35) (n := 35) rfl rfl rfl rfl Try.underlying35 rfl (by kernel_rfl)) HC.out (by kernel_rfl) (fun _ _ _ h => h) ?_)
    | (refine takeE 9 rfl rfl (runs_ld1 0 rfl rfl rfl rfl (by kernel_rfl)) HC.out (by kernel_rfl) (fun _ _ _ h => h) ?_)
    | (refine takeE 9 rfl rfl (runs_ld1 1 rfl rfl rfl rfl (by kernel_rfl)) HC.out (by kernel_rfl) (fun _ _ _ h => h) ?_)
    | (refine takeE 9 (v := ?_) rfl rfl (runs_of fun w => ?_) HC.out (by kernel_rfl) (fun _ _ _ h => h) ?_
       rotate_left
       · go_simp <;> (try with_reducible rfl))
    try simp only [put_rules]
    first
    | (refine takeE 10 rfl rfl (runs_ldR 0 (ty := 35) (n := 35) rfl rfl rfl rfl Try.underlying35 rfl (by kernel_rfl)) HC.out (by kernel_rfl) (fun _ _ _ h => h) ?_)
    | (refine takeE 10 rfl rfl (runs_ldR 1 (ty := 35) (n := 35) rfl rfl rfl rfl Try.underlying35 rfl (by kernel_rfl)) HC.out (by kernel_rfl) (fun _ _ _ h => h) ?_)
    | (refine takeE 10 rfl rfl (runs_ld1 0 rfl rfl rfl rfl (by kernel_rfl)) HC.out (by kernel_rfl) (fun _ _ _ h => h) ?_)
    | (refine takeE 10 rfl rfl (runs_ld1 1 rfl rfl rfl rfl (by kernel_rfl)) HC.out (by kernel_rfl) (fun _ _ _ h => h) ?_)
    | (refine takeE 10 (v := ?_) rfl rfl (runs_of fun w => ?_) HC.out (by kernel_rfl) (fun _ _ _ h => h) ?_
       rotate_left
       · go_simp <;> (try with_reducible rfl))
    try simp only [put_rules]
    refine effE 11 rfl (by kernel_rfl) ?_
    refine wpList_st1 HW.out rfl rfl rfl 2 rfl rfl rfl rfl (by kernel_rfl) (fun w' hw' => ?_)
    clear HW; have HW := Lib.hid hw'; clear hw'; (try simp only [hps_rules] at HW); (try simp only [put_rules])
    refine wpList_behind (And.intro (fun h => Bool.noConfusion (show true = false from h)) ?_)
    refine doneE (by kernel_rfl) ?_ _
    go_wp2
    go_returns
    exact ⟨rfl, Holds.bk_close (x := { x with eA := A1, ec := c1 }) HK.out HW.out.tail.tail⟩
  have e1 : (kind == 1) = false := beq_eq_false_iff_ne.2 h1
  by_cases h2 : kind = 2
  · subst h2
    have hV : SgOk (Vt.segs ⟨true, base, ed, root, 0⟩) := ⟨rfl, rfl, rfl, rfl, rfl, hE.2.2.2.1, hroot, rfl, trivial⟩
    have hZ : SgOk Vt.zero.segs := Vt.segs_ok Vt.zero_ok
    have HV := Lib.hid hV
    have HZ := Lib.hid hZ
    have HE := Lib.hid hE.2.2.2.1
    have HO := Lib.hid hroot
    clear h1 e1 hl hl2 hV hZ hE hroot
    go_enter Try.func58, Try.ntmps58
    go_wp2_with (first
      | go_skip
      | (refine wpList_runs HW.out rfl (runs_ld1 0 rfl rfl rfl rfl (by kernel_rfl)) ?_; simp only [put_rules])
      | (refine wpList_runs HW.out rfl (runs_ld1 1 rfl rfl rfl rfl (by kernel_rfl)) ?_; simp only [put_rules])
      | (refine wpList_st1 HW.out rfl rfl rfl 0 rfl rfl rfl rfl (by kernel_rfl) (fun w' hw' => ?_); clear HW; have HW := Lib.hid hw'; clear hw'; (try simp only [hps_rules] at HW); (try simp only [put_rules]))
      | (refine wpList_st1 HW.out rfl rfl rfl 1 rfl rfl rfl rfl (by kernel_rfl) (fun w' hw' => ?_); clear HW; have HW := Lib.hid hw'; clear hw'; (try simp only [hps_rules] at HW); (try simp only [put_rules]))
      | (refine wpList_box HW.out rfl rfl rfl rfl hR (fun g w' hw' => ?_)
         clear HW; have HW := Lib.hid hw'; clear hw'; (try simp only [hps_rules] at HW); (try simp only [put_rules])))
    refine wp_region_untilA 13 (by kernel_rfl) HW.out (fun w' hw' => ?_)
    clear HW; have HW := Lib.hid hw'; have HC := Lib.hid hw'; clear hw'
    simp only [rep_rules]
    first
    | (refine takeE 0 rfl rfl (runs_ldR 0 (ty := 35) (n := 35) rfl rfl rfl rfl Try.underlying35 rfl (by kernel_rfl)) HC.out (by kernel_rfl) (fun _ _ _ h => h) ?_)
    | (refine takeE 0 rfl rfl (runs_ldR 1 (ty := 35) (n := 35) rfl rfl rfl rfl Try.underlying35 rfl (by kernel_rfl)) HC.out (by kernel_rfl) (fun _ _ _ h => h) ?_)
    | (refine takeE 0 rfl rfl (runs_ldR 0 (ty := 33) (n := 32) rfl rfl rfl rfl Try.underlying33 rfl (by kernel_rfl)) HC.out (by kernel_rfl) (fun _ _ _ h => h) ?_)
    | (refine takeE 0 rfl rfl (runs_ldR 1 (ty := 33) (n := 32) rfl rfl rfl rfl Try.underlying33 rfl (by kernel_rfl)) HC.out (by kernel_rfl) (fun _ _ _ h => h) ?_)
    | (refine takeE 0 rfl rfl (runs_ld1 0 rfl rfl rfl rfl (by kernel_rfl)) HC.out (by kernel_rfl) (fun _ _ _ h => h) ?_)
    | (refine takeE 0 rfl rfl (runs_ld1 1 rfl rfl rfl rfl (by kernel_rfl)) HC.out (by kernel_rfl) (fun _ _ _ h => h) ?_)
    | (refine takeE 0 (v := ?_) rfl rfl (runs_of fun w => ?_) HC.out (by kernel_rfl) (fun _ _ _ h => h) ?_
       rotate_left
       · go_simp <;> (try with_reducible rfl))
    try simp only [put_rules]
    first
    | (refine takeE 1 rfl rfl (runs_ldR 0 (ty := 35) (n := 35) rfl rfl rfl rfl Try.underlying35 rfl (by kernel_rfl)) HC.out (by kernel_rfl) (fun _ _ _ h => h) ?_)
    | (refine takeE 1 rfl rfl (runs_ldR 1 (ty := 35) (n := 35) rfl rfl rfl rfl Try.underlying35 rfl (by kernel_rfl)) HC.out (by kernel_rfl) (fun _ _ _ h => h) ?_)
    | (refine takeE 1 rfl rfl (runs_ldR 0 (ty := 33) (n := 32) rfl rfl rfl rfl Try.underlying33 rfl (by kernel_rfl)) HC.out (by kernel_rfl) (fun _ _ _ h => h) ?_)
    | (refine takeE 1 rfl rfl (runs_ldR 1 (ty := 33) (n := 32) rfl rfl rfl rfl Try.underlying33 rfl (by kernel_rfl)) HC.out (by kernel_rfl) (fun _ _ _ h => h) ?_)
    | (refine takeE 1 rfl rfl (runs_ld1 0 rfl rfl rfl rfl (by kernel_rfl)) HC.out (by kernel_rfl) (fun _ _ _ h => h) ?_)
    | (refine takeE 1 rfl rfl (runs_ld1 1 rfl rfl rfl rfl (by kernel_rfl)) HC.out (by kernel_rfl) (fun _ _ _ h => h) ?_)
    | (refine takeE 1 (v := ?_) rfl rfl (runs_of fun w => ?_) HC.out (by kernel_rfl) (fun _ _ _ h => h) ?_
       rotate_left
       · go_simp <;> (try with_reducible rfl))
    try simp only [put_rules]
    first
    | (refine takeE 2 rfl rfl (runs_ldR 0 (ty := 35) (n := 35) rfl rfl rfl rfl Try.underlying35 rfl (by kernel_rfl)) HC.out (by kernel_rfl) (fun _ _ _ h => h) ?_)
    | (refine takeE 2 rfl rfl (runs_ldR 1 (ty := 35) (n := 35) rfl rfl rfl rfl Try.underlying35 rfl (by kernel_rfl)) HC.out (by kernel_rfl) (fun _ _ _ h => h) ?_)
    | (refine takeE 2 rfl rfl (runs_ldR 0 (ty := 33) (n := 32) rfl rfl rfl rfl Try.underlying33 rfl (by kernel_rfl)) HC.out (by kernel_rfl) (fun _ _ _ h => h) ?_)
    | (refine takeE 2 rfl rfl (runs_ldR 1 (ty := 33) (n := 32) rfl rfl rfl rfl Try.underlying33 rfl (by kernel_rfl)) HC.out (by kernel_rfl) (fun _ _ _ h => h) ?_)
    | (refine takeE 2 rfl rfl (runs_ld1 0 rfl rfl rfl rfl (by kernel_rfl)) HC.out (by kernel_rfl) (fun _ _ _ h => h) ?_)
    | (refine takeE 2 rfl rfl (runs_ld1 1 rfl rfl rfl rfl (by kernel_rfl)) HC.out (by kernel_rfl) (fun _ _ _ h => h) ?_)
    | (refine takeE 2 (v := ?_) rfl rfl (runs_of fun w => ?_) HC.out (by kernel_rfl) (fun _ _ _ h => h) ?_
       rotate_left
       · go_simp <;> (try with_reducible rfl))
    try simp only [put_rules]
    first
    | (refine takeE 3 rfl rfl (runs_ldR 0 (ty := 35) (n := 35) rfl rfl rfl rfl Try.underlying35 rfl (by kernel_rfl)) HC.out (by kernel_rfl) (fun _ _ _ h => h) ?_)
    | (refine takeE 3 rfl rfl (runs_ldR 1 (ty := 35) (n := 35) rfl rfl rfl rfl Try.underlying35 rfl (by kernel_rfl)) HC.out (by kernel_rfl) (fun _ _ _ h => h) ?_)
    | (refine takeE 3 rfl rfl (runs_ldR 0 (ty := 33) (n := 32) rfl rfl rfl rfl Try.underlying33 rfl (by kernel_rfl)) HC.out (by kernel_rfl) (fun _ _ _ h => h) ?_)
    | (refine takeE 3 rfl rfl (runs_ldR 1 (ty := 33) (n := 32) rfl rfl rfl rfl Try.underlying33 rfl (by kernel_rfl)) HC.out (by kernel_rfl) (fun _ _ _ h => h) ?_)
    | (refine takeE 3 rfl rfl (runs_ld1 0 rfl rfl rfl rfl (by kernel_rfl)) HC.out (by kernel_rfl) (fun _ _ _ h => h) ?_)
    | (refine takeE 3 rfl rfl (runs_ld1 1 rfl rfl rfl rfl (by kernel_rfl)) HC.out (by kernel_rfl) (fun _ _ _ h => h) ?_)
    | (refine takeE 3 (v := ?_) rfl rfl (runs_of fun w => ?_) HC.out (by kernel_rfl) (fun _ _ _ h => h) ?_
       rotate_left
       · go_simp <;> (try with_reducible rfl))
    try simp only [put_rules]
    first
    | (refine takeE 4 rfl rfl (runs_ldR 0 (ty := 35) (n := 35) rfl rfl rfl rfl Try.underlying35 rfl (by kernel_rfl)) HC.out (by kernel_rfl) (fun _ _ _ h => h) ?_)
    | (refine takeE 4 rfl rfl (runs_ldR 1 (ty := 35) (n := 35) rfl rfl rfl rfl Try.underlying35 rfl (by kernel_rfl)) HC.out (by kernel_rfl) (fun _ _ _ h => h) ?_)
    | (refine takeE 4 rfl rfl (runs_ldR 0 (ty := 33) (n := 32) rfl rfl rfl rfl Try.underlying33 rfl (by kernel_rfl)) HC.out (by kernel_rfl) (fun _ _ _ h => h) ?_)
    | (refine takeE 4 rfl rfl (runs_ldR 1 (ty := 33) (n := 32) rfl rfl rfl rfl Try.underlying33 rfl (by kernel_rfl)) HC.out (by kernel_rfl) (fun _ _ _ h => h) ?_)
    | (refine takeE 4 rfl rfl (runs_ld1 0 rfl rfl rfl rfl (by kernel_rfl)) HC.out (by kernel_rfl) (fun _ _ _ h => h) ?_)
    | (refine takeE 4 rfl rfl (runs_ld1 1 rfl rfl rfl rfl (by kernel_rfl)) HC.out (by kernel_rfl) (fun _ _ _ h => h) ?_)
    | (refine takeE 4 (v := ?_) rfl rfl (runs_of fun w => ?_) HC.out (by kernel_rfl) (fun _ _ _ h => h) ?_
       rotate_left
       · go_simp <;> (try with_reducible rfl))
    try simp only [put_rules]
    first
    | (refine takeE 5 rfl rfl (runs_ldR 0 (ty := 35) (n := 35) rfl rfl rfl rfl Try.underlying35 rfl (by kernel_rfl)) HC.out (by kernel_rfl) (fun _ _ _ h => h) ?_)
    | (refine takeE 5 rfl rfl (runs_ldR 1 (ty := 35) (n := 35) rfl rfl rfl rfl Try.underlying35 rfl (by kernel_rfl)) HC.out (by kernel_rfl) (fun _ _ _ h => h) ?_)
    | (refine takeE 5 rfl rfl (runs_ldR 0 (ty := 33) (n := 32) rfl rfl rfl rfl Try.underlying33 rfl (by kernel_rfl)) HC.out (by kernel_rfl) (fun _ _ _ h => h) ?_)
    | (refine takeE 5 rfl rfl (runs_ldR 1 (ty := 33) (n := 32) rfl rfl rfl rfl Try.underlying33 rfl (by kernel_rfl)) HC.out (by kernel_rfl) (fun _ _ _ h => h) ?_)
    | (refine takeE 5 rfl rfl (runs_ld1 0 rfl rfl rfl rfl (by kernel_rfl)) HC.out (by kernel_rfl) (fun _ _ _ h => h) ?_)
    | (refine takeE 5 rfl rfl (runs_ld1 1 rfl rfl rfl rfl (by kernel_rfl)) HC.out (by kernel_rfl) (fun _ _ _ h => h) ?_)
    | (refine takeE 5 (v := ?_) rfl rfl (runs_of fun w => ?_) HC.out (by kernel_rfl) (fun _ _ _ h => h) ?_
       rotate_left
       · go_simp <;> (try with_reducible rfl))
    try simp only [put_rules]
    first
    | (refine takeE 6 rfl rfl (runs_ldR 0 (ty := 35) (n := 35) rfl rfl rfl rfl Try.underlying35 rfl (by kernel_rfl)) HC.out (by kernel_rfl) (fun _ _ _ h => h) ?_)
    | (refine takeE 6 rfl rfl (runs_ldR 1 (ty := 35) (n := 35) rfl rfl rfl rfl Try.underlying35 rfl (by kernel_rfl)) HC.out (by kernel_rfl) (fun _ _ _ h => h) ?_)
    | (refine takeE 6 rfl rfl (runs_ldR 0 (ty := 33) (n := 32) rfl rfl rfl rfl Try.underlying33 rfl (by kernel_rfl)) HC.out (by kernel_rfl) (fun _ _ _ h => h) ?_)
    | (refine takeE 6 rfl rfl (runs_ldR 1 (ty := 33) (n := 32) rfl rfl rfl rfl Try.underlying33 rfl (by kernel_rfl)) HC.out (by kernel_rfl) (fun _ _ _ h => h) ?_)
    | (refine takeE 6 rfl rfl (runs_ld1 0 rfl rfl rfl rfl (by kernel_rfl)) HC.out (by kernel_rfl) (fun _ _ _ h => h) ?_)
    | (refine takeE 6 rfl rfl (runs_ld1 1 rfl rfl rfl rfl (by kernel_rfl)) HC.out (by kernel_rfl) (fun _ _ _ h => h) ?_)
    | (refine takeE 6 (v := ?_) rfl rfl (runs_of fun w => ?_) HC.out (by kernel_rfl) (fun _ _ _ h => h) ?_
       rotate_left
       · go_simp <;> (try with_reducible rfl))
    try simp only [put_rules]
    first
    | (refine takeE 7 rfl rfl (runs_ldR 0 (ty := 35) (n := 35) rfl rfl rfl rfl Try.underlying35 rfl (by kernel_rfl)) HC.out (by kernel_rfl) (fun _ _ _ h => h) ?_)
    | (refine takeE 7 rfl rfl (runs_ldR 1 (ty := 35) (n := 35) rfl rfl rfl rfl Try.underlying35 rfl (by kernel_rfl)) HC.out (by kernel_rfl) (fun _ _ _ h => h) ?_)
    | (refine takeE 7 rfl rfl (runs_ldR 0 (ty := 33) (n := 32) rfl rfl rfl rfl Try.underlying33 rfl (by kernel_rfl)) HC.out (by kernel_rfl) (fun _ _ _ h => h) ?_)
    | (refine takeE 7 rfl rfl (runs_ldR 1 (ty := 33) (n := 32) rfl rfl rfl rfl Try.underlying33 rfl (by kernel_rfl)) HC.out (by kernel_rfl) (fun _ _ _ h => h) ?_)
    | (refine takeE 7 rfl rfl (runs_ld1 0 rfl rfl rfl rfl (by kernel_rfl)) HC.out (by kernel_rfl) (fun _ _ _ h => h) ?_)
    | (refine takeE 7 rfl rfl (runs_ld1 1 rfl rfl rfl rfl (by kernel_rfl)) HC.out (by kernel_rfl) (fun _ _ _ h => h) ?_)
    | (refine takeE 7 (v := ?_) rfl rfl (runs_of fun w => ?_) HC.out (by kernel_rfl) (fun _ _ _ h => h) ?_
       rotate_left
       · go_simp <;> (try with_reducible rfl))
    try simp only [put_rules]
    first
    | (refine takeE 8 rfl rfl (runs_ldR 0 (ty := 35) (n := 35) rfl rfl rfl rfl Try.underlying35 rfl (by kernel_rfl)) HC.out (by kernel_rfl) (fun _ _ _ h => h) ?_)
    | (refine takeE 8 rfl rfl (runs_ldR 1 (ty := 35) (n := 35) rfl rfl rfl rfl Try.underlying35 rfl (by kernel_rfl)) HC.out (by kernel_rfl) (fun _ _ _ h => h) ?_)
    | (refine takeE 8 rfl rfl (runs_ldR 0 (ty := 33) (n := 32) rfl rfl rfl rfl Try.underlying33 rfl (by kernel_rfl)) HC.out (by kernel_rfl) (fun _ _ _ h => h) ?_)
    | (refine takeE 8 rfl rfl (runs_ldR 1 (ty := 33) (n := 32) rfl rfl rfl rfl Try.underlying33 rfl (by kernel_rfl)) HC.out (by kernel_rfl) (fun _ _ _ h => h) ?_)
    | (refine takeE 8 rfl rfl (runs_ld1 0 rfl rfl rfl rfl (by kernel_rfl)) HC.out (by kernel_rfl) (fun _ _ _ h => h) ?_)
    | (refine takeE 8 rfl rfl (runs_ld1 1 rfl rfl rfl rfl (by kernel_rfl)) HC.out (by kernel_rfl) (fun _ _ _ h => h) ?_)
    | (refine takeE 8 (v := ?_) rfl rfl (runs_of fun w => ?_) HC.out (by kernel_rfl) (fun _ _ _ h => h) ?_
       rotate_left
       · go_simp <;> (try with_reducible rfl))
    try simp only [put_rules]
    first
    | (refine takeE 9 rfl rfl (runs_ldR 0 (ty := 35) (n := 35) rfl rfl rfl rfl Try.underlying35 rfl (by kernel_rfl)) HC.out (by kernel_rfl) (fun _ _ _ h => h) ?_)
    | (refine takeE 9 rfl rfl (runs_ldR 1 (ty := 35) (n := 35) rfl rfl rfl rfl Try.underlying35 rfl (by kernel_rfl)) HC.out (by kernel_rfl) (fun _ _ _ h => h) ?_)
    | (refine takeE 9 rfl rfl (runs_ldR 0 (ty := 33) (n := 32) rfl rfl rfl rfl Try.underlying33 rfl (by kernel_rfl)) HC.out (by kernel_rfl) (fun _ _ _ h => h) ?_)
    | (refine takeE 9 rfl rfl (runs_ldR 1 (ty := 33) (n := 32) rfl rfl rfl rfl Try.underlying33 rfl (by kernel_rfl)) HC.out (by kernel_rfl) (fun _ _ _ h => h) ?_)
    | (refine takeE 9 rfl rfl (runs_ld1 0 rfl rfl rfl rfl (by kernel_rfl)) HC.out (by kernel_rfl) (fun _ _ _ h => h) ?_)
    | (refine takeE 9 rfl rfl (runs_ld1 1 rfl rfl rfl rfl (by kernel_rfl)) HC.out (by kernel_rfl) (fun _ _ _ h => h) ?_)
    | (refine takeE 9 (v := ?_) rfl rfl (runs_of fun w => ?_) HC.out (by kernel_rfl) (fun _ _ _ h => h) ?_
       rotate_left
       · go_simp <;> (try with_reducible rfl))
    try simp only [put_rules]
    first
    | (refine takeE 10 rfl rfl (runs_ldR 0 (ty := 35) (n := 35) rfl rfl rfl rfl Try.underlying35 rfl (by kernel_rfl)) HC.out (by kernel_rfl) (fun _ _ _ h => h) ?_)
    | (refine takeE 10 rfl rfl (runs_ldR 1 (ty := 35) (n := 35) rfl rfl rfl rfl Try.underlying35 rfl (by kernel_rfl)) HC.out (by kernel_rfl) (fun _ _ _ h => h) ?_)
    | (refine takeE 10 rfl rfl (runs_ldR 0 (ty := 33) (n := 32) rfl rfl rfl rfl Try.underlying33 rfl (by kernel_rfl)) HC.out (by kernel_rfl) (fun _ _ _ h => h) ?_)
    | (refine takeE 10 rfl rfl (runs_ldR 1 (ty := 33) (n := 32) rfl rfl rfl rfl Try.underlying33 rfl (by kernel_rfl)) HC.out (by kernel_rfl) (fun _ _ _ h => h) ?_)
    | (refine takeE 10 rfl rfl (runs_ld1 0 rfl rfl rfl rfl (by kernel_rfl)) HC.out (by kernel_rfl) (fun _ _ _ h => h) ?_)
    | (refine takeE 10 rfl rfl (runs_ld1 1 rfl rfl rfl rfl (by kernel_rfl)) HC.out (by kernel_rfl) (fun _ _ _ h => h) ?_)
    | (refine takeE 10 (v := ?_) rfl rfl (runs_of fun w => ?_) HC.out (by kernel_rfl) (fun _ _ _ h => h) ?_
       rotate_left
       · go_simp <;> (try with_reducible rfl))
    try simp only [put_rules]
    first
    | (refine takeE 11 rfl rfl (runs_ldR 0 (ty := 35) (n := 35) rfl rfl rfl rfl Try.underlying35 rfl (by kernel_rfl)) HC.out (by kernel_rfl) (fun _ _ _ h => h) ?_)
    | (refine takeE 11 rfl rfl (runs_ldR 1 (ty := 35) (n := 35) rfl rfl rfl rfl Try.underlying35 rfl (by kernel_rfl)) HC.out (by kernel_rfl) (fun _ _ _ h => h) ?_)
    | (refine takeE 11 rfl rfl (runs_ldR 0 (ty := 33) (n := 32) rfl rfl rfl rfl Try.underlying33 rfl (by kernel_rfl)) HC.out (by kernel_rfl) (fun _ _ _ h => h) ?_)
    | (refine takeE 11 rfl rfl (runs_ldR 1 (ty := 33) (n := 32) rfl rfl rfl rfl Try.underlying33 rfl (by kernel_rfl)) HC.out (by kernel_rfl) (fun _ _ _ h => h) ?_)
    | (refine takeE 11 rfl rfl (runs_ld1 0 rfl rfl rfl rfl (by kernel_rfl)) HC.out (by kernel_rfl) (fun _ _ _ h => h) ?_)
    | (refine takeE 11 rfl rfl (runs_ld1 1 rfl rfl rfl rfl (by kernel_rfl)) HC.out (by kernel_rfl) (fun _ _ _ h => h) ?_)
    | (refine takeE 11 (v := ?_) rfl rfl (runs_of fun w => ?_) HC.out (by kernel_rfl) (fun _ _ _ h => h) ?_
       rotate_left
       · go_simp <;> (try with_reducible rfl))
    try simp only [put_rules]
    refine takeE 12 rfl rfl (runs_build (zs := Vt.zero.segs) (M := Vt.segs ⟨true, base, ed, root, 0⟩) rfl Try.underlying40 #[(0, 1), (1, 1), (2, 35), (37, 32), (69, 1)] (fun w => by kernel_rfl) (by kernel_rfl) ?_) HC.out (by kernel_rfl) (fun _ _ _ h => h) ?_
    · simp only [List.map_cons, List.map_nil]
      refine fill_cons (off := 0) (n := 1) (M := [.o (.bool true)]) rfl rfl ⟨rfl, trivial⟩ rfl HZ.out rfl (fun h1 => ?_)
      refine fill_cons (off := 1) (n := 1) (M := [.o (.int .u64 base)]) rfl rfl ⟨rfl, trivial⟩ rfl h1 rfl (fun h2 => ?_)
      refine fill_cons (off := 2) (n := 35) (M := Ed.segs ed) rfl rfl ⟨rfl, rfl, rfl, HE.out, trivial⟩ rfl h2 rfl (fun h3 => ?_)
      refine fill_cons (off := 37) (n := 32) (M := [.b 32 root]) rfl rfl ⟨HO.out, trivial⟩ rfl h3 rfl (fun h4 => ?_)
      rfl
    (try simp only [put_rules])
    refine effE 13 rfl (by kernel_rfl) ?_
    refine wpList_updK HW.out rfl rfl rfl 3 rfl rfl (⟨true, base, ed, root, 0⟩ : Vt) rfl Try.underlying110 Try.underlying23 (fun w' hw' => ?_)
    clear HW; have HW := Lib.hid hw'; clear hw'; (try simp only [hps_rules] at HW); (try simp only [put_rules])
    refine wpList_behind (And.intro (fun h => Bool.noConfusion (show true = false from h)) ?_)
    refine doneE (by kernel_rfl) ?_ _
    go_wp2_with (first
      | go_skip
      | (refine wpList_runs HW.out rfl (runs_ld1 0 rfl rfl rfl rfl (by kernel_rfl)) ?_; simp only [put_rules])
      | (refine wpList_runs HW.out rfl (runs_ld1 1 rfl rfl rfl rfl (by kernel_rfl)) ?_; simp only [put_rules])
      | (refine wpList_st1 HW.out rfl rfl rfl 0 rfl rfl rfl rfl (by kernel_rfl) (fun w' hw' => ?_); clear HW; have HW := Lib.hid hw'; clear hw'; (try simp only [hps_rules] at HW); (try simp only [put_rules]))
      | (refine wpList_st1 HW.out rfl rfl rfl 1 rfl rfl rfl rfl (by kernel_rfl) (fun w' hw' => ?_); clear HW; have HW := Lib.hid hw'; clear hw'; (try simp only [hps_rules] at HW); (try simp only [put_rules])))
    go_returns
    exact ⟨rfl, Holds.bk_close (x := x) HK.out HW.out.tail⟩
  have e2 : (kind == 2) = false := beq_eq_false_iff_ne.2 h2
  by_cases h3 : kind = 3
  · subst h3
    have hZ : SgOk Vt.zero.segs := Vt.segs_ok Vt.zero_ok
    have HZ := Lib.hid hZ
    clear h1 e1 h2 e2 hl hl2 hZ hE hroot
    go_enter Try.func58, Try.ntmps58
    go_wp2_with (first
      | go_skip
      | (refine wpList_runs HW.out rfl (runs_ld1 0 rfl rfl rfl rfl (by kernel_rfl)) ?_; simp only [put_rules])
      | (refine wpList_runs HW.out rfl (runs_ld1 1 rfl rfl rfl rfl (by kernel_rfl)) ?_; simp only [put_rules])
      | (refine wpList_st1 HW.out rfl rfl rfl 0 rfl rfl rfl rfl (by kernel_rfl) (fun w' hw' => ?_); clear HW; have HW := Lib.hid hw'; clear hw'; (try simp only [hps_rules] at HW); (try simp only [put_rules]))
      | (refine wpList_st1 HW.out rfl rfl rfl 1 rfl rfl rfl rfl (by kernel_rfl) (fun w' hw' => ?_); clear HW; have HW := Lib.hid hw'; clear hw'; (try simp only [hps_rules] at HW); (try simp only [put_rules]))
      | (refine wpList_box HW.out rfl rfl rfl rfl hR (fun g w' hw' => ?_)
         clear HW; have HW := Lib.hid hw'; clear hw'; (try simp only [hps_rules] at HW); (try simp only [put_rules])))
    refine wp_region_untilA 9 (by kernel_rfl) HW.out (fun w' hw' => ?_)
    clear HW; have HW := Lib.hid hw'; have HC := Lib.hid hw'; clear hw'
    simp only [rep_rules]
    first
    | (refine takeE 0 rfl rfl (runs_ld1 0 rfl rfl rfl rfl (by kernel_rfl)) HC.out (by kernel_rfl) (fun _ _ _ h => h) ?_)
    | (refine takeE 0 rfl rfl (runs_ld1 1 rfl rfl rfl rfl (by kernel_rfl)) HC.out (by kernel_rfl) (fun _ _ _ h => h) ?_)
    | (refine takeE 0 (v := ?_) rfl rfl (runs_of fun w => ?_) HC.out (by kernel_rfl) (fun _ _ _ h => h) ?_
       rotate_left
       · go_simp <;> (try with_reducible rfl))
    try simp only [put_rules]
    first
    | (refine takeE 1 rfl rfl (runs_ld1 0 rfl rfl rfl rfl (by kernel_rfl)) HC.out (by kernel_rfl) (fun _ _ _ h => h) ?_)
    | (refine takeE 1 rfl rfl (runs_ld1 1 rfl rfl rfl rfl (by kernel_rfl)) HC.out (by kernel_rfl) (fun _ _ _ h => h) ?_)
    | (refine takeE 1 (v := ?_) rfl rfl (runs_of fun w => ?_) HC.out (by kernel_rfl) (fun _ _ _ h => h) ?_
       rotate_left
       · go_simp <;> (try with_reducible rfl))
    try simp only [put_rules]
    first
    | (refine takeE 2 rfl rfl (runs_ld1 0 rfl rfl rfl rfl (by kernel_rfl)) HC.out (by kernel_rfl) (fun _ _ _ h => h) ?_)
    | (refine takeE 2 rfl rfl (runs_ld1 1 rfl rfl rfl rfl (by kernel_rfl)) HC.out (by kernel_rfl) (fun _ _ _ h => h) ?_)
    | (refine takeE 2 (v := ?_) rfl rfl (runs_of fun w => ?_) HC.out (by kernel_rfl) (fun _ _ _ h => h) ?_
       rotate_left
       · go_simp <;> (try with_reducible rfl))
    try simp only [put_rules]
    first
    | (refine takeE 3 rfl rfl (runs_ld1 0 rfl rfl rfl rfl (by kernel_rfl)) HC.out (by kernel_rfl) (fun _ _ _ h => h) ?_)
    | (refine takeE 3 rfl rfl (runs_ld1 1 rfl rfl rfl rfl (by kernel_rfl)) HC.out (by kernel_rfl) (fun _ _ _ h => h) ?_)
    | (refine takeE 3 (v := ?_) rfl rfl (runs_of fun w => ?_) HC.out (by kernel_rfl) (fun _ _ _ h => h) ?_
       rotate_left
       · go_simp <;> (try with_reducible rfl))
    try simp only [put_rules]
    first
    | (refine takeE 4 rfl rfl (runs_ld1 0 rfl rfl rfl rfl (by kernel_rfl)) HC.out (by kernel_rfl) (fun _ _ _ h => h) ?_)
    | (refine takeE 4 rfl rfl (runs_ld1 1 rfl rfl rfl rfl (by kernel_rfl)) HC.out (by kernel_rfl) (fun _ _ _ h => h) ?_)
    | (refine takeE 4 (v := ?_) rfl rfl (runs_of fun w => ?_) HC.out (by kernel_rfl) (fun _ _ _ h => h) ?_
       rotate_left
       · go_simp <;> (try with_reducible rfl))
    try simp only [put_rules]
    first
    | (refine takeE 5 rfl rfl (runs_ld1 0 rfl rfl rfl rfl (by kernel_rfl)) HC.out (by kernel_rfl) (fun _ _ _ h => h) ?_)
    | (refine takeE 5 rfl rfl (runs_ld1 1 rfl rfl rfl rfl (by kernel_rfl)) HC.out (by kernel_rfl) (fun _ _ _ h => h) ?_)
    | (refine takeE 5 (v := ?_) rfl rfl (runs_of fun w => ?_) HC.out (by kernel_rfl) (fun _ _ _ h => h) ?_
       rotate_left
       · go_simp <;> (try with_reducible rfl))
    try simp only [put_rules]
    first
    | (refine takeE 6 rfl rfl (runs_ld1 0 rfl rfl rfl rfl (by kernel_rfl)) HC.out (by kernel_rfl) (fun _ _ _ h => h) ?_)
    | (refine takeE 6 rfl rfl (runs_ld1 1 rfl rfl rfl rfl (by kernel_rfl)) HC.out (by kernel_rfl) (fun _ _ _ h => h) ?_)
    | (refine takeE 6 (v := ?_) rfl rfl (runs_of fun w => ?_) HC.out (by kernel_rfl) (fun _ _ _ h => h) ?_
       rotate_left
       · go_simp <;> (try with_reducible rfl))
    try simp only [put_rules]
    first
    | (refine takeE 7 rfl rfl (runs_ld1 0 rfl rfl rfl rfl (by kernel_rfl)) HC.out (by kernel_rfl) (fun _ _ _ h => h) ?_)
    | (refine takeE 7 rfl rfl (runs_ld1 1 rfl rfl rfl rfl (by kernel_rfl)) HC.out (by kernel_rfl) (fun _ _ _ h => h) ?_)
    | (refine takeE 7 (v := ?_) rfl rfl (runs_of fun w => ?_) HC.out (by kernel_rfl) (fun _ _ _ h => h) ?_
       rotate_left
       · go_simp <;> (try with_reducible rfl))
    try simp only [put_rules]
    refine takeE 8 rfl rfl (runs_build (zs := Vt.zero.segs) (M := Vt.segs ⟨false, 0, Ed.zero, zeros 32, code⟩) rfl Try.underlying40 #[(0, 1), (1, 1), (2, 35), (37, 32), (69, 1)] (fun w => by kernel_rfl) (by kernel_rfl) ?_) HC.out (by kernel_rfl) (fun _ _ _ h => h) ?_
    · simp only [List.map_cons, List.map_nil]
      refine fill_cons (off := 69) (n := 1) (M := [.o (.int .i64 code)]) rfl rfl ⟨rfl, trivial⟩ rfl HZ.out rfl (fun h1 => ?_)
      rfl
    (try simp only [put_rules])
    refine effE 9 rfl (by kernel_rfl) ?_
    refine wpList_updK HW.out rfl rfl rfl 3 rfl rfl (⟨false, 0, Ed.zero, zeros 32, code⟩ : Vt) rfl Try.underlying110 Try.underlying23 (fun w' hw' => ?_)
    clear HW; have HW := Lib.hid hw'; clear hw'; (try simp only [hps_rules] at HW); (try simp only [put_rules])
    refine wpList_behind (And.intro (fun h => Bool.noConfusion (show true = false from h)) ?_)
    refine doneE (by kernel_rfl) ?_ _
    go_wp2
    go_returns
    exact ⟨rfl, Holds.bk_close (x := x) HK.out HW.out.tail⟩
  have h4 : kind = 4 := by have := HK14.out; omega
  subst h4
  have hl3 : k.vers.length + 1 ≤ maxLen := by unfold maxLen; omega
  have hl4 : (k.vers.length + 1) * 16 ≤ 140737488355328 := by omega
  have HL := Lib.hid (And.intro hl3 hl4)
  have HT := Lib.hid (tsegs_ok text)
  obtain ⟨p', HP'⟩ : ∃ p', Hid ((if k.prep = id then 0 else k.prep) = p') := ⟨_, rfl⟩
  have HS : Hid (k.say ⟨4, id, base, ed, root, code, commit, has, text⟩ = { k with ends := kput k.ends id commit, prep := p', vers := if has = true then k.vers ++ [text] else k.vers }) := by
    unfold Hid; rw [← HP'.out]; rfl
  rw [HS.out] at HK ⊢
  clear hl hl2 hl3 hl4 h1 e1 h2 e2 h3 hE hroot
  by_cases hp : k.prep = id
  all_goals
    have HPP := Lib.hid hp
    first
    | (have e9 : ((k.prep : Int) == (id : Int)) = true := by rw [hp]; exact beq_self_eq_true _)
    | (have e9 : ((k.prep : Int) == (id : Int)) = false := beq_eq_false_iff_ne.2 (by omega))
    clear hp
    cases has
    all_goals
      go_enter Try.func58, Try.ntmps58
      go_wp2_with (first
        | go_skip
        | (refine wpList_runs HW.out rfl (runs_ld1 0 rfl rfl rfl rfl (by kernel_rfl)) ?_; simp only [put_rules])
        | (refine wpList_runs HW.out rfl (runs_ld1 1 rfl rfl rfl rfl (by kernel_rfl)) ?_; simp only [put_rules])
        | (refine wpList_st1 HW.out rfl rfl rfl 0 rfl rfl rfl rfl (by kernel_rfl) (fun w' hw' => ?_); clear HW; have HW := Lib.hid hw'; clear hw'; (try simp only [hps_rules] at HW); (try simp only [put_rules]))
        | (refine wpList_st1 HW.out rfl rfl rfl 1 rfl rfl rfl rfl (by kernel_rfl) (fun w' hw' => ?_); clear HW; have HW := Lib.hid hw'; clear hw'; (try simp only [hps_rules] at HW); (try simp only [put_rules]))
        | (refine wpList_box HW.out rfl rfl rfl rfl hR (fun g w' hw' => ?_)
           clear HW; have HW := Lib.hid hw'; clear hw'; (try simp only [hps_rules] at HW); (try simp only [put_rules])))
      refine wp_region_untilA 8 (by kernel_rfl) HW.out (fun w' hw' => ?_)
      clear HW; have HW := Lib.hid hw'; have HC := Lib.hid hw'; clear hw'
      simp only [rep_rules]
      first
      | (refine takeE 0 rfl rfl (runs_ld1 0 rfl rfl rfl rfl (by kernel_rfl)) HC.out (by kernel_rfl) (fun _ _ _ h => h) ?_)
      | (refine takeE 0 rfl rfl (runs_ld1 1 rfl rfl rfl rfl (by kernel_rfl)) HC.out (by kernel_rfl) (fun _ _ _ h => h) ?_)
      | (refine takeE 0 (v := ?_) rfl rfl (runs_of fun w => ?_) HC.out (by kernel_rfl) (fun _ _ _ h => h) ?_
         rotate_left
         · go_simp <;> (try with_reducible rfl))
      try simp only [put_rules]
      first
      | (refine takeE 1 rfl rfl (runs_ld1 0 rfl rfl rfl rfl (by kernel_rfl)) HC.out (by kernel_rfl) (fun _ _ _ h => h) ?_)
      | (refine takeE 1 rfl rfl (runs_ld1 1 rfl rfl rfl rfl (by kernel_rfl)) HC.out (by kernel_rfl) (fun _ _ _ h => h) ?_)
      | (refine takeE 1 (v := ?_) rfl rfl (runs_of fun w => ?_) HC.out (by kernel_rfl) (fun _ _ _ h => h) ?_
         rotate_left
         · go_simp <;> (try with_reducible rfl))
      try simp only [put_rules]
      first
      | (refine takeE 2 rfl rfl (runs_ld1 0 rfl rfl rfl rfl (by kernel_rfl)) HC.out (by kernel_rfl) (fun _ _ _ h => h) ?_)
      | (refine takeE 2 rfl rfl (runs_ld1 1 rfl rfl rfl rfl (by kernel_rfl)) HC.out (by kernel_rfl) (fun _ _ _ h => h) ?_)
      | (refine takeE 2 (v := ?_) rfl rfl (runs_of fun w => ?_) HC.out (by kernel_rfl) (fun _ _ _ h => h) ?_
         rotate_left
         · go_simp <;> (try with_reducible rfl))
      try simp only [put_rules]
      first
      | (refine takeE 3 rfl rfl (runs_ld1 0 rfl rfl rfl rfl (by kernel_rfl)) HC.out (by kernel_rfl) (fun _ _ _ h => h) ?_)
      | (refine takeE 3 rfl rfl (runs_ld1 1 rfl rfl rfl rfl (by kernel_rfl)) HC.out (by kernel_rfl) (fun _ _ _ h => h) ?_)
      | (refine takeE 3 (v := ?_) rfl rfl (runs_of fun w => ?_) HC.out (by kernel_rfl) (fun _ _ _ h => h) ?_
         rotate_left
         · go_simp <;> (try with_reducible rfl))
      try simp only [put_rules]
      first
      | (refine takeE 4 rfl rfl (runs_ld1 0 rfl rfl rfl rfl (by kernel_rfl)) HC.out (by kernel_rfl) (fun _ _ _ h => h) ?_)
      | (refine takeE 4 rfl rfl (runs_ld1 1 rfl rfl rfl rfl (by kernel_rfl)) HC.out (by kernel_rfl) (fun _ _ _ h => h) ?_)
      | (refine takeE 4 (v := ?_) rfl rfl (runs_of fun w => ?_) HC.out (by kernel_rfl) (fun _ _ _ h => h) ?_
         rotate_left
         · go_simp <;> (try with_reducible rfl))
      try simp only [put_rules]
      first
      | (refine takeE 5 rfl rfl (runs_ld1 0 rfl rfl rfl rfl (by kernel_rfl)) HC.out (by kernel_rfl) (fun _ _ _ h => h) ?_)
      | (refine takeE 5 rfl rfl (runs_ld1 1 rfl rfl rfl rfl (by kernel_rfl)) HC.out (by kernel_rfl) (fun _ _ _ h => h) ?_)
      | (refine takeE 5 (v := ?_) rfl rfl (runs_of fun w => ?_) HC.out (by kernel_rfl) (fun _ _ _ h => h) ?_
         rotate_left
         · go_simp <;> (try with_reducible rfl))
      try simp only [put_rules]
      first
      | (refine takeE 6 rfl rfl (runs_ld1 0 rfl rfl rfl rfl (by kernel_rfl)) HC.out (by kernel_rfl) (fun _ _ _ h => h) ?_)
      | (refine takeE 6 rfl rfl (runs_ld1 1 rfl rfl rfl rfl (by kernel_rfl)) HC.out (by kernel_rfl) (fun _ _ _ h => h) ?_)
      | (refine takeE 6 (v := ?_) rfl rfl (runs_of fun w => ?_) HC.out (by kernel_rfl) (fun _ _ _ h => h) ?_
         rotate_left
         · go_simp <;> (try with_reducible rfl))
      try simp only [put_rules]
      first
      | (refine takeE 7 rfl rfl (runs_ld1 0 rfl rfl rfl rfl (by kernel_rfl)) HC.out (by kernel_rfl) (fun _ _ _ h => h) ?_)
      | (refine takeE 7 rfl rfl (runs_ld1 1 rfl rfl rfl rfl (by kernel_rfl)) HC.out (by kernel_rfl) (fun _ _ _ h => h) ?_)
      | (refine takeE 7 (v := ?_) rfl rfl (runs_of fun w => ?_) HC.out (by kernel_rfl) (fun _ _ _ h => h) ?_
         rotate_left
         · go_simp <;> (try with_reducible rfl))
      try simp only [put_rules]
      refine effE 8 rfl (by kernel_rfl) ?_
      refine wpList_updK HW.out rfl rfl rfl 4 rfl rfl commit rfl Try.underlying111 Try.underlying23 (fun w' hw' => ?_)
      clear HW; have HW := Lib.hid hw'; clear hw'; (try simp only [hps_rules] at HW); (try simp only [put_rules])
      refine wpList_behind (And.intro (fun h => Bool.noConfusion (show true = false from h)) ?_)
      refine doneE (by kernel_rfl) ?_ _
      go_wp2_with (first
        | go_skip
        | (refine wpList_runs HW.out rfl (runs_ld1 0 rfl rfl rfl rfl (by kernel_rfl)) ?_; simp only [put_rules])
        | (refine wpList_runs HW.out rfl (runs_ld1 1 rfl rfl rfl rfl (by kernel_rfl)) ?_; simp only [put_rules])
        | (refine wpList_st1 HW.out rfl rfl rfl 0 rfl rfl rfl rfl (by kernel_rfl) (fun w' hw' => ?_); clear HW; have HW := Lib.hid hw'; clear hw'; (try simp only [hps_rules] at HW); (try simp only [put_rules]))
        | (refine wpList_st1 HW.out rfl rfl rfl 1 rfl rfl rfl rfl (by kernel_rfl) (fun w' hw' => ?_); clear HW; have HW := Lib.hid hw'; clear hw'; (try simp only [hps_rules] at HW); (try simp only [put_rules])))
      refine wp_region_quietC (fun v => Holds v _) (by kernel_rfl) (by kernel_rfl) (HW.out.drewN 1) ?_
      repeat (first
        | go_big_quiet_skip
        | (go_big_quiet_want
           first
           | (refine quiet_runs (runs_ld1 0 rfl rfl rfl rfl (by kernel_rfl)) ?_)
           | (refine quiet_runs (runs_ld1 1 rfl rfl rfl rfl (by kernel_rfl)) ?_)
           | (refine quietV ?_ (fun v hv => ?_) ?_
              rotate_left
              · clear hv; go_simp <;> (try with_reducible rfl))
           (try simp only [put_rules])
           go_big_quiet_on))
      refine wpQuiet_nil (fun w' hw' => ?_)
      clear HW; have HW := Lib.hid hw'; clear hw'
      go_wp2_with (first
        | go_skip
        | (refine wpList_runs HW.out rfl (runs_ld1 0 rfl rfl rfl rfl (by kernel_rfl)) ?_; simp only [put_rules])
        | (refine wpList_runs HW.out rfl (runs_ld1 1 rfl rfl rfl rfl (by kernel_rfl)) ?_; simp only [put_rules])
        | (refine wpList_st1 HW.out rfl rfl rfl 0 rfl rfl rfl rfl (by kernel_rfl) (fun w' hw' => ?_); clear HW; have HW := Lib.hid hw'; clear hw'; (try simp only [hps_rules] at HW); (try simp only [put_rules]))
        | (refine wpList_st1 HW.out rfl rfl rfl 1 rfl rfl rfl rfl (by kernel_rfl) (fun w' hw' => ?_); clear HW; have HW := Lib.hid hw'; clear hw'; (try simp only [hps_rules] at HW); (try simp only [put_rules])))
  · have hp' : p' = 0 := by rw [← HP'.out, if_pos HPP.out]
    subst hp'
    go_returns
    exact ⟨rfl, Holds.bk_close (x := x) HK.out HW.out.tail⟩
  · have hp' : p' = 0 := by rw [← HP'.out, if_pos HPP.out]
    subst hp'
    refine wp_region_untilD 5 11 (by kernel_rfl) HW.out (fun w' hw' => ?_)
    clear HW; have HW := Lib.hid hw'; have HC := Lib.hid (hw'.drop 5 rfl); clear hw'
    simp only [era_rules] at HC ⊢
    simp only [rep_rules]
    first
    | (refine takeE 0 rfl rfl (runs_ld1 0 rfl rfl rfl rfl (by kernel_rfl)) HC.out (by kernel_rfl) (fun _ _ _ h => h) ?_)
    | (refine takeE 0 rfl rfl (runs_ld1 1 rfl rfl rfl rfl (by kernel_rfl)) HC.out (by kernel_rfl) (fun _ _ _ h => h) ?_)
    | (refine takeE 0 (v := ?_) rfl rfl (runs_of fun w => ?_) HC.out (by kernel_rfl) (fun _ _ _ h => h) ?_
       rotate_left
       · go_simp <;> (try with_reducible rfl))
    try simp only [put_rules]
    first
    | (refine takeE 1 rfl rfl (runs_ld1 0 rfl rfl rfl rfl (by kernel_rfl)) HC.out (by kernel_rfl) (fun _ _ _ h => h) ?_)
    | (refine takeE 1 rfl rfl (runs_ld1 1 rfl rfl rfl rfl (by kernel_rfl)) HC.out (by kernel_rfl) (fun _ _ _ h => h) ?_)
    | (refine takeE 1 (v := ?_) rfl rfl (runs_of fun w => ?_) HC.out (by kernel_rfl) (fun _ _ _ h => h) ?_
       rotate_left
       · go_simp <;> (try with_reducible rfl))
    try simp only [put_rules]
    first
    | (refine takeE 2 rfl rfl (runs_ld1 0 rfl rfl rfl rfl (by kernel_rfl)) HC.out (by kernel_rfl) (fun _ _ _ h => h) ?_)
    | (refine takeE 2 rfl rfl (runs_ld1 1 rfl rfl rfl rfl (by kernel_rfl)) HC.out (by kernel_rfl) (fun _ _ _ h => h) ?_)
    | (refine takeE 2 (v := ?_) rfl rfl (runs_of fun w => ?_) HC.out (by kernel_rfl) (fun _ _ _ h => h) ?_
       rotate_left
       · go_simp <;> (try with_reducible rfl))
    try simp only [put_rules]
    first
    | (refine takeE 3 rfl rfl (runs_ld1 0 rfl rfl rfl rfl (by kernel_rfl)) HC.out (by kernel_rfl) (fun _ _ _ h => h) ?_)
    | (refine takeE 3 rfl rfl (runs_ld1 1 rfl rfl rfl rfl (by kernel_rfl)) HC.out (by kernel_rfl) (fun _ _ _ h => h) ?_)
    | (refine takeE 3 (v := ?_) rfl rfl (runs_of fun w => ?_) HC.out (by kernel_rfl) (fun _ _ _ h => h) ?_
       rotate_left
       · go_simp <;> (try with_reducible rfl))
    try simp only [put_rules]
    first
    | (refine takeE 4 rfl rfl (runs_ld1 0 rfl rfl rfl rfl (by kernel_rfl)) HC.out (by kernel_rfl) (fun _ _ _ h => h) ?_)
    | (refine takeE 4 rfl rfl (runs_ld1 1 rfl rfl rfl rfl (by kernel_rfl)) HC.out (by kernel_rfl) (fun _ _ _ h => h) ?_)
    | (refine takeE 4 (v := ?_) rfl rfl (runs_of fun w => ?_) HC.out (by kernel_rfl) (fun _ _ _ h => h) ?_
       rotate_left
       · go_simp <;> (try with_reducible rfl))
    try simp only [put_rules]
    first
    | (refine takeE 5 rfl rfl (runs_ld1 0 rfl rfl rfl rfl (by kernel_rfl)) HC.out (by kernel_rfl) (fun _ _ _ h => h) ?_)
    | (refine takeE 5 rfl rfl (runs_ld1 1 rfl rfl rfl rfl (by kernel_rfl)) HC.out (by kernel_rfl) (fun _ _ _ h => h) ?_)
    | (refine takeE 5 (v := ?_) rfl rfl (runs_of fun w => ?_) HC.out (by kernel_rfl) (fun _ _ _ h => h) ?_
       rotate_left
       · go_simp <;> (try with_reducible rfl))
    try simp only [put_rules]
    first
    | (refine takeE 6 rfl rfl (runs_ld1 0 rfl rfl rfl rfl (by kernel_rfl)) HC.out (by kernel_rfl) (fun _ _ _ h => h) ?_)
    | (refine takeE 6 rfl rfl (runs_ld1 1 rfl rfl rfl rfl (by kernel_rfl)) HC.out (by kernel_rfl) (fun _ _ _ h => h) ?_)
    | (refine takeE 6 (v := ?_) rfl rfl (runs_of fun w => ?_) HC.out (by kernel_rfl) (fun _ _ _ h => h) ?_
       rotate_left
       · go_simp <;> (try with_reducible rfl))
    try simp only [put_rules]
    refine effE 7 rfl (by kernel_rfl) ?_
    refine wpList_slice1 HW.out rfl rfl Try.underlying112 (z := .string ⟨#[]⟩) (n := 1) (by kernel_rfl) (by decide) (by decide) (M := tsegs text) rfl HT.out rfl (fun g2 w' hw' => ?_)
    clear HW; have HW := Lib.hid hw'; clear hw'; (try simp only [hps_rules] at HW); (try simp only [put_rules])
    refine wpList_behind (And.intro (fun _ => (by exact HW.out.tail.drop 5 rfl)) ?_)
    refine effE 8 rfl (by kernel_rfl) ?_
    refine wpList_app1 HW.out 6 0 rfl rfl rfl rfl rfl text rfl HT.out rfl Try.underlying112 (.string ⟨#[]⟩) 16 (by kernel_rfl) rfl (by decide) HL.out.1 HL.out.2 (fun v' w' hw' => ?_)
    clear HW; have HW := Lib.hid hw'; clear hw'; (try simp only [hps_rules] at HW); (try simp only [put_rules])
    refine wpList_behind (And.intro (fun _ => (by exact HW.out.tail.drop 5 rfl)) ?_)
    obtain ⟨A1, c1, rfl, _, _, _⟩ := HW.out.arr_form 6 rfl
    clear HC; have HC := Lib.hid (HW.out.tail.drop 5 rfl)
    first
    | (refine takeE 9 rfl rfl (runs_ld1 0 rfl rfl rfl rfl (by kernel_rfl)) HC.out (by kernel_rfl) (fun _ _ _ h => h) ?_)
    | (refine takeE 9 rfl rfl (runs_ld1 1 rfl rfl rfl rfl (by kernel_rfl)) HC.out (by kernel_rfl) (fun _ _ _ h => h) ?_)
    | (refine takeE 9 (v := ?_) rfl rfl (runs_of fun w => ?_) HC.out (by kernel_rfl) (fun _ _ _ h => h) ?_
       rotate_left
       · go_simp <;> (try with_reducible rfl))
    try simp only [put_rules]
    first
    | (refine takeE 10 rfl rfl (runs_ld1 0 rfl rfl rfl rfl (by kernel_rfl)) HC.out (by kernel_rfl) (fun _ _ _ h => h) ?_)
    | (refine takeE 10 rfl rfl (runs_ld1 1 rfl rfl rfl rfl (by kernel_rfl)) HC.out (by kernel_rfl) (fun _ _ _ h => h) ?_)
    | (refine takeE 10 (v := ?_) rfl rfl (runs_of fun w => ?_) HC.out (by kernel_rfl) (fun _ _ _ h => h) ?_
       rotate_left
       · go_simp <;> (try with_reducible rfl))
    try simp only [put_rules]
    refine effE 11 rfl (by kernel_rfl) ?_
    refine wpList_st1 HW.out rfl rfl rfl 2 rfl rfl rfl rfl (by kernel_rfl) (fun w' hw' => ?_)
    clear HW; have HW := Lib.hid hw'; clear hw'; (try simp only [hps_rules] at HW); (try simp only [put_rules])
    refine wpList_behind (And.intro (fun h => Bool.noConfusion (show true = false from h)) ?_)
    refine doneE (by kernel_rfl) ?_ _
    go_wp2
    go_returns
    exact ⟨rfl, Holds.bk_close (x := { x with vA := A1, vc := c1 }) HK.out HW.out.tail.tail⟩
  · have hp' : p' = k.prep := by rw [← HP'.out, if_neg HPP.out]
    subst hp'
    go_returns
    exact ⟨rfl, Holds.bk_close (x := x) HK.out HW.out.tail⟩
  · have hp' : p' = k.prep := by rw [← HP'.out, if_neg HPP.out]
    subst hp'
    refine wp_region_untilD 5 11 (by kernel_rfl) HW.out (fun w' hw' => ?_)
    clear HW; have HW := Lib.hid hw'; have HC := Lib.hid (hw'.drop 5 rfl); clear hw'
    simp only [era_rules] at HC ⊢
    simp only [rep_rules]
    first
    | (refine takeE 0 rfl rfl (runs_ld1 0 rfl rfl rfl rfl (by kernel_rfl)) HC.out (by kernel_rfl) (fun _ _ _ h => h) ?_)
    | (refine takeE 0 rfl rfl (runs_ld1 1 rfl rfl rfl rfl (by kernel_rfl)) HC.out (by kernel_rfl) (fun _ _ _ h => h) ?_)
    | (refine takeE 0 (v := ?_) rfl rfl (runs_of fun w => ?_) HC.out (by kernel_rfl) (fun _ _ _ h => h) ?_
       rotate_left
       · go_simp <;> (try with_reducible rfl))
    try simp only [put_rules]
    first
    | (refine takeE 1 rfl rfl (runs_ld1 0 rfl rfl rfl rfl (by kernel_rfl)) HC.out (by kernel_rfl) (fun _ _ _ h => h) ?_)
    | (refine takeE 1 rfl rfl (runs_ld1 1 rfl rfl rfl rfl (by kernel_rfl)) HC.out (by kernel_rfl) (fun _ _ _ h => h) ?_)
    | (refine takeE 1 (v := ?_) rfl rfl (runs_of fun w => ?_) HC.out (by kernel_rfl) (fun _ _ _ h => h) ?_
       rotate_left
       · go_simp <;> (try with_reducible rfl))
    try simp only [put_rules]
    first
    | (refine takeE 2 rfl rfl (runs_ld1 0 rfl rfl rfl rfl (by kernel_rfl)) HC.out (by kernel_rfl) (fun _ _ _ h => h) ?_)
    | (refine takeE 2 rfl rfl (runs_ld1 1 rfl rfl rfl rfl (by kernel_rfl)) HC.out (by kernel_rfl) (fun _ _ _ h => h) ?_)
    | (refine takeE 2 (v := ?_) rfl rfl (runs_of fun w => ?_) HC.out (by kernel_rfl) (fun _ _ _ h => h) ?_
       rotate_left
       · go_simp <;> (try with_reducible rfl))
    try simp only [put_rules]
    first
    | (refine takeE 3 rfl rfl (runs_ld1 0 rfl rfl rfl rfl (by kernel_rfl)) HC.out (by kernel_rfl) (fun _ _ _ h => h) ?_)
    | (refine takeE 3 rfl rfl (runs_ld1 1 rfl rfl rfl rfl (by kernel_rfl)) HC.out (by kernel_rfl) (fun _ _ _ h => h) ?_)
    | (refine takeE 3 (v := ?_) rfl rfl (runs_of fun w => ?_) HC.out (by kernel_rfl) (fun _ _ _ h => h) ?_
       rotate_left
       · go_simp <;> (try with_reducible rfl))
    try simp only [put_rules]
    first
    | (refine takeE 4 rfl rfl (runs_ld1 0 rfl rfl rfl rfl (by kernel_rfl)) HC.out (by kernel_rfl) (fun _ _ _ h => h) ?_)
    | (refine takeE 4 rfl rfl (runs_ld1 1 rfl rfl rfl rfl (by kernel_rfl)) HC.out (by kernel_rfl) (fun _ _ _ h => h) ?_)
    | (refine takeE 4 (v := ?_) rfl rfl (runs_of fun w => ?_) HC.out (by kernel_rfl) (fun _ _ _ h => h) ?_
       rotate_left
       · go_simp <;> (try with_reducible rfl))
    try simp only [put_rules]
    first
    | (refine takeE 5 rfl rfl (runs_ld1 0 rfl rfl rfl rfl (by kernel_rfl)) HC.out (by kernel_rfl) (fun _ _ _ h => h) ?_)
    | (refine takeE 5 rfl rfl (runs_ld1 1 rfl rfl rfl rfl (by kernel_rfl)) HC.out (by kernel_rfl) (fun _ _ _ h => h) ?_)
    | (refine takeE 5 (v := ?_) rfl rfl (runs_of fun w => ?_) HC.out (by kernel_rfl) (fun _ _ _ h => h) ?_
       rotate_left
       · go_simp <;> (try with_reducible rfl))
    try simp only [put_rules]
    first
    | (refine takeE 6 rfl rfl (runs_ld1 0 rfl rfl rfl rfl (by kernel_rfl)) HC.out (by kernel_rfl) (fun _ _ _ h => h) ?_)
    | (refine takeE 6 rfl rfl (runs_ld1 1 rfl rfl rfl rfl (by kernel_rfl)) HC.out (by kernel_rfl) (fun _ _ _ h => h) ?_)
    | (refine takeE 6 (v := ?_) rfl rfl (runs_of fun w => ?_) HC.out (by kernel_rfl) (fun _ _ _ h => h) ?_
       rotate_left
       · go_simp <;> (try with_reducible rfl))
    try simp only [put_rules]
    refine effE 7 rfl (by kernel_rfl) ?_
    refine wpList_slice1 HW.out rfl rfl Try.underlying112 (z := .string ⟨#[]⟩) (n := 1) (by kernel_rfl) (by decide) (by decide) (M := tsegs text) rfl HT.out rfl (fun g2 w' hw' => ?_)
    clear HW; have HW := Lib.hid hw'; clear hw'; (try simp only [hps_rules] at HW); (try simp only [put_rules])
    refine wpList_behind (And.intro (fun _ => (by exact HW.out.tail.drop 5 rfl)) ?_)
    refine effE 8 rfl (by kernel_rfl) ?_
    refine wpList_app1 HW.out 6 0 rfl rfl rfl rfl rfl text rfl HT.out rfl Try.underlying112 (.string ⟨#[]⟩) 16 (by kernel_rfl) rfl (by decide) HL.out.1 HL.out.2 (fun v' w' hw' => ?_)
    clear HW; have HW := Lib.hid hw'; clear hw'; (try simp only [hps_rules] at HW); (try simp only [put_rules])
    refine wpList_behind (And.intro (fun _ => (by exact HW.out.tail.drop 5 rfl)) ?_)
    obtain ⟨A1, c1, rfl, _, _, _⟩ := HW.out.arr_form 6 rfl
    clear HC; have HC := Lib.hid (HW.out.tail.drop 5 rfl)
    first
    | (refine takeE 9 rfl rfl (runs_ld1 0 rfl rfl rfl rfl (by kernel_rfl)) HC.out (by kernel_rfl) (fun _ _ _ h => h) ?_)
    | (refine takeE 9 rfl rfl (runs_ld1 1 rfl rfl rfl rfl (by kernel_rfl)) HC.out (by kernel_rfl) (fun _ _ _ h => h) ?_)
    | (refine takeE 9 (v := ?_) rfl rfl (runs_of fun w => ?_) HC.out (by kernel_rfl) (fun _ _ _ h => h) ?_
       rotate_left
       · go_simp <;> (try with_reducible rfl))
    try simp only [put_rules]
    first
    | (refine takeE 10 rfl rfl (runs_ld1 0 rfl rfl rfl rfl (by kernel_rfl)) HC.out (by kernel_rfl) (fun _ _ _ h => h) ?_)
    | (refine takeE 10 rfl rfl (runs_ld1 1 rfl rfl rfl rfl (by kernel_rfl)) HC.out (by kernel_rfl) (fun _ _ _ h => h) ?_)
    | (refine takeE 10 (v := ?_) rfl rfl (runs_of fun w => ?_) HC.out (by kernel_rfl) (fun _ _ _ h => h) ?_
       rotate_left
       · go_simp <;> (try with_reducible rfl))
    try simp only [put_rules]
    refine effE 11 rfl (by kernel_rfl) ?_
    refine wpList_st1 HW.out rfl rfl rfl 2 rfl rfl rfl rfl (by kernel_rfl) (fun w' hw' => ?_)
    clear HW; have HW := Lib.hid hw'; clear hw'; (try simp only [hps_rules] at HW); (try simp only [put_rules])
    refine wpList_behind (And.intro (fun h => Bool.noConfusion (show true = false from h)) ?_)
    refine doneE (by kernel_rfl) ?_ _
    go_wp2
    go_returns
    exact ⟨rfl, Holds.bk_close (x := { x with vA := A1, vc := c1 }) HK.out HW.out.tail.tail⟩
end Go.Proofs.Ytaieonajialenaa
