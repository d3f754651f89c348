/- The reference's book: Edit, Vote, End. -/
import Derived.Test.YtaieonajialenaaBookP
namespace Go.Proofs.Ytaieonajialenaa
open Go.RowKit HP

section
variable {p : Nat} {A : Option Addr} {c : Nat} {first : List UInt8} {Q : List Rec} {w : World} {R : List HP} {P : HP}
theorem RbL.behind (h : Holds w (P :: RbL p A c first Q R)) : Holds w (RbL p A c first Q (P :: R)) := h.push_ 2 (by simp [RbL])
theorem RbL.front (h : Holds w (RbL p A c first Q (P :: R))) : Holds w (P :: RbL p A c first Q R) := h.pull 2 rfl
/-- what a record says, as it stands -/
def Rec.rvt (r : Rec) : Vt := ⟨r.kind == 2, r.base, r.ed, r.root, r.code⟩
theorem Rec.rvt_ok {r : Rec} (h : r.Ok) : r.rvt.Ok := ⟨h.ed, h.root⟩
theorem Rec.rvt_formed {r : Rec} (h : formedR r = true) (hk : r.kind = 2 ∨ r.kind = 3) : r.rvt = r.vt := by
  have hb := ((formedR_iff r).1 h).bare
  obtain ⟨kind, id, base, ed, root, code, commit, has, text⟩ := r
  rcases hk with hk | hk
  · have hk' : kind = 2 := hk
    subst hk'
    have hc : code = 0 := by
      have := congrArg Rec.code hb
      exact this
    subst hc
    rfl
  · have hk' : kind = 3 := hk
    subst hk'
    have h1 : base = 0 := congrArg Rec.base hb
    have h2 : ed = Ed.zero := congrArg Rec.ed hb
    have h3 : root = zeros 32 := congrArg Rec.root hb
    subst h1 h2 h3
    rfl
variable (hQ : Q.length ≤ 1000) (hO : ∀ r ∈ Q, r.Ok) (hh : Holds w (RbL p A c first Q R))
include hQ hh
set_option maxRecDepth 100000 in
set_option maxHeartbeats 1000000 in
theorem rbEnd_ok (id : Nat) {b1 b2 : Bool} (h1 : ((rfind k4 id Q).map Rec.commit).getD false = b1) (h2 : (rfind k4 id Q).isSome = b2) :
    Calls Try.prog 72 #[.pointer (some ⟨p, 0, none⟩), .int .u64 (id : Int)] w fun e w' => e = .returned (.tuple #[.bool b1, .bool b2]) ∧ Holds w' (RbL p A c first Q R) := by
  have HW : Hid (Holds w (_ :: _)) := hh
  clear hh
  cases h4 : rfind k4 id Q with
  | none =>
    rw [h4] at h1 h2
    subst h1 h2
    have H4 := Lib.hid h4
    clear h4
    go_enter Try.func72, Try.ntmps72
    go_wp2_with (first
      | ((go_at_call 66; have hc := rbfind_none4 id hQ HW.out H4.out; with_reducible refine hc.mono ?_; clear hc)
         rintro e w2 ⟨rfl, hw'⟩
         clear HW; have HW := Lib.hid hw'; clear hw'; (try simp only [hps_rules] at HW)))
    go_returns
    exact ⟨rfl, HW.out⟩
  | some r =>
    rw [h4] at h1 h2
    subst h1 h2
    have H4 := Lib.hid h4
    clear h4
    go_enter Try.func72, Try.ntmps72
    go_wp2_with (first
      | go_skip
      | (refine wpList_runs HW.out rfl (runs_ld1 0 rfl rfl rfl rfl (by kernel_rfl)) ?_; simp only [put_rules])
      | (refine wpList_runs HW.out rfl (runs_ldrowF 1 rfl rfl rfl hj.out (f := 71) rfl rfl (by kernel_rfl)) ?_; simp only [put_rules])
      | (go_at_call 66; have hc := rbfind_some4 id hQ HW.out H4.out; with_reducible refine hc.mono ?_; clear hc
         rintro e w2 ⟨j, rfl, hj, hj0, hj9, hw'⟩
         obtain ⟨g, rfl⟩ := RbL.at_ hw' hj0
         clear HW; have HW := Lib.hid hw'; clear hw'; (try simp only [hps_rules] at HW); (try simp only [put_rules])))
    go_returns
    exact ⟨rfl, HW.out⟩
set_option maxRecDepth 100000 in
set_option maxHeartbeats 1000000 in
include hO in
theorem rbEdit_ok (id : Nat) {v : Ed} {b2 : Bool} (h1 : ((rfind k1 id Q).map Rec.ed).getD Ed.zero = v) (h2 : (rfind k1 id Q).isSome = b2) :
    Calls Try.prog 70 #[.pointer (some ⟨p, 0, none⟩), .int .u64 (id : Int)] w fun e w' => e = .returned (.tuple #[v.val, .bool b2]) ∧ Holds w' (RbL p A c first Q R) := by
  have HW : Hid (Holds w (_ :: _)) := hh
  have HZ := Lib.hid (Ed.segs_ok Ed.zero_ok)
  have HO := Lib.hid hO
  clear hh hO
  cases h4 : rfind k1 id Q with
  | none =>
    rw [h4] at h1 h2
    subst h1 h2
    have H4 := Lib.hid h4
    clear h4
    go_enter Try.func70, Try.ntmps70
    go_wp2_with (first
      | (refine wpList_alloc HW.out rfl rfl (z := Ed.zero.val) (by kernel_rfl) (M := Ed.zero.segs) rfl HZ.out (fun g w' hw' => ?_)
         replace hw' : Holds w' (_ :: _ :: _ :: R) := RbL.behind hw'
         clear HW; have HW := Lib.hid hw'; clear hw'; (try simp only [hps_rules] at HW); (try simp only [put_rules]))
      | ((go_at_call 66; have hc := rbfind_none1 id hQ HW.out H4.out; with_reducible refine hc.mono ?_; clear hc)
         rintro e w2 ⟨rfl, hw'⟩
         replace hw' : Holds w2 (_ :: _ :: _ :: R) := hw'
         clear HW; have HW := Lib.hid hw'; clear hw'; (try simp only [hps_rules] at HW))
      | (refine wpList_runs HW.out rfl (runs_build (zs := Ed.zero.segs) (M := Ed.zero.segs) rfl Try.underlying35 #[(0, 1), (1, 2), (3, 32)] (fun w => by kernel_rfl) (by kernel_rfl) rfl) ?_; simp only [put_rules])
      | (refine wpList_stR HW.out rfl (ty := 35) (n := 35) rfl rfl 2 rfl rfl rfl HZ.out rfl (by kernel_rfl) (fun w' hw' => ?_)
         clear HW; have HW := Lib.hid hw'; clear hw'; (try simp only [hps_rules] at HW); (try simp only [put_rules])))
    refine bodyPost_ret (results_cellS rfl HW.out 2 rfl rfl Try.underlying35 rfl (by kernel_rfl)) rfl ?_
    exact ⟨rfl, (RbL.front HW.out).tail⟩
  | some r =>
    rw [h4] at h1 h2
    subst h1 h2
    have H4 := Lib.hid h4
    have HE := Lib.hid (Ed.segs_ok (HO.out r (rfind_mem h4).1).ed)
    clear h4
    go_enter Try.func70, Try.ntmps70
    go_wp2_with (first
      | go_skip
      | (refine wpList_runs HW.out rfl (runs_ld1 0 rfl rfl rfl rfl (by kernel_rfl)) ?_; simp only [put_rules])
      | (refine wpList_alloc HW.out rfl rfl (z := Ed.zero.val) (by kernel_rfl) (M := Ed.zero.segs) rfl HZ.out (fun g w' hw' => ?_)
         replace hw' : Holds w' (_ :: _ :: _ :: R) := RbL.behind hw'
         clear HW; have HW := Lib.hid hw'; clear hw'; (try simp only [hps_rules] at HW); (try simp only [put_rules]))
      | (go_at_call 66; have hc := rbfind_some1 id hQ HW.out H4.out; with_reducible refine hc.mono ?_; clear hc
         rintro e w2 ⟨j, rfl, hj, hj0, hj9, hw'⟩
         obtain ⟨g2, rfl⟩ := RbL.at_ hw' hj0
         replace hw' : Holds w2 (_ :: _ :: _ :: R) := hw'
         clear HW; have HW := Lib.hid hw'; clear hw'; (try simp only [hps_rules] at HW); (try simp only [put_rules]))
      | (refine wpList_runs HW.out rfl (runs_ldrowG (ty := 35) 1 rfl rfl rfl hj.out (f := 3) (m := 35) (M := Ed.segs r.ed) rfl rfl Try.underlying35 rfl (by kernel_rfl)) ?_; simp only [put_rules])
      | (refine wpList_stR HW.out rfl (ty := 35) (n := 35) rfl rfl 2 rfl rfl rfl HE.out rfl (by kernel_rfl) (fun w' hw' => ?_)
         clear HW; have HW := Lib.hid hw'; clear hw'; (try simp only [hps_rules] at HW); (try simp only [put_rules])))
    refine bodyPost_ret (results_cellS rfl HW.out 2 rfl rfl Try.underlying35 rfl (by kernel_rfl)) rfl ?_
    exact ⟨rfl, (RbL.front HW.out).tail⟩
set_option maxRecDepth 100000 in
set_option maxHeartbeats 1000000 in
include hO in
theorem rbVote_ok (id : Nat) {v : Vt} {b2 : Bool} (h1 : ((rfind k23 id Q).map Rec.rvt).getD Vt.zero = v) (h2 : (rfind k23 id Q).isSome = b2) :
    Calls Try.prog 71 #[.pointer (some ⟨p, 0, none⟩), .int .u64 (id : Int)] w fun e w' => e = .returned (.tuple #[v.val, .bool b2]) ∧ Holds w' (RbL p A c first Q R) := by
  have HW : Hid (Holds w (_ :: _)) := hh
  have HZ := Lib.hid (Vt.segs_ok Vt.zero_ok)
  have HO := Lib.hid hO
  clear hh hO
  cases h4 : rfind k23 id Q with
  | none =>
    rw [h4] at h1 h2
    subst h1 h2
    have H4 := Lib.hid h4
    clear h4
    go_enter Try.func71, Try.ntmps71
    go_wp2_with (first
      | (refine wpList_alloc HW.out rfl rfl (z := Vt.zero.val) (by kernel_rfl) (M := Vt.zero.segs) rfl HZ.out (fun g w' hw' => ?_)
         replace hw' : Holds w' (_ :: _ :: _ :: R) := RbL.behind hw'
         clear HW; have HW := Lib.hid hw'; clear hw'; (try simp only [hps_rules] at HW); (try simp only [put_rules]))
      | ((go_at_call 66; have hc := rbfind_none23 id hQ HW.out H4.out; with_reducible refine hc.mono ?_; clear hc)
         rintro e w2 ⟨rfl, hw'⟩
         replace hw' : Holds w2 (_ :: _ :: _ :: R) := hw'
         clear HW; have HW := Lib.hid hw'; clear hw'; (try simp only [hps_rules] at HW))
      | (refine wpList_runs HW.out rfl (runs_build (zs := Vt.zero.segs) (M := Vt.zero.segs) rfl Try.underlying128 #[(0, 1), (1, 1), (2, 35), (37, 32), (69, 1)] (fun w => by kernel_rfl) (by kernel_rfl) rfl) ?_; simp only [put_rules])
      | (refine wpList_stR HW.out rfl (ty := 128) (n := 70) rfl rfl 2 rfl rfl rfl HZ.out rfl (by kernel_rfl) (fun w' hw' => ?_)
         clear HW; have HW := Lib.hid hw'; clear hw'; (try simp only [hps_rules] at HW); (try simp only [put_rules])))
    refine bodyPost_ret (results_cellS rfl HW.out 2 rfl rfl Try.underlying128 rfl (by kernel_rfl)) rfl ?_
    exact ⟨rfl, (RbL.front HW.out).tail⟩
  | some r =>
    rw [h4] at h1 h2
    subst h1 h2
    have H4 := Lib.hid h4
    have hok := HO.out r (rfind_mem h4).1
    have HS := Lib.hid (Rec.segs_ok hok)
    have HV := Lib.hid (Vt.segs_ok (Rec.rvt_ok hok))
    have HRZ := Lib.hid (Rec.segs_ok Rec.zero_ok)
    obtain ⟨kb, hkb⟩ : ∃ b, Hid ((r.kind == 2) = b) := ⟨_, rfl⟩
    have hkd : (r.kind == 2) = kb := hkb.out
    have HB : Hid (∀ (o : Oper) (a : Act) (L : List HP) (x y z u v : Operand), o.op = .build 128 #[(0, x), (1, y), (2, z), (3, u), (4, v)] → a.eval x = .bool kb → a.eval y = .int .u64 (r.base : Int) → a.eval z = .agg (flat r.ed.segs).toArray → a.eval u = .agg (flat [.b 32 r.root]).toArray → a.eval v = .int .i64 r.code → RunsH Try.prog o a L (.agg (flat r.rvt.segs).toArray)) := fun o a L x y z u v ho hx hy hz hu hv => by
      refine runs_build (zs := Vt.zero.segs) (M := Vt.segs r.rvt) ho Try.underlying128 #[(0, 1), (1, 1), (2, 35), (37, 32), (69, 1)] (fun w => by kernel_rfl) (by kernel_rfl) ?_
      simp only [List.map_cons, List.map_nil, hx, hy, hz, hu, hv]
      refine fill_cons (off := 0) (n := 1) (M := [.o (.bool kb)]) rfl rfl ⟨rfl, trivial⟩ rfl HZ.out rfl (fun h1 => ?_)
      refine fill_cons (off := 1) (n := 1) (M := [.o (.int .u64 r.base)]) rfl rfl ⟨rfl, trivial⟩ rfl h1 rfl (fun h2 => ?_)
      refine fill_cons (off := 2) (n := 35) (M := Ed.segs r.ed) rfl rfl (Ed.segs_ok hok.ed) rfl h2 rfl (fun h3 => ?_)
      refine fill_cons (off := 37) (n := 32) (M := [.b 32 r.root]) rfl rfl ⟨hok.root, trivial⟩ rfl h3 rfl (fun h4 => ?_)
      refine fill_cons (off := 69) (n := 1) (M := [.o (.int .i64 r.code)]) rfl rfl ⟨rfl, trivial⟩ rfl h4 rfl (fun h5 => ?_)
      unfold Rec.rvt
      rw [hkb.out]
      rfl
    clear h4 hok
    go_enter Try.func71, Try.ntmps71
    go_wp2_with (first
      | go_skip
      | (refine wpList_runs HW.out rfl (runs_ldR 2 (ty := 35) (n := 35) rfl rfl rfl rfl Try.underlying35 rfl (by kernel_rfl)) ?_; simp only [put_rules])
      | (refine wpList_runs HW.out rfl (runs_ldR 2 (ty := 33) (n := 32) rfl rfl rfl rfl Try.underlying33 rfl (by kernel_rfl)) ?_; simp only [put_rules])
      | (refine wpList_runs HW.out rfl (runs_ld1 0 rfl rfl rfl rfl (by kernel_rfl)) ?_; simp only [put_rules])
      | (refine wpList_runs HW.out rfl (runs_ld1 2 rfl rfl rfl rfl (by kernel_rfl)) ?_; simp only [put_rules])
      | (refine wpList_alloc HW.out rfl (ty := 128) rfl (z := Vt.zero.val) (by kernel_rfl) (M := Vt.zero.segs) rfl HZ.out (fun g w' hw' => ?_)
         replace hw' : Holds w' (_ :: _ :: _ :: R) := RbL.behind hw'
         clear HW; have HW := Lib.hid hw'; clear hw'; (try simp only [hps_rules] at HW); (try simp only [put_rules]))
      | (refine wpList_alloc HW.out rfl (ty := 38) rfl (z := .agg (flat Rec.zero.segs).toArray) (by kernel_rfl) (M := Rec.zero.segs) rfl HRZ.out (fun g w' hw' => ?_)
         replace hw' : Holds w' (_ :: _ :: _ :: _ :: R) := RbL.behind hw'
         clear HW; have HW := Lib.hid hw'; clear hw'; (try simp only [hps_rules] at HW); (try simp only [put_rules]))
      | (go_at_call 66; have hc := rbfind_some23 id hQ HW.out H4.out; with_reducible refine hc.mono ?_; clear hc
         rintro e w2 ⟨j, rfl, hj, hj0, hj9, hw'⟩
         obtain ⟨g2, rfl⟩ := RbL.at_ hw' hj0
         replace hw' : Holds w2 (_ :: _ :: _ :: R) := hw'
         clear HW; have HW := Lib.hid hw'; clear hw'; (try simp only [hps_rules] at HW); (try simp only [put_rules]))
      | (refine wpList_runs HW.out rfl (runs_ldrowR (ty := 38) 1 rfl rfl rfl hj.out rfl Try.underlying38 rfl (by kernel_rfl)) ?_; simp only [put_rules])
      | (refine wpList_runs HW.out rfl (HB.out _ _ _ _ _ _ _ _ rfl rfl rfl rfl rfl rfl) ?_; simp only [put_rules])
      | (refine wpList_stR HW.out rfl (ty := 38) (n := 74) rfl rfl 2 rfl rfl rfl HS.out rfl (by kernel_rfl) (fun w' hw' => ?_)
         clear HW; have HW := Lib.hid hw'; clear hw'; (try simp only [hps_rules] at HW); (try simp only [put_rules]))
      | (refine wpList_stR HW.out rfl (ty := 128) (n := 70) rfl rfl 3 rfl rfl rfl HV.out rfl (by kernel_rfl) (fun w' hw' => ?_)
         clear HW; have HW := Lib.hid hw'; clear hw'; (try simp only [hps_rules] at HW); (try simp only [put_rules])))
    refine bodyPost_ret (results_cellS rfl HW.out 3 rfl rfl Try.underlying128 rfl (by kernel_rfl)) rfl ?_
    exact ⟨rfl, ((HW.out.pull 3 rfl).tail.pull 2 rfl).tail⟩
end
end Go.Proofs.Ytaieonajialenaa
