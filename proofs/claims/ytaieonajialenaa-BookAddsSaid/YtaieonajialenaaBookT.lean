/- The two books say the same: Same. -/
import Derived.Test.YtaieonajialenaaBookS
namespace Go.Proofs.Ytaieonajialenaa
open Go.RowKit HP

theorem run_equal_edit {a : Ed} (ha : a.Wf) (w : World) : (Op.equalIn 10000 35 a.val a.val).run Try.prog w = .ok true w := by
  have hk : Try.prog.keyTypeAt 8 35 = true := by kernel_rfl
  have hf : (Value.agg a.cells.toArray).formed Try.prog 35 = true := by
    have hc : Try.prog.cellsOf 35 = 35 := by kernel_rfl
    simp only [Value.formed, Try.underlying35, hc]
    simp [Ed.length_cells ha.ok]
  obtain ⟨r, hr, hi⟩ := run_equalIn_deep 9992 8 35 hk w _ _ _ _ a.lits a.lits hf hf (keyLits_edit 1 a ha) (keyLits_edit 1 a ha)
  have he : r = true := hi.2 rfl
  rw [he] at hr
  exact hr
theorem keyLits_rvote (d : Nat) (v : Vt) (h : v.Wf) : Try.prog.keyLits (d + 4) 128 v.cells = some v.lits := by
  have h1 : Try.prog.cellsOf 23 = 1 := by kernel_rfl
  have h2 : Try.prog.cellsOf 35 = 35 := by kernel_rfl
  have h3 : Try.prog.cellsOf 33 = 32 := by kernel_rfl
  have h4 : Try.prog.cellsOf 27 = 1 := by kernel_rfl
  have h5 : Try.prog.cellsOf 4 = 1 := by kernel_rfl
  have a1 := keyLits_u64 (d + 2) v.base (u64_lit_wf h.base)
  have a3 := keyLits_edit d v.ed h.ed
  have a4 := keyLits_hash (d + 1) v.root h.ok.root
  have a5 := keyLits_errno (d + 2) v.code (i64_lit_wf h.c0 h.c1)
  have a6 := keyLits_bool (d + 2) v.yes
  have hel := Ed.length_cells h.ok.ed
  have e0 : (v.cells.drop 0).take 1 = [.bool v.yes] := rfl
  have e1 : (v.cells.drop 1).take 1 = [.int .u64 v.base] := rfl
  have d2 : v.cells.drop 2 = v.ed.cells ++ (bcs v.root ++ [.int .i64 v.code]) := rfl
  have d37 : v.cells.drop 37 = bcs v.root ++ [.int .i64 v.code] := by
    rw [show (37 : Nat) = 2 + 35 from rfl, ← List.drop_drop, d2, List.drop_left' hel]
  have d69 : v.cells.drop 69 = [.int .i64 v.code] := by
    rw [show (69 : Nat) = 37 + 32 from rfl, ← List.drop_drop, d37, List.drop_left' (by simp [h.ok.root])]
  have e3 : (v.cells.drop 2).take 35 = v.ed.cells := by rw [d2, List.take_left' hel]
  have e4 : (v.cells.drop 37).take 32 = bcs v.root := by rw [d37, List.take_left' (by simp [h.ok.root])]
  have e5 : (v.cells.drop 69).take 1 = [.int .i64 v.code] := by rw [d69]; rfl
  have hc : Try.prog.cellsOf 128 = 70 := by kernel_rfl
  unfold Program.keyLits
  rw [Try.underlying128]
  simp only
  rw [if_pos (by rw [hc]; exact ⟨Vt.length_cells h.ok, by decide +kernel⟩)]
  simp only [h1, h2, h3, h4, h5, e0, e1, e3, e4, e5, a1, a3, a4, a5, a6, List.mapM_cons, List.mapM_nil, Option.bind_eq_bind, Option.bind_some, Option.pure_def, Option.map_some]
  simp [Vt.lits]
theorem run_equal_rvote {a : Vt} (ha : a.Wf) (w : World) : (Op.equalIn 10000 128 a.val a.val).run Try.prog w = .ok true w := by
  have hk : Try.prog.keyTypeAt 8 128 = true := by kernel_rfl
  have hf : (Value.agg a.cells.toArray).formed Try.prog 128 = true := by
    have hc : Try.prog.cellsOf 128 = 70 := by kernel_rfl
    simp only [Value.formed, Try.underlying128, hc]
    simp [Vt.length_cells ha.ok]
  obtain ⟨r, hr, hi⟩ := run_equalIn_deep 9992 8 128 hk w _ _ _ _ a.lits a.lits hf hf (keyLits_rvote 0 a ha) (keyLits_rvote 0 a ha)
  have he : r = true := hi.2 rfl
  rw [he] at hr
  exact hr
section
variable {first : List UInt8} {Q : List Rec}
theorem foldS_wf (hQ : ∀ r ∈ Q, r.Wf) : (foldS first Q).Wf := by
  have : ∀ (l : List Rec) (k : Bk), (∀ r ∈ l, r.Wf) → k.Wf → (l.foldl Bk.say k).Wf := by
    intro l
    induction l with
    | nil => intro k _ hk; exact hk
    | cons r l ih => intro k hl hk; exact ih (k.say r) (fun x hx => hl x (List.mem_cons_of_mem _ hx)) (Bk.say_wf hk (hl r List.mem_cons_self))
  exact this Q _ hQ (Bk.new_wf first)
theorem Good.formed (h : Good first Q) : ∀ r ∈ Q, formedR r = true := by
  induction h with
  | nil => intro r hr; cases hr
  | snoc hg hf hfit ih =>
    intro r hr
    rcases List.mem_append.1 hr with hr | hr
    · exact ih r hr
    · rw [List.mem_singleton.1 hr]; exact hf
theorem Good.rvote (h : Good first Q) (id : Nat) : kget (foldS first Q).votes id = (rfind k23 id Q).map Rec.rvt := by
  rw [h.votes]
  cases hr : rfind k23 id Q with
  | none => rfl
  | some r =>
    obtain ⟨hm, _, hk⟩ := rfind_mem hr
    show some r.vt = some r.rvt
    rw [Rec.rvt_formed (h.formed r hm) (by simpa [k23] using hk)]
theorem Good.lastQ (h : Good first Q) : (foldS first Q).last = rLast first Q := by
  have h0 : 0 < (rVers first Q).length := by simp [rVers]
  have hv : (foldS first Q).vers = rVers first Q := h.vers
  unfold Bk.last Bk.version rLast
  rw [hv, if_neg (by omega)]
  congr 2
  omega
theorem Good.len (h : Good first Q) : (foldS first Q).edits.length = rEdits Q := by rw [h.edits]; simp [rEdits]
def BR (b : Nat) (x : BX) (k : Bk) (p : Nat) (A : Option Addr) (c : Nat) (first : List UInt8) (Q : List Rec) (R : List HP) : List HP := BkL b x k (RbL p A c first Q R)
variable {b p c : Nat} {x : BX} {k : Bk} {A : Option Addr} {w : World} {R : List HP} {P : HP}
theorem BR.swap (h : Holds w (BR b x k p A c first Q R)) : Holds w (RbL p A c first Q (BkL b x k R)) := by
  refine h.perm ?_
  unfold BR BkL RbL
  exact (List.perm_append_comm (l₁ := [_, _, _, _, _]) (l₂ := [_, _])).append_right R
theorem BR.back (h : Holds w (RbL p A c first Q (BkL b x k R))) : Holds w (BR b x k p A c first Q R) := by
  refine h.perm ?_
  unfold BR BkL RbL
  exact (List.perm_append_comm (l₁ := [_, _]) (l₂ := [_, _, _, _, _])).append_right R
theorem BR.behind (h : Holds w (P :: BR b x k p A c first Q R)) : Holds w (BR b x k p A c first Q (P :: R)) := h.push_ 7 (by simp [BR, BkL, RbL])
theorem BR.front (h : Holds w (BR b x k p A c first Q (P :: R))) : Holds w (P :: BR b x k p A c first Q R) := h.pull 7 rfl
set_option maxRecDepth 100000 in
set_option maxHeartbeats 4000000 in
theorem bkSame_ok (hG : Good first Q) (hQW : ∀ r ∈ Q, r.Wf) (hl : Q.length ≤ 60) (other : Nat) (ho : other < 18446744073709551616) (hh : Holds w (BkH b (foldS first Q) :: RbH p first Q :: R)) :
    Calls Try.prog 31 #[.pointer (some ⟨b, 0, none⟩), .pointer (some ⟨p, 0, none⟩), .int .u64 8, .int .u64 (other : Int)] w fun e w' => e = .returned (.bool true) ∧ Holds w' (BkH b (foldS first Q) :: RbH p first Q :: R) := by
  have hwf := foldS_wf (first := first) hQW
  have hE := hG.len
  have hP := hG.prep
  have hV : (foldS first Q).vers = rVers first Q := hG.vers
  have hL := hG.lastQ
  have hEd := hG.edit
  have hVt := hG.rvote
  have hEn := hG.ends
  have hvl := rVers_le first Q
  have hel := rEdits_le Q
  have hv0 : 0 < (rVers first Q).length := by simp [rVers]
  have hOk : ∀ r ∈ Q, r.Ok := fun r hr => (hQW r hr).ok
  have hv1 : ∀ id, (((rfind k23 id Q).map Rec.rvt).getD Vt.zero).Wf := fun id => by
    rw [← hVt]
    cases hg : kget (foldS first Q).votes id with
    | none => exact Vt.zero_wf
    | some v => exact hwf.votes _ (kget_mem _ _ _ hg)
  have he1 : ∀ id, (((rfind k1 id Q).map Rec.ed).getD Ed.zero).Wf := fun id => by
    cases hg : rfind k1 id Q with
    | none => exact Ed.zero_wf
    | some v => exact (hQW v (rfind_mem hg).1).ed
  generalize hK : foldS first Q = k at *
  have HC1 : Hid (∀ x w R, Holds w (BkL b x k R) → Calls Try.prog 33 #[.pointer (some ⟨b, 0, none⟩)] w fun e w' => e = .returned (.int .i64 (rEdits Q : Int)) ∧ Holds w' (BkL b x k R)) := fun x w R h => by rw [← hE]; exact bEdits_ok k b x w R h
  have HC2 : Hid (∀ x w R, Holds w (BkL b x k R) → Calls Try.prog 27 #[.pointer (some ⟨b, 0, none⟩)] w fun e w' => e = .returned (.int .u64 (rPrep Q : Int)) ∧ Holds w' (BkL b x k R)) := fun x w R h => by rw [← hP]; exact bPrepared_ok k b x w R h
  have HC3 : Hid (∀ x w R, Holds w (BkL b x k R) → Calls Try.prog 21 #[.pointer (some ⟨b, 0, none⟩)] w fun e w' => e = .returned (.int .i64 ((rVers first Q).length : Int)) ∧ Holds w' (BkL b x k R)) := fun x w R h => by rw [← hV]; exact bVersions_ok k b x w R h
  have HC4 : Hid (∀ x w R, Holds w (BkL b x k R) → Calls Try.prog 22 #[.pointer (some ⟨b, 0, none⟩)] w fun e w' => e = .returned (strV (rLast first Q)) ∧ Holds w' (BkL b x k R)) := fun x w R h => by rw [← hL]; exact bLast_ok k b x w R h (by rw [hV]; omega)
  have HC5 : Hid (∀ x w R, Holds w (BkL b x k R) → ∀ id, id < 18446744073709551616 → ∀ v s, ((rfind k1 id Q).map Rec.ed).getD Ed.zero = v → (rfind k1 id Q).isSome = s → Calls Try.prog 32 #[.pointer (some ⟨b, 0, none⟩), .int .u64 (id : Int)] w fun e w' => e = .returned (.tuple #[v.val, .bool s]) ∧ Holds w' (BkL b x k R)) := fun x w R h id hid v s hv hs => by
    have := bEdit_ok k b x w R h (by rw [hE]; omega) id hid
    rwa [hEd, hv, Option.isSome_map, hs] at this
  have HC6 : Hid (∀ x w R, Holds w (BkL b x k R) → ∀ id v s, ((rfind k23 id Q).map Rec.rvt).getD Vt.zero = v → (rfind k23 id Q).isSome = s → Calls Try.prog 19 #[.pointer (some ⟨b, 0, none⟩), .int .u64 (id : Int)] w fun e w' => e = .returned (.tuple #[v.val, .bool s]) ∧ Holds w' (BkL b x k R)) := fun x w R h id v s hv hs =>
    bVote_ok k hwf.ok b x w R h id (by rw [hVt]; exact hv) (by rw [hVt, Option.isSome_map]; exact hs)
  have HC7 : Hid (∀ x w R, Holds w (BkL b x k R) → ∀ id v s, ((rfind k4 id Q).map Rec.commit).getD false = v → (rfind k4 id Q).isSome = s → Calls Try.prog 20 #[.pointer (some ⟨b, 0, none⟩), .int .u64 (id : Int)] w fun e w' => e = .returned (.tuple #[.bool v, .bool s]) ∧ Holds w' (BkL b x k R)) := fun x w R h id v s hv hs =>
    bEnd_ok k b x w R h id (by rw [hEn]; exact hv) (by rw [hEn, Option.isSome_map]; exact hs)
  have HC8 : Hid (∀ x w R, Holds w (BkL b x k R) → ∀ (i : Int), -9223372036854775808 ≤ i → i ≤ 9223372036854775807 → ∀ v s, (if i < 0 then none else (rVers first Q)[i.toNat]?).getD [] = v → (if i < 0 then none else (rVers first Q)[i.toNat]? : Option (List UInt8)).isSome = s → Calls Try.prog 23 #[.pointer (some ⟨b, 0, none⟩), .int .i64 i] w fun e w' => e = .returned (.tuple #[strV v, .bool s]) ∧ Holds w' (BkL b x k R)) := fun x w R h i h0 h1 v s hv hs => by
    have := bVersion_ok k b x w R h (by rw [hV]; omega) i h0 h1
    unfold Bk.version at this
    rwa [hV, hv, hs] at this
  have HOK := Lib.hid hOk
  have HWF := Lib.hid hwf.ok
  have HV1 := Lib.hid hv1
  have HE1 := Lib.hid he1
  have hQ1 : Q.length ≤ 1000 := by omega
  obtain ⟨_, x, hh⟩ := hh.bk_open
  obtain ⟨A, c, hh⟩ := (hh.pull 5 rfl).rb_open
  have HW : Hid (Holds w (BR b x k p A c first Q R)) := BR.back (b := b) (x := x) (k := k) (p := p) (A := A) (c := c) (first := first) (Q := Q) (R := R) hh
  have hm1 : rEdits Q ≤ 60 := by omega
  have hm2 : (rVers first Q).length ≤ 61 := by omega
  clear hh hwf hE hP hV hL hEd hVt hEn hvl hel hOk hv1 he1 hK hG hQW
  go_enter Try.func31, Try.ntmps31
  go_wp2_with (first
    | go_skip
    | ((go_at_call 33; have hc := HC1.out x _ _ HW.out; with_reducible refine hc.mono ?_; clear hc)
       rintro e w2 ⟨rfl, hw'⟩
       replace hw' : Holds _ (BR b x k p A c first Q R) := hw'
       clear HW; have HW := Lib.hid hw'; clear hw'; (try simp only [hps_rules] at HW))
    | ((go_at_call 65; have hc := rbEdits_ok hQ1 (BR.swap HW.out); with_reducible refine hc.mono ?_; clear hc)
       rintro e w2 ⟨rfl, hw'⟩
       replace hw' := BR.back hw'
       clear HW; have HW := Lib.hid hw'; clear hw'; (try simp only [hps_rules] at HW))
    | ((go_at_call 27; have hc := HC2.out x _ _ HW.out; with_reducible refine hc.mono ?_; clear hc)
       rintro e w2 ⟨rfl, hw'⟩
       replace hw' : Holds _ (BR b x k p A c first Q R) := hw'
       clear HW; have HW := Lib.hid hw'; clear hw'; (try simp only [hps_rules] at HW))
    | ((go_at_call 67; have hc := rbPrepared_ok hQ1 (BR.swap HW.out); with_reducible refine hc.mono ?_; clear hc)
       rintro e w2 ⟨rfl, hw'⟩
       replace hw' := BR.back hw'
       clear HW; have HW := Lib.hid hw'; clear hw'; (try simp only [hps_rules] at HW))
    | ((go_at_call 21; have hc := HC3.out x _ _ HW.out; with_reducible refine hc.mono ?_; clear hc)
       rintro e w2 ⟨rfl, hw'⟩
       replace hw' : Holds _ (BR b x k p A c first Q R) := hw'
       clear HW; have HW := Lib.hid hw'; clear hw'; (try simp only [hps_rules] at HW))
    | (go_at_call 68; have hc := rbVersions_ok hQ1 (BR.swap HW.out); with_reducible refine hc.mono ?_; clear hc
       rintro e w2 ⟨v, rfl, hw'⟩
       obtain ⟨A1, c1, rfl, hn1, hn2, hg⟩ := hw'.arr_form 0 rfl
       replace hw' := BR.back hw'.tail
       clear hg hn1 hn2
       clear HW; have HW := Lib.hid hw'; clear hw'; (try simp only [hps_rules] at HW); (try simp only [put_rules]))
    | ((go_at_call 22; have hc := HC4.out x _ _ HW.out; with_reducible refine hc.mono ?_; clear hc)
       rintro e w2 ⟨rfl, hw'⟩
       replace hw' : Holds _ (BR b x k p A c first Q R) := hw'
       clear HW; have HW := Lib.hid hw'; clear hw'; (try simp only [hps_rules] at HW))
    | ((go_at_call 69; have hc := rbLast_ok hQ1 (BR.swap HW.out); with_reducible refine hc.mono ?_; clear hc)
       rintro e w2 ⟨rfl, hw'⟩
       replace hw' := BR.back hw'
       clear HW; have HW := Lib.hid hw'; clear hw'; (try simp only [hps_rules] at HW)))
  go_loopw [60] (fun i wr => ∃ j : Nat, j ≤ 10 ∧ i = .int .u64 j ∧ Holds wr (BR b x k p A c first Q R)) (fun i _ => 10 - (intOf i).toNat)
  case atStart => exact ⟨0, by omega, rfl, HW.out⟩
  case round =>
    obtain ⟨j, hj, rfl, hq⟩ := hrel
    clear HW
    have HW := Lib.hid hq
    clear hq
    by_cases hlt : j < 10
    · have hex : ∃ id : Nat, id < 18446744073709551616 ∧ ((j = 9 ∧ id = other) ∨ (j ≠ 9 ∧ id = j)) := by
        by_cases h9 : j = 9
        · exact ⟨other, ho, .inl ⟨h9, rfl⟩⟩
        · exact ⟨j, by omega, .inr ⟨h9, rfl⟩⟩
      obtain ⟨id, hid, hcase⟩ := hex
      obtain ⟨v1, H1⟩ : ∃ v, Hid (((rfind k1 id Q).map Rec.ed).getD Ed.zero = v) := ⟨_, rfl⟩
      obtain ⟨s1, H1s⟩ : ∃ v, Hid ((rfind k1 id Q).isSome = v) := ⟨_, rfl⟩
      obtain ⟨v2, H2⟩ : ∃ v, Hid (((rfind k23 id Q).map Rec.rvt).getD Vt.zero = v) := ⟨_, rfl⟩
      obtain ⟨s2, H2s⟩ : ∃ v, Hid ((rfind k23 id Q).isSome = v) := ⟨_, rfl⟩
      obtain ⟨v3, H3⟩ : ∃ v, Hid (((rfind k4 id Q).map Rec.commit).getD false = v) := ⟨_, rfl⟩
      obtain ⟨s3, H3s⟩ : ∃ v, Hid ((rfind k4 id Q).isSome = v) := ⟨_, rfl⟩
      have hw1 : v1.Wf := by rw [← H1.out]; exact HE1.out id
      have hw2 : v2.Wf := by rw [← H2.out]; exact HV1.out id
      have hg1 := Lib.hid (Ed.segs_ok hw1.ok)
      have hg2 := Lib.hid (Vt.segs_ok hw2.ok)
      have he1 : ∀ w, (Op.equalIn 10000 35 (.agg (flat v1.segs).toArray) (.agg (flat v1.segs).toArray)).run Try.prog w = .ok true w := fun w => run_equal_edit hw1 w
      have he2 : ∀ w, (Op.equalIn 10000 128 (.agg (flat v2.segs).toArray) (.agg (flat v2.segs).toArray)).run Try.prog w = .ok true w := fun w => run_equal_rvote hw2 w
      clear hw1 hw2
      rcases hcase with ⟨h9, hi⟩ | ⟨h9, hi⟩
      · subst hi h9
        have HID := Lib.hid hid
        clear hid hlt hj ho
        go_wp2_with (first
            | go_skip
            | ((go_at_call 32; have hc := HC5.out x _ _ HW.out id HID.out v1 s1 H1.out H1s.out; with_reducible refine hc.mono ?_; clear hc)
               rintro e w2 ⟨rfl, hw'⟩
               replace hw' : Holds _ (BR b x k p A c first Q _) := hw'
               clear HW; have HW := Lib.hid hw'; clear hw'; (try simp only [hps_rules] at HW))
            | ((go_at_call 70; have hc := rbEdit_ok hQ1 HOK.out (BR.swap HW.out) id H1.out H1s.out; with_reducible refine hc.mono ?_; clear hc)
               rintro e w2 ⟨rfl, hw'⟩
               replace hw' := BR.back hw'
               clear HW; have HW := Lib.hid hw'; clear hw'; (try simp only [hps_rules] at HW))
            | ((go_at_call 19; have hc := HC6.out x _ _ HW.out id v2 s2 H2.out H2s.out; with_reducible refine hc.mono ?_; clear hc)
               rintro e w2 ⟨rfl, hw'⟩
               replace hw' : Holds _ (BR b x k p A c first Q _) := hw'
               clear HW; have HW := Lib.hid hw'; clear hw'; (try simp only [hps_rules] at HW))
            | ((go_at_call 71; have hc := rbVote_ok hQ1 HOK.out (BR.swap HW.out) id H2.out H2s.out; with_reducible refine hc.mono ?_; clear hc)
               rintro e w2 ⟨rfl, hw'⟩
               replace hw' := BR.back hw'
               clear HW; have HW := Lib.hid hw'; clear hw'; (try simp only [hps_rules] at HW))
            | ((go_at_call 20; have hc := HC7.out x _ _ HW.out id v3 s3 H3.out H3s.out; with_reducible refine hc.mono ?_; clear hc)
               rintro e w2 ⟨rfl, hw'⟩
               replace hw' : Holds _ (BR b x k p A c first Q _) := hw'
               clear HW; have HW := Lib.hid hw'; clear hw'; (try simp only [hps_rules] at HW))
            | ((go_at_call 72; have hc := rbEnd_ok hQ1 (BR.swap HW.out) id H3.out H3s.out; with_reducible refine hc.mono ?_; clear hc)
               rintro e w2 ⟨rfl, hw'⟩
               replace hw' := BR.back hw'
               clear HW; have HW := Lib.hid hw'; clear hw'; (try simp only [hps_rules] at HW))
            | (refine wpList_alloc HW.out rfl (ty := 35) rfl (z := Ed.zero.val) (by kernel_rfl) (M := Ed.zero.segs) rfl (Ed.segs_ok Ed.zero_ok) (fun g w' hw' => ?_)
               replace hw' := BR.behind (b := b) (x := x) (k := k) (p := p) (A := A) (c := c) (first := first) (Q := Q) hw'
               clear HW; have HW := Lib.hid hw'; clear hw'; (try simp only [hps_rules] at HW); (try simp only [put_rules]))
            | (refine wpList_alloc HW.out rfl (ty := 40) rfl (z := Vt.zero.val) (by kernel_rfl) (M := Vt.zero.segs) rfl (Vt.segs_ok Vt.zero_ok) (fun g w' hw' => ?_)
               replace hw' := BR.behind (b := b) (x := x) (k := k) (p := p) (A := A) (c := c) (first := first) (Q := Q) hw'
               clear HW; have HW := Lib.hid hw'; clear hw'; (try simp only [hps_rules] at HW); (try simp only [put_rules]))
            | (refine wpList_alloc HW.out rfl (ty := 128) rfl (z := Vt.zero.val) (by kernel_rfl) (M := Vt.zero.segs) rfl (Vt.segs_ok Vt.zero_ok) (fun g w' hw' => ?_)
               replace hw' := BR.behind (b := b) (x := x) (k := k) (p := p) (A := A) (c := c) (first := first) (Q := Q) hw'
               clear HW; have HW := Lib.hid hw'; clear hw'; (try simp only [hps_rules] at HW); (try simp only [put_rules]))
            | (refine wpList_stR HW.out rfl (ty := 35) (n := 35) rfl rfl 7 rfl rfl rfl hg1.out rfl (by kernel_rfl) (fun w' hw' => ?_)
               replace hw' : Holds _ (BR b x k p A c first Q (sblk _ _ _ :: _)) := hw'
               clear HW; have HW := Lib.hid hw'; clear hw'; (try simp only [hps_rules] at HW); (try simp only [put_rules]))
            | (refine wpList_stR HW.out rfl (ty := 40) (n := 70) rfl rfl 7 rfl rfl rfl hg2.out rfl (by kernel_rfl) (fun w' hw' => ?_)
               replace hw' : Holds _ (BR b x k p A c first Q (sblk _ _ _ :: _)) := hw'
               clear HW; have HW := Lib.hid hw'; clear hw'; (try simp only [hps_rules] at HW); (try simp only [put_rules]))
            | (refine wpList_stR HW.out rfl (ty := 128) (n := 70) rfl rfl 7 rfl rfl rfl hg2.out rfl (by kernel_rfl) (fun w' hw' => ?_)
               replace hw' : Holds _ (BR b x k p A c first Q (sblk _ _ _ :: _)) := hw'
               clear HW; have HW := Lib.hid hw'; clear hw'; (try simp only [hps_rules] at HW); (try simp only [put_rules]))
            | (refine wpList_runs HW.out rfl (runs_ldR 10 (ty := 35) (n := 35) (m := v1.segs) rfl rfl rfl rfl Try.underlying35 rfl (by kernel_rfl)) ?_; simp only [put_rules])
            | (refine wpList_runs HW.out rfl (runs_ldR 9 (ty := 35) (n := 35) (m := v1.segs) rfl rfl rfl rfl Try.underlying35 rfl (by kernel_rfl)) ?_; simp only [put_rules])
            | (refine wpList_runs HW.out rfl (runs_ldR 8 (ty := 40) (n := 70) (m := v2.segs) rfl rfl rfl rfl Try.underlying40 rfl (by kernel_rfl)) ?_; simp only [put_rules])
            | (refine wpList_runs HW.out rfl (runs_ldR 7 (ty := 128) (n := 70) (m := v2.segs) rfl rfl rfl rfl Try.underlying128 rfl (by kernel_rfl)) ?_; simp only [put_rules]))
        go_roundw
        case rel => exact ⟨10, by omega, rfl, (BR.front (BR.front (BR.front (BR.front HW.out).tail).tail).tail).tail⟩
        case measure => simp [intOf]
      · subst hi
        have d9 : ((id : Int) == 9) = false := beq_eq_false_iff_ne.2 (by omega)
        have HID := Lib.hid hid
        clear hid
        go_wp2_with (first
            | go_skip
            | ((go_at_call 32; have hc := HC5.out x _ _ HW.out id HID.out v1 s1 H1.out H1s.out; with_reducible refine hc.mono ?_; clear hc)
               rintro e w2 ⟨rfl, hw'⟩
               replace hw' : Holds _ (BR b x k p A c first Q _) := hw'
               clear HW; have HW := Lib.hid hw'; clear hw'; (try simp only [hps_rules] at HW))
            | ((go_at_call 70; have hc := rbEdit_ok hQ1 HOK.out (BR.swap HW.out) id H1.out H1s.out; with_reducible refine hc.mono ?_; clear hc)
               rintro e w2 ⟨rfl, hw'⟩
               replace hw' := BR.back hw'
               clear HW; have HW := Lib.hid hw'; clear hw'; (try simp only [hps_rules] at HW))
            | ((go_at_call 19; have hc := HC6.out x _ _ HW.out id v2 s2 H2.out H2s.out; with_reducible refine hc.mono ?_; clear hc)
               rintro e w2 ⟨rfl, hw'⟩
               replace hw' : Holds _ (BR b x k p A c first Q _) := hw'
               clear HW; have HW := Lib.hid hw'; clear hw'; (try simp only [hps_rules] at HW))
            | ((go_at_call 71; have hc := rbVote_ok hQ1 HOK.out (BR.swap HW.out) id H2.out H2s.out; with_reducible refine hc.mono ?_; clear hc)
               rintro e w2 ⟨rfl, hw'⟩
               replace hw' := BR.back hw'
               clear HW; have HW := Lib.hid hw'; clear hw'; (try simp only [hps_rules] at HW))
            | ((go_at_call 20; have hc := HC7.out x _ _ HW.out id v3 s3 H3.out H3s.out; with_reducible refine hc.mono ?_; clear hc)
               rintro e w2 ⟨rfl, hw'⟩
               replace hw' : Holds _ (BR b x k p A c first Q _) := hw'
               clear HW; have HW := Lib.hid hw'; clear hw'; (try simp only [hps_rules] at HW))
            | ((go_at_call 72; have hc := rbEnd_ok hQ1 (BR.swap HW.out) id H3.out H3s.out; with_reducible refine hc.mono ?_; clear hc)
               rintro e w2 ⟨rfl, hw'⟩
               replace hw' := BR.back hw'
               clear HW; have HW := Lib.hid hw'; clear hw'; (try simp only [hps_rules] at HW))
            | (refine wpList_alloc HW.out rfl (ty := 35) rfl (z := Ed.zero.val) (by kernel_rfl) (M := Ed.zero.segs) rfl (Ed.segs_ok Ed.zero_ok) (fun g w' hw' => ?_)
               replace hw' := BR.behind (b := b) (x := x) (k := k) (p := p) (A := A) (c := c) (first := first) (Q := Q) hw'
               clear HW; have HW := Lib.hid hw'; clear hw'; (try simp only [hps_rules] at HW); (try simp only [put_rules]))
            | (refine wpList_alloc HW.out rfl (ty := 40) rfl (z := Vt.zero.val) (by kernel_rfl) (M := Vt.zero.segs) rfl (Vt.segs_ok Vt.zero_ok) (fun g w' hw' => ?_)
               replace hw' := BR.behind (b := b) (x := x) (k := k) (p := p) (A := A) (c := c) (first := first) (Q := Q) hw'
               clear HW; have HW := Lib.hid hw'; clear hw'; (try simp only [hps_rules] at HW); (try simp only [put_rules]))
            | (refine wpList_alloc HW.out rfl (ty := 128) rfl (z := Vt.zero.val) (by kernel_rfl) (M := Vt.zero.segs) rfl (Vt.segs_ok Vt.zero_ok) (fun g w' hw' => ?_)
               replace hw' := BR.behind (b := b) (x := x) (k := k) (p := p) (A := A) (c := c) (first := first) (Q := Q) hw'
               clear HW; have HW := Lib.hid hw'; clear hw'; (try simp only [hps_rules] at HW); (try simp only [put_rules]))
            | (refine wpList_stR HW.out rfl (ty := 35) (n := 35) rfl rfl 7 rfl rfl rfl hg1.out rfl (by kernel_rfl) (fun w' hw' => ?_)
               replace hw' : Holds _ (BR b x k p A c first Q (sblk _ _ _ :: _)) := hw'
               clear HW; have HW := Lib.hid hw'; clear hw'; (try simp only [hps_rules] at HW); (try simp only [put_rules]))
            | (refine wpList_stR HW.out rfl (ty := 40) (n := 70) rfl rfl 7 rfl rfl rfl hg2.out rfl (by kernel_rfl) (fun w' hw' => ?_)
               replace hw' : Holds _ (BR b x k p A c first Q (sblk _ _ _ :: _)) := hw'
               clear HW; have HW := Lib.hid hw'; clear hw'; (try simp only [hps_rules] at HW); (try simp only [put_rules]))
            | (refine wpList_stR HW.out rfl (ty := 128) (n := 70) rfl rfl 7 rfl rfl rfl hg2.out rfl (by kernel_rfl) (fun w' hw' => ?_)
               replace hw' : Holds _ (BR b x k p A c first Q (sblk _ _ _ :: _)) := hw'
               clear HW; have HW := Lib.hid hw'; clear hw'; (try simp only [hps_rules] at HW); (try simp only [put_rules]))
            | (refine wpList_runs HW.out rfl (runs_ldR 10 (ty := 35) (n := 35) (m := v1.segs) rfl rfl rfl rfl Try.underlying35 rfl (by kernel_rfl)) ?_; simp only [put_rules])
            | (refine wpList_runs HW.out rfl (runs_ldR 9 (ty := 35) (n := 35) (m := v1.segs) rfl rfl rfl rfl Try.underlying35 rfl (by kernel_rfl)) ?_; simp only [put_rules])
            | (refine wpList_runs HW.out rfl (runs_ldR 8 (ty := 40) (n := 70) (m := v2.segs) rfl rfl rfl rfl Try.underlying40 rfl (by kernel_rfl)) ?_; simp only [put_rules])
            | (refine wpList_runs HW.out rfl (runs_ldR 7 (ty := 128) (n := 70) (m := v2.segs) rfl rfl rfl rfl Try.underlying128 rfl (by kernel_rfl)) ?_; simp only [put_rules]))
        go_roundw
        case rel => exact ⟨id + 1, by omega, by go_num, (BR.front (BR.front (BR.front (BR.front HW.out).tail).tail).tail).tail⟩
        case measure => simp [intOf]; omega
    · obtain ⟨V, HVV⟩ : ∃ V, Hid (rVers first Q = V) := ⟨_, rfl⟩
      have HRV : Hid (∀ w R, Holds w (RbL p A c first Q R) → Calls Try.prog 68 #[.pointer (some ⟨p, 0, none⟩)] w fun e w' => ∃ A1 c1, e = .returned (.slice A1 V.length c1) ∧ (0 < V.length → ∃ g, A1 = some ⟨g, 0, none⟩) ∧ V.length ≤ c1 ∧ Holds w' (arr 9 1 tsegs (.slice A1 V.length c1) V :: RbL p A c first Q R)) := fun w R h => by
        refine (rbVersions_ok hQ1 h).mono ?_
        rintro e w2 ⟨v, rfl, hw'⟩
        rw [HVV.out] at hw'
        obtain ⟨A1, c1, rfl, hn1, hn2, hg⟩ := hw'.arr_form 0 rfl
        exact ⟨A1, c1, rfl, fun h0 => hg (fun e => by rw [e] at h0; simp at h0), hn1, hw'⟩
      rw [HVV.out] at HC8 hv0 hm2
      go_wp2_with (first
          | go_skip
          | (go_at_call 68; have hc := HRV.out _ _ (BR.swap HW.out); with_reducible refine hc.mono ?_; clear hc
             rintro e w2 ⟨A1, c1, rfl, hA1, hc1, hw'⟩
             obtain ⟨g1, rfl⟩ := hA1 hv0
             replace hw' : Holds _ (RbL p A c first Q (BkL b x k (_ :: R))) := hw'.push_ 7 (by simp [RbL, BkL])
             replace hw' := BR.back hw'
             clear hA1
             clear HW; have HW := Lib.hid hw'; clear hw'; (try simp only [hps_rules] at HW); (try simp only [put_rules])))
      go_loopw [137] (fun i wr => ∃ j : Nat, j ≤ V.length ∧ i = .int .i64 j ∧ Holds wr (BR b x k p A c first Q (arr 9 1 tsegs (.slice (some ⟨g1, 0, none⟩) V.length c1) V :: R))) (fun i _ => V.length - (intOf i).toNat)
      case atStart => exact ⟨0, by omega, rfl, HW.out⟩
      case round =>
        obtain ⟨j, hj, rfl, hq⟩ := hrel
        clear HW
        have HW := Lib.hid hq
        clear hq
        by_cases hlt : j < V.length
        · obtain ⟨t, ht⟩ : ∃ t, V[j]? = some t := ⟨_, List.getElem?_eq_getElem hlt⟩
          have HT := Lib.hid ht
          have h60 : j ≤ 61 := by omega
          have HJ1 : Hid ((if (j : Int) < 0 then none else V[(j : Int).toNat]?).getD [] = t) := by unfold Hid; rw [if_neg (by omega), Int.toNat_natCast, ht]; rfl
          have HJ2 : Hid ((if (j : Int) < 0 then none else V[(j : Int).toNat]? : Option (List UInt8)).isSome = true) := by unfold Hid; rw [if_neg (by omega), Int.toNat_natCast, ht]; rfl
          clear ht
          go_wp2_with (first
            | go_skip
            | (refine wpList_runs HW.out rfl (runs_ldrow1 7 rfl rfl rfl HT.out (by go_num) rfl (by kernel_rfl)) ?_; simp only [put_rules])
            | ((go_at_call 23; have hc := HC8.out x _ _ HW.out (j : Int) (by omega) (by omega) t true HJ1.out HJ2.out; with_reducible refine hc.mono ?_; clear hc)
               rintro e w2 ⟨rfl, hw'⟩
               replace hw' : Holds _ (BR b x k p A c first Q _) := hw'
               rw [strV_eq]
               clear HW; have HW := Lib.hid hw'; clear hw'; (try simp only [hps_rules] at HW)))
          go_roundw
          case rel => exact ⟨j + 1, by omega, by go_num, HW.out⟩
          case measure => simp [intOf]; omega
        · obtain rfl : j = V.length := by omega
          have HJ1 : Hid ((if (V.length : Int) < 0 then none else V[(V.length : Int).toNat]?).getD [] = []) := by unfold Hid; rw [if_neg (by omega), Int.toNat_natCast, List.getElem?_eq_none (by omega)]; rfl
          have HJ2 : Hid ((if (V.length : Int) < 0 then none else V[(V.length : Int).toNat]? : Option (List UInt8)).isSome = false) := by unfold Hid; rw [if_neg (by omega), Int.toNat_natCast, List.getElem?_eq_none (by omega)]; rfl
          go_wp2_with (first
            | go_skip
            | (go_at_call 68; have hc := HRV.out _ _ (BR.swap HW.out); with_reducible refine hc.mono ?_; clear hc
               rintro e w2 ⟨A2, c2, rfl, hA1, hc2, hw'⟩
               replace hw' := BR.back hw'.tail
               clear hA1
               clear HW; have HW := Lib.hid hw'; clear hw'; (try simp only [hps_rules] at HW); (try simp only [put_rules]))
            | ((go_at_call 23; have hc := HC8.out x _ _ HW.out (V.length : Int) (by omega) (by omega) [] false HJ1.out HJ2.out; with_reducible refine hc.mono ?_; clear hc)
               rintro e w2 ⟨rfl, hw'⟩
               replace hw' : Holds _ (BR b x k p A c first Q _) := hw'
               rw [strV_eq]
               clear HW; have HW := Lib.hid hw'; clear hw'; (try simp only [hps_rules] at HW))
            | ((go_at_call 23; have hc := HC8.out x _ _ HW.out (-1) (by omega) (by omega) [] false rfl rfl; with_reducible refine hc.mono ?_; clear hc)
               rintro e w2 ⟨rfl, hw'⟩
               replace hw' : Holds _ (BR b x k p A c first Q _) := hw'
               rw [strV_eq]
               clear HW; have HW := Lib.hid hw'; clear hw'; (try simp only [hps_rules] at HW)))
          go_ret
          have h1 := (BR.front HW.out).tail
          have h2 := Holds.bk_close (b := b) (x := x) (k := k) HWF.out h1
          have h3 : Holds _ (RbL p A c first Q (BkH b k :: R)) := h2.push_ 2 (by simp [RbL])
          exact ⟨rfl, h3.rb_close.pull 1 rfl⟩
end
end Go.Proofs.Ytaieonajialenaa
