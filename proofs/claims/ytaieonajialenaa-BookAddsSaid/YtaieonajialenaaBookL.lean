/- BookPrepared. -/
import Derived.Test.YtaieonajialenaaBookJ
namespace Go.Proofs.Ytaieonajialenaa
open Go.RowKit HP

structure Bk.Inv (k : Bk) : Prop where
  pos : ∀ id v, kget k.votes id = some v → 0 < id
  prep : k.prep ≠ 0 → (∃ v, kget k.votes k.prep = some v ∧ v.yes = true) ∧ kget k.ends k.prep = none
  one : ∀ id v, kget k.votes id = some v → v.yes = true → kget k.ends id = none → id = k.prep
theorem Bk.new_inv (s : List UInt8) : (Bk.new s).Inv := ⟨fun _ _ h => (by cases h), fun h => absurd rfl h, fun _ _ h => (by cases h)⟩
theorem Bk.say_inv {k : Bk} (hk : k.Inv) {r : Rec} (hf : formedR r = true) (h : k.fits r = true) : (k.say r).Inv := by
  have hF := (formedR_iff r).1 hf
  unfold Bk.fits at h
  unfold Bk.say
  split
  · exact ⟨hk.pos, hk.prep, hk.one⟩
  · rename_i h1
    rw [if_neg h1] at h
    split
    · rename_i h2
      rw [if_pos h2] at h
      simp only [Bool.and_eq_true, beq_iff_eq] at h
      obtain ⟨hfr, h0⟩ := h
      have hfr' := Bk.fresh_iff hfr
      have hy : r.vt.yes = true := by unfold Rec.vt; rw [if_pos h2]
      refine ⟨fun id v hv => ?_, fun _ => ⟨⟨r.vt, ?_, hy⟩, hfr'.2⟩, fun id v hv hvy he => ?_⟩
      · have hv' : kget (kput k.votes r.id r.vt) id = some v := hv
        rw [kget_put] at hv'
        split at hv'
        · rename_i e; rw [e]; exact hF.i0
        · exact hk.pos id v hv'
      · show kget (kput k.votes r.id r.vt) r.id = some r.vt
        rw [kget_put, if_pos rfl]
      · have hv' : kget (kput k.votes r.id r.vt) id = some v := hv
        rw [kget_put] at hv'
        split at hv'
        · rename_i e; exact e
        · have e1 := hk.one id v hv' hvy he
          have e2 := hk.pos id v hv'
          omega
    · rename_i h2
      rw [if_neg h2] at h
      split
      · rename_i h3
        rw [if_pos h3] at h
        have hfr' := Bk.fresh_iff h
        have hy : r.vt.yes = false := by unfold Rec.vt; rw [if_neg h2]
        refine ⟨fun id v hv => ?_, fun hp => ?_, fun id v hv hvy he => ?_⟩
        · have hv' : kget (kput k.votes r.id r.vt) id = some v := hv
          rw [kget_put] at hv'
          split at hv'
          · rename_i e; rw [e]; exact hF.i0
          · exact hk.pos id v hv'
        · obtain ⟨⟨v, hv, hvy⟩, he⟩ := hk.prep hp
          refine ⟨⟨v, ?_, hvy⟩, he⟩
          show kget (kput k.votes r.id r.vt) k.prep = some v
          rw [kget_put, if_neg (fun e => by rw [e, hfr'.1] at hv; cases hv)]
          exact hv
        · have hv' : kget (kput k.votes r.id r.vt) id = some v := hv
          rw [kget_put] at hv'
          split at hv'
          · cases hv'; rw [hy] at hvy; cases hvy
          · exact hk.one id v hv' hvy he
      · rename_i h3
        rw [if_neg h3] at h
        simp only [Bool.and_eq_true, Bool.not_eq_true', Option.isSome_eq_false_iff, Option.isNone_iff_eq_none] at h
        refine ⟨hk.pos, fun hp => ?_, fun id v hv hvy he => ?_⟩
        · have hp' : (if k.prep = r.id then 0 else k.prep) ≠ 0 := hp
          by_cases hpi : k.prep = r.id
          · rw [if_pos hpi] at hp'; exact absurd rfl hp'
          · rw [if_neg hpi] at hp'
            obtain ⟨⟨v, hv, hvy⟩, he⟩ := hk.prep hp'
            show (∃ v, kget k.votes (if k.prep = r.id then 0 else k.prep) = some v ∧ v.yes = true) ∧ kget (kput k.ends r.id r.commit) (if k.prep = r.id then 0 else k.prep) = none
            rw [if_neg hpi]
            exact ⟨⟨v, hv, hvy⟩, by rw [kget_put, if_neg hpi]; exact he⟩
        · have he' : kget (kput k.ends r.id r.commit) id = none := he
          rw [kget_put] at he'
          split at he'
          · cases he'
          · rename_i hne
            have e1 := hk.one id v hv hvy he'
            show id = if k.prep = r.id then 0 else k.prep
            rw [if_neg (by rw [← e1]; exact hne)]
            exact e1
theorem Bk.adds_inv {k : Bk} (h : k.Inv) (l : List Rec) (hl : ∀ r ∈ l, r.Wf) : (k.adds l).Inv := Bk.adds_ind (Z := Bk.Inv) (fun k2 r _ h => by
  rcases Bk.add_cases k2 r with e | ⟨e, h1, h2⟩
  · rw [e]; exact h
  · rw [e]; exact Bk.say_inv h h1 h2) l k hl h
/-- one cell that came in -/
theorem runs_ldEnt1 {P : Program} {o : Oper} {a : Act} {L : List HP} {ty : TypeId} {x : Operand} (ho : o.op = .load ty x) {g off : Nat} (hx : a.eval x = .pointer (some ⟨g, off, none⟩)) {v : Value} (hE : ∀ w, Holds w L → w.cell? ⟨g, off, none⟩ = some v)
    (hd : (P.underlying ty).map TypeDesc.isRow = some false) : RunsH P o a L v := fun w hw => by
  unfold execOp
  simp only [ho, hx, Instr.loadAt, Instr.sureAddr, Sem.run_bind, Sem.run_pure, Result.andThen_ok, run_loadVar_one hd (hE w hw)]
set_option maxRecDepth 100000 in
set_option maxHeartbeats 8000000 in
theorem bookPrepared_ok (A : Option Addr) (n c : Nat) (l : List Rec) (hl : ∀ r ∈ l, r.Wf) (hn : Hid (n = l.length)) (hm : n ≤ maxLen) (w : World) (R : List HP) (hh : Holds w R) (hr : Ent R fun w => RecsAt w A l) :
    Calls Try.prog 5 #[.slice A n c] w fun e w' => e = .returned (.bool true) ∧ Holds w' R := by
  have HW := Lib.hid hh
  have HR := Lib.hid hr
  have HL := Lib.hid hl
  obtain ⟨f1, HF1⟩ : ∃ f, Hid (fewL l = f) := ⟨_, rfl⟩
  have HM := Lib.hid hm
  clear hh hr hl hm
  cases f1
  · go_enter Try.func5, Try.ntmps5
    go_wp2_with (first
      | ((go_at_call 15; have hc := bkawake_ok _ _ HW.out; with_reducible refine hc.mono ?_; clear hc)
         rintro e w2 ⟨rfl, hw'⟩
         clear HW; have HW := Lib.hid hw'; clear hw'; (try simp only [hps_rules] at HW))
      | ((go_at_call 16; have hc := bkfew_ok A n c l HL.out hn HM.out _ _ HW.out HR.out HF1.out; with_reducible refine hc.mono ?_; clear hc)
         rintro e w2 ⟨rfl, hw'⟩
         clear HW; have HW := Lib.hid hw'; clear hw'; (try simp only [hps_rules] at HW)))
    go_ret
    exact ⟨rfl, HW.out⟩
  have hn60 : n ≤ 60 := by rw [hn.out]; exact fewL_len HF1.out
  go_enter Try.func5, Try.ntmps5
  go_wp2_with (first
    | ((go_at_call 15; have hc := bkawake_ok _ _ HW.out; with_reducible refine hc.mono ?_; clear hc)
       rintro e w2 ⟨rfl, hw'⟩
       clear HW; have HW := Lib.hid hw'; clear hw'; (try simp only [hps_rules] at HW))
    | ((go_at_call 16; have hc := bkfew_ok A n c l HL.out hn HM.out _ _ HW.out HR.out HF1.out; with_reducible refine hc.mono ?_; clear hc)
       rintro e w2 ⟨rfl, hw'⟩
       clear HW; have HW := Lib.hid hw'; clear hw'; (try simp only [hps_rules] at HW)))
  refine (bNew_ok [] (by simp) _ _ HW.out).mono ?_
  rintro e w1 ⟨b, rfl, hw'⟩
  clear HW; have HW := Lib.hid hw'; clear hw'; (try simp only [hps_rules] at HW)
  obtain ⟨k0, HK0⟩ : ∃ k0, Hid (Bk.new [] = k0) := ⟨_, rfl⟩
  rw [HK0.out] at HW
  have HW0 : Hid (k0.Wf ∧ k0.Inv ∧ k0.edits.length = 0 ∧ k0.vers.length = 1) := by rw [← HK0.out]; exact ⟨Bk.new_wf _, Bk.new_inv _, rfl, rfl⟩
  go_wp2
  go_loopw [32] (fun i wr => ∃ j : Nat, j ≤ n ∧ i = .int .i64 j ∧ Holds wr (BkH b (k0.adds (l.take j)) :: R)) (fun i _ => n - (intOf i).toNat)
  case atStart => exact ⟨0, by omega, rfl, HW.out⟩
  case round =>
    obtain ⟨j, hj, rfl, hq⟩ := hrel
    clear HW
    have HW := Lib.hid hq
    clear hq
    by_cases hlt : j < n
    · have hjl : j < l.length := by rw [← hn.out]; exact hlt
      obtain ⟨r, hr⟩ : ∃ r, l[j]? = some r := ⟨_, List.getElem?_eq_getElem hjl⟩
      obtain ⟨g, o, hA, HE0⟩ := recs_load HL.out HR.out HW.out.tail hr
      subst hA
      have HE : Hid (∀ w, Holds w (BkH b (k0.adds (l.take j)) :: R) → w.rangeAt g (o + j * 74) (flat r.segs)) := fun w hw => HE0.out w hw.tail
      have HRW := Lib.hid (HL.out r (List.mem_of_getElem? hr))
      obtain ⟨k1, HK1⟩ : ∃ k1, Hid (k0.adds (l.take (j + 1)) = k1) := ⟨_, rfl⟩
      have HSN : Hid (((k0.adds (l.take j)).add r).1 = k1) := by
        unfold Hid
        rw [← HK1.out, Bk.adds_snoc k0 hjl]
        rw [List.getElem?_eq_getElem hjl] at hr
        cases hr; rfl
      have HKW : Hid ((k0.adds (l.take j)).Wf) := Bk.adds_wf HW0.out.1 _ (fun r h => HL.out r (List.mem_of_mem_take h))
      have HK1W : Hid (k1.Wf ∧ k1.Inv) := by rw [← HK1.out]; exact ⟨Bk.adds_wf HW0.out.1 _ (fun r h => HL.out r (List.mem_of_mem_take h)), Bk.adds_inv HW0.out.2.1 _ (fun r h => HL.out r (List.mem_of_mem_take h))⟩
      have HLN : Hid ((k0.adds (l.take j)).edits.length < 1099511627776 ∧ (k0.adds (l.take j)).vers.length < 1099511627776) := by
        have h1 := Bk.adds_len (l.take j) k0
        have h2 : (l.take j).length ≤ 60 := by simp; omega
        have := HW0.out
        unfold Hid; omega
      clear hr hjl HE0
      obtain ⟨p, HP⟩ : ∃ p, Hid (k1.prep = p) := ⟨_, rfl⟩
      obtain ⟨v1, HV1⟩ : ∃ v, Hid ((kget k1.votes p).getD Vt.zero = v) := ⟨_, rfl⟩
      obtain ⟨s1, HS1⟩ : ∃ v, Hid ((kget k1.votes p).isSome = v) := ⟨_, rfl⟩
      obtain ⟨c1, HC1⟩ : ∃ v, Hid ((kget k1.ends p).getD false = v) := ⟨_, rfl⟩
      obtain ⟨e1, HE1⟩ : ∃ v, Hid ((kget k1.ends p).isSome = v) := ⟨_, rfl⟩
      have hv1 : SgOk v1.segs := by have := Vt.segs_ok (Bk.vote_ok HK1W.out.1.ok p); rwa [HV1.out] at this
      have HPP : Hid (p ≠ 0 → v1.yes = true ∧ e1 = false) := fun hp => by
        obtain ⟨⟨v, hv, hy⟩, he⟩ := HK1W.out.2.prep (by rw [HP.out]; exact hp)
        rw [HP.out] at hv he
        rw [← HV1.out, ← HE1.out, hv, he]
        exact ⟨hy, rfl⟩
      obtain ⟨yes, base, ed, root, code⟩ := v1
      by_cases hp0 : p = 0
      case' pos =>
        have hpe : ((p : Int) == 0) = true := by rw [hp0]; rfl
        have hpe2 : ((p : Int) != 0) = false := by rw [hp0]; rfl
      case' neg =>
        have hpe : ((p : Int) == 0) = false := beq_eq_false_iff_ne.2 (by omega)
        have hpe2 : ((p : Int) != 0) = true := bne_iff_ne.2 (by omega)
        obtain ⟨rfl, rfl⟩ : yes = true ∧ e1 = false := HPP.out hp0
      all_goals
        clear hp0
        go_wp2_with (first
          | (refine wpList_runs HW.out rfl (runs_ldEnt (ty := 38) rfl rfl HE.out Try.underlying38 rfl (Rec.sizeF HRW.out.ok)) ?_; simp only [put_rules])
          | ((go_at_call 18; have hc := bAdd_ok _ HKW.out.ok HLN.out.1 b r HRW.out _ _ HLN.out.2 HW.out; with_reducible refine hc.mono ?_; clear hc)
             rintro e w2 ⟨rfl, hw'⟩
             rw [HSN.out] at hw'
             obtain ⟨_, x, hw'⟩ := hw'.bk_open
             clear HW; have HW := Lib.hid hw'; clear hw'; (try simp only [hps_rules] at HW))
          | ((go_at_call 27; have hc := bPrepared_ok k1 b x _ _ HW.out; with_reducible refine hc.mono ?_; clear hc)
             rintro e w2 ⟨rfl, hw'⟩
             rw [HP.out]
             clear HW; have HW := Lib.hid hw'; clear hw'; (try simp only [hps_rules] at HW))
          | ((go_at_call 19; have hc := bVote_ok k1 HK1W.out.1.ok b x _ _ HW.out p HV1.out HS1.out; with_reducible refine hc.mono ?_; clear hc)
             rintro e w2 ⟨rfl, hw'⟩
             unfold BkL at hw'
             clear HW; have HW := Lib.hid hw'; clear hw'; (try simp only [hps_rules] at HW))
          | (refine wpList_alloc HW.out rfl (ty := 40) rfl (z := Vt.zero.val) (by kernel_rfl) (M := Vt.zero.segs) rfl (Vt.segs_ok Vt.zero_ok) (fun g4 w' hw' => ?_)
             clear HW; have HW := Lib.hid hw'; clear hw'; (try simp only [hps_rules] at HW); (try simp only [put_rules]))
          | (refine wpList_stR HW.out rfl (ty := 40) (n := 70) rfl rfl 0 rfl rfl rfl hv1 rfl (by kernel_rfl) (fun w' hw' => ?_)
             clear HW; have HW := Lib.hid hw'; clear hw'; (try simp only [hps_rules] at HW); (try simp only [put_rules])
             replace HW : Hid (Holds _ (BkL b x k1 (sblk _ _ _ :: R))) := Lib.hid (BkL.behind (x := x) (k := k1) HW.out))
          | ((go_at_call 20; have hc := bEnd_ok k1 b x _ _ HW.out p HC1.out HE1.out; with_reducible refine hc.mono ?_; clear hc)
             rintro e w2 ⟨rfl, hw'⟩
             clear HW; have HW := Lib.hid hw'; clear hw'; (try simp only [hps_rules] at HW))
          | (refine wpList_runs HW.out rfl (runs_ld1 5 rfl rfl rfl rfl (by kernel_rfl)) ?_; simp only [put_rules]))
        have HB := Lib.hid ((HW.out.bk_close HK1W.out.1.ok).drop 1 rfl)
        clear HW
        go_loopw [67] (fun i wr => ∃ q : Nat, q ≤ j + 1 ∧ i = .int .i64 q ∧ Holds wr (BkH b k1 :: R)) (fun i _ => j + 1 - (intOf i).toNat)
        case atStart => exact ⟨0, by omega, rfl, HB.out⟩
        case round =>
          obtain ⟨q, hq, rfl, hqw⟩ := hrel
          clear HB
          by_cases hlq : q < j + 1
          · have hql : q < l.length := by rw [← hn.out]; omega
            obtain ⟨r2, hr2⟩ : ∃ r, l[q]? = some r := ⟨_, List.getElem?_eq_getElem hql⟩
            have HE2 : Hid (∀ w, Holds w R → w.cell? ⟨g, o + q * 74 + 1, none⟩ = some (.int .u64 (r2.id : Int))) := fun w hw => by
              obtain ⟨g', o', e, h⟩ := (HR.out _ hw).at_ (fun r h => (HL.out r h).ok) hr2
              cases e
              exact h 1 _ rfl
            have hq60 : q ≤ 60 := by omega
            obtain ⟨_, x2, hw'⟩ := hqw.bk_open
            have HW : Hid (Holds _ (_ :: _)) := hw'
            clear hw' hqw
            obtain ⟨v2, HV2⟩ : ∃ v, Hid ((kget k1.votes r2.id).getD Vt.zero = v) := ⟨_, rfl⟩
            obtain ⟨s2, HS2⟩ : ∃ v, Hid ((kget k1.votes r2.id).isSome = v) := ⟨_, rfl⟩
            obtain ⟨c2, HC2⟩ : ∃ v, Hid ((kget k1.ends r2.id).getD false = v) := ⟨_, rfl⟩
            obtain ⟨e2, HE2'⟩ : ∃ v, Hid ((kget k1.ends r2.id).isSome = v) := ⟨_, rfl⟩
            have hv2 : SgOk v2.segs := by have := Vt.segs_ok (Bk.vote_ok HK1W.out.1.ok r2.id); rwa [HV2.out] at this
            have HONE : Hid (v2.yes = true → e2 = false → r2.id = p) := fun hy he => by
              have h1 := HV2.out
              have h2 := HE2'.out
              rw [he] at h2
              rw [← HP.out]
              cases hg : kget k1.votes r2.id with
              | none => rw [hg] at h1; rw [← h1] at hy; cases hy
              | some v =>
                rw [hg] at h1
                obtain rfl : v = v2 := h1
                exact HK1W.out.2.one r2.id v hg hy (by simpa using h2)
            obtain ⟨rid, HRID⟩ : ∃ rid, Hid (r2.id = rid) := ⟨_, rfl⟩
            rw [HRID.out] at HE2 HV2 HS2 HC2 HE2' HONE
            clear hr2 hql
            obtain ⟨yes2, base2, ed2, root2, code2⟩ := v2
            cases yes2 <;> cases e2
            all_goals
              first
              | (have hrp : ((rid : Int) != (p : Int)) = false := by rw [HONE.out rfl rfl]; simp)
              | skip
              go_wp2_with (first
                | (refine wpList_runs HW.out rfl (runs_ldEnt1 (ty := 23) rfl rfl (fun w hw => HE2.out w hw.tail.tail.tail.tail.tail) (by kernel_rfl)) ?_; simp only [put_rules])
                | (refine wpList_runs HW.out rfl (runs_ldEnt1 (ty := 23) rfl rfl (fun w hw => HE2.out w hw.tail.tail.tail.tail.tail.tail) (by kernel_rfl)) ?_; simp only [put_rules])
                | ((go_at_call 19; have hc := bVote_ok k1 HK1W.out.1.ok b x2 _ _ HW.out rid HV2.out HS2.out; with_reducible refine hc.mono ?_; clear hc)
                   rintro e w2 ⟨rfl, hw'⟩
                   unfold BkL at hw'
                   clear HW; have HW := Lib.hid hw'; clear hw'; (try simp only [hps_rules] at HW))
                | (refine wpList_alloc HW.out rfl (ty := 40) rfl (z := Vt.zero.val) (by kernel_rfl) (M := Vt.zero.segs) rfl (Vt.segs_ok Vt.zero_ok) (fun g5 w' hw' => ?_)
                   clear HW; have HW := Lib.hid hw'; clear hw'; (try simp only [hps_rules] at HW); (try simp only [put_rules]))
                | (refine wpList_stR HW.out rfl (ty := 40) (n := 70) rfl rfl 0 rfl rfl rfl hv2 rfl (by kernel_rfl) (fun w' hw' => ?_)
                   clear HW; have HW := Lib.hid hw'; clear hw'; (try simp only [hps_rules] at HW); (try simp only [put_rules])
                   replace HW : Hid (Holds _ (BkL b x2 k1 (sblk _ _ _ :: R))) := Lib.hid (BkL.behind (x := x2) (k := k1) HW.out))
                | ((go_at_call 20; have hc := bEnd_ok k1 b x2 _ _ HW.out rid HC2.out HE2'.out; with_reducible refine hc.mono ?_; clear hc)
                   rintro e w2 ⟨rfl, hw'⟩
                   clear HW; have HW := Lib.hid hw'; clear hw'; (try simp only [hps_rules] at HW))
                | (refine wpList_runs HW.out rfl (runs_ld1 5 rfl rfl rfl rfl (by kernel_rfl)) ?_; simp only [put_rules]))
              go_roundw
              case rel => exact ⟨q + 1, by omega, by go_num, (HW.out.bk_close HK1W.out.1.ok).drop 1 rfl⟩
              case measure => simp [intOf]; omega
          · go_wp2
            go_roundw
            case rel => exact ⟨j + 1, by omega, by go_num, by rw [HK1.out]; exact hqw⟩
            case measure => simp [intOf]; omega
    · go_wp2
      go_ret
      exact ⟨rfl, HW.out.tail⟩
end Go.Proofs.Ytaieonajialenaa
