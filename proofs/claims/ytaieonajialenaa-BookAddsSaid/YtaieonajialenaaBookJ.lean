/- BookStays. -/
import Derived.Test.YtaieonajialenaaBookI
namespace Go.Proofs.Ytaieonajialenaa
open Go.RowKit HP

theorem recs_load {w : World} {R : List HP} {A : Option Addr} {l : List Rec} (hl : ∀ r ∈ l, r.Wf) (hR : Ent R fun w => RecsAt w A l) (hw : Holds w R) {k : Nat} {r : Rec} (hk : l[k]? = some r) : ∃ g o, A = some ⟨g, o, none⟩ ∧ Hid (∀ w, Holds w R → w.rangeAt g (o + k * 74) (flat r.segs)) := by
  obtain ⟨g, o, rfl, -⟩ := (hR _ hw).at_ (fun r h => (hl r h).ok) hk
  refine ⟨g, o, rfl, fun w hw => ?_⟩
  obtain ⟨g', o', e, h⟩ := (hR _ hw).at_ (fun r h => (hl r h).ok) hk
  cases e; exact h
theorem Rec.sizeF {r : Rec} (h : r.Ok) : (Try.prog.info? 38).map (·.size) = some (flat r.segs).length := Rec.sizeLR h
theorem fewL_len {l : List Rec} (h : fewL l = true) : l.length ≤ 60 := by
  unfold fewL at h
  simp only [Bool.and_eq_true, decide_eq_true_eq] at h
  exact h.1
theorem Bk.adds_append (k : Bk) (a b : List Rec) : k.adds (a ++ b) = (k.adds a).adds b := List.foldl_append
theorem version_last {k1 k2 : Bk} (h : k1.vers <+: k2.vers) (h1 : k1.vers ≠ []) : k2.version ((k1.vers.length : Int) - 1) = some k1.last := by
  have hp : 0 < k1.vers.length := List.length_pos_iff.2 h1
  obtain ⟨t, ht⟩ := h
  have key : ∀ k : Bk, (∃ t, k1.vers ++ t = k.vers) → k.version ((k1.vers.length : Int) - 1) = k1.vers[k1.vers.length - 1]? := by
    rintro k ⟨t, ht⟩
    unfold Bk.version
    rw [if_neg (by omega), show ((k1.vers.length : Int) - 1).toNat = k1.vers.length - 1 by omega, ← ht, List.getElem?_append_left (by omega)]
  have h2 : k1.last = (k1.vers[k1.vers.length - 1]?).getD [] := by unfold Bk.last; rw [key k1 ⟨[], by simp⟩]
  rw [key k2 ⟨t, ht⟩, h2, List.getElem?_eq_getElem (by omega)]
  rfl
set_option maxRecDepth 100000 in
set_option maxHeartbeats 8000000 in
theorem bookStays_ok (A : Option Addr) (n c : Nat) (l : List Rec) (hl : ∀ r ∈ l, r.Wf) (hn : Hid (n = l.length)) (hm : n ≤ maxLen) (A2 : Option Addr) (n2 c2 : Nat) (l2 : List Rec) (hl2 : ∀ r ∈ l2, r.Wf) (hn2 : Hid (n2 = l2.length)) (hm2 : n2 ≤ maxLen)
    (id : Nat) (w : World) (R : List HP) (hh : Holds w R) (hr : Ent R fun w => RecsAt w A l) (hr2 : Ent R fun w => RecsAt w A2 l2) :
    Calls Try.prog 3 #[.slice A n c, .slice A2 n2 c2, .int .u64 (id : Int)] w fun e w' => e = .returned (.bool true) ∧ Holds w' R := by
  have HW := Lib.hid hh
  have HR := Lib.hid hr
  have HR2 := Lib.hid hr2
  have HL := Lib.hid hl
  have HL2 := Lib.hid hl2
  obtain ⟨f1, HF1⟩ : ∃ f, Hid (fewL l = f) := ⟨_, rfl⟩
  obtain ⟨f2, HF2⟩ : ∃ f, Hid (fewL l2 = f) := ⟨_, rfl⟩
  have HM := Lib.hid hm
  have HM2 := Lib.hid hm2
  clear hh hr hr2 hl hl2 hm hm2
  by_cases hff : f1 = true ∧ f2 = true
  case neg =>
    cases f1 <;> cases f2 <;> simp at hff
    all_goals
      clear hff
      go_enter Try.func3, Try.ntmps3
      go_wp2_with (first
        | ((go_at_call 15; have hc := bkawake_ok _ _ HW.out; with_reducible refine hc.mono ?_; clear hc)
           rintro e w2 ⟨rfl, hw'⟩
           clear HW; have HW := Lib.hid hw'; clear hw'; (try simp only [hps_rules] at HW))
        | ((go_at_call 16; have hc := bkfew_ok A n c l HL.out hn HM.out _ _ HW.out HR.out HF1.out; with_reducible refine hc.mono ?_; clear hc)
           rintro e w2 ⟨rfl, hw'⟩
           clear HW; have HW := Lib.hid hw'; clear hw'; (try simp only [hps_rules] at HW))
        | ((go_at_call 16; have hc := bkfew_ok A2 n2 c2 l2 HL2.out hn2 HM2.out _ _ HW.out HR2.out HF2.out; with_reducible refine hc.mono ?_; clear hc)
           rintro e w2 ⟨rfl, hw'⟩
           clear HW; have HW := Lib.hid hw'; clear hw'; (try simp only [hps_rules] at HW)))
      go_ret
      exact ⟨rfl, HW.out⟩
  obtain ⟨rfl, rfl⟩ := hff
  have hn60 : n ≤ 60 := by rw [hn.out]; exact fewL_len HF1.out
  have hn60' : n2 ≤ 60 := by rw [hn2.out]; exact fewL_len HF2.out
  go_enter Try.func3, Try.ntmps3
  go_wp2_with (first
    | ((go_at_call 15; have hc := bkawake_ok _ _ HW.out; with_reducible refine hc.mono ?_; clear hc)
       rintro e w2 ⟨rfl, hw'⟩
       clear HW; have HW := Lib.hid hw'; clear hw'; (try simp only [hps_rules] at HW))
    | ((go_at_call 16; have hc := bkfew_ok A n c l HL.out hn HM.out _ _ HW.out HR.out HF1.out; with_reducible refine hc.mono ?_; clear hc)
       rintro e w2 ⟨rfl, hw'⟩
       clear HW; have HW := Lib.hid hw'; clear hw'; (try simp only [hps_rules] at HW))
    | ((go_at_call 16; have hc := bkfew_ok A2 n2 c2 l2 HL2.out hn2 HM2.out _ _ HW.out HR2.out HF2.out; with_reducible refine hc.mono ?_; clear hc)
       rintro e w2 ⟨rfl, hw'⟩
       clear HW; have HW := Lib.hid hw'; clear hw'; (try simp only [hps_rules] at HW)))
  refine (bNew_ok [120] (by simp) _ _ HW.out).mono ?_
  rintro e w1 ⟨b, rfl, hw'⟩
  clear HW; have HW := Lib.hid hw'; clear hw'; (try simp only [hps_rules] at HW)
  obtain ⟨k0, HK0⟩ : ∃ k0, Hid (Bk.new [120] = k0) := ⟨_, rfl⟩
  rw [HK0.out] at HW
  have HW0 : Hid (k0.Wf ∧ k0.edits.length = 0 ∧ k0.vers.length = 1) := by rw [← HK0.out]; exact ⟨Bk.new_wf _, rfl, rfl⟩
  go_wp2
  go_loopw [44] (fun i wr => ∃ j : Nat, j ≤ n ∧ i = .int .i64 j ∧ Holds wr (BkH b (k0.adds (l.take j)) :: R)) (fun i _ => n - (intOf i).toNat)
  case atStart => exact ⟨0, by omega, rfl, HW.out⟩
  case round =>
    obtain ⟨j, hj, rfl, hq⟩ := hrel
    clear HW
    have HW := Lib.hid hq
    clear hq
    by_cases hlt : j < n
    · have hjl : j < l.length := by rw [← hn.out]; exact hlt
      obtain ⟨r, hr⟩ : ∃ r, l[j]? = some r := ⟨_, List.getElem?_eq_getElem hjl⟩
      obtain ⟨g, o, hA, HE0⟩ := recs_load HL.out HR.out HW.out.tail hr
      subst hA
      have HE : Hid (∀ w, Holds w (BkH b (k0.adds (l.take j)) :: R) → w.rangeAt g (o + j * 74) (flat r.segs)) := fun w hw => HE0.out w hw.tail
      have HRW := Lib.hid (HL.out r (List.mem_of_getElem? hr))
      have HSN : Hid (k0.adds (l.take (j + 1)) = ((k0.adds (l.take j)).add r).1) := by
        unfold Hid
        rw [Bk.adds_snoc k0 hjl]
        rw [List.getElem?_eq_getElem hjl] at hr
        cases hr; rfl
      have HKW : Hid ((k0.adds (l.take j)).Wf) := Bk.adds_wf HW0.out.1 _ (fun r h => HL.out r (List.mem_of_mem_take h))
      have HLN : Hid ((k0.adds (l.take j)).edits.length < 1099511627776 ∧ (k0.adds (l.take j)).vers.length < 1099511627776) := by
        have h1 := Bk.adds_len (l.take j) k0
        have h2 : (l.take j).length ≤ 60 := by simp; omega
        have := HW0.out
        unfold Hid; omega
      clear hr hjl HE0
      go_wp2_with (first
        | (refine wpList_runs HW.out rfl (runs_ldEnt (ty := 38) rfl rfl HE.out Try.underlying38 rfl (Rec.sizeF HRW.out.ok)) ?_; simp only [put_rules])
        | ((go_at_call 18; have hc := bAdd_ok _ HKW.out.ok HLN.out.1 b r HRW.out _ _ HLN.out.2 HW.out; with_reducible refine hc.mono ?_; clear hc)
           rintro e w2 ⟨rfl, hw'⟩
           rw [← HSN.out] at hw'
           clear HW; have HW := Lib.hid hw'; clear hw'; (try simp only [hps_rules] at HW)))
      go_roundw
      case rel => exact ⟨j + 1, by omega, by go_num, HW.out⟩
      case measure => simp [intOf]; omega
    · obtain ⟨k1, HK1⟩ : ∃ k1, Hid (k0.adds (l.take j) = k1) := ⟨_, rfl⟩
      rw [HK1.out] at HW
      have HW1 : Hid (k1.Wf ∧ k1.edits.length ≤ 60 ∧ k1.vers.length ≤ 61 ∧ 1 ≤ k1.vers.length) := by
        have h1 := Bk.adds_len (l.take j) k0
        have h2 : (l.take j).length ≤ 60 := by simp; omega
        have h3 := HW0.out
        have h4 := (Bk.adds_keeps k0 (l.take j) (fun r h => HL.out r (List.mem_of_mem_take h))).vers.length_le
        rw [HK1.out] at h1 h4
        exact ⟨by rw [← HK1.out]; exact Bk.adds_wf HW0.out.1 _ (fun r h => HL.out r (List.mem_of_mem_take h)), by omega, by omega, by omega⟩
      obtain ⟨hk1, x, hw'⟩ := HW.out.bk_open
      clear HW
      have HW : Hid (Holds _ (_ :: _)) := hw'
      clear hw' hk1
      obtain ⟨v1, HV1⟩ : ∃ v, Hid ((kget k1.votes id).getD Vt.zero = v) := ⟨_, rfl⟩
      obtain ⟨s1, HS1⟩ : ∃ v, Hid ((kget k1.votes id).isSome = v) := ⟨_, rfl⟩
      obtain ⟨c1, HC1⟩ : ∃ v, Hid ((kget k1.ends id).getD false = v) := ⟨_, rfl⟩
      obtain ⟨e1, HE1⟩ : ∃ v, Hid ((kget k1.ends id).isSome = v) := ⟨_, rfl⟩
      have hv1 : SgOk v1.segs := by have := Vt.segs_ok (Bk.vote_ok HW1.out.1.ok id); rwa [HV1.out] at this
      obtain ⟨N, hN⟩ : ∃ N, Hid (k1.vers.length = N) := ⟨_, rfl⟩
      go_wp2_with (first
        | ((go_at_call 19; have hc := bVote_ok k1 HW1.out.1.ok b x _ _ HW.out id HV1.out HS1.out; with_reducible refine hc.mono ?_; clear hc)
           rintro e w2 ⟨rfl, hw'⟩
           unfold BkL at hw'
           clear HW; have HW := Lib.hid hw'; clear hw'; (try simp only [hps_rules] at HW))
        | (refine wpList_alloc HW.out rfl (ty := 40) rfl (z := Vt.zero.val) (by kernel_rfl) (M := Vt.zero.segs) rfl (Vt.segs_ok Vt.zero_ok) (fun g w' hw' => ?_)
           clear HW; have HW := Lib.hid hw'; clear hw'; (try simp only [hps_rules] at HW); (try simp only [put_rules]))
        | (refine wpList_stR HW.out rfl (ty := 40) (n := 70) rfl rfl 0 rfl (M := Vt.segs v1) rfl rfl hv1 rfl (by kernel_rfl) (fun w' hw' => ?_)
           clear HW; have HW := Lib.hid hw'; clear hw'; (try simp only [hps_rules] at HW); (try simp only [put_rules])
           replace HW : Hid (Holds _ (BkL b x k1 (sblk _ _ _ :: R))) := Lib.hid (BkL.behind (x := x) (k := k1) HW.out))
        | ((go_at_call 20; have hc := bEnd_ok k1 b x _ _ HW.out id HC1.out HE1.out; with_reducible refine hc.mono ?_; clear hc)
           rintro e w2 ⟨rfl, hw'⟩
           clear HW; have HW := Lib.hid hw'; clear hw'; (try simp only [hps_rules] at HW))
        | ((go_at_call 21; have hc := bVersions_ok k1 b x _ _ HW.out; with_reducible refine hc.mono ?_; clear hc)
           rintro e w2 ⟨rfl, hw'⟩
           rw [hN.out]
           clear HW; have HW := Lib.hid hw'; clear hw'; (try simp only [hps_rules] at HW))
        | ((go_at_call 22; have hc := bLast_ok k1 b x _ _ HW.out (by have := HW1.out; omega); with_reducible refine hc.mono ?_; clear hc)
           rintro e w2 ⟨rfl, hw'⟩
           rw [strV_eq]
           clear HW; have HW := Lib.hid hw'; clear hw'; (try simp only [hps_rules] at HW)))
      have HB := Lib.hid (HW.out.bk_close HW1.out.1.ok)
      clear HW
      go_loopw [72] (fun i wr => ∃ j : Nat, j ≤ n2 ∧ i = .int .i64 j ∧ Holds wr (BkH b (k1.adds (l2.take j)) :: sblk g 40 v1.segs :: R)) (fun i _ => n2 - (intOf i).toNat)
      case atStart => exact ⟨0, by omega, rfl, HB.out⟩
      case round =>
        obtain ⟨j, hj, rfl, hq⟩ := hrel
        clear HB
        have HW := Lib.hid hq
        clear hq
        by_cases hlt : j < n2
        · have hjl : j < l2.length := by rw [← hn2.out]; exact hlt
          obtain ⟨r, hr⟩ : ∃ r, l2[j]? = some r := ⟨_, List.getElem?_eq_getElem hjl⟩
          obtain ⟨g2, o, hA, HE0⟩ := recs_load HL2.out HR2.out HW.out.tail.tail hr
          subst hA
          have HE : Hid (∀ w, Holds w (BkH b (k1.adds (l2.take j)) :: sblk g 40 v1.segs :: R) → w.rangeAt g2 (o + j * 74) (flat r.segs)) := fun w hw => HE0.out w hw.tail.tail
          have HRW := Lib.hid (HL2.out r (List.mem_of_getElem? hr))
          have HSN : Hid (k1.adds (l2.take (j + 1)) = ((k1.adds (l2.take j)).add r).1) := by
            unfold Hid
            rw [Bk.adds_snoc k1 hjl]
            rw [List.getElem?_eq_getElem hjl] at hr
            cases hr; rfl
          have HKW : Hid ((k1.adds (l2.take j)).Wf) := Bk.adds_wf HW1.out.1 _ (fun r h => HL2.out r (List.mem_of_mem_take h))
          have HLN : Hid ((k1.adds (l2.take j)).edits.length < 1099511627776 ∧ (k1.adds (l2.take j)).vers.length < 1099511627776) := by
            have h1 := Bk.adds_len (l2.take j) k1
            have h2 : (l2.take j).length ≤ 60 := by simp; omega
            have := HW1.out
            unfold Hid; omega
          clear hr hjl HE0
          go_wp2_with (first
            | (refine wpList_runs HW.out rfl (runs_ldEnt (ty := 38) rfl rfl HE.out Try.underlying38 rfl (Rec.sizeF HRW.out.ok)) ?_; simp only [put_rules])
            | ((go_at_call 18; have hc := bAdd_ok _ HKW.out.ok HLN.out.1 b r HRW.out _ _ HLN.out.2 HW.out; with_reducible refine hc.mono ?_; clear hc)
               rintro e w2 ⟨rfl, hw'⟩
               rw [← HSN.out] at hw'
               clear HW; have HW := Lib.hid hw'; clear hw'; (try simp only [hps_rules] at HW)))
          go_roundw
          case rel => exact ⟨j + 1, by omega, by go_num, HW.out⟩
          case measure => simp [intOf]; omega
        · obtain ⟨k2, HK2⟩ : ∃ k2, Hid (k1.adds (l2.take j) = k2) := ⟨_, rfl⟩
          rw [HK2.out] at HW
          have HKP : Hid (k1.Keeps k2) := by rw [← HK2.out]; exact Bk.adds_keeps k1 _ (fun r h => HL2.out r (List.mem_of_mem_take h))
          have HW2 : Hid (k2.Wf ∧ k2.vers.length < 1099511627776) := by
            have h1 := Bk.adds_len (l2.take j) k1
            have h2 : (l2.take j).length ≤ 60 := by simp; omega
            have h3 := HW1.out
            rw [HK2.out] at h1
            exact ⟨by rw [← HK2.out]; exact Bk.adds_wf HW1.out.1 _ (fun r h => HL2.out r (List.mem_of_mem_take h)), by omega⟩
          obtain ⟨v2, HV2⟩ : ∃ v, Hid ((kget k2.votes id).getD Vt.zero = v) := ⟨_, rfl⟩
          obtain ⟨s2, HS2⟩ : ∃ v, Hid ((kget k2.votes id).isSome = v) := ⟨_, rfl⟩
          obtain ⟨c2', HC2⟩ : ∃ v, Hid ((kget k2.ends id).getD false = v) := ⟨_, rfl⟩
          obtain ⟨e2, HE2⟩ : ∃ v, Hid ((kget k2.ends id).isSome = v) := ⟨_, rfl⟩
          have hv2 : SgOk v2.segs := by have := Vt.segs_ok (Bk.vote_ok HW2.out.1.ok id); rwa [HV2.out] at this
          have HVE : Hid (s1 = true → v2 = v1 ∧ s2 = true) := fun h => by
            have h1 := HS1.out
            rw [h] at h1
            obtain ⟨u, hu⟩ := Option.isSome_iff_exists.1 h1
            have h2 := HKP.out.votes id u hu
            rw [← HV2.out, ← HV1.out, ← HS2.out, hu, h2]
            exact ⟨rfl, rfl⟩
          have HCE : Hid (e1 = true → c2' = c1 ∧ e2 = true) := fun h => by
            have h1 := HE1.out
            rw [h] at h1
            obtain ⟨u, hu⟩ := Option.isSome_iff_exists.1 h1
            have h2 := HKP.out.ends id u hu
            rw [← HC2.out, ← HC1.out, ← HE2.out, hu, h2]
            exact ⟨rfl, rfl⟩
          have HVR : Hid (k2.version ((N : Int) - 1) = some k1.last) := by rw [← hN.out]; exact version_last HKP.out.vers (fun e => by have := HW1.out; rw [e] at this; simp at this)
          have hN1 : 1 ≤ N := by rw [← hN.out]; exact HW1.out.2.2.2
          have hN2 : N ≤ 61 := by rw [← hN.out]; exact HW1.out.2.2.1
          have hle : (N : Int) ≤ (k2.vers.length : Int) := by have := HKP.out.vers.length_le; rw [hN.out] at this; omega
          have hle2 : decide ((N : Int) ≤ (k2.vers.length : Int)) = true := decide_eq_true hle
          have hle3 : decide (N ≤ k2.vers.length) = true := decide_eq_true (by omega)
          have hne : ∀ w, (Op.equalIn 10000 40 (.agg (flat v1.segs).toArray) (.agg (flat v1.segs).toArray)).run Try.prog w = .ok true w := fun w => by
            have hwf : v1.Wf := by
              rw [← HV1.out]
              cases hg : kget k1.votes id with
              | none => exact Vt.zero_wf
              | some v => exact HW1.out.1.votes _ (kget_mem _ _ _ hg)
            have := run_equal_vote hwf hwf w
            rwa [sameV_iff.2 rfl] at this
          obtain ⟨_, x, hw'⟩ := HW.out.bk_open
          clear HW HK2
          have HW : Hid (Holds _ (_ :: _)) := hw'
          clear hw'
          cases s1 <;> cases e1
          all_goals
            first
            | (obtain ⟨rfl, rfl⟩ := HVE.out rfl)
            | skip
            first
            | (obtain ⟨rfl, rfl⟩ := HCE.out rfl)
            | skip
          all_goals
            go_wp2_with (first
              | ((go_at_call 19; have hc := bVote_ok k2 HW2.out.1.ok b x _ _ HW.out id HV2.out HS2.out; with_reducible refine hc.mono ?_; clear hc)
                 rintro e w2 ⟨rfl, hw'⟩
                 unfold BkL at hw'
                 clear HW; have HW := Lib.hid hw'; clear hw'; (try simp only [hps_rules] at HW))
              | (refine wpList_alloc HW.out rfl (ty := 40) rfl (z := Vt.zero.val) (by kernel_rfl) (M := Vt.zero.segs) rfl (Vt.segs_ok Vt.zero_ok) (fun g4 w' hw' => ?_)
                 clear HW; have HW := Lib.hid hw'; clear hw'; (try simp only [hps_rules] at HW); (try simp only [put_rules]))
              | (refine wpList_stR HW.out rfl (ty := 40) (n := 70) rfl rfl 0 rfl rfl rfl hv2 rfl (by kernel_rfl) (fun w' hw' => ?_)
                 clear HW; have HW := Lib.hid hw'; clear hw'; (try simp only [hps_rules] at HW); (try simp only [put_rules])
                 replace HW : Hid (Holds _ (BkL b x k2 (sblk _ _ _ :: sblk _ _ _ :: R))) := Lib.hid (BkL.behind (x := x) (k := k2) HW.out))
              | ((go_at_call 20; have hc := bEnd_ok k2 b x _ _ HW.out id HC2.out HE2.out; with_reducible refine hc.mono ?_; clear hc)
                 rintro e w2 ⟨rfl, hw'⟩
                 clear HW; have HW := Lib.hid hw'; clear hw'; (try simp only [hps_rules] at HW))
              | ((go_at_call 23; have hc := bVersion_ok k2 b x _ _ HW.out HW2.out.2 ((N : Int) - 1) (by omega) (by omega); with_reducible refine hc.mono ?_; clear hc)
                 rintro e w2 ⟨rfl, hw'⟩
                 rw [HVR.out]
                 clear HW; have HW := Lib.hid hw'; clear hw'; (try simp only [hps_rules] at HW))
              | ((go_at_call 21; have hc := bVersions_ok k2 b x _ _ HW.out; with_reducible refine hc.mono ?_; clear hc)
                 rintro e w2 ⟨rfl, hw'⟩
                 clear HW; have HW := Lib.hid hw'; clear hw'; (try simp only [hps_rules] at HW))
              | (refine wpList_runs HW.out rfl (runs_ldR 5 (ty := 40) (n := 70) (m := Vt.segs _) rfl rfl rfl rfl Try.underlying40 rfl (by kernel_rfl)) ?_; simp only [put_rules])
              | (refine wpList_runs HW.out rfl (runs_ldR 6 (ty := 40) (n := 70) (m := Vt.segs _) rfl rfl rfl rfl Try.underlying40 rfl (by kernel_rfl)) ?_; simp only [put_rules]))
            go_ret
            exact ⟨rfl, (HW.out.bk_close HW2.out.1.ok).tail.tail.tail⟩
end Go.Proofs.Ytaieonajialenaa
