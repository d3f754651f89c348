/- ShaPieces: the walk. -/
import Derived.Test.YtaipgkbnmfjpfaaDoorShaSums
namespace Go.Proofs.YtaipgkbnmfjpfaaDoor
open Go.RowKit HP

/-- what few tells, from place i on with m so far -/
def fewGoB : List BS → Nat → Nat → Bool
  | [], _, _ => true
  | x :: l, i, m => if 50 ≤ i ∨ 5000 < m + x.xs.length then false else fewGoB l (i + 1) (m + x.xs.length)
theorem fewGoB_le : ∀ (l : List BS) (i m : Nat), fewGoB l i m = true → m + (bsAll l).length ≤ 5000 ∨ l = []
  | [], _, _, _ => .inr rfl
  | x :: l, i, m, h => by
    unfold fewGoB at h
    split at h
    · cases h
    · rename_i hc
      have e : (bsAll (x :: l)).length = x.xs.length + (bsAll l).length := by simp [bsAll]
      rcases fewGoB_le l _ _ h with h' | rfl
      · left; omega
      · left
        have : (bsAll ([] : List BS)).length = 0 := rfl
        omega
theorem fewGoB_drop {l : List BS} {j m : Nat} (hj : j < l.length) : fewGoB (l.drop j) j m = if 50 ≤ j ∨ 5000 < m + l[j].xs.length then false else fewGoB (l.drop (j + 1)) (j + 1) (m + l[j].xs.length) := by
  rw [List.drop_eq_getElem_cons hj]; rfl

set_option maxRecDepth 100000 in
theorem shafew_ok (A : Option Addr) (n c : Nat) (l : List BS) (w : World) (hp : PRd w A l) (hn : Hid (n = l.length)) (hb : n ≤ 140737488355328) (hbl : ∀ s ∈ l, s.n ≤ 140737488355328) :
    Calls Tryd.prog 14 #[.slice A n c] w fun e w' => e = .returned (.bool (fewGoB l 0 0)) ∧ w = w' := by
  have HBL := Lib.hid hbl; clear hbl
  go_enter Tryd.func14, Tryd.ntmps14
  go_wp2_with fail
  go_loop [3, 7] (fun t i => ∃ j m : Nat, j ≤ n ∧ i = .int .i64 j ∧ t = .int .i64 m ∧ m ≤ 5000 ∧ Hid (fewGoB l 0 0 = fewGoB (l.drop j) j m)) (fun _ i => n - (intOf i).toNat)
  case atStart => exact ⟨0, 0, by omega, rfl, rfl, by omega, rfl⟩
  case round =>
    obtain ⟨j, m, hj, rfl, rfl, hm, hf⟩ := hrel
    by_cases hlt : j < n
    · have hjl : j < l.length := by rw [← hn.out]; exact hlt
      obtain ⟨g, o, rfl, cj, hok⟩ := hp.at_ hjl
      have HF := Lib.hid (hf.out.trans (fewGoB_drop hjl))
      have hln := hok.n
      have hnb := HBL.out _ (List.getElem_mem hjl)
      have HLN := Lib.hid hln.out
      generalize l[j].xs.length = q at HF HLN
      generalize l[j].A = Aj at cj
      generalize l[j].n = nj at cj HLN hnb
      generalize l[j].c = ccj at cj
      have hnq : nj = q := HLN.out
      clear hln hok hf HLN
      subst hnq
      by_cases h1 : 50 ≤ j
      · go_wp2
        all_goals go_returns
        all_goals exact ⟨by rw [HF.out, if_pos (.inl h1)]; rfl, rfl⟩
      · by_cases h2 : 5000 < m + nj
        · go_wp2
          all_goals go_returns
          all_goals exact ⟨by rw [HF.out, if_pos (.inr h2)]; rfl, rfl⟩
        · have HF2 := Lib.hid (HF.out.trans (if_neg (by omega))); clear HF
          go_wp2
          all_goals
            go_round
            case rel => exact ⟨j + 1, m + nj, by omega, by go_num, by go_num, by omega, HF2.out⟩
            case measure => simp [intOf]; omega
    · go_wp2
      go_returns
      have : l.drop j = [] := List.drop_eq_nil_of_le (by rw [← hn.out]; omega)
      exact ⟨by rw [hf.out, this]; rfl, rfl⟩

set_option maxRecDepth 100000 in
set_option maxHeartbeats 4000000 in
theorem shaPieces_walk (A : Option Addr) (n c : Nat) (l : List BS) (w : World) (hp : PRd w A l) (hn : Hid (n = l.length)) (hnb : n ≤ 140737488355328) (hbl : ∀ s ∈ l, s.n ≤ 140737488355328) (hk : KF w) :
    Calls Tryd.prog 6 #[.slice A n c] w fun e w' => e = .returned (.bool true) ∧ Kept w w' No := by
  have hk1 : Ent [since w] KF := Ent.sinceK hk
  have hp1 : Ent [since w] fun w => PRd w A l := fun w' h => hp.kept h.since_kept
  have h0 := Holds.start w
  have HAW := Lib.hid (fun w' (h : Holds w' [since w]) => shaawake_ok w' _ h hk1)
  have HFEW := Lib.hid (fun w' (h : Holds w' [since w]) => shafew_ok A n c l w' (hp1 _ h) hn hnb hbl)
  have HNEW := Lib.hid (fun w' (R : List HP) (h : Holds w' R) => new_ok w' R h)
  have hzv : ∀ w, (zeroValue 40).run Tryd.prog w = .ok (.agg (hcells HS.zero)) w := fun _ => by kernel_rfl
  have HK1 := Lib.hid hk1; have HP1 := Lib.hid hp1; have HH := Lib.hid h0
  cases hf : fewGoB l 0 0
  · rw [hf] at HFEW
    clear hk hk1 hp hp1 h0 hbl
    go_enter Tryd.func6, Tryd.ntmps6
    go_wp2_with (first
      | (go_at_call 9; (with_reducible refine (HAW.out _ HH.out).mono ?_); rintro e w1 ⟨rfl, hh⟩; have HH0 := Lib.hid hh; clear hh HH)
      | (go_at_call 14; (with_reducible refine (HFEW.out _ HH0.out).mono ?_); rintro e w2 ⟨rfl, rfl⟩; have HH1 := Lib.hid HH0.out; clear HH0)
      | (go_at_call 9; (with_reducible refine (HAW.out _ HH1.out).mono ?_); rintro e w3 ⟨rfl, hh⟩; have HH2 := Lib.hid hh; clear hh HH1))
    go_returns
    exact ⟨rfl, HH2.out.since_kept⟩
  · rw [hf] at HFEW
    have hlen : (bsAll l).length ≤ 5000 := by
      rcases fewGoB_le l 0 0 hf with h | rfl
      · omega
      · simp [bsAll]
    clear hk hk1 hp hp1 h0 hbl hf
    go_enter Tryd.func6, Tryd.ntmps6
    go_wp2_with (first
      | (go_at_call 9; (with_reducible refine (HAW.out _ HH.out).mono ?_); rintro e w1 ⟨rfl, hh⟩; have HH0 := Lib.hid hh; clear hh HH)
      | (go_at_call 14; (with_reducible refine (HFEW.out _ HH0.out).mono ?_); rintro e w2 ⟨rfl, rfl⟩; have HH1 := Lib.hid HH0.out; clear HH0)
      | (go_at_call 15; (with_reducible refine (HNEW.out _ _ HH1.out).mono ?_); rintro e w3 ⟨b, rfl, hh⟩; have HH2 := Lib.hid hh; clear hh HH1))
    go_loopw [5, 19] (fun v i wr => ∃ j : Nat, j ≤ n ∧ i = .int .i64 j ∧ Holds wr [own v (bsAll (l.take j)), HashH w3.heap.size (bsAll (l.take j)), HashH b (bsAll (l.take j)), since w]) (fun _ i _ => n - (intOf i).toNat)
    case atStart =>
      refine ⟨0, by omega, rfl, ?_⟩
      rw [show bsAll (l.take 0) = [] by simp [bsAll]]
      exact ((HH2.out.alloc 40 (hcells HS.zero)).hash_new rfl).nil_own
    case round =>
      obtain ⟨j, hj, rfl, hb⟩ := hrel
      by_cases hlt : j < n
      · have hjl : j < l.length := by rw [← hn.out]; exact hlt
        obtain ⟨g, o, rfl, cj, -⟩ := (HP1.out _ (hb.pull 3 rfl |>.drop 1 rfl |>.drop 1 rfl |>.drop 1 rfl)).at_ hjl
        have hok : Ent [since w] fun w => l[j].Ok w := fun w' h => (HP1.out _ h).2 _ (List.getElem_mem hjl)
        have hcc : Ent [since w] fun w' => w'.cell? ⟨g, o + j, none⟩ = some (.slice l[j].A l[j].n l[j].c) := fun w' h => by
          obtain ⟨g', o', e, cj', -⟩ := (HP1.out _ h).at_ hjl
          obtain ⟨rfl, rfl⟩ : g = g' ∧ o = o' := by simpa using e
          exact cj'
        have hsn := bsAll_snoc hjl
        have hle : (bsAll (l.take (j + 1))).length ≤ 5000 := Nat.le_trans (bsAll_take_le l (j + 1)) hlen
        have HNJ : Hid (l[j].n = l[j].xs.length) := (hok _ (hb.pull 3 rfl |>.drop 1 rfl |>.drop 1 rfl |>.drop 1 rfl)).n
        have HCJ : l[j].n ≤ l[j].c := (hok _ (hb.pull 3 rfl |>.drop 1 rfl |>.drop 1 rfl |>.drop 1 rfl)).c
        have HRJ : Ent [since w] fun w => RD w l[j].A l[j].xs := fun w' h => (hok w' h).rd
        rw [hsn, List.length_append] at hle
        generalize l[j].A = Aj at cj HRJ hcc
        generalize l[j].n = nj at cj HNJ HCJ hcc
        generalize l[j].c = ccj at cj HCJ hcc
        generalize l[j].xs = X at HRJ hle hsn HNJ
        generalize hP : bsAll (l.take j) = P at hb hle hsn
        obtain ⟨PX, hPX⟩ : ∃ PX, P ++ X = PX := ⟨_, rfl⟩
        have hPXl : PX.length = P.length + X.length := by rw [← hPX, List.length_append]
        rw [hPX] at hsn
        have HCC := Lib.hid hcc
        have HPX := Lib.hid hPX; have HSN := Lib.hid hsn; have HB := Lib.hid hb; have HLE := Lib.hid hle
        obtain ⟨L, hL⟩ : ∃ L, Hid (shaL PX = L) := ⟨_, rfl⟩
        have h32 : L.length = 32 := by rw [← hL.out]; exact length_shaL _
        have H32 := Lib.hid h32
        have HQ := Lib.hid (show (Tryd.prog.info? 24).map (·.size) = some (bcs L).toArray.size by rw [Tryd.sizeHash]; simp [h32])
        have HQ2 := Lib.hid (show (Tryd.prog.info? 24).map (·.size) = some (bcs L).length by rw [Tryd.sizeHash]; simp [h32])
        have H1B := Lib.hid (show ∀ v ∈ (bcs L).toArray.toList, v.oneCell' = true from bcs_one)
        have hnx := HNJ.out
        have HW1 := Lib.hid (fun w' v (h : Holds w' [own v P, HashH w3.heap.size P, HashH b P, since w]) => write_ok b P X Aj nj ccj w' _ (h.pull 2 rfl) ((HRJ.cons _).cons _) HNJ HCJ ((HK1.out.cons _).cons _) (by omega))
        have HW2 := Lib.hid (fun w' v (h : Holds w' [HashH b PX, own v P, HashH w3.heap.size P, since w]) => write_ok w3.heap.size P X Aj nj ccj w' _ (h.pull 2 rfl) ((HRJ.cons _).cons _) HNJ HCJ ((HK1.out.cons _).cons _) (by omega))
        rw [hPX] at HW1 HW2
        have hRB : ∀ w', Holds w' [HashH w3.heap.size PX, HashH b PX, own u5 P, since w] → ∃ gs, RB w' gs Aj X := fun w' h => HRJ _ (h.drop 0 rfl |>.drop 0 rfl |>.drop 0 rfl)
        have HRB := Lib.hid hRB
        have HRS := Lib.hid (fun A5 n5 c5 w' R (hn5 : Hid (n5 = PX.length)) (h : Holds w' (own (.slice A5 n5 c5) PX :: R)) => rsum_ok A5 n5 c5 PX w' _ h Ent.own hn5 (by rw [hn5.out]; omega))
        rw [hL.out] at HRS
        have HLE2 := Lib.hid (show P.length + X.length ≤ 140737488355328 by omega)
        have HPL := Lib.hid (show PX.length ≤ 1152921504606846976 by omega)
        clear hok hjl hb hPX hsn hle hRB HRJ hnx hcc hPXl
        go_wp2_with (first
          | (go_at_call 16; (with_reducible refine (HW1.out _ _ HB.out).mono ?_); rintro e w4 ⟨rfl, hh⟩; have cj4 := HCC.out _ (hh.drop 0 rfl |>.drop 0 rfl |>.drop 0 rfl); have HH3 := Lib.hid hh; clear hh HB)
          | (go_at_call 16; (with_reducible refine (HW2.out _ _ HH3.out).mono ?_); rintro e w5 ⟨rfl, hh⟩
             obtain ⟨gs, hgs⟩ := HRB.out _ hh
             have HGS := Lib.hid hgs
             have cj5 := HCC.out _ (hh.drop 0 rfl |>.drop 0 rfl |>.drop 0 rfl)
             have HH4 := Lib.hid (hh.pull 2 rfl); clear hh hgs HH3)
          | (at_builtin
             refine wpList_app_b _ rfl (.tmp 33) (.tmp 37) 22 rfl Tryd.underlying22 Tryd.infoByte _ _ HH4.out.ob rfl gs Aj X nj ccj HNJ.out rfl HGS.out HLE2.out ?_
             intro v6 w6 ho6 hk6 hp6
             have hh := HH4.out.app ho6 hk6 hp6
             rw [HPX.out] at hh
             obtain ⟨A5, n5, c5, rfl, hn5, hc5, -⟩ := hh.own_form
             have HH5 := Lib.hid hh
             clear ho6 hk6 hp6 hh HH4)
          | (go_at_call 11; (with_reducible refine (HRS.out _ _ _ _ _ hn5 HH5.out).mono ?_); rintro e wh ⟨rfl, hh⟩; have HH6 := Lib.hid hh; clear hh HH5)
          | ((with_reducible refine (?_ : wpList _ _ _ [_] _ _)); refine wpList_store_blk rfl 24 (.tmp 7) (.tmp 40) rfl wh.heap.size 0 (bcs L).toArray rfl rfl 24 _ (Blk.new _ _ _) HQ.out (by rw [show (bcs L).toArray.size = 32 by simp [H32.out]]; exact Nat.le_refl _) H1B.out ?_; (
             intro w7 hb2 hk2
             rw [putA_all _ _ (by simp [H32.out])] at hb2
             have HH7 := Lib.hid ((HH6.out.alloc 24 _).reblk hb2 hk2)
             clear hb2 hk2 HH6)))
        obtain rfl : n5 = PX.length := hn5.out
        have hk0 := HH7.out.drew
        have hq : ∀ w', Holds w' [blk wh.heap.size 24 (bcs L).toArray, own (.slice A5 PX.length c5) PX, HashH w3.heap.size PX, HashH b PX, since w] → w'.rangeAt wh.heap.size 0 (bcs L) := fun w' h j v hv => by
          rw [Nat.zero_add]; exact (h.cells j).trans (by simpa using hv)
        refine wp_region_held_drew (S := fun w' => Holds w' [blk wh.heap.size 24 (bcs L).toArray, own (.slice A5 PX.length c5) PX, HashH w3.heap.size PX, HashH b PX, since w]) (by kernel_rfl) ?_ (fun hHeld => ?_)
        · exact hk0
        refine takeH 0 ?_ rfl (by kernel_rfl) (by kernel_rfl) (by kernel_rfl) (fun _ _ _ h => h) (by kernel_rfl) (by assumption) (fun w hSw => ?_) ?_
        rotate_left
        · (try dsimp only at hSw); go_simp <;> (try with_reducible rfl)
        try simp only [Act.put, List.setIfInBounds_toArray, List.set_cons_zero, List.set_cons_succ]
        refine takeH_load 2 rfl (by kernel_rfl) (by kernel_rfl) (by kernel_rfl) (fun _ _ _ _ h => h) (by kernel_rfl) (by assumption) 24 (.tmp 7) rfl wh.heap.size 0 rfl (bcs L) _ hq Tryd.underlying24 rfl HQ2.out ?_
        try simp only [Act.put, List.setIfInBounds_toArray, List.set_cons_zero, List.set_cons_succ]
        refine effH 1 rfl (by kernel_rfl) (by kernel_rfl) (fun K hK => ?_)
        go_simp
        refine (hsum_ok b PX _ _ (hk0.pull 3 rfl) (((HK1.out.cons _).cons _).cons _) HPL.out).mono ?_
        rintro e w8 ⟨rfl, hh⟩
        rw [hL.out]
        have hk1 := hh.pull 3 rfl |>.pull 3 rfl |>.pull 3 rfl
        refine hK.out _ _ hk1 (fun hHeld => ?_)
        clear hK K hk0 hh hHeld
        have hk0 := hk1
        have hHeld := hk1
        clear hk1
        refine takeH 3 ?_ rfl (by kernel_rfl) (by kernel_rfl) (by kernel_rfl) (fun _ _ _ h => h) (by kernel_rfl) (by assumption) (fun w hSw => ?_) ?_
        rotate_left
        · (try dsimp only at hSw); go_simp <;> (try with_reducible rfl)
        try simp only [Act.put, List.setIfInBounds_toArray, List.set_cons_zero, List.set_cons_succ]
        refine takeH 4 ?_ rfl (by kernel_rfl) (by kernel_rfl) (by kernel_rfl) (fun _ _ _ h => h) (by kernel_rfl) (by assumption) (fun w hSw => ?_) ?_
        rotate_left
        · (try dsimp only at hSw); go_simp <;> (try with_reducible rfl)
        try simp only [Act.put, List.setIfInBounds_toArray, List.set_cons_zero, List.set_cons_succ]
        refine takeH 5 ?_ rfl (by kernel_rfl) (by kernel_rfl) (by kernel_rfl) (fun _ _ _ h => h) (by kernel_rfl) (by assumption) (fun w hSw => ?_) ?_
        rotate_left
        · (try dsimp only at hSw); go_simp <;> (try with_reducible rfl)
        try simp only [Act.put, List.setIfInBounds_toArray, List.set_cons_zero, List.set_cons_succ]
        refine takeH_load 7 rfl (by kernel_rfl) (by kernel_rfl) (by kernel_rfl) (fun _ _ _ _ h => h) (by kernel_rfl) (by assumption) 24 (.tmp 7) rfl wh.heap.size 0 rfl (bcs L) _ hq Tryd.underlying24 rfl HQ2.out ?_
        try simp only [Act.put, List.setIfInBounds_toArray, List.set_cons_zero, List.set_cons_succ]
        refine effH 6 rfl (by kernel_rfl) (by kernel_rfl) (fun K hK => ?_)
        go_simp
        refine (hsum_ok b PX _ _ (hk0.pull 3 rfl) (((HK1.out.cons _).cons _).cons _) HPL.out).mono ?_
        rintro e w9 ⟨rfl, hh⟩
        rw [hL.out]
        have hk1 := hh.pull 3 rfl |>.pull 3 rfl |>.pull 3 rfl
        refine hK.out _ _ hk1 (fun hHeld => ?_)
        clear hK K hk0 hh hHeld
        have hk0 := hk1
        have hHeld := hk1
        clear hk1
        refine takeH 8 ?_ rfl (by kernel_rfl) (by kernel_rfl) (by kernel_rfl) (fun _ _ _ h => h) (by kernel_rfl) (by assumption) (fun w hSw => ?_) ?_
        rotate_left
        · (try dsimp only at hSw); go_simp <;> (try with_reducible rfl)
        try simp only [Act.put, List.setIfInBounds_toArray, List.set_cons_zero, List.set_cons_succ]
        refine takeH 9 ?_ rfl (by kernel_rfl) (by kernel_rfl) (by kernel_rfl) (fun _ _ _ h => h) (by kernel_rfl) (by assumption) (fun w hSw => ?_) ?_
        rotate_left
        · (try dsimp only at hSw); go_simp <;> (try with_reducible rfl)
        try simp only [Act.put, List.setIfInBounds_toArray, List.set_cons_zero, List.set_cons_succ]
        refine takeH 10 ?_ rfl (by kernel_rfl) (by kernel_rfl) (by kernel_rfl) (fun _ _ _ h => h) (by kernel_rfl) (by assumption) (fun w hSw => ?_) ?_
        rotate_left
        · (try dsimp only at hSw); go_simp <;> (try with_reducible rfl)
        try simp only [Act.put, List.setIfInBounds_toArray, List.set_cons_zero, List.set_cons_succ]
        refine takeH_load 12 rfl (by kernel_rfl) (by kernel_rfl) (by kernel_rfl) (fun _ _ _ _ h => h) (by kernel_rfl) (by assumption) 24 (.tmp 7) rfl wh.heap.size 0 rfl (bcs L) _ hq Tryd.underlying24 rfl HQ2.out ?_
        try simp only [Act.put, List.setIfInBounds_toArray, List.set_cons_zero, List.set_cons_succ]
        refine effH 11 rfl (by kernel_rfl) (by kernel_rfl) (fun K hK => ?_)
        go_simp
        refine (hsum_ok w3.heap.size PX _ _ (hk0.pull 2 rfl) (((HK1.out.cons _).cons _).cons _) HPL.out).mono ?_
        rintro e w10 ⟨rfl, hh⟩
        rw [hL.out]
        have hk1 := hh.pull 2 rfl |>.pull 2 rfl
        refine hK.out _ _ hk1 (fun hHeld => ?_)
        clear hK K hk0 hh hHeld
        have hk0 := hk1
        have hHeld := hk1
        clear hk1
        refine takeH 13 ?_ rfl (by kernel_rfl) (by kernel_rfl) (by kernel_rfl) (fun _ _ _ h => h) (by kernel_rfl) (by assumption) (fun w hSw => ?_) ?_
        rotate_left
        · (try dsimp only at hSw); go_simp <;> (try with_reducible rfl)
        try simp only [Act.put, List.setIfInBounds_toArray, List.set_cons_zero, List.set_cons_succ]
        refine takeH 14 ?_ rfl (by kernel_rfl) (by kernel_rfl) (by kernel_rfl) (fun _ _ _ h => h) (by kernel_rfl) (by assumption) (fun w hSw => ?_) ?_
        rotate_left
        · (try dsimp only at hSw); go_simp <;> (try with_reducible rfl)
        try simp only [Act.put, List.setIfInBounds_toArray, List.set_cons_zero, List.set_cons_succ]
        refine takeH 15 ?_ rfl (by kernel_rfl) (by kernel_rfl) (by kernel_rfl) (fun _ _ _ h => h) (by kernel_rfl) (by assumption) (fun w hSw => ?_) ?_
        rotate_left
        · (try dsimp only at hSw); go_simp <;> (try with_reducible rfl)
        try simp only [Act.put, List.setIfInBounds_toArray, List.set_cons_zero, List.set_cons_succ]
        refine takeH 16 ?_ rfl (by kernel_rfl) (by kernel_rfl) (by kernel_rfl) (fun _ _ _ h => h) (by kernel_rfl) (by assumption) (fun w hSw => ?_) ?_
        rotate_left
        · (try dsimp only at hSw); go_simp <;> (try with_reducible rfl)
        try simp only [Act.put, List.setIfInBounds_toArray, List.set_cons_zero, List.set_cons_succ]
        refine takeH 18 ?_ rfl (by kernel_rfl) (by kernel_rfl) (by kernel_rfl) (fun _ _ _ h => h) (by kernel_rfl) (by assumption) (fun w hSw => ?_) ?_
        rotate_left
        · (try dsimp only at hSw); go_simp <;> (try with_reducible rfl)
        try simp only [Act.put, List.setIfInBounds_toArray, List.set_cons_zero, List.set_cons_succ]
        refine takeH 19 ?_ rfl (by kernel_rfl) (by kernel_rfl) (by kernel_rfl) (fun _ _ _ h => h) (by kernel_rfl) (by assumption) (fun w hSw => ?_) ?_
        rotate_left
        · (try dsimp only at hSw); go_simp <;> (try with_reducible rfl)
        try simp only [Act.put, List.setIfInBounds_toArray, List.set_cons_zero, List.set_cons_succ]
        refine effH 17 rfl (by kernel_rfl) (by kernel_rfl) (fun K hK => ?_)
        go_simp
        refine (len_ok b PX _ _ (hk0.pull 3 rfl)).mono ?_
        rintro e _ ⟨rfl, rfl⟩
        refine hK.out _ _ hk0 (fun hHeld => ?_)
        clear hK K hHeld
        have hHeld := hk0
        refine takeH 20 ?_ rfl (by kernel_rfl) (by kernel_rfl) (by kernel_rfl) (fun _ _ _ h => h) (by kernel_rfl) (by assumption) (fun w hSw => ?_) ?_
        rotate_left
        · (try dsimp only at hSw); go_simp <;> (try with_reducible rfl)
        try simp only [Act.put, List.setIfInBounds_toArray, List.set_cons_zero, List.set_cons_succ]
        refine takeH 21 ?_ rfl (by kernel_rfl) (by kernel_rfl) (by kernel_rfl) (fun _ _ _ h => h) (by kernel_rfl) (by assumption) (fun w hSw => ?_) ?_
        rotate_left
        · (try dsimp only at hSw); go_simp <;> (try with_reducible rfl)
        try simp only [Act.put, List.setIfInBounds_toArray, List.set_cons_zero, List.set_cons_succ]
        refine takeH 22 ?_ rfl (by kernel_rfl) (by kernel_rfl) (by kernel_rfl) (fun _ _ _ h => h) (by kernel_rfl) (by assumption) (fun w hSw => ?_) ?_
        rotate_left
        · (try dsimp only at hSw); go_simp <;> (try with_reducible rfl)
        try simp only [Act.put, List.setIfInBounds_toArray, List.set_cons_zero, List.set_cons_succ]
        refine takeH 24 ?_ rfl (by kernel_rfl) (by kernel_rfl) (by kernel_rfl) (fun _ _ _ h => h) (by kernel_rfl) (by assumption) (fun w hSw => ?_) ?_
        rotate_left
        · (try dsimp only at hSw); go_simp <;> (try with_reducible rfl)
        try simp only [Act.put, List.setIfInBounds_toArray, List.set_cons_zero, List.set_cons_succ]
        refine takeH 25 ?_ rfl (by kernel_rfl) (by kernel_rfl) (by kernel_rfl) (fun _ _ _ h => h) (by kernel_rfl) (by assumption) (fun w hSw => ?_) ?_
        rotate_left
        · (try dsimp only at hSw); go_simp <;> (try with_reducible rfl)
        try simp only [Act.put, List.setIfInBounds_toArray, List.set_cons_zero, List.set_cons_succ]
        refine effH 23 rfl (by kernel_rfl) (by kernel_rfl) (fun K hK => ?_)
        go_simp
        refine (len_ok w3.heap.size PX _ _ (hk0.pull 2 rfl)).mono ?_
        rintro e _ ⟨rfl, rfl⟩
        refine hK.out _ _ hk0 (fun hHeld => ?_)
        clear hK K hHeld
        have hHeld := hk0
        refine takeH 26 ?_ rfl (by kernel_rfl) (by kernel_rfl) (by kernel_rfl) (fun _ _ _ h => h) (by kernel_rfl) (by assumption) (fun w hSw => ?_) ?_
        rotate_left
        · (try dsimp only at hSw); go_simp <;> (try with_reducible rfl)
        try simp only [Act.put, List.setIfInBounds_toArray, List.set_cons_zero, List.set_cons_succ]
        refine takeH 27 ?_ rfl (by kernel_rfl) (by kernel_rfl) (by kernel_rfl) (fun _ _ _ h => h) (by kernel_rfl) (by assumption) (fun w hSw => ?_) ?_
        rotate_left
        · (try dsimp only at hSw); go_simp <;> (try with_reducible rfl)
        try simp only [Act.put, List.setIfInBounds_toArray, List.set_cons_zero, List.set_cons_succ]
        refine wpAnyH_done (by kernel_rfl) ?_ _
        have HHE : Hid (Holds w10 [blk wh.heap.size 24 (bcs L).toArray, own (.slice A5 PX.length c5) PX, HashH w3.heap.size PX, HashH b PX, since w]) := hk0
        clear hHeld hk0 hq
        go_wp2
        refine ⟨⟨j + 1, by omega, by simp, by rw [HSN.out]; exact HHE.out.drop 0 rfl⟩, by simp only [intOf, Int.toNat_natCast]; omega⟩
      · have hlj : l.take j = l := List.take_of_length_le (by rw [← hn.out]; omega)
        rw [hlj] at hb
        obtain ⟨A5, n5, c5, rfl, hn5, hc5, -⟩ := hb.own_form
        obtain ⟨L, hL⟩ : ∃ L, Hid (shaL (bsAll l) = L) := ⟨_, rfl⟩
        have h32 : L.length = 32 := by rw [← hL.out]; exact length_shaL _
        have HB := Lib.hid (hb.pull 2 rfl)
        have HSU := Lib.hid (fun w' v (h : Holds w' [HashH b (bsAll l), own v (bsAll l), HashH w3.heap.size (bsAll l), since w]) => hsum_ok b (bsAll l) w' _ h (((HK1.out.cons _).cons _)) (by omega))
        have HRS := Lib.hid (fun w' (h : Holds w' [own (.slice A5 n5 c5) (bsAll l), HashH b (bsAll l), HashH w3.heap.size (bsAll l), since w]) => rsum_ok A5 n5 c5 (bsAll l) w' _ h Ent.own hn5 (by rw [hn5.out]; omega))
        rw [hL.out] at HSU HRS
        clear hb hlj
        go_wp2_with (first
          | (go_at_call 17; (with_reducible refine (HSU.out _ _ HB.out).mono ?_); rintro e w4 ⟨rfl, hh⟩; have HH3 := Lib.hid (hh.pull 1 rfl); clear hh HB)
          | (go_at_call 11; (with_reducible refine (HRS.out _ HH3.out).mono ?_); rintro e w5 ⟨rfl, hh⟩; have HH4 := Lib.hid hh; clear hh HH3))
        go_returns
        exact ⟨rfl, (HH4.out.drop 0 rfl |>.drop 0 rfl |>.drop 0 rfl).since_kept⟩
end Go.Proofs.YtaipgkbnmfjpfaaDoor
