/- the stream laws: StreamFeeds -/
import Derived.Test.YtmaiokjcgijdcaaDoorStreamE
namespace Go.Proofs.YtmaiokjcgijdcaaDoor
open Go.RowKit HP

theorem slist_frh (A : Option Addr) (n c : Nat) (A' : Option Addr) (n' c' : Nat) (fs : List (UInt8 × List UInt8)) (w : World) (R : List HP) (h : Holds w (FrH 28 (.slice A n c) fs :: FrH 30 (.slice A' n' c') fs :: R)) (hb : fs.length ≤ 1000000) :
    Calls Tryd.prog 24 #[.slice A n c, .slice A' n' c'] w fun e w' => e = .returned (.bool true) ∧ Holds w' (FrH 28 (.slice A n c) fs :: FrH 30 (.slice A' n' c') fs :: R) := by
  obtain ⟨l, hl1, hl2, h1⟩ := h.frs
  obtain ⟨A1, c1, hv, -, -, -⟩ := h1.row_form
  simp only [Value.slice.injEq] at hv
  obtain ⟨rfl, rfl, rfl⟩ := hv
  obtain ⟨l', hl1', hl2', h2⟩ := (h1.pull 2 rfl).frs
  obtain ⟨A1, c1, hv, -, -, -⟩ := h2.row_form
  simp only [Value.slice.injEq] at hv
  obtain ⟨rfl, rfl, rfl⟩ := hv
  have h3 : Holds w (row 28 2 (.slice A l.length c) l.length (fsCells l) :: fsBodies l :: row 30 2 (.slice A' l'.length c') l'.length (fsCells l') :: fsBodies l' :: R) := (h2.pull 2 rfl).pull 3 rfl |>.perm (.swap _ _ _)
  have ha := FsAt.of_frs (T := 28) (A := A) (c := c) (R := row 30 2 (.slice A' l'.length c') l'.length (fsCells l') :: fsBodies l' :: R) hl2
  have hb' := ((FsAt.of_frs (T := 30) (A := A') (c := c') (R := R) hl2').cons (fsBodies l)).cons (row 28 2 (.slice A l.length c) l.length (fsCells l))
  refine (slist_ok A l.length c A' l'.length c' l l' w _ h3 ha hb' rfl rfl (by unfold Hid; rw [hl1.out, hl1'.out]) (by rw [← hl1.out, List.length_map] at hb; exact hb)).mono ?_
  rintro e w' ⟨rfl, hw⟩
  refine ⟨rfl, Holds.mk_frs ?_ hl1 hl2⟩
  have h4 : Holds w' (FrH 30 (.slice A' l'.length c') fs :: row 28 2 (.slice A l.length c) l.length (fsCells l) :: fsBodies l :: R) := Holds.mk_frs ((hw.pull 2 rfl).pull 3 rfl |>.perm (.swap _ _ _)) hl1' hl2'
  exact (h4.pull 1 rfl).perm ((List.Perm.swap _ _ _).cons _)
set_option maxRecDepth 100000 in
set_option maxHeartbeats 2000000 in
theorem streamFeeds_ok (A : Option Addr) (n c : Nat) (l : List BS) (w : World) (R : List HP) (hh : Holds w R) (hp : Ent R fun w => PRd w A l) (hn : Hid (n = l.length)) (hnb : n ≤ 140737488351232) (hs : Hid (∀ s ∈ l, s.n ≤ 140737488351232)) (hk : Ent R KF) :
    Calls Tryd.prog 7 #[.slice A n c] w fun e w' => e = .returned (.bool true) ∧ Holds w' R := by
  have HAW := Lib.hid (fun w' (h : Holds w' R) => stawake_ok w' _ h hk)
  have HFW := Lib.hid (fun w' (h : Holds w' R) => few_ok A n c l w' (hp _ h) hn hnb hs)
  have HH := Lib.hid hh
  cases hf : fewB l
  · rw [hf] at HFW
    clear hp hk hh hs hf
    go_enter Tryd.func7, Tryd.ntmps7
    go_wp2_with (first
      | (go_at_call 20; (with_reducible refine (HAW.out _ HH.out).mono ?_); rintro e w1 ⟨rfl, hh1⟩; have HH1 := Lib.hid hh1; clear hh1)
      | (go_at_call 21; (with_reducible refine (HFW.out _ HH1.out).mono ?_); rintro e w2 ⟨rfl, rfl⟩)
      | (go_at_call 20; (with_reducible refine (HAW.out _ HH1.out).mono ?_); rintro e w2 ⟨rfl, hh2⟩; have HH2 := Lib.hid hh2; clear hh2))
    go_returns
    exact ⟨rfl, HH2.out⟩
  · rw [hf] at HFW
    have HBL : Hid ((bsAll l).length ≤ 5000) := by
      unfold Hid
      simp only [fewB, Bool.and_eq_true, decide_eq_true_eq] at hf
      exact hf.2
    have HP := Lib.hid hp; have HK := Lib.hid hk
    clear hp hk hh hs hf
    go_enter Tryd.func7, Tryd.ntmps7
    go_wp2_with (first
      | (go_at_call 20; (with_reducible refine (HAW.out _ HH.out).mono ?_); rintro e w1 ⟨rfl, hh1⟩; have HH1 := Lib.hid hh1; clear hh1)
      | (go_at_call 21; (with_reducible refine (HFW.out _ HH1.out).mono ?_); rintro e w2 ⟨rfl, rfl⟩))
    obtain ⟨s, hsS⟩ : ∃ s, Hid (w1.heap.size = s) := ⟨_, rfl⟩
    have h0 : Holds (w1.alloc (.cells #[.slice none 0 0, .int .i64 0] 44)) (StH s [] 0 :: own (.slice none 0 0) [] :: FrH 28 (.slice none 0 0) [] :: R) := by
      have := HH1.out.st_new
      rw [hsS.out] at this
      exact ((this.frs_nil (T := 28)).nil_own).pull 2 rfl
    rw [hsS.out]
    generalize w1.alloc (.cells #[.slice none 0 0, .int .i64 0] 44) = w2 at h0 ⊢
    have H0 := Lib.hid h0
    clear h0
    go_loopw [4, 5, 20] (fun vg va i wr => ∃ k : Nat, k ≤ n ∧ i = .int .i64 k ∧ Holds wr (StH s (strF (bsAll (l.take k))).2.2 (strF (bsAll (l.take k))).2.1 :: own va (bsAll (l.take k)) :: FrH 28 vg (strF (bsAll (l.take k))).1 :: R)) (fun _ _ i _ => n - (intOf i).toNat)
    case atStart => exact ⟨0, by omega, rfl, by simpa [bsAll, strF_nil] using H0.out⟩
    case round =>
      obtain ⟨k, hk, rfl, hq⟩ := hrel
      obtain ⟨A5, n5, c5, rfl, hn5, hc5, -⟩ := (hq.pull 1 rfl).own_form
      obtain ⟨A4, n4, c4, rfl, hn4, hc4⟩ := (hq.pull 2 rfl).fr_form
      have hlen : (bsAll (l.take k)).length ≤ 5000 := Nat.le_trans (bsAll_take_le l k) HBL.out
      have hcnt := strF_count (bsAll (l.take k))
      have hfl := strF_frames (bsAll (l.take k))
      have happ := fun p => strF_append (bsAll (l.take k)) p
      by_cases hlt : k < n
      · have hkl : k < l.length := by rw [← hn.out]; exact hlt
        obtain ⟨g, o, rfl, ck, hok⟩ := (HP.out _ hq.tail.tail.tail).at_ hkl
        have hsn := bsAll_snoc hkl
        have hlen1 : (bsAll (l.take (k + 1))).length ≤ 5000 := Nat.le_trans (bsAll_take_le l (k + 1)) HBL.out
        have hrd : Ent R fun w => RD w l[k].A l[k].xs := fun w' hw' => ((HP.out w' hw').2 _ (List.getElem_mem hkl)).rd
        have hap := happ l[k].xs
        rw [← hsn] at hap
        have hcell : ∀ w', Holds w' R → w'.cell? ⟨g, o + k, none⟩ = some (.slice l[k].A l[k].n l[k].c) := fun w' hw' => by
          obtain ⟨g', o', e, ck', _⟩ := (HP.out w' hw').at_ hkl
          simp only [Option.some.injEq, Addr.mk.injEq, and_true] at e
          obtain ⟨rfl, rfl⟩ := e
          exact ck'
        have HN := Lib.hid hok.n; have HC := Lib.hid hok.c
        generalize l[k].A = Ak at ck hrd hcell
        generalize l[k].n = nk at ck HN HC hcell
        generalize l[k].c = cck at ck HC hcell
        generalize l[k].xs = xk at hrd hsn hap HN
        generalize bsAll (l.take k) = bk at hq hn5 hlen hcnt hfl happ hsn hap hn4
        generalize hBK : bsAll (l.take (k + 1)) = bk1 at hsn hlen1 hap
        have HBK := Lib.hid hBK; clear hBK
        generalize strF bk = q at hq hcnt hfl happ hap hn4
        obtain ⟨fs, dr, wt⟩ := q
        have hlen2 : wt.length + xk.length ≤ 5000 := by
          rw [hsn, List.length_append] at hlen1
          simp only at hcnt
          omega
        have hdr : dr ≤ 5000 := by simp only at hcnt; omega
        have hfb : fs.length ≤ 5000 := by simp only at hfl; omega
        have HFD := Lib.hid (fun w' R' (h : Holds w' (StH s wt dr :: R')) (hr' : Ent R' fun w => RD w Ak xk) (hk' : Ent R' KF) => sfeed_ok Ak nk cck xk h hr' HN.out HC.out (by rw [List.length_append]; omega) (by omega) hk')
        have hq2f := strF_frames (wt ++ xk)
        have hq2c := strF_count (wt ++ xk)
        rw [List.length_append] at hq2f hq2c
        generalize strF (wt ++ xk) = q2 at HFD hap hq2f hq2c
        obtain ⟨fs2, dr2, wt2⟩ := q2
        simp only at hap hq2f hq2c
        have HRD := Lib.hid hrd; have HSN := Lib.hid hsn; have HAP := Lib.hid hap
        have HRS := Lib.hid (fun w' A9 n9 c9 R' (h : Holds w' (own (.slice A9 n9 c9) bk1 :: R')) (hn9 : Hid (n9 = bk1.length)) (hc9 : n9 ≤ c9) => rstream_ok A9 n9 c9 bk1 w' _ h Ent.own hn9 hc9 (by omega))
        rw [hap] at HRS
        have hbl : bk.length + xk.length ≤ 140737488355328 := by rw [← List.length_append, ← hsn]; omega
        have HQ := Lib.hid hq
        have HCE := Lib.hid hcell
        clear hq hrd hsn hap hcnt hfl happ hcell hkl hok
        have i1 : (0 : Int) ≤ (k : Int) := by omega
        have i2 : (k : Int) < n := by omega
        go_wp2_with (first
          | (go_at_call 22; (with_reducible refine (HFD.out _ _ HQ.out ((HRD.out.cons _).cons _) (HK.out.cons _ |>.cons _)).mono ?_); rintro e w3 ⟨v3, rfl, hh3⟩
             obtain ⟨A7, n7, c7, rfl, hn7, hc7⟩ := hh3.fr_form
             have HH3 := Lib.hid hh3; clear hh3)
          | (at_builtin
             obtain ⟨l2, hl1', hl2', h3⟩ := HH3.out.frs
             have hn72 : n7 = l2.length := by rw [hn7.out, ← hl1'.out, List.length_map]
             obtain ⟨l1, hl1, hl2, h4⟩ := (h3.pull 4 rfl).frs
             have hlb : l1.length ≤ 5000 := by have := hfb; rw [← hl1.out, List.length_map] at this; exact this
             have hlb2 : n7 ≤ 5000 := by have := hq2f; rw [← hl1'.out, List.length_map] at this; omega
             have hmx : l1.length + n7 ≤ maxLen := by simp only [maxLen]; omega
             have hmb : (l1.length + n7) * 32 ≤ 140737488355328 := by omega
             have hrow : RowRd w3 A7 (fsCells l2) := by
               obtain ⟨A', c', hv, _, _, hr⟩ := (h4.pull 2 rfl).row_form
               simp only [Value.slice.injEq] at hv
               obtain ⟨rfl, _, rfl⟩ := hv
               exact hr
             have hcl : (fsCells l2).length = n7 * 2 := by rw [fsCells_length, hn72]
             refine wpList_app_row rfl (.tmp 23) (.tmp 28) 45 28 _ 2 32 rfl Tryd.underlying45 Tryd.infoFrame rfl (by decide) _ l1.length (fsCells l1) h4 rfl A7 n7 c7 (fsCells l2) hcl rfl hrow (fsCells_one l2) hmx hmb ?_
             intro v5 w5 hh5
             have h6 := (hh5.drop 2 rfl)
             have h7 := Holds.frs_app (by rw [hn72]) h6 hl1 hl2 hl1' hl2'
             obtain ⟨A6, n6, c6, rfl, hn6, hc6⟩ := h7.fr_form
             have ck5 := HCE.out _ h7.tail.tail.tail
             have HH7 := Lib.hid (h7.pull 2 rfl)
             clear hl1 hl2 hl1' hl2' h3 h4 hrow hcl hh5 h6 h7)
          | (at_builtin
             refine wpList_app_sl rfl (.tmp 30) (.tmp 34) 22 rfl Tryd.underlying22 Tryd.infoByte _ _ HH7.out rfl Ak xk nk cck HN.out rfl (HRD.out _ HH7.out.tail.tail.tail) hbl ?_
             intro v8 w8 hh8
             rw [← HSN.out] at hh8
             obtain ⟨A9, n9, c9, rfl, hn9, hc9, -⟩ := hh8.own_form
             have HH8 := Lib.hid hh8; clear hh8)
          | (go_at_call 23; (with_reducible refine (HRS.out _ _ _ _ _ HH8.out hn9 hc9).mono ?_); rintro e w9 ⟨v9, rfl, hh9⟩
             obtain ⟨A10, n10, c10, rfl, hn10, hc10⟩ := hh9.fr_form
             have HH9 := Lib.hid (hh9.pull 2 rfl); clear hh9)
          | (go_at_call 24; (with_reducible refine (slist_frh _ _ _ _ _ _ _ _ _ HH9.out (by rw [List.length_append]; omega)).mono ?_); rintro e w10 ⟨rfl, hh10⟩
             have HH10 := Lib.hid (hh10.pull 3 rfl); clear hh10)
          | (go_at_call 25; (with_reducible refine (sdropped_ok HH10.out).mono ?_); rintro e w11 ⟨rfl, rfl⟩)
          | (go_at_call 26; (with_reducible refine (swaits_ok HH10.out).mono ?_); rintro e w11 ⟨rfl, rfl⟩))
        go_roundw
        case rel =>
          refine ⟨k + 1, by omega, by go_num, ?_⟩
          rw [HBK.out, HAP.out]
          exact ((HH10.out.drop 2 rfl).pull 2 rfl).pull 1 rfl
        case measure => simp [intOf]; omega
      · obtain rfl : k = n := by omega
        have hlk : l.take k = l := List.take_of_length_le (by rw [← hn.out]; omega)
        rw [hlk] at hq hlen hcnt hn5
        have HQ := Lib.hid hq
        have hle : (strF (bsAll l)).2.1 + (strF (bsAll l)).2.2.length ≤ n5 := by rw [hn5.out]; exact hcnt
        have hn5b : n5 ≤ 5000 := by rw [hn5.out]; exact hlen
        have HSD := Lib.hid (sdropped_ok hq)
        have HSW := Lib.hid (swaits_ok hq)
        generalize (strF (bsAll l)).2.1 = dr at HSD hle
        generalize (strF (bsAll l)).2.2.length = wt at HSW hle
        clear hq hcnt hfl happ hlk hn4 hlen
        go_wp2_with (first
          | (go_at_call 25; (with_reducible refine HSD.out.mono ?_); rintro e w11 ⟨rfl, rfl⟩)
          | (go_at_call 26; (with_reducible refine HSW.out.mono ?_); rintro e w11 ⟨rfl, rfl⟩))
        go_returns
        exact ⟨ret_bool (by simp; omega), HQ.out.tail.tail.tail⟩
end Go.Proofs.YtmaiokjcgijdcaaDoor
