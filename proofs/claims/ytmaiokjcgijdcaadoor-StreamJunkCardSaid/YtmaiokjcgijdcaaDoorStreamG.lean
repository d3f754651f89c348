/- the stream laws: StreamJunk -/
import Derived.Test.YtmaiokjcgijdcaaDoorStreamF
import Derived.Test.YtmaiokjcgijdcaaDoorSl
namespace Go.Proofs.YtmaiokjcgijdcaaDoor
open Go.RowKit HP

set_option maxRecDepth 100000 in
set_option maxHeartbeats 4000000 in
theorem streamJunk_ok (A : Option Addr) (n c : Nat) (l : List PC) (w : World) (R : List HP) (hh : Holds w R) (hp : Ent R fun w => PcRd w A l) (hn : Hid (n = l.length)) (hk : Ent R KF) :
    Calls Tryd.prog 9 #[.slice A n c] w fun e w' => e = .returned (.bool true) ∧ Holds w' R := by
  have HAW := Lib.hid (fun w' (h : Holds w' R) => stawake_ok w' _ h hk)
  have HH := Lib.hid hh
  by_cases h20 : 20 < n
  · clear hp hk hh
    go_enter Tryd.func9, Tryd.ntmps9
    go_wp2_with (first
      | (go_at_call 20; (with_reducible refine (HAW.out _ HH.out).mono ?_); rintro e w1 ⟨rfl, hh1⟩; have HH1 := Lib.hid hh1; clear hh1)
      | (go_at_call 20; (with_reducible refine (HAW.out _ HH1.out).mono ?_); rintro e w2 ⟨rfl, hh2⟩; have HH2 := Lib.hid hh2; clear hh2))
    go_returns
    exact ⟨rfl, HH2.out⟩
  · have HP := Lib.hid hp; have HK := Lib.hid hk
    clear hp hk hh
    go_enter Tryd.func9, Tryd.ntmps9
    go_wp2_with (first
      | (go_at_call 20; (with_reducible refine (HAW.out _ HH.out).mono ?_); rintro e w1 ⟨rfl, hh1⟩; have HH1 := Lib.hid hh1; clear hh1))
    obtain ⟨s, hsS⟩ : ∃ s, Hid (w1.heap.size = s) := ⟨_, rfl⟩
    have h0 : Holds (w1.alloc (.cells #[.slice none 0 0, .int .i64 0] 44)) (StH s [] 0 :: R) := by
      have := HH1.out.st_new
      rwa [hsS.out] at this
    rw [hsS.out]
    generalize w1.alloc (.cells #[.slice none 0 0, .int .i64 0] 44) = w2 at h0 ⊢
    have H0 := Lib.hid h0
    clear h0
    go_loopw [4, 21] (fun vd i wr => ∃ k d : Nat, k ≤ n ∧ i = .int .i64 k ∧ vd = .int .i64 d ∧ d ≤ 301 * k ∧ Holds wr (StH s [] d :: R)) (fun _ i _ => n - (intOf i).toNat)
    case atStart => exact ⟨0, 0, by omega, rfl, rfl, by omega, H0.out⟩
    case round =>
      obtain ⟨k, d, hk, rfl, rfl, hd, hq⟩ := hrel
      by_cases hlt : k < n
      · have hkl : k < l.length := by rw [← hn.out]; exact hlt
        obtain ⟨g, o, rfl, -⟩ := (HP.out _ hq.tail).at_ (by intro e; subst e; simp at hkl)
        have hcell : ∀ w', Holds w' R → w'.cell? ⟨g, o + k * 3, none⟩ = some (.int .u8 (l[k].t.toNat : Int)) ∧ w'.cell? ⟨g, o + k * 3 + 1, none⟩ = some (.slice l[k].A l[k].n l[k].c) ∧ w'.cell? ⟨g, o + k * 3 + 2, none⟩ = some (.slice l[k].B l[k].m l[k].d) := fun w' hw' => by
          obtain ⟨g', o', e, ck'⟩ := (HP.out w' hw').at_ (by intro e; subst e; simp at hkl)
          simp only [Option.some.injEq, Addr.mk.injEq, and_true] at e
          obtain ⟨rfl, rfl⟩ := e
          exact ck' k hkl
        have hok : ∀ w', Holds w' R → l[k].Ok w' := fun w' hw' => (HP.out w' hw').ok _ (List.getElem_mem hkl)
        have hok0 := hok _ hq.tail
        have HNn := Lib.hid hok0.n; have hcn := hok0.c; have hcm := hok0.cm
        have HNm := Lib.hid hok0.m; have hdm := hok0.d; have hdd := hok0.dm
        have hrb : Ent R fun w => RD w l[k].A l[k].xs := fun w' hw' => (hok w' hw').rd
        have hrj : Ent R fun w => RD w l[k].B l[k].ys := fun w' hw' => (hok w' hw').rd'
        clear hok hok0
        generalize l[k].t = t at hcell
        generalize l[k].A = Ab at hcell hrb
        generalize l[k].n = nb at hcell HNn hcn
        generalize l[k].c = cb at hcell hcn hcm
        generalize l[k].xs = xs at HNn hrb
        generalize l[k].B = Aj at hcell hrj
        generalize l[k].m = nj at hcell HNm hdm
        generalize l[k].d = cj at hcell hdm hdd
        generalize l[k].ys = ys at HNm hrj
        have HCE := Lib.hid hcell; have HRB := Lib.hid hrb; have HRJ := Lib.hid hrj
        clear hcell hrb hrj hkl
        have HQ := Lib.hid hq.drew
        have hmx := mx_int t
        have hmx0 := mx_ne t
        generalize mx t = t1 at hmx hmx0
        have HMX := Lib.hid hmx; clear hmx
        have HX1 : Hid (xs.length ≤ 300 → encF t1 xs = (encB t1 xs, 0)) := fun h => by unfold encF; rw [if_neg hmx0, if_neg (by omega)]
        have HX2 : Hid (xs.length ≤ 300 → ∀ j : List UInt8, (∀ x ∈ j, x ≠ 114) → strF (j ++ encB t1 xs) = ([(t1, xs)], j.length, [])) := fun h j hj => by
          have := strF_enc t1 xs [] hmx0 (by omega)
          rw [List.append_nil, strF_nil] at this
          rw [strF_junk j _ hj, this]; simp
        have i1 : (0 : Int) ≤ (k : Int) := by omega
        have i2 : (k : Int) < n := by omega
        clear hq
        go_wp2
        refine wp_region_held_drew (S := (fun w' => Holds w' R)) (by kernel_rfl) ?_ (fun hHeld => ?_)
        · exact HQ.out.tail
        refine takeH 0 ?_ rfl (by kernel_rfl) (by kernel_rfl) (by kernel_rfl) (fun _ _ _ h => h) (by kernel_rfl) (by assumption) (fun w hSw => ?_) ?_
        rotate_left
        · (try dsimp only at hSw); go_simp <;> (try with_reducible rfl)
        try simp only [Act.put, List.setIfInBounds_toArray, List.set_cons_zero, List.set_cons_succ]
        refine takeH 1 ?_ rfl (by kernel_rfl) (by kernel_rfl) (by kernel_rfl) (fun _ _ _ h => h) (by kernel_rfl) (by assumption) (fun w hSw => ?_) ?_
        rotate_left
        · (try dsimp only at hSw); go_simp <;> (try with_reducible rfl)
        try simp only [Act.put, List.setIfInBounds_toArray, List.set_cons_zero, List.set_cons_succ]
        refine takeH 2 ?_ rfl (by kernel_rfl) (by kernel_rfl) (by kernel_rfl) (fun _ _ _ h => h) (by kernel_rfl) (by assumption) (fun w hSw => ?_) ?_
        rotate_left
        · (try dsimp only at hSw); go_simp <;> (try with_reducible rfl)
        try simp only [Act.put, List.setIfInBounds_toArray, List.set_cons_zero, List.set_cons_succ]
        refine takeH 3 ?_ rfl (by kernel_rfl) (by kernel_rfl) (by kernel_rfl) (fun _ _ _ h => h) (by kernel_rfl) (by assumption) (fun w hSw => ?_) ?_
        rotate_left
        · (try dsimp only at hSw); go_simp <;> (try with_reducible rfl)
        try simp only [Act.put, List.setIfInBounds_toArray, List.set_cons_zero, List.set_cons_succ]
        refine takeH 4 ?_ rfl (by kernel_rfl) (by kernel_rfl) (by kernel_rfl) (fun _ _ _ h => h) (by kernel_rfl) (by assumption) (fun w hSw => ?_) ?_
        rotate_left
        · obtain ⟨ca, -, -⟩ := HCE.out _ hSw
          clear hSw; go_simp <;> (try with_reducible rfl)
        try simp only [Act.put, List.setIfInBounds_toArray, List.set_cons_zero, List.set_cons_succ]
        refine takeH 5 ?_ rfl (by kernel_rfl) (by kernel_rfl) (by kernel_rfl) (fun _ _ _ h => h) (by kernel_rfl) (by assumption) (fun w hSw => ?_) ?_
        rotate_left
        · (try dsimp only at hSw); go_simp <;> (try with_reducible rfl)
        try simp only [Act.put, List.setIfInBounds_toArray, List.set_cons_zero, List.set_cons_succ]
        refine takeH 6 ?_ rfl (by kernel_rfl) (by kernel_rfl) (by kernel_rfl) (fun _ _ _ h => h) (by kernel_rfl) (by assumption) (fun w hSw => ?_) ?_
        rotate_left
        · (try dsimp only at hSw); go_simp <;> (try with_reducible rfl)
        try simp only [Act.put, List.setIfInBounds_toArray, List.set_cons_zero, List.set_cons_succ]
        refine takeH 7 ?_ rfl (by kernel_rfl) (by kernel_rfl) (by kernel_rfl) (fun _ _ _ h => h) (by kernel_rfl) (by assumption) (fun w hSw => ?_) ?_
        rotate_left
        · (try dsimp only at hSw); go_simp <;> (try with_reducible rfl)
        try simp only [Act.put, List.setIfInBounds_toArray, List.set_cons_zero, List.set_cons_succ]
        refine takeH 8 ?_ rfl (by kernel_rfl) (by kernel_rfl) (by kernel_rfl) (fun _ _ _ h => h) (by kernel_rfl) (by assumption) (fun w hSw => ?_) ?_
        rotate_left
        · (try dsimp only at hSw); go_simp <;> (try with_reducible rfl)
        try simp only [Act.put, List.setIfInBounds_toArray, List.set_cons_zero, List.set_cons_succ]
        refine takeH 9 ?_ rfl (by kernel_rfl) (by kernel_rfl) (by kernel_rfl) (fun _ _ _ h => h) (by kernel_rfl) (by assumption) (fun w hSw => ?_) ?_
        rotate_left
        · (try dsimp only at hSw); go_simp <;> (try with_reducible rfl)
        try simp only [Act.put, List.setIfInBounds_toArray, List.set_cons_zero, List.set_cons_succ]
        refine takeH 10 ?_ rfl (by kernel_rfl) (by kernel_rfl) (by kernel_rfl) (fun _ _ _ h => h) (by kernel_rfl) (by assumption) (fun w hSw => ?_) ?_
        rotate_left
        · obtain ⟨-, ca, -⟩ := HCE.out _ hSw
          clear hSw; go_simp <;> (try with_reducible rfl)
        try simp only [Act.put, List.setIfInBounds_toArray, List.set_cons_zero, List.set_cons_succ]
        refine takeH 11 ?_ rfl (by kernel_rfl) (by kernel_rfl) (by kernel_rfl) (fun _ _ _ h => h) (by kernel_rfl) (by assumption) (fun w hSw => ?_) ?_
        rotate_left
        · (try dsimp only at hSw); go_simp <;> (try with_reducible rfl)
        try simp only [Act.put, List.setIfInBounds_toArray, List.set_cons_zero, List.set_cons_succ]
        simp only [HMX.out]
        refine effH 12 rfl (by kernel_rfl) (by kernel_rfl) (fun K hK => ?_)
        go_simp
        have hs2 := HQ.out.alloc 30 #[.int .u8 0, .slice none 0 0]
        refine hK.out _ _ hs2.tail.tail (fun hHeld => ?_)
        clear hK K hHeld
        obtain ⟨gf, hgf⟩ : ∃ gf, Hid (wr.heap.size = gf) := ⟨_, rfl⟩
        have hs3 : Holds (wr.alloc (.cells #[.int .u8 0, .slice none 0 0] 30)).drew (blk gf 30 #[.int .u8 0, .slice none 0 0] :: StH s [] d :: R) := by rw [← hgf.out]; exact hs2
        rw [hgf.out]
        generalize (wr.alloc (.cells #[.int .u8 0, .slice none 0 0] 30)).drew = w3 at hs3 ⊢
        have c0 : w3.cell? ⟨gf, 0, none⟩ = some (.int .u8 0) := (hs3.cells 0).trans rfl
        have c1 : w3.cell? ⟨gf, 1, none⟩ = some (.slice none 0 0) := (hs3.cells 1).trans rfl
        have f0 := hs3.free 0; have f1 := hs3.free 1
        refine effH 13 rfl (by kernel_rfl) (by kernel_rfl) (fun K hK => ?_)
        go_simp
        have hs4 := (hs3.set_ 0 (.int .u8 (t1.toNat : Int))).set_ 1 (.slice Ab nb cb)
        refine hK.out _ _ hs4.tail.tail (fun hHeld => ?_)
        clear hK K hHeld c0 c1 f0 f1 hs2 hs3
        have hs5 : Holds ((w3.setCell ⟨gf, 0, none⟩ (.int .u8 (t1.toNat : Int))).setCell ⟨gf, 1, none⟩ (.slice Ab nb cb)) (blk gf 30 #[.int .u8 (t1.toNat : Int), .slice Ab nb cb] :: StH s [] d :: R) := hs4
        clear hs4
        generalize (w3.setCell ⟨gf, 0, none⟩ (.int .u8 (t1.toNat : Int))).setCell ⟨gf, 1, none⟩ (.slice Ab nb cb) = w4 at hs5 ⊢
        refine wpAnyH_done (by kernel_rfl) ?_ _
        obtain ⟨cj0, cj1, cj2⟩ := HCE.out _ hs5.tail.tail
        have HH5 := Lib.hid hs5
        clear hs5
        go_wp2
        go_loopw [43] (fun v wr2 => ∃ j : Nat, j ≤ nj ∧ j ≤ 301 ∧ v = .int .i64 j ∧ wr2 = w4 ∧ Hid (∀ x ∈ ys.take j, x ≠ 114)) (fun v _ => nj - (intOf v).toNat)
        case atStart => exact ⟨0, by omega, by omega, rfl, rfl, by unfold Hid; simp⟩
        case round =>
          obtain ⟨j, hj, hj3, rfl, rfl, hall⟩ := hrel
          by_cases hlj : j < nj
          · have hjl : j < ys.length := by rw [← HNm.out]; exact hlj
            have hrw := HRJ.out _ HH5.out.tail.tail
            obtain ⟨gj, oj, rfl, -⟩ := hrw.addr (ne_nil_of_len HNm (by omega))
            have cc := hrw.cellAt hjl
            have hts : ys.take (j + 1) = ys.take j ++ [ys.getD j 0] := by
              rw [List.take_succ_eq_append_getElem hjl]; simp [List.getD, hjl]
            generalize ys.getD j 0 = y at cc hts
            have HRW := Lib.hid hrw
            have HTS := Lib.hid hts
            clear hrw hts hjl
            by_cases hy : y = 114
            · subst hy
              have cc2 : wr.cell? ⟨gj, oj + j, none⟩ = some (.int .u8 114) := cc
              clear cc
              go_wp2
              go_returns
              exact ⟨rfl, HH5.out.tail.tail⟩
            · have hyI : ((y.toNat : Int) == 114) = false := by simpa using u8_neI (k := 114) hy (by decide)
              by_cases h301 : j = 301
              · subst h301
                go_wp2
                go_returns
                exact ⟨rfl, HH5.out.tail.tail⟩
              · have hj4 : j ≤ 300 := by omega
                have HA : Hid (∀ x ∈ ys.take (j + 1), x ≠ 114) := by
                  unfold Hid
                  rw [HTS.out]
                  intro x hx
                  rcases List.mem_append.1 hx with hx | hx
                  · exact hall.out x hx
                  · obtain rfl : x = y := by simpa using hx
                    exact hy
                go_wp2
                go_roundw
                case rel => exact ⟨j + 1, by omega, by omega, by go_num, trivial, HA⟩
                case measure => simp [intOf]; omega
          · obtain rfl : j = nj := by omega
            have HA : Hid (∀ x ∈ ys, x ≠ 114) := by
              have := hall.out
              rwa [List.take_of_length_le (by rw [← HNm.out]; omega)] at this
            have d0 := HH5.out.cells 0
            have d1 := HH5.out.cells 1
            by_cases hb3 : 300 < nb
            · go_wp2
              go_returns
              exact ⟨rfl, HH5.out.tail.tail⟩
            · have hxl : xs.length ≤ 300 := by rw [← HNn.out]; omega
              have hst := HX2.out hxl ys HA.out
              have HE := Lib.hid (fun w' P1 P2 (h : Holds w' (P1 :: P2 :: R)) => rencode_ok t1 Ab nb cb xs w' _ h (HRB.out.cons _ |>.cons _) HNn.out hcn (by omega))
              rw [HX1.out hxl] at HE
              have hll : (encB t1 xs).length ≤ 310 := by rw [length_encB]; omega
              generalize encB t1 xs = L at HE hst hll
              have HST := Lib.hid hst; have HLL := Lib.hid hll
              clear hst hll
              go_wp2_with (first
                | (go_at_call 14; (with_reducible refine (HE.out _ _ _ HH5.out).mono ?_); rintro e w6 ⟨v6, rfl, hh6⟩; obtain ⟨A6, n6, c6, rfl, hn6, hc6, -⟩ := hh6.own_form
                   have HH6 := Lib.hid hh6; clear hh6))
              have HCF := Lib.hid (fun w' (h : Holds w' (blk gf 30 #[.int .u8 (t1.toNat : Int), .slice Ab nb cb] :: R)) => show w'.cell? ⟨gf, 0, none⟩ = some (.int .u8 (t1.toNat : Int)) ∧ w'.cell? ⟨gf, 1, none⟩ = some (.slice Ab nb cb) from ⟨(h.cells 0).trans rfl, (h.cells 1).trans rfl⟩)
              have hyl : ys.length ≤ 301 := by rw [← HNm.out]; exact hj3
              have HYL := Lib.hid hyl; clear hyl d0 d1
              have hs0 : Holds w6.drew (StH s [] d :: blk gf 30 #[.int .u8 (t1.toNat : Int), .slice Ab nb cb] :: own (.slice A6 n6 c6) L :: R) := (HH6.out.drew.pull 2 rfl).perm ((List.Perm.swap _ _ _).cons _)
              refine wp_region_held_drew (S := (fun w' => Holds w' (blk gf 30 #[.int .u8 (t1.toNat : Int), .slice Ab nb cb] :: R))) (by kernel_rfl) ?_ (fun hHeld => ?_)
              · exact hs0.tail.drop 1 rfl
              refine takeH 1 ?_ rfl (by kernel_rfl) (by kernel_rfl) (by kernel_rfl) (fun _ _ _ h => h) (by kernel_rfl) (by assumption) (fun w hSw => ?_) ?_
              rotate_left
              · (try dsimp only at hSw); go_simp <;> (try with_reducible rfl)
              try simp only [Act.put, List.setIfInBounds_toArray, List.set_cons_zero, List.set_cons_succ]
              refine takeH 3 ?_ rfl (by kernel_rfl) (by kernel_rfl) (by kernel_rfl) (fun _ _ _ h => h) (by kernel_rfl) (by assumption) (fun w hSw => ?_) ?_
              rotate_left
              · (try dsimp only at hSw); go_simp <;> (try with_reducible rfl)
              try simp only [Act.put, List.setIfInBounds_toArray, List.set_cons_zero, List.set_cons_succ]
              refine takeH 6 ?_ rfl (by kernel_rfl) (by kernel_rfl) (by kernel_rfl) (fun _ _ _ h => h) (by kernel_rfl) (by assumption) (fun w hSw => ?_) ?_
              rotate_left
              · obtain ⟨ca, cb⟩ := HCF.out _ hSw
                clear hSw; go_simp <;> (try with_reducible rfl)
              try simp only [Act.put, List.setIfInBounds_toArray, List.set_cons_zero, List.set_cons_succ]
              refine wpAnyH_phaseA (fun a0 listed a w' => ∃ (b0 b2 b4 b5 b7 : Bool) (g0 g7 n2 c2 n4 c4 n5 c5 : Nat) (A2 A4 A5 : Option Addr),
                listed = #[b0, true, b2, true, b4, b5, true, b7, false, false, false, false, false, false, false, false, false, false, false] ∧
                a = ((((a0.put (some 69) (Fl b0 (.slice (some ⟨g0, 0, none⟩) 0 0) (a0.tmps.getD 69 undef))).put (some 71) (Fl b2 (.slice A2 n2 c2) (a0.tmps.getD 71 undef))).put (some 73) (Fl b4 (.slice A4 n4 c4) (a0.tmps.getD 73 undef))).put (some 74) (Fl b5 (.slice A5 n5 c5) (a0.tmps.getD 74 undef))).put (some 76) (Fl b7 (.slice (some ⟨g7, 0, none⟩) 1 1) (a0.tmps.getD 76 undef)) ∧
                (b2 = true → b0 = true) ∧ (b4 = true → b2 = true) ∧ (b5 = true → b4 = true) ∧ Hid (n4 = (ys ++ L).length) ∧ n4 ≤ c4 ∧
                Holds w' ((if b4 = true then own (.slice A4 n4 c4) (ys ++ L) else if b2 = true then own (.slice A2 n2 c2) ys else opt b0 (own (.slice (some ⟨g0, 0, none⟩) 0 0) [])) :: opt b5 (FrH 28 (.slice A5 n5 c5) [(t1, xs)]) :: StH s [] (if b5 = true then d + j else d) :: opt b7 (blk g7 30 #[.int .u8 (t1.toNat : Int), .slice Ab nb cb]) :: blk gf 30 #[.int .u8 (t1.toNat : Int), .slice Ab nb cb] :: own (.slice A6 n6 c6) L :: R))
                18 #[true, true, true, true, true, true, true, true, false, false, false, false, false, false, false, false, false, false, false] 11 (by kernel_rfl) (by kernel_rfl) (by kernel_rfl) ?h0 ?hJ ?hend ?hstep
              case h0 => exact ⟨false, false, false, false, false, 0, 0, 0, 0, (ys ++ L).length, (ys ++ L).length, 0, 0, none, none, none, rfl, rfl, fun h => h, fun h => h, fun h => h, rfl, Nat.le_refl _, ((hs0.emp_cons.push_ 1 (by simp)).emp_cons).emp_cons⟩
              case hJ =>
                rintro _ _ _ ⟨_, _, _, _, _, _, _, _, _, _, _, _, _, _, _, _, rfl, -, -, -, -, -, -, h⟩
                exact ⟨rfl, rfl, (h.tail.tail.tail.tail).drop 1 rfl⟩
              case hstep =>
                rintro _ _ w7 ⟨b0, b2, b4, b5, b7, g0, g7, n2, c2, n4, c4, n5, c5, A2, A4, A5, rfl, rfl, h20', h42, h54, hn4, hc4, hh⟩
                refine ⟨fun hne hun hdep => ?_, fun hne hun hdep => ?_, fun hne hun hdep => ?_, fun hne hun hdep => ?_, fun hne hun hdep => ?_, fun hne hun hdep => ?_, fun hne hun hdep => ?_, fun hne hun hdep => ?_, fun hne hun hdep => ?_, fun hne hun hdep => ?_, fun hne hun hdep => ?_, fun hne hun hdep => ?_, fun hne hun hdep => ?_, fun hne hun hdep => ?_, fun hne hun hdep => ?_, fun hne hun hdep => ?_, fun hne hun hdep => ?_, fun hne hun hdep => ?_, fun hne hun hdep => ?_, trivial⟩
                all_goals (try exact Bool.noConfusion (show true = false from hun))
                · obtain rfl : b0 = false := hun
                  obtain rfl : b2 = false := by cases b2 with | false => rfl | true => exact (h20' rfl).symm
                  obtain rfl : b4 = false := by cases b4 with | false => rfl | true => exact (h42 rfl).symm
                  refine ⟨rfl, fun K hK => ?_⟩
                  clear hne hdep
                  simp only [Act.put, List.setIfInBounds_toArray, List.set_cons_zero, List.set_cons_succ]
                  go_simp
                  exact hK.out _ _ ⟨true, false, false, b5, b7, w7.heap.size, g7, n2, c2, n4, c4, n5, c5, A2, A4, A5, rfl, rfl, fun _ => rfl, h42, h54, hn4, hc4, (hh.own_empty).drop 1 rfl⟩
                · obtain rfl : b2 = false := hun
                  obtain rfl : b0 = true := by cases b0 with | true => rfl | false => exact Bool.noConfusion (show false = true from hdep)
                  obtain rfl : b4 = false := by cases b4 with | false => rfl | true => exact (h42 rfl).symm
                  refine ⟨rfl, fun K hK => ?_⟩
                  clear hne hdep
                  have hh' : Holds w7 (own (.slice (some ⟨g0, 0, none⟩) 0 0) [] :: _) := hh
                  refine wp_app_sl (.tmp 69) (.tmp 70) 22 rfl Tryd.underlying22 Tryd.infoByte _ [] hh' rfl Aj ys j cj HNm.out rfl (HRJ.out _ hh'.tail.tail.tail.tail.tail.tail) (by have := HYL.out; simp; omega) ?_
                  intro v8 w8 hh8
                  rw [List.nil_append] at hh8
                  obtain ⟨A8, n8, c8, rfl, hn8, hc8, -⟩ := hh8.own_form
                  exact hK.out _ _ ⟨true, true, false, b5, b7, g0, g7, n8, c8, n4, c4, n5, c5, A8, A4, A5, rfl, rfl, fun _ => rfl, fun h => Bool.noConfusion h, h54, hn4, hc4, hh8⟩
                · obtain rfl : b4 = false := hun
                  obtain rfl : b2 = true := by cases b2 with | true => rfl | false => exact Bool.noConfusion (show false = true from hdep)
                  obtain rfl : b0 = true := h20' rfl
                  obtain rfl : b5 = false := by cases b5 with | false => rfl | true => exact (h54 rfl).symm
                  refine ⟨rfl, fun K hK => ?_⟩
                  clear hne hdep
                  have hh' : Holds w7 (own (.slice A2 n2 c2) ys :: _) := hh
                  refine wp_app_sl (.tmp 71) (.tmp 72) 22 rfl Tryd.underlying22 Tryd.infoByte _ ys hh' rfl A6 L n6 c6 hn6 rfl (hh'.pull 5 rfl).own_rd (by have := HYL.out; have := HLL.out; omega) ?_
                  intro v8 w8 hh8
                  obtain ⟨A8, n8, c8, rfl, hn8, hc8, -⟩ := hh8.own_form
                  exact hK.out _ _ ⟨true, true, true, false, b7, g0, g7, n2, c2, n8, c8, n5, c5, A2, A8, A5, rfl, rfl, fun _ => rfl, fun _ => rfl, fun h => Bool.noConfusion h, hn8, hc8, hh8⟩
                · obtain rfl : b5 = false := hun
                  obtain rfl : b4 = true := by cases b4 with | true => rfl | false => exact Bool.noConfusion (show false = true from hdep)
                  obtain rfl : b2 = true := h42 rfl
                  obtain rfl : b0 = true := h20' rfl
                  refine ⟨rfl, fun K hK => ?_⟩
                  clear hne hdep
                  simp only [Act.put, List.setIfInBounds_toArray, List.set_cons_zero, List.set_cons_succ, Fl_true]
                  go_simp
                  have hh' : Holds w7 (StH s [] d :: own (.slice A4 n4 c4) (ys ++ L) :: emp :: opt b7 (blk g7 30 #[.int .u8 (t1.toNat : Int), .slice Ab nb cb]) :: blk gf 30 #[.int .u8 (t1.toNat : Int), .slice Ab nb cb] :: own (.slice A6 n6 c6) L :: R) := hh.pull 2 rfl
                  refine (sfeed_ok A4 n4 c4 (ys ++ L) hh' Ent.own hn4 hc4 (by have := HYL.out; have := HLL.out; simp; omega) (by omega) (HK.out.cons _ |>.cons _ |>.cons _ |>.cons _ |>.cons _)).mono ?_
                  rintro e w8 ⟨v8, rfl, hh8⟩
                  rw [List.nil_append, HST.out, ← HNm.out] at hh8
                  obtain ⟨A8, n8, c8, rfl, -, -⟩ := hh8.fr_form
                  exact hK.out _ _ ⟨true, true, true, true, b7, g0, g7, n2, c2, n4, c4, n8, c8, A2, A4, A8, rfl, rfl, fun _ => rfl, fun _ => rfl, fun _ => rfl, hn4, hc4, (hh8.pull 2 rfl).drop 3 rfl⟩
                · obtain rfl : b7 = false := hun
                  refine ⟨rfl, fun K hK => ?_⟩
                  clear hne hdep
                  simp only [Act.put, List.setIfInBounds_toArray, List.set_cons_zero, List.set_cons_succ]
                  go_simp
                  exact hK.out _ _ ⟨b0, b2, b4, b5, true, g0, w7.heap.size, n2, c2, n4, c4, n5, c5, A2, A4, A5, rfl, rfl, h20', h42, h54, hn4, hc4, ((hh.alloc 30 #[.int .u8 (t1.toNat : Int), .slice Ab nb cb]).drop 4 rfl).push_ 3 (by simp)⟩
                all_goals
                  exfalso
                  clear hh
                  revert hne hdep h20' h42 h54
                  cases b0 <;> cases b2 <;> cases b4 <;> cases b5 <;> cases b7 <;> intro h20' h42 h54 hne hdep <;> first | exact absurd rfl hne | exact Bool.noConfusion (show false = true from hdep) | exact Bool.noConfusion (h20' rfl) | exact Bool.noConfusion (h42 rfl) | exact Bool.noConfusion (h54 rfl)
              case hend =>
                rintro _ w7 ⟨b0, b2, b4, b5, b7, g0, g7, n2, c2, n4, c4, n5, c5, A2, A4, A5, hl, rfl, -, -, -, -, -, hh⟩
                simp only [Array.mk.injEq, List.cons.injEq, true_and, and_true] at hl
                obtain ⟨rfl, rfl, rfl, rfl, rfl⟩ := hl
                have hk2 : Holds w7 (FrH 28 (.slice A5 n5 c5) [(t1, xs)] :: own (.slice A4 n4 c4) (ys ++ L) :: StH s [] (d + j) :: blk g7 30 (FS.cells ⟨t1, Ab, nb, cb, xs⟩).toArray :: blk gf 30 #[.int .u8 (t1.toNat : Int), .slice Ab nb cb] :: own (.slice A6 n6 c6) L :: R) := hh.pull 1 rfl
                obtain ⟨l5, hl1, hl2, hl⟩ := hk2.frs
                obtain ⟨A9, c9, hv, -, -, -⟩ := hl.row_form
                simp only [Value.slice.injEq] at hv
                obtain ⟨rfl, rfl, rfl⟩ := hv
                have hl5 : l5.length ≤ 1 := by have := congrArg List.length hl1.out; simp at this; omega
                clear hh hk2
                simp only [Act.put, List.setIfInBounds_toArray, List.set_cons_zero, List.set_cons_succ, Fl_true]
                refine effH 8 rfl (by kernel_rfl) (by kernel_rfl) (fun K hK => ?_)
                go_simp
                have hl9 : Holds w7 (blk g7 30 (FS.cells ⟨t1, Ab, nb, cb, xs⟩).toArray :: row 28 2 (.slice A5 l5.length c5) l5.length (fsCells l5) :: fsBodies l5 :: own (.slice A4 n4 c4) (ys ++ L) :: StH s [] (d + j) :: blk gf 30 #[.int .u8 (t1.toNat : Int), .slice Ab nb cb] :: own (.slice A6 n6 c6) L :: R) := hl.pull 4 rfl
                have hfb := FsAt.of_blk (T := 30) (g := g7) (f := ⟨t1, Ab, nb, cb, xs⟩) (HRB.out.cons (own (.slice A6 n6 c6) L) |>.cons (blk gf 30 #[.int .u8 (t1.toNat : Int), .slice Ab nb cb]) |>.cons (StH s [] (d + j)) |>.cons (own (.slice A4 n4 c4) (ys ++ L)) |>.cons (fsBodies l5) |>.cons (row 28 2 (.slice A5 l5.length c5) l5.length (fsCells l5))) ⟨HNn.out, hcn⟩
                have hfa := (FsAt.of_frs (T := 28) (A := A5) (c := c5) (R := own (.slice A4 n4 c4) (ys ++ L) :: StH s [] (d + j) :: blk gf 30 #[.int .u8 (t1.toNat : Int), .slice Ab nb cb] :: own (.slice A6 n6 c6) L :: R) hl2).cons (blk g7 30 (FS.cells ⟨t1, Ab, nb, cb, xs⟩).toArray)
                have hfe : Hid (l5.map FS.frm = [FS.frm ⟨t1, Ab, nb, cb, xs⟩]) := hl1
                refine (slist_ok A5 l5.length c5 (some ⟨g7, 0, none⟩) 1 1 l5 [⟨t1, Ab, nb, cb, xs⟩] w7 _ hl9 hfa hfb rfl rfl hfe (by omega)).mono ?_
                rintro e w8 ⟨rfl, hh8⟩
                refine hK.out _ _ (hh8.tail.tail.tail.tail.tail.drop 1 rfl) (fun hHeld => ?_)
                clear hK K
                refine takeH 9 ?_ rfl (by kernel_rfl) (by kernel_rfl) (by kernel_rfl) (fun _ _ _ h => h) (by kernel_rfl) (by assumption) (fun w hSw => ?_) ?_
                rotate_left
                · (try dsimp only at hSw); go_simp <;> (try with_reducible rfl)
                try simp only [Act.put, List.setIfInBounds_toArray, List.set_cons_zero, List.set_cons_succ]
                refine takeH 10 ?_ rfl (by kernel_rfl) (by kernel_rfl) (by kernel_rfl) (fun _ _ _ h => h) (by kernel_rfl) (by assumption) (fun w hSw => ?_) ?_
                rotate_left
                · (try dsimp only at hSw); go_simp <;> (try with_reducible rfl)
                try simp only [Act.put, List.setIfInBounds_toArray, List.set_cons_zero, List.set_cons_succ]
                refine takeH 12 ?_ rfl (by kernel_rfl) (by kernel_rfl) (by kernel_rfl) (fun _ _ _ h => h) (by kernel_rfl) (by assumption) (fun w hSw => ?_) ?_
                rotate_left
                · (try dsimp only at hSw); go_simp <;> (try with_reducible rfl)
                try simp only [Act.put, List.setIfInBounds_toArray, List.set_cons_zero, List.set_cons_succ]
                refine effH 11 rfl (by kernel_rfl) (by kernel_rfl) (fun K hK => ?_)
                go_simp
                refine (sdropped_ok (hh8.pull 4 rfl)).mono ?_
                rintro e w9 ⟨rfl, rfl⟩
                refine hK.out _ _ hHeld (fun hHeld => ?_)
                clear hK K
                refine takeH 13 ?_ rfl (by kernel_rfl) (by kernel_rfl) (by kernel_rfl) (fun _ _ _ h => h) (by kernel_rfl) (by assumption) (fun w hSw => ?_) ?_
                rotate_left
                · (try dsimp only at hSw); go_simp <;> (try with_reducible rfl)
                try simp only [Act.put, List.setIfInBounds_toArray, List.set_cons_zero, List.set_cons_succ]
                refine takeH 14 ?_ rfl (by kernel_rfl) (by kernel_rfl) (by kernel_rfl) (fun _ _ _ h => h) (by kernel_rfl) (by assumption) (fun w hSw => ?_) ?_
                rotate_left
                · (try dsimp only at hSw); go_simp <;> (try with_reducible rfl)
                try simp only [Act.put, List.setIfInBounds_toArray, List.set_cons_zero, List.set_cons_succ]
                refine takeH 15 ?_ rfl (by kernel_rfl) (by kernel_rfl) (by kernel_rfl) (fun _ _ _ h => h) (by kernel_rfl) (by assumption) (fun w hSw => ?_) ?_
                rotate_left
                · (try dsimp only at hSw); go_simp <;> (try with_reducible rfl)
                try simp only [Act.put, List.setIfInBounds_toArray, List.set_cons_zero, List.set_cons_succ]
                refine effH 16 rfl (by kernel_rfl) (by kernel_rfl) (fun K hK => ?_)
                go_simp
                refine (swaits_ok (hh8.pull 4 rfl)).mono ?_
                rintro e w9 ⟨rfl, rfl⟩
                refine hK.out _ _ hHeld (fun hHeld => ?_)
                clear hK K
                refine takeH 17 ?_ rfl (by kernel_rfl) (by kernel_rfl) (by kernel_rfl) (fun _ _ _ h => h) (by kernel_rfl) (by assumption) (fun w hSw => ?_) ?_
                rotate_left
                · (try dsimp only at hSw); go_simp <;> (try with_reducible rfl)
                try simp only [Act.put, List.setIfInBounds_toArray, List.set_cons_zero, List.set_cons_succ]
                refine takeH 18 ?_ rfl (by kernel_rfl) (by kernel_rfl) (by kernel_rfl) (fun _ _ _ h => h) (by kernel_rfl) (by assumption) (fun w hSw => ?_) ?_
                rotate_left
                · (try dsimp only at hSw); go_simp <;> (try with_reducible rfl)
                try simp only [Act.put, List.setIfInBounds_toArray, List.set_cons_zero, List.set_cons_succ]
                refine wpAnyH_done (by kernel_rfl) ?_ _
                have HH9 := Lib.hid (hh8.tail.tail.tail.tail.drop 1 rfl |>.drop 1 rfl)
                clear hh8 hHeld hl9 hfb hfa hfe hl
                go_wp2
                go_roundw
                case rel => exact ⟨k + 1, d + j, by omega, by go_num, by go_num, by omega, HH9.out⟩
                case measure => simp [intOf]; omega
      · have HQ := Lib.hid hq
        have HSD := Lib.hid (sdropped_ok hq)
        have hd2 : d ≤ 6020 := by omega
        clear hq
        go_wp2_with (first
          | (go_at_call 25; (with_reducible refine HSD.out.mono ?_); rintro e w11 ⟨rfl, rfl⟩))
        go_returns
        exact ⟨rfl, HQ.out.tail⟩
end Go.Proofs.YtmaiokjcgijdcaaDoor
