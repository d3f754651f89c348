/- the stream laws: StreamFrames -/
import Derived.Test.YtmaiokjcgijdcaaDoorStreamF
import Derived.Test.YtmaiokjcgijdcaaDoorSl
namespace Go.Proofs.YtmaiokjcgijdcaaDoor
open Go.RowKit HP

/-- the pieces' frames -/
def pcF (p : PC) : FS := ⟨mx p.t, p.A, p.n, p.c, p.xs⟩
def pcB (l : List PC) : List UInt8 := l.flatMap fun p => encB (mx p.t) p.xs
theorem pcB_snoc {l : List PC} {k : Nat} (hk : k < l.length) : pcB (l.take (k + 1)) = pcB (l.take k) ++ encB (mx l[k].t) l[k].xs := by
  unfold pcB
  rw [List.take_succ_eq_append_getElem hk, List.flatMap_append]
  simp
theorem pcF_snoc {l : List PC} {k : Nat} (hk : k < l.length) : (l.take (k + 1)).map pcF = (l.take k).map pcF ++ [pcF l[k]] := by
  rw [List.take_succ_eq_append_getElem hk, List.map_append]
  rfl
theorem strF_pcB : ∀ (l : List PC), (∀ p ∈ l, p.xs.length ≤ 1000) → strF (pcB l) = (l.map fun p => (mx p.t, p.xs), 0, [])
  | [], _ => strF_nil
  | p :: l, h => by
    have ih := strF_pcB l (fun q hq => h q (by simp [hq]))
    have he := strF_enc (mx p.t) p.xs (pcB l) (mx_ne _) (h p (by simp))
    rw [show pcB (p :: l) = encB (mx p.t) p.xs ++ pcB l by simp [pcB], he, ih]
    rfl
theorem pcB_len : ∀ (l : List PC), (∀ p ∈ l, p.xs.length ≤ 300) → (pcB l).length ≤ 310 * l.length
  | [], _ => by simp [pcB]
  | p :: l, h => by
    have ih := pcB_len l (fun q hq => h q (by simp [hq]))
    have := h p (by simp)
    rw [show pcB (p :: l) = encB (mx p.t) p.xs ++ pcB l by simp [pcB], List.length_append, length_encB, List.length_cons]
    omega
theorem FsAt.of_pieces {T : TypeId} {A A0 : Option Addr} {c : Nat} {l : List PC} {R : List HP} (hp : Ent R fun w => PcRd w A0 l) {w0 : World} (hw0 : Holds w0 R) : FsAt (HP.row T 2 (.slice A (l.map pcF).length c) (l.map pcF).length (fsCells (l.map pcF)) :: R) A (l.map pcF) := by
  refine ⟨fun _ hw => hw.row_rd, fun f hf w hw => ?_, fun f hf => ?_⟩
  · obtain ⟨p, hp', rfl⟩ := List.mem_map.1 hf
    exact ((hp w hw.tail).ok p hp').rd
  · obtain ⟨p, hp', rfl⟩ := List.mem_map.1 hf
    exact ⟨((hp w0 hw0).ok p hp').n, ((hp w0 hw0).ok p hp').c⟩
set_option maxRecDepth 100000 in
set_option maxHeartbeats 4000000 in
theorem streamFrames_ok (A : Option Addr) (n c : Nat) (l : List PC) (sz : UInt8) (w : World) (R : List HP) (hh : Holds w R) (hp : Ent R fun w => PcRd w A l) (hn : Hid (n = l.length)) (hk : Ent R KF) :
    Calls Tryd.prog 8 #[.slice A n c, .int .u8 (sz.toNat : Int)] w fun e w' => e = .returned (.bool true) ∧ Holds w' R := by
  have HAW := Lib.hid (fun w' (h : Holds w' R) => stawake_ok w' _ h hk)
  have HH := Lib.hid hh
  by_cases h20 : 20 < n
  · clear hp hk hh
    go_enter Tryd.func8, Tryd.ntmps8
    go_wp2_with (first
      | (go_at_call 20; (with_reducible refine (HAW.out _ HH.out).mono ?_); rintro e w1 ⟨rfl, hh1⟩; have HH1 := Lib.hid hh1; clear hh1)
      | (go_at_call 20; (with_reducible refine (HAW.out _ HH1.out).mono ?_); rintro e w2 ⟨rfl, hh2⟩; have HH2 := Lib.hid hh2; clear hh2))
    go_returns
    exact ⟨rfl, HH2.out⟩
  · have HP := Lib.hid hp; have HK := Lib.hid hk
    clear hp hk hh
    go_enter Tryd.func8, Tryd.ntmps8
    go_wp2_with (first
      | (go_at_call 20; (with_reducible refine (HAW.out _ HH.out).mono ?_); rintro e w1 ⟨rfl, hh1⟩; have HH1 := Lib.hid ((hh1.nil_row 30 2).nil_own); clear hh1))
    go_loopw [5, 6, 25] (fun va vw i wr => ∃ k : Nat, k ≤ n ∧ i = .int .i64 k ∧ Hid (∀ p ∈ l.take k, p.xs.length ≤ 300) ∧ Holds wr (own va (pcB (l.take k)) :: row 30 2 vw ((l.take k).map pcF).length (fsCells ((l.take k).map pcF)) :: R)) (fun _ _ i _ => n - (intOf i).toNat)
    case atStart => exact ⟨0, by omega, rfl, by unfold Hid; simp, HH1.out⟩
    case round =>
      obtain ⟨k, hk, rfl, hall, hq⟩ := hrel
      obtain ⟨A5, n5, c5, rfl, hn5, hc5, -⟩ := hq.own_form
      obtain ⟨Aw, cw, rfl, hcw, -, -⟩ := hq.tail.row_form
      by_cases hlt : k < n
      · have hsnB := pcB_snoc (l := l) (k := k) (by rw [← hn.out]; exact hlt)
        have hsnF := pcF_snoc (l := l) (k := k) (by rw [← hn.out]; exact hlt)
        have hbl := pcB_len (l.take k) hall.out
        have htk : l.take (k + 1) = l.take k ++ [l[k]'(by rw [← hn.out]; exact hlt)] := List.take_succ_eq_append_getElem (by rw [← hn.out]; exact hlt)
        have hlk : (l.take k).length ≤ 20 := by rw [List.length_take]; omega
        have HTK : Hid ((l[k]'(by rw [← hn.out]; exact hlt)).xs.length ≤ 300 → ∀ p ∈ l.take (k + 1), p.xs.length ≤ 300) := fun h p hp => by
          rw [htk] at hp
          rcases List.mem_append.1 hp with hp | hp
          · exact hall.out p hp
          · obtain rfl := List.mem_singleton.1 hp
            exact h
        have hml : ((l.take k).map pcF).length ≤ 20 := by rw [List.length_map]; exact hlk
        have hbl2 : (pcB (l.take k)).length ≤ 6200 := by omega
        generalize hbk : pcB (l.take k) = bk at hq hn5 hsnB hbl2
        generalize hlf : (l.take k).map pcF = lf at hq hsnF hml hcw
        clear hbk hlf hbl htk hlk
        have HSB := Lib.hid hsnB; have HSF := Lib.hid hsnF
        clear hsnB hsnF
        have hkl : k < l.length := by rw [← hn.out]; exact hlt
        have HSF2 : Hid ((l.take (k + 1)).map pcF = lf ++ [⟨mx l[k].t, l[k].A, l[k].n, l[k].c, l[k].xs⟩]) := HSF.out
        have HSB2 : Hid (pcB (l.take (k + 1)) = bk ++ encB (mx l[k].t) l[k].xs) := HSB.out
        have HTK2 : Hid (l[k].xs.length ≤ 300 → ∀ p ∈ l.take (k + 1), p.xs.length ≤ 300) := HTK.out
        clear HSF HSB HTK
        obtain ⟨m, hm⟩ : ∃ m, Hid (lf.length = m) := ⟨_, rfl⟩
        rw [hm.out] at hq hcw hml ⊢
        obtain ⟨g, o, rfl, -⟩ := (HP.out _ hq.tail.tail).at_ (by intro e; subst e; simp at hkl)
        have hcell : ∀ w', Holds w' R → w'.cell? ⟨g, o + k * 3, none⟩ = some (.int .u8 (l[k].t.toNat : Int)) ∧ w'.cell? ⟨g, o + k * 3 + 1, none⟩ = some (.slice l[k].A l[k].n l[k].c) ∧ w'.cell? ⟨g, o + k * 3 + 2, none⟩ = some (.slice l[k].B l[k].m l[k].d) := fun w' hw' => by
          obtain ⟨g', o', e, ck'⟩ := (HP.out w' hw').at_ (by intro e; subst e; simp at hkl)
          simp only [Option.some.injEq, Addr.mk.injEq, and_true] at e
          obtain ⟨rfl, rfl⟩ := e
          exact ck' k hkl
        have hok : ∀ w', Holds w' R → l[k].Ok w' := fun w' hw' => (HP.out w' hw').ok _ (List.getElem_mem hkl)
        have hok0 := hok _ hq.tail.tail
        have HNn := Lib.hid hok0.n; have hcn := hok0.c; have hcm := hok0.cm
        have HNm := Lib.hid hok0.m; have hdm := hok0.d; have hdd := hok0.dm
        have hrb : Ent R fun w => RD w l[k].A l[k].xs := fun w' hw' => (hok w' hw').rd
        have hrj : Ent R fun w => RD w l[k].B l[k].ys := fun w' hw' => (hok w' hw').rd'
        clear hok hok0
        generalize l[k].t = t at hcell HSF2 HSB2
        generalize l[k].A = Ab at hcell hrb HSF2
        generalize l[k].n = nb at hcell HNn hcn HSF2
        generalize l[k].c = cb at hcell hcn hcm HSF2
        generalize l[k].xs = xs at HNn hrb HSF2 HSB2 HTK2
        generalize l[k].B = Aj at hcell hrj
        generalize l[k].m = nj at hcell HNm hdm
        generalize l[k].d = cj at hcell hdm hdd
        generalize l[k].ys = ys at HNm hrj
        have HCE := Lib.hid hcell; have HRB := Lib.hid hrb; have HRJ := Lib.hid hrj
        clear hcell hrb hrj hkl
        have HQ := Lib.hid hq.drew
        have hmx := mx_int t
        have hmx0 := mx_ne t
        generalize hmt : mx t = t1 at hmx hmx0
        have HMT := Lib.hid hmt; clear hmt
        have HMX := Lib.hid hmx; clear hmx
        have HX1 : Hid (xs.length ≤ 300 → encF t1 xs = (encB t1 xs, 0)) := fun h => by unfold encF; rw [if_neg hmx0, if_neg (by omega)]
        have i1 : (0 : Int) ≤ (k : Int) := by omega
        have i2 : (k : Int) < n := by omega
        clear hq
        go_wp2
        refine wp_region_held_drew (S := (fun w' => Holds w' R)) (by kernel_rfl) ?_ (fun hHeld => ?_)
        · exact HQ.out.tail.tail
        refine takeH 0 ?_ rfl (by kernel_rfl) (by kernel_rfl) (by kernel_rfl) (fun _ _ _ h => h) (by kernel_rfl) (by assumption) (fun w hSw => ?_) ?_
        rotate_left
        · (try dsimp only at hSw); go_simp <;> (try with_reducible rfl)
        try simp only [Act.put, List.setIfInBounds_toArray, List.set_cons_zero, List.set_cons_succ]
        refine takeH 1 ?_ rfl (by kernel_rfl) (by kernel_rfl) (by kernel_rfl) (fun _ _ _ h => h) (by kernel_rfl) (by assumption) (fun w hSw => ?_) ?_
        rotate_left
        · (try dsimp only at hSw); go_simp <;> (try with_reducible rfl)
        try simp only [Act.put, List.setIfInBounds_toArray, List.set_cons_zero, List.set_cons_succ]
        refine takeH 2 ?_ rfl (by kernel_rfl) (by kernel_rfl) (by kernel_rfl) (fun _ _ _ h => h) (by kernel_rfl) (by assumption) (fun w hSw => ?_) ?_
        rotate_left
        · (try dsimp only at hSw); go_simp <;> (try with_reducible rfl)
        try simp only [Act.put, List.setIfInBounds_toArray, List.set_cons_zero, List.set_cons_succ]
        refine takeH 3 ?_ rfl (by kernel_rfl) (by kernel_rfl) (by kernel_rfl) (fun _ _ _ h => h) (by kernel_rfl) (by assumption) (fun w hSw => ?_) ?_
        rotate_left
        · (try dsimp only at hSw); go_simp <;> (try with_reducible rfl)
        try simp only [Act.put, List.setIfInBounds_toArray, List.set_cons_zero, List.set_cons_succ]
        refine takeH 4 ?_ rfl (by kernel_rfl) (by kernel_rfl) (by kernel_rfl) (fun _ _ _ h => h) (by kernel_rfl) (by assumption) (fun w hSw => ?_) ?_
        rotate_left
        · obtain ⟨ca, -, -⟩ := HCE.out _ hSw
          clear hSw; go_simp <;> (try with_reducible rfl)
        try simp only [Act.put, List.setIfInBounds_toArray, List.set_cons_zero, List.set_cons_succ]
        refine takeH 5 ?_ rfl (by kernel_rfl) (by kernel_rfl) (by kernel_rfl) (fun _ _ _ h => h) (by kernel_rfl) (by assumption) (fun w hSw => ?_) ?_
        rotate_left
        · (try dsimp only at hSw); go_simp <;> (try with_reducible rfl)
        try simp only [Act.put, List.setIfInBounds_toArray, List.set_cons_zero, List.set_cons_succ]
        refine takeH 6 ?_ rfl (by kernel_rfl) (by kernel_rfl) (by kernel_rfl) (fun _ _ _ h => h) (by kernel_rfl) (by assumption) (fun w hSw => ?_) ?_
        rotate_left
        · (try dsimp only at hSw); go_simp <;> (try with_reducible rfl)
        try simp only [Act.put, List.setIfInBounds_toArray, List.set_cons_zero, List.set_cons_succ]
        refine takeH 7 ?_ rfl (by kernel_rfl) (by kernel_rfl) (by kernel_rfl) (fun _ _ _ h => h) (by kernel_rfl) (by assumption) (fun w hSw => ?_) ?_
        rotate_left
        · (try dsimp only at hSw); go_simp <;> (try with_reducible rfl)
        try simp only [Act.put, List.setIfInBounds_toArray, List.set_cons_zero, List.set_cons_succ]
        refine takeH 8 ?_ rfl (by kernel_rfl) (by kernel_rfl) (by kernel_rfl) (fun _ _ _ h => h) (by kernel_rfl) (by assumption) (fun w hSw => ?_) ?_
        rotate_left
        · (try dsimp only at hSw); go_simp <;> (try with_reducible rfl)
        try simp only [Act.put, List.setIfInBounds_toArray, List.set_cons_zero, List.set_cons_succ]
        refine takeH 9 ?_ rfl (by kernel_rfl) (by kernel_rfl) (by kernel_rfl) (fun _ _ _ h => h) (by kernel_rfl) (by assumption) (fun w hSw => ?_) ?_
        rotate_left
        · (try dsimp only at hSw); go_simp <;> (try with_reducible rfl)
        try simp only [Act.put, List.setIfInBounds_toArray, List.set_cons_zero, List.set_cons_succ]
        refine takeH 10 ?_ rfl (by kernel_rfl) (by kernel_rfl) (by kernel_rfl) (fun _ _ _ h => h) (by kernel_rfl) (by assumption) (fun w hSw => ?_) ?_
        rotate_left
        · obtain ⟨-, ca, -⟩ := HCE.out _ hSw
          clear hSw; go_simp <;> (try with_reducible rfl)
        try simp only [Act.put, List.setIfInBounds_toArray, List.set_cons_zero, List.set_cons_succ]
        refine takeH 11 ?_ rfl (by kernel_rfl) (by kernel_rfl) (by kernel_rfl) (fun _ _ _ h => h) (by kernel_rfl) (by assumption) (fun w hSw => ?_) ?_
        rotate_left
        · (try dsimp only at hSw); go_simp <;> (try with_reducible rfl)
        try simp only [Act.put, List.setIfInBounds_toArray, List.set_cons_zero, List.set_cons_succ]
        simp only [HMX.out]
        refine effH 12 rfl (by kernel_rfl) (by kernel_rfl) (fun K hK => ?_)
        go_simp
        have hs2 := HQ.out.alloc 30 #[.int .u8 0, .slice none 0 0]
        refine hK.out _ _ hs2.tail.tail.tail (fun hHeld => ?_)
        clear hK K hHeld
        obtain ⟨gf, hgf⟩ : ∃ gf, Hid (wr.heap.size = gf) := ⟨_, rfl⟩
        have hs3 : Holds (wr.alloc (.cells #[.int .u8 0, .slice none 0 0] 30)).drew (blk gf 30 #[.int .u8 0, .slice none 0 0] :: own (.slice A5 n5 c5) bk :: row 30 2 (.slice Aw m cw) m (fsCells lf) :: R) := by rw [← hgf.out]; exact hs2
        rw [hgf.out]
        generalize (wr.alloc (.cells #[.int .u8 0, .slice none 0 0] 30)).drew = w3 at hs3 ⊢
        have c0 : w3.cell? ⟨gf, 0, none⟩ = some (.int .u8 0) := (hs3.cells 0).trans rfl
        have c1 : w3.cell? ⟨gf, 1, none⟩ = some (.slice none 0 0) := (hs3.cells 1).trans rfl
        have f0 := hs3.free 0; have f1 := hs3.free 1
        refine effH 13 rfl (by kernel_rfl) (by kernel_rfl) (fun K hK => ?_)
        go_simp
        have hs4 := (hs3.set_ 0 (.int .u8 (t1.toNat : Int))).set_ 1 (.slice Ab nb cb)
        refine hK.out _ _ hs4.tail.tail.tail (fun hHeld => ?_)
        clear hK K hHeld c0 c1 f0 f1 hs2 hs3
        have hs5 : Holds ((w3.setCell ⟨gf, 0, none⟩ (.int .u8 (t1.toNat : Int))).setCell ⟨gf, 1, none⟩ (.slice Ab nb cb)) (blk gf 30 #[.int .u8 (t1.toNat : Int), .slice Ab nb cb] :: own (.slice A5 n5 c5) bk :: row 30 2 (.slice Aw m cw) m (fsCells lf) :: R) := hs4
        clear hs4
        generalize (w3.setCell ⟨gf, 0, none⟩ (.int .u8 (t1.toNat : Int))).setCell ⟨gf, 1, none⟩ (.slice Ab nb cb) = w4 at hs5 ⊢
        refine wpAnyH_done (by kernel_rfl) ?_ _
        have d0 := hs5.cells 0
        have d1 := hs5.cells 1
        have HH5 := Lib.hid hs5
        clear hs5
        rw [HMT.out] at HSF2 HSB2
        by_cases hb3 : 300 < nb
        · go_wp2
          go_returns
          exact ⟨rfl, HH5.out.tail.tail.tail⟩
        · have hxl : xs.length ≤ 300 := by rw [← HNn.out]; omega
          have HE := Lib.hid (fun w' P1 P2 P3 (h : Holds w' (P1 :: P2 :: P3 :: R)) => rencode_ok t1 Ab nb cb xs w' _ h (HRB.out.cons _ |>.cons _ |>.cons _) HNn.out hcn (by omega))
          rw [HX1.out hxl] at HE
          have hll : (encB t1 xs).length ≤ 310 := by rw [length_encB]; omega
          have HTK3 := Lib.hid (HTK2.out hxl)
          generalize encB t1 xs = L at HE hll HSB2
          have HLL := Lib.hid hll
          clear hll HTK2
          go_wp2_with (first
            | (go_at_call 14; (with_reducible refine (HE.out _ _ _ _ HH5.out).mono ?_); rintro e w6 ⟨v6, rfl, hh6⟩; obtain ⟨A6, n6, c6, rfl, hn6, hc6, -⟩ := hh6.own_form
               have HH6 := Lib.hid hh6; clear hh6))
          have HCF := Lib.hid (fun w' (h : Holds w' (blk gf 30 #[.int .u8 (t1.toNat : Int), .slice Ab nb cb] :: R)) => show w'.cell? ⟨gf, 0, none⟩ = some (.int .u8 (t1.toNat : Int)) ∧ w'.cell? ⟨gf, 1, none⟩ = some (.slice Ab nb cb) from ⟨(h.cells 0).trans rfl, (h.cells 1).trans rfl⟩)
          clear d0 d1
          have hs0 : Holds w6.drew (own (.slice A5 n5 c5) bk :: row 30 2 (.slice Aw m cw) m (fsCells lf) :: blk gf 30 #[.int .u8 (t1.toNat : Int), .slice Ab nb cb] :: own (.slice A6 n6 c6) L :: R) := ((HH6.out.drew.pull 3 rfl).pull 3 rfl).perm (((List.Perm.swap _ _ _).cons _).cons _)
          refine wp_region_held_drew (S := (fun w' => Holds w' (blk gf 30 #[.int .u8 (t1.toNat : Int), .slice Ab nb cb] :: R))) (by kernel_rfl) ?_ (fun hHeld => ?_)
          · exact hs0.tail.tail.drop 1 rfl
          refine takeH 0 ?_ rfl (by kernel_rfl) (by kernel_rfl) (by kernel_rfl) (fun _ _ _ h => h) (by kernel_rfl) (by assumption) (fun w hSw => ?_) ?_
          rotate_left
          · (try dsimp only at hSw); go_simp <;> (try with_reducible rfl)
          try simp only [Act.put, List.setIfInBounds_toArray, List.set_cons_zero, List.set_cons_succ]
          refine takeH 1 ?_ rfl (by kernel_rfl) (by kernel_rfl) (by kernel_rfl) (fun _ _ _ h => h) (by kernel_rfl) (by assumption) (fun w hSw => ?_) ?_
          rotate_left
          · (try dsimp only at hSw); go_simp <;> (try with_reducible rfl)
          try simp only [Act.put, List.setIfInBounds_toArray, List.set_cons_zero, List.set_cons_succ]
          refine takeH 3 ?_ rfl (by kernel_rfl) (by kernel_rfl) (by kernel_rfl) (fun _ _ _ h => h) (by kernel_rfl) (by assumption) (fun w hSw => ?_) ?_
          rotate_left
          · (try dsimp only at hSw); go_simp <;> (try with_reducible rfl)
          try simp only [Act.put, List.setIfInBounds_toArray, List.set_cons_zero, List.set_cons_succ]
          refine takeH 4 ?_ rfl (by kernel_rfl) (by kernel_rfl) (by kernel_rfl) (fun _ _ _ h => h) (by kernel_rfl) (by assumption) (fun w hSw => ?_) ?_
          rotate_left
          · obtain ⟨ca, cb⟩ := HCF.out _ hSw
            clear hSw; go_simp <;> (try with_reducible rfl)
          try simp only [Act.put, List.setIfInBounds_toArray, List.set_cons_zero, List.set_cons_succ]
          refine wpAnyH_phaseA (fun a0 listed a w' => ∃ (b2 b5 b6 : Bool) (g5 n2 c2 : Nat) (A2 : Option Addr) (v7 : Value),
            listed = #[true, true, b2, true, true, b5, b6, false, false] ∧
            a = ((a0.put (some 51) (Fl b2 (.slice A2 n2 c2) (a0.tmps.getD 51 undef))).put (some 54) (Fl b5 (.slice (some ⟨g5, 0, none⟩) 1 1) (a0.tmps.getD 54 undef))).put (some 55) (Fl b6 v7 (a0.tmps.getD 55 undef)) ∧
            (b6 = true → b5 = true) ∧
            Holds w' ((if b2 = true then own (.slice A2 n2 c2) (bk ++ L) else own (.slice A5 n5 c5) bk) :: (if b6 = true then row 30 2 v7 (m + 1) (fsCells lf ++ FS.cells ⟨t1, Ab, nb, cb, xs⟩) else row 30 2 (.slice Aw m cw) m (fsCells lf)) :: opt b5 (blk g5 30 (FS.cells ⟨t1, Ab, nb, cb, xs⟩).toArray) :: blk gf 30 #[.int .u8 (t1.toNat : Int), .slice Ab nb cb] :: own (.slice A6 n6 c6) L :: R))
            8 #[true, true, true, true, true, true, true, false, false] 2 (by kernel_rfl) (by kernel_rfl) (by kernel_rfl) ?h0 ?hJ ?hend ?hstep
          case h0 => exact ⟨false, false, false, 0, 0, 0, none, undef, rfl, rfl, fun h => h, hs0.emp_cons.push_ 2 (by simp)⟩
          case hJ =>
            rintro _ _ _ ⟨_, _, _, _, _, _, _, _, rfl, -, -, h⟩
            exact ⟨rfl, rfl, h.tail.tail.tail.drop 1 rfl⟩
          case hstep =>
            rintro _ _ w7 ⟨b2, b5, b6, g5, n2, c2, A2, v7, rfl, rfl, h65, hh⟩
            refine ⟨fun hne hun hdep => ?_, fun hne hun hdep => ?_, fun hne hun hdep => ?_, fun hne hun hdep => ?_, fun hne hun hdep => ?_, fun hne hun hdep => ?_, fun hne hun hdep => ?_, fun hne hun hdep => ?_, fun hne hun hdep => ?_, trivial⟩
            all_goals (try exact Bool.noConfusion (show true = false from hun))
            · obtain rfl : b2 = false := hun
              refine ⟨rfl, fun K hK => ?_⟩
              clear hne hdep
              have hh' : Holds w7 (own (.slice A5 n5 c5) bk :: _) := hh
              refine wp_app_sl (.tmp 49) (.tmp 50) 22 rfl Tryd.underlying22 Tryd.infoByte _ bk hh' rfl A6 L n6 c6 hn6 rfl (hh'.pull 4 rfl).own_rd (by have := HLL.out; omega) ?_
              intro v8 w8 hh8
              obtain ⟨A8, n8, c8, rfl, -, -, -⟩ := hh8.own_form
              exact hK.out _ _ ⟨true, b5, b6, g5, n8, c8, A8, v7, rfl, rfl, h65, hh8⟩
            · obtain rfl : b5 = false := hun
              obtain rfl : b6 = false := by cases b6 with | false => rfl | true => exact (h65 rfl).symm
              refine ⟨rfl, fun K hK => ?_⟩
              clear hne hdep
              simp only [Act.put, List.setIfInBounds_toArray, List.set_cons_zero, List.set_cons_succ]
              go_simp
              exact hK.out _ _ ⟨b2, true, false, w7.heap.size, n2, c2, A2, v7, rfl, rfl, fun _ => rfl, ((hh.alloc 30 (FS.cells ⟨t1, Ab, nb, cb, xs⟩).toArray).drop 3 rfl).push_ 2 (by simp)⟩
            · obtain rfl : b6 = false := hun
              obtain rfl : b5 = true := by cases b5 with | true => rfl | false => exact Bool.noConfusion (show false = true from hdep)
              refine ⟨rfl, fun K hK => ?_⟩
              clear hne hdep
              have hh' : Holds w7 (row 30 2 (.slice Aw m cw) m (fsCells lf) :: (if b2 = true then own (.slice A2 n2 c2) (bk ++ L) else own (.slice A5 n5 c5) bk) :: blk g5 30 (FS.cells ⟨t1, Ab, nb, cb, xs⟩).toArray :: _) := hh.pull 1 rfl
              have hrow := (hh'.pull 2 rfl).blk_row
              have hmx2 : m + 1 ≤ maxLen := by simp only [maxLen]; omega
              have hmb : (m + 1) * 32 ≤ 140737488355328 := by omega
              refine wp_app_row (.tmp 52) (.tmp 54) 47 30 _ 2 32 rfl Tryd.underlying47 Tryd.infoRFrame rfl (by decide) _ m (fsCells lf) hh' rfl (some ⟨g5, 0, none⟩) 1 1 (FS.cells ⟨t1, Ab, nb, cb, xs⟩) rfl rfl hrow (FS.cells_one _) hmx2 hmb ?_
              intro v8 w8 hh8
              exact hK.out _ _ ⟨b2, true, true, g5, n2, c2, A2, v8, rfl, rfl, fun _ => rfl, hh8.perm (.swap _ _ _)⟩
            all_goals
              exfalso
              clear hh
              revert hne hdep h65
              cases b2 <;> cases b5 <;> cases b6 <;> intro h65 hne hdep <;> first | exact absurd rfl hne | exact Bool.noConfusion (show false = true from hdep) | exact Bool.noConfusion (h65 rfl)
          case hend =>
            rintro _ w7 ⟨b2, b5, b6, g5, n2, c2, A2, v7, hl, rfl, -, hh⟩
            simp only [Array.mk.injEq, List.cons.injEq, true_and, and_true] at hl
            obtain ⟨rfl, rfl, rfl⟩ := hl
            have hk2 : Holds w7 (own (.slice A2 n2 c2) (bk ++ L) :: row 30 2 v7 (m + 1) (fsCells lf ++ FS.cells ⟨t1, Ab, nb, cb, xs⟩) :: blk g5 30 (FS.cells ⟨t1, Ab, nb, cb, xs⟩).toArray :: blk gf 30 #[.int .u8 (t1.toNat : Int), .slice Ab nb cb] :: own (.slice A6 n6 c6) L :: R) := hh
            have hHeld : Holds w7 (blk gf 30 #[.int .u8 (t1.toNat : Int), .slice Ab nb cb] :: R) := hk2.tail.tail.tail.drop 1 rfl
            have HH9 := Lib.hid (((hk2.drop 2 rfl).drop 2 rfl).drop 2 rfl)
            clear hh hk2
            simp only [Act.put, List.setIfInBounds_toArray, List.set_cons_zero, List.set_cons_succ, Fl_true]
            refine takeH 7 ?_ rfl (by kernel_rfl) (by kernel_rfl) (by kernel_rfl) (fun _ _ _ h => h) (by kernel_rfl) (by assumption) (fun w hSw => ?_) ?_
            rotate_left
            · (try dsimp only at hSw); go_simp <;> (try with_reducible rfl)
            try simp only [Act.put, List.setIfInBounds_toArray, List.set_cons_zero, List.set_cons_succ]
            refine takeH 8 ?_ rfl (by kernel_rfl) (by kernel_rfl) (by kernel_rfl) (fun _ _ _ h => h) (by kernel_rfl) (by assumption) (fun w hSw => ?_) ?_
            rotate_left
            · (try dsimp only at hSw); go_simp <;> (try with_reducible rfl)
            try simp only [Act.put, List.setIfInBounds_toArray, List.set_cons_zero, List.set_cons_succ]
            refine wpAnyH_done (by kernel_rfl) ?_ _
            clear hHeld
            go_wp2
            go_roundw
            case rel =>
              refine ⟨k + 1, by omega, by go_num, HTK3, ?_⟩
              rw [HSB2.out, HSF2.out, fsCells_append, List.length_append, hm.out, show fsCells [(⟨t1, Ab, nb, cb, xs⟩ : FS)] = FS.cells ⟨t1, Ab, nb, cb, xs⟩ by simp [fsCells]]
              exact HH9.out
            case measure => simp [intOf]; omega
      · obtain rfl : k = n := by omega
        have hlk : l.take k = l := List.take_of_length_le (by rw [← hn.out]; omega)
        rw [hlk] at hall hq hn5 hcw ⊢
        have hbl := pcB_len l hall.out
        have hst := strF_pcB l (fun p hp => Nat.le_trans (hall.out p hp) (by omega))
        have hfa := FsAt.of_pieces (T := 30) (A := Aw) (c := cw) HP.out hq.tail.tail
        have hfm : (l.map fun p => (mx p.t, p.xs)) = (l.map pcF).map FS.frm := by simp [pcF, FS.frm]
        rw [hfm] at hst
        have hml : (l.map pcF).length ≤ 20 := by rw [List.length_map, ← hn.out]; omega
        have hbl2 : n5 ≤ 6200 := by rw [hn5.out]; have := hn.out; omega
        generalize pcB l = all at hq hn5 hst hbl
        generalize l.map pcF = lf at hq hst hfa hml hcw ⊢
        obtain ⟨r, hr⟩ : ∃ r, Hid (sz.toNat % 50 = r) := ⟨_, rfl⟩
        have hr50 : r < 50 := by rw [← hr.out]; omega
        have hrI : (sz.toNat : Int) % 50 = (r : Int) := by rw [← hr.out]; omega
        have hrT : (sz.toNat : Int).tmod 50 = (r : Int) := by rw [Int.tmod_eq_emod_of_nonneg (by omega)]; exact hrI
        have HFA := Lib.hid hfa; have HST := Lib.hid hst
        obtain ⟨s, hsS⟩ : ∃ s, Hid (wr.heap.size = s) := ⟨_, rfl⟩
        have HQ := Lib.hid hq
        clear hq hfa hst hlk hall hfm hbl
        go_wp2
        rw [hsS.out]
        have h0 : Holds (wr.alloc (.cells #[.slice none 0 0, .int .i64 0] 44)) (StH s [] 0 :: FrH 28 (.slice none 0 0) [] :: own (.slice A5 n5 c5) all :: row 30 2 (.slice Aw lf.length cw) lf.length (fsCells lf) :: R) := by
          have := HQ.out.st_new
          rw [hsS.out] at this
          exact (this.frs_nil (T := 28)).perm (.swap _ _ _)
        generalize wr.alloc (.cells #[.slice none 0 0, .int .i64 0] 44) = w2 at h0 ⊢
        have H0 := Lib.hid h0
        clear h0
        go_loopw [12, 14] (fun vg i wr => ∃ j : Nat, i = .int .i64 j ∧ j ≤ n5 + 50 ∧ Holds wr (StH s (strF (all.take j)).2.2 (strF (all.take j)).2.1 :: FrH 28 vg (strF (all.take j)).1 :: own (.slice A5 n5 c5) all :: row 30 2 (.slice Aw lf.length cw) lf.length (fsCells lf) :: R)) (fun _ i _ => n5 - (intOf i).toNat)
        case atStart => exact ⟨0, rfl, by omega, by rw [List.take_zero, strF_nil]; exact H0.out⟩
        case round =>
          obtain ⟨j, rfl, hj, hq⟩ := hrel
          obtain ⟨A4, n4, c4, rfl, hn4, hc4⟩ := (hq.pull 1 rfl).fr_form
          by_cases hjn : j < n5
          · obtain ⟨g, o, rfl, -⟩ := ((hq.pull 2 rfl).own_rd).addr (by intro e; have := hn5.out; rw [e] at this; simp at this; omega)
            have hcj : ¬ c5 = j := by omega
            by_cases hE : j + 1 + r ≤ n5
            · have hEI : ¬ ((n5 : Int) < (j : Int) + (1 + (r : Int))) := by omega
              have hEI2 : (j : Int) + (1 + (r : Int)) ≤ (n5 : Int) := by omega
              have hTN : ((j : Int) + (1 + (r : Int))).toNat - j = 1 + r := by omega
              have hEc : (j : Int) + (1 + (r : Int)) ≤ (c5 : Int) := by omega
              obtain ⟨LEN, hLEN⟩ : ∃ LEN, Hid (1 + r = LEN) := ⟨_, rfl⟩
              have hLb : LEN ≤ n5 - j ∧ LEN ≤ 6200 := by have := hLEN.out; omega
              have HPL : Hid (LEN = ((all.drop j).take LEN).length) := by unfold Hid; rw [List.length_take, List.length_drop, ← hn5.out]; omega
              have hap := strF_append (all.take j) ((all.drop j).take LEN)
              rw [← List.take_add] at hap
              have hTE : Hid (all.take (j + LEN) = all.take (j + (1 + r))) := by
                unfold Hid
                rw [← hLEN.out]
              rw [hTE.out] at hap
              have hcnt := strF_count (all.take j)
              have hfl := strF_frames (all.take j)
              have htl : (all.take j).length ≤ 6200 := by rw [List.length_take, ← hn5.out]; omega
              generalize strF (all.take j) = q at hq hcnt hfl hap hn4
              obtain ⟨fs, dr, wt⟩ := q
              simp only at hcnt hfl
              have hwt : wt.length ≤ 6200 := by omega
              have HFD := Lib.hid (fun w' R' (h : Holds w' (StH s wt dr :: R')) (hr' : Ent R' fun w => RD w (some ⟨g, o + j, none⟩) ((all.drop j).take LEN)) (hk' : Ent R' KF) => sfeed_ok (some ⟨g, o + j, none⟩) LEN (c5 - j) ((all.drop j).take LEN) h hr' HPL (by omega) (by rw [List.length_append, ← HPL.out]; omega) (by omega) hk')
              have hq2f := strF_frames (wt ++ (all.drop j).take LEN)
              rw [List.length_append, ← HPL.out] at hq2f
              have HRD : Hid (Ent (own (.slice (some ⟨g, o, none⟩) n5 c5) all :: row 30 2 (.slice Aw lf.length cw) lf.length (fsCells lf) :: R) fun w' => RD w' (some ⟨g, o + j, none⟩) ((all.drop j).take LEN)) := fun w' hw => (hw.own_rd).mid j LEN
              generalize strF (wt ++ (all.drop j).take LEN) = q2 at HFD hap hq2f
              obtain ⟨fs2, dr2, wt2⟩ := q2
              simp only at hap hq2f
              have HAP := Lib.hid hap
              have HQ2 := Lib.hid hq
              obtain rfl : 1 + r = LEN := hLEN.out
              clear hq hap hcnt
              go_wp2_with (first
                | (go_at_call 22; (with_reducible refine (HFD.out _ _ HQ2.out (HRD.out.cons _) (HK.out.cons _ |>.cons _ |>.cons _)).mono ?_); rintro e w3 ⟨v3, rfl, hh3⟩
                   obtain ⟨A7, n7, c7, rfl, hn7, hc7⟩ := hh3.fr_form
                   have HH3 := Lib.hid hh3; clear hh3)
                | (at_builtin
                   obtain ⟨l2, hl1', hl2', h3⟩ := HH3.out.frs
                   have hn72 : n7 = l2.length := by rw [hn7.out, ← hl1'.out, List.length_map]
                   obtain ⟨l1, hl1, hl2, h4⟩ := (h3.pull 3 rfl).frs
                   have hlb : l1.length ≤ 6200 := by have := hfl; rw [← hl1.out, List.length_map] at this; omega
                   have hlb2 : n7 ≤ 20000 := by have := hq2f; rw [← hl1'.out, List.length_map] at this; omega
                   have hmx : l1.length + n7 ≤ maxLen := by simp only [maxLen]; omega
                   have hmb : (l1.length + n7) * 32 ≤ 140737488355328 := by omega
                   have hrow : RowRd w3 A7 (fsCells l2) := by
                     obtain ⟨A', c', hv, _, _, hr⟩ := (h4.pull 2 rfl).row_form
                     simp only [Value.slice.injEq] at hv
                     obtain ⟨rfl, _, rfl⟩ := hv
                     exact hr
                   have hcl : (fsCells l2).length = n7 * 2 := by rw [fsCells_length, hn72]
                   refine wpList_app_row rfl (.tmp 68) (.tmp 78) 45 28 _ 2 32 rfl Tryd.underlying45 Tryd.infoFrame rfl (by decide) _ l1.length (fsCells l1) h4 rfl A7 n7 c7 (fsCells l2) hcl rfl hrow (fsCells_one l2) hmx hmb ?_
                   intro v5 w5 hh5
                   have h6 := (hh5.drop 2 rfl)
                   have h7 := Holds.frs_app (by rw [hn72]) h6 hl1 hl2 hl1' hl2'
                   have HH7 := Lib.hid (h7.perm (.swap _ _ _))
                   clear hl1 hl2 hl1' hl2' h3 h4 hrow hcl hh5 h6 h7))
              go_roundw
              case rel =>
                refine ⟨j + (1 + r), by go_num, by omega, ?_⟩
                rw [HAP.out]
                exact HH7.out
              case measure => simp [intOf]; omega
            · have hEI : (n5 : Int) < (j : Int) + (1 + (r : Int)) := by omega
              have hEc : (n5 : Int) ≤ (c5 : Int) := by omega
              obtain ⟨LEN, hLEN⟩ : ∃ LEN, Hid (n5 - j = LEN) := ⟨_, rfl⟩
              have hLb : LEN ≤ n5 - j ∧ LEN ≤ 6200 := by have := hLEN.out; omega
              have HPL : Hid (LEN = ((all.drop j).take LEN).length) := by unfold Hid; rw [List.length_take, List.length_drop, ← hn5.out]; omega
              have hap := strF_append (all.take j) ((all.drop j).take LEN)
              rw [← List.take_add] at hap
              have hTE : Hid (all.take (j + LEN) = all.take (j + (1 + r))) := by
                unfold Hid
                rw [List.take_of_length_le (by rw [← hn5.out]; have := hLEN.out; omega), List.take_of_length_le (by rw [← hn5.out]; omega)]
              rw [hTE.out] at hap
              have hcnt := strF_count (all.take j)
              have hfl := strF_frames (all.take j)
              have htl : (all.take j).length ≤ 6200 := by rw [List.length_take, ← hn5.out]; omega
              generalize strF (all.take j) = q at hq hcnt hfl hap hn4
              obtain ⟨fs, dr, wt⟩ := q
              simp only at hcnt hfl
              have hwt : wt.length ≤ 6200 := by omega
              have HFD := Lib.hid (fun w' R' (h : Holds w' (StH s wt dr :: R')) (hr' : Ent R' fun w => RD w (some ⟨g, o + j, none⟩) ((all.drop j).take LEN)) (hk' : Ent R' KF) => sfeed_ok (some ⟨g, o + j, none⟩) LEN (c5 - j) ((all.drop j).take LEN) h hr' HPL (by omega) (by rw [List.length_append, ← HPL.out]; omega) (by omega) hk')
              have hq2f := strF_frames (wt ++ (all.drop j).take LEN)
              rw [List.length_append, ← HPL.out] at hq2f
              have HRD : Hid (Ent (own (.slice (some ⟨g, o, none⟩) n5 c5) all :: row 30 2 (.slice Aw lf.length cw) lf.length (fsCells lf) :: R) fun w' => RD w' (some ⟨g, o + j, none⟩) ((all.drop j).take LEN)) := fun w' hw => (hw.own_rd).mid j LEN
              generalize strF (wt ++ (all.drop j).take LEN) = q2 at HFD hap hq2f
              obtain ⟨fs2, dr2, wt2⟩ := q2
              simp only at hap hq2f
              have HAP := Lib.hid hap
              have HQ2 := Lib.hid hq
              obtain rfl : n5 - j = LEN := hLEN.out
              clear hq hap hcnt
              go_wp2_with (first
                | (go_at_call 22; (with_reducible refine (HFD.out _ _ HQ2.out (HRD.out.cons _) (HK.out.cons _ |>.cons _ |>.cons _)).mono ?_); rintro e w3 ⟨v3, rfl, hh3⟩
                   obtain ⟨A7, n7, c7, rfl, hn7, hc7⟩ := hh3.fr_form
                   have HH3 := Lib.hid hh3; clear hh3)
                | (at_builtin
                   obtain ⟨l2, hl1', hl2', h3⟩ := HH3.out.frs
                   have hn72 : n7 = l2.length := by rw [hn7.out, ← hl1'.out, List.length_map]
                   obtain ⟨l1, hl1, hl2, h4⟩ := (h3.pull 3 rfl).frs
                   have hlb : l1.length ≤ 6200 := by have := hfl; rw [← hl1.out, List.length_map] at this; omega
                   have hlb2 : n7 ≤ 20000 := by have := hq2f; rw [← hl1'.out, List.length_map] at this; omega
                   have hmx : l1.length + n7 ≤ maxLen := by simp only [maxLen]; omega
                   have hmb : (l1.length + n7) * 32 ≤ 140737488355328 := by omega
                   have hrow : RowRd w3 A7 (fsCells l2) := by
                     obtain ⟨A', c', hv, _, _, hr⟩ := (h4.pull 2 rfl).row_form
                     simp only [Value.slice.injEq] at hv
                     obtain ⟨rfl, _, rfl⟩ := hv
                     exact hr
                   have hcl : (fsCells l2).length = n7 * 2 := by rw [fsCells_length, hn72]
                   refine wpList_app_row rfl (.tmp 68) (.tmp 78) 45 28 _ 2 32 rfl Tryd.underlying45 Tryd.infoFrame rfl (by decide) _ l1.length (fsCells l1) h4 rfl A7 n7 c7 (fsCells l2) hcl rfl hrow (fsCells_one l2) hmx hmb ?_
                   intro v5 w5 hh5
                   have h6 := (hh5.drop 2 rfl)
                   have h7 := Holds.frs_app (by rw [hn72]) h6 hl1 hl2 hl1' hl2'
                   have HH7 := Lib.hid (h7.perm (.swap _ _ _))
                   clear hl1 hl2 hl1' hl2' h3 h4 hrow hcl hh5 h6 h7))
              go_roundw
              case rel =>
                refine ⟨j + (1 + r), by go_num, by omega, ?_⟩
                rw [HAP.out]
                exact HH7.out
              case measure => simp [intOf]; omega
          · have htk : all.take j = all := List.take_of_length_le (by rw [← hn5.out]; omega)
            rw [htk, HST.out] at hq
            rw [htk, HST.out] at hn4
            obtain ⟨l4, hl1, hl2, hl⟩ := (hq.pull 1 rfl).frs
            obtain ⟨A9, c9, hv, -, -, -⟩ := hl.row_form
            simp only [Value.slice.injEq] at hv
            obtain ⟨rfl, rfl, rfl⟩ := hv
            have hl4 : l4.length ≤ 20 := by
              have := congrArg List.length hl1.out
              simp only [List.length_map] at this
              omega
            have hl9 : Holds wr (row 28 2 (.slice A4 l4.length c4) l4.length (fsCells l4) :: fsBodies l4 :: StH s [] 0 :: own (.slice A5 n5 c5) all :: row 30 2 (.slice Aw lf.length cw) lf.length (fsCells lf) :: R) := hl
            have hfb := HFA.out.cons (own (.slice A5 n5 c5) all) |>.cons (StH s [] 0) |>.cons (fsBodies l4) |>.cons (row 28 2 (.slice A4 l4.length c4) l4.length (fsCells l4))
            have hfa := FsAt.of_frs (T := 28) (A := A4) (c := c4) (R := StH s [] 0 :: own (.slice A5 n5 c5) all :: row 30 2 (.slice Aw lf.length cw) lf.length (fsCells lf) :: R) hl2
            have HSM := Lib.hid (slist_ok A4 l4.length c4 Aw lf.length cw l4 lf wr _ hl9 hfa hfb rfl rfl hl1 (by omega))
            clear hq hl hl9 hfa hfb
            go_wp2_with (first
              | (go_at_call 24; (with_reducible refine HSM.out.mono ?_); rintro e w5 ⟨rfl, hh5⟩; have HH5 := Lib.hid (hh5.pull 2 rfl); clear hh5)
              | (go_at_call 25; (with_reducible refine (sdropped_ok HH5.out).mono ?_); rintro e w6 ⟨rfl, rfl⟩)
              | (go_at_call 26; (with_reducible refine (swaits_ok HH5.out).mono ?_); rintro e w6 ⟨rfl, rfl⟩))
            go_returns
            exact ⟨rfl, HH5.out.tail.tail.tail.tail.tail⟩
end Go.Proofs.YtmaiokjcgijdcaaDoor
