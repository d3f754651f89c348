/- the stream laws: same, few, awake -/
import Derived.Test.YtmaiokjcgijdcaaDoorStreamC
namespace Go.Proofs.YtmaiokjcgijdcaaDoor
open Go.RowKit HP

/-- the slice at A reads frames, wherever their bodies lie -/
structure FsAt (R : List HP) (A : Option Addr) (l : List FS) : Prop where
  row : Ent R fun w => RowRd w A (fsCells l)
  rd : ∀ f ∈ l, Ent R fun w => RD w f.A f.xs
  ok : ∀ f ∈ l, f.Ok
theorem fsCells_ne {l : List FS} (h : 0 < l.length) : fsCells l ≠ [] := by intro e; have := fsCells_length l; rw [e] at this; simp at this; omega
theorem FsAt.addr {R : List HP} {A : Option Addr} {l : List FS} {w : World} (h : FsAt R A l) (hw : Holds w R) (hl : 0 < l.length) : ∃ g o, A = some ⟨g, o, none⟩ := by
  obtain ⟨g, o, rfl, _⟩ := h.row w hw (fsCells_ne hl)
  exact ⟨g, o, rfl⟩
theorem FsAt.cell {R : List HP} {g o : Nat} {l : List FS} (h : FsAt R (some ⟨g, o, none⟩) l) {k : Nat} (hk : k < l.length) {w : World} (hw : Holds w R) :
    w.cell? ⟨g, o + k * 2, none⟩ = some (.int .u8 (l[k].t.toNat : Int)) ∧ w.cell? ⟨g, o + k * 2 + 1, none⟩ = some (.slice l[k].A l[k].n l[k].c) := by
  obtain ⟨ga, oa, ea, hca⟩ := h.row w hw (fsCells_ne (by omega))
  simp only [Option.some.injEq, Addr.mk.injEq, and_true] at ea
  obtain ⟨rfl, rfl⟩ := ea
  obtain ⟨f1, f2⟩ := fsCells_get l k hk
  rw [Nat.mul_comm k 2]
  exact ⟨hca _ _ f1, hca _ _ f2⟩
theorem FsAt.cons {R : List HP} {A : Option Addr} {l : List FS} (h : FsAt R A l) (P : HP) : FsAt (P :: R) A l := ⟨h.row.cons P, fun f hf => (h.rd f hf).cons P, h.ok⟩
/-- what a list of frames in memory reads -/
theorem FsAt.of_frs {T : TypeId} {A : Option Addr} {c : Nat} {l : List FS} {R : List HP} (h2 : ∀ f ∈ l, f.Ok) : FsAt (HP.row T 2 (.slice A l.length c) l.length (fsCells l) :: fsBodies l :: R) A l :=
  ⟨fun _ hw => hw.row_rd, fun f hf w hw => by
    obtain ⟨j, hj, rfl⟩ := List.getElem_of_mem hf
    exact hw.tail.body_rd hj, h2⟩
theorem FsAt.of_blk {T : TypeId} {g : Nat} {f : FS} {R : List HP} (hr : Ent R fun w => RD w f.A f.xs) (hf : f.Ok) : FsAt (HP.blk g T f.cells.toArray :: R) (some ⟨g, 0, none⟩) [f] := by
  refine ⟨fun _ hw => ?_, fun f' hf' => ?_, fun f' hf' => ?_⟩
  · rw [show fsCells [f] = f.cells by simp [fsCells]]; exact hw.blk_row
  · obtain rfl : f' = f := by simpa using hf'
    exact hr.cons _
  · obtain rfl : f' = f := by simpa using hf'
    exact hf
theorem FsAt.pull {R : List HP} {A : Option Addr} {l : List FS} (i : Nat) {P : HP} (hi : R[i]? = some P) (h : FsAt (P :: R.eraseIdx i) A l) : FsAt R A l := ⟨h.row.pull i hi, fun f hf => (h.rd f hf).pull i hi, h.ok⟩
set_option maxRecDepth 100000 in
set_option maxHeartbeats 2000000 in
theorem slist_ok (A : Option Addr) (n c : Nat) (A' : Option Addr) (n' c' : Nat) (l l' : List FS) (w : World) (R : List HP) (hh : Holds w R) (h : FsAt R A l) (h' : FsAt R A' l') (hn : Hid (n = l.length)) (hn' : Hid (n' = l'.length)) (he : Hid (l.map FS.frm = l'.map FS.frm)) (hb : n ≤ 1000000) :
    Calls Tryd.prog 24 #[.slice A n c, .slice A' n' c'] w fun e w' => e = .returned (.bool true) ∧ Holds w' R := by
  have hll : l'.length = l.length := by
    have a := congrArg List.length he.out
    simp only [List.length_map] at a
    omega
  obtain rfl : n' = n := by rw [hn'.out, hn.out, hll]
  have HH := Lib.hid hh
  clear hh
  go_enter Tryd.func24, Tryd.ntmps24
  go_wp2
  go_loopw [13] (fun i wr => ∃ k : Nat, k ≤ n' ∧ i = .int .i64 k ∧ Holds wr R) (fun i _ => n' - (intOf i).toNat)
  case atStart => exact ⟨0, by omega, rfl, HH.out⟩
  case round =>
    obtain ⟨k, hk, rfl, hq⟩ := hrel
    by_cases hlt : k < n'
    · have hkl : k < l.length := by rw [← hn.out]; exact hlt
      have hkl' : k < l'.length := by omega
      have e1 : l[k].frm = l'[k].frm := by
        have a := congrArg (fun x => x[k]?) he.out
        simpa [hkl, hkl'] using a
      have ht : l'[k].t = l[k].t := (congrArg Prod.fst e1).symm
      have hx : l'[k].xs = l[k].xs := (congrArg Prod.snd e1).symm
      obtain ⟨g, o, rfl⟩ := h.addr hq (by omega)
      obtain ⟨g', o', rfl⟩ := h'.addr hq (by omega)
      have hok := h.ok _ (List.getElem_mem hkl)
      have hok' := h'.ok _ (List.getElem_mem hkl')
      have HN : Hid (l'[k].n = l[k].xs.length) := by unfold Hid; rw [← hx]; exact hok'.1.out
      have hrd' : Ent R fun w => RD w l'[k].A l[k].xs := by rw [← hx]; exact h'.rd _ (List.getElem_mem hkl')
      have HCE := Lib.hid (fun w' (hw : Holds w' R) => show (w'.cell? ⟨g, o + k * 2, none⟩ = some (.int .u8 (l[k].t.toNat : Int)) ∧ w'.cell? ⟨g, o + k * 2 + 1, none⟩ = some (.slice l[k].A l[k].n l[k].c)) ∧ (w'.cell? ⟨g', o' + k * 2, none⟩ = some (.int .u8 (l[k].t.toNat : Int)) ∧ w'.cell? ⟨g', o' + k * 2 + 1, none⟩ = some (.slice l'[k].A l'[k].n l'[k].c)) from
        ⟨h.cell hkl hw, by rw [← ht]; exact h'.cell hkl' hw⟩)
      have HSM := Lib.hid (fun w' (hw : Holds w' R) => same_ok l[k].t l[k].A l[k].n l[k].c l'[k].A l'[k].n l'[k].c l[k].xs w' _ hw (h.rd _ (List.getElem_mem hkl)) hok.1 hrd' HN)
      generalize l[k].t = t at HCE HSM
      generalize l[k].A = Ak at HCE HSM
      generalize l[k].n = nk at HCE HSM
      generalize l[k].c = ck at HCE HSM
      generalize l'[k].A = Ak' at HCE HSM
      generalize l'[k].n = nk' at HCE HSM
      generalize l'[k].c = ck' at HCE HSM
      have HQ := Lib.hid hq.drew
      clear hq hok hok' hrd' HN e1 ht hx hkl hkl'
      have i1 : (0 : Int) ≤ (k : Int) := by omega
      have i2 : (k : Int) < n' := by omega
      go_wp2
      refine wp_region_held_drew (S := (fun w' => Holds w' R)) (by kernel_rfl) ?_ (fun hHeld => ?_)
      · exact HQ.out
      refine takeH 0 ?_ rfl (by kernel_rfl) (by kernel_rfl) (by kernel_rfl) (fun _ _ _ h => h) (by kernel_rfl) (by assumption) (fun w hSw => ?_) ?_
      rotate_left
      · (try dsimp only at hSw); go_simp <;> (try with_reducible rfl)
      try simp only [Act.put, List.setIfInBounds_toArray, List.set_cons_zero, List.set_cons_succ]
      refine takeH 1 ?_ rfl (by kernel_rfl) (by kernel_rfl) (by kernel_rfl) (fun _ _ _ h => h) (by kernel_rfl) (by assumption) (fun w hSw => ?_) ?_
      rotate_left
      · (try dsimp only at hSw); go_simp <;> (try with_reducible rfl)
      try simp only [Act.put, List.setIfInBounds_toArray, List.set_cons_zero, List.set_cons_succ]
      refine takeH 2 ?_ rfl (by kernel_rfl) (by kernel_rfl) (by kernel_rfl) (fun _ _ _ h => h) (by kernel_rfl) (by assumption) (fun w hSw => ?_) ?_
      rotate_left
      · (try dsimp only at hSw); go_simp <;> (try with_reducible rfl)
      try simp only [Act.put, List.setIfInBounds_toArray, List.set_cons_zero, List.set_cons_succ]
      refine takeH 3 ?_ rfl (by kernel_rfl) (by kernel_rfl) (by kernel_rfl) (fun _ _ _ h => h) (by kernel_rfl) (by assumption) (fun w hSw => ?_) ?_
      rotate_left
      · obtain ⟨⟨ca, cb⟩, -⟩ := HCE.out _ hSw
        clear hSw; go_simp <;> (try with_reducible rfl)
      try simp only [Act.put, List.setIfInBounds_toArray, List.set_cons_zero, List.set_cons_succ]
      refine takeH 4 ?_ rfl (by kernel_rfl) (by kernel_rfl) (by kernel_rfl) (fun _ _ _ h => h) (by kernel_rfl) (by assumption) (fun w hSw => ?_) ?_
      rotate_left
      · (try dsimp only at hSw); go_simp <;> (try with_reducible rfl)
      try simp only [Act.put, List.setIfInBounds_toArray, List.set_cons_zero, List.set_cons_succ]
      refine takeH 5 ?_ rfl (by kernel_rfl) (by kernel_rfl) (by kernel_rfl) (fun _ _ _ h => h) (by kernel_rfl) (by assumption) (fun w hSw => ?_) ?_
      rotate_left
      · (try dsimp only at hSw); go_simp <;> (try with_reducible rfl)
      try simp only [Act.put, List.setIfInBounds_toArray, List.set_cons_zero, List.set_cons_succ]
      refine takeH 6 ?_ rfl (by kernel_rfl) (by kernel_rfl) (by kernel_rfl) (fun _ _ _ h => h) (by kernel_rfl) (by assumption) (fun w hSw => ?_) ?_
      rotate_left
      · (try dsimp only at hSw); go_simp <;> (try with_reducible rfl)
      try simp only [Act.put, List.setIfInBounds_toArray, List.set_cons_zero, List.set_cons_succ]
      refine takeH 7 ?_ rfl (by kernel_rfl) (by kernel_rfl) (by kernel_rfl) (fun _ _ _ h => h) (by kernel_rfl) (by assumption) (fun w hSw => ?_) ?_
      rotate_left
      · obtain ⟨-, ca, cb⟩ := HCE.out _ hSw
        clear hSw; go_simp <;> (try with_reducible rfl)
      try simp only [Act.put, List.setIfInBounds_toArray, List.set_cons_zero, List.set_cons_succ]
      refine effH 8 rfl (by kernel_rfl) (by kernel_rfl) (fun K hK => ?_)
      go_simp
      refine (HSM.out _ HQ.out).mono ?_
      rintro e w2 ⟨rfl, hh2⟩
      refine hK.out _ _ hh2 (fun hHeld => ?_)
      clear hK K
      refine takeH 9 ?_ rfl (by kernel_rfl) (by kernel_rfl) (by kernel_rfl) (fun _ _ _ h => h) (by kernel_rfl) (by assumption) (fun w hSw => ?_) ?_
      rotate_left
      · (try dsimp only at hSw); go_simp <;> (try with_reducible rfl)
      try simp only [Act.put, List.setIfInBounds_toArray, List.set_cons_zero, List.set_cons_succ]
      refine wpAnyH_done (by kernel_rfl) ?_ _
      have HH2 := Lib.hid hh2
      clear hh2 hHeld
      go_wp2
      go_roundw
      case rel => exact ⟨k + 1, by omega, by go_num, HH2.out⟩
      case measure => simp [intOf]; omega
    · have HQ := Lib.hid hq
      clear hq
      go_wp2
      go_returns
      exact ⟨rfl, HQ.out⟩

/-- whether pieces are of a size that is looked at -/
def fewB (l : List BS) : Bool := decide (l.length ≤ 60) && decide ((bsAll l).length ≤ 5000)
theorem few_sum {l : List BS} {k : Nat} (hk : k < l.length) : (bsAll (l.take (k + 1))).length = (bsAll (l.take k)).length + l[k].xs.length := by rw [bsAll_snoc hk, List.length_append]
set_option maxRecDepth 100000 in
set_option maxHeartbeats 1000000 in
theorem few_ok (A : Option Addr) (n c : Nat) (l : List BS) (w : World) (hp : PRd w A l) (hn : Hid (n = l.length)) (hnb : n ≤ 140737488351232) (hs : Hid (∀ s ∈ l, s.n ≤ 140737488351232)) :
    Calls Tryd.prog 21 #[.slice A n c] w fun e w' => e = .returned (.bool (fewB l)) ∧ w = w' := by
  go_enter Tryd.func21, Tryd.ntmps21
  go_wp2
  go_loop [3, 7] (fun t i => ∃ k : Nat, k ≤ n ∧ k ≤ 60 ∧ i = .int .i64 k ∧ t = .int .i64 ((bsAll (l.take k)).length : Nat) ∧ (bsAll (l.take k)).length ≤ 5000) (fun _ i => n - (intOf i).toNat)
  case atStart => exact ⟨0, by omega, by omega, rfl, rfl, by simp [bsAll]⟩
  case round =>
    obtain ⟨k, hk, hk6, rfl, rfl, hsum⟩ := hrel
    by_cases hlt : k < n
    · have hkl : k < l.length := by rw [← hn.out]; exact hlt
      obtain ⟨g, o, rfl, ck, hok⟩ := hp.at_ hkl
      have hlen := few_sum hkl
      rw [← hok.n.out] at hlen
      have hb := hs.out _ (List.getElem_mem hkl)
      have hle := bsAll_take_le l (k + 1)
      generalize l[k].A = Ak at ck
      generalize l[k].n = nk at ck hlen hb
      generalize l[k].c = cck at ck
      generalize (bsAll (l.take k)).length = m at hlen hsum
      have HLE := Lib.hid hle; have HLEN := Lib.hid hlen
      clear hok hlen hle hkl
      have i1 : (0 : Int) ≤ (k : Int) := by omega
      by_cases h1 : k = 60 ∨ 5000 < m + nk
      · have HF : Hid (fewB l = false) := by
          unfold Hid fewB
          rcases h1 with h1 | h1
          · have : ¬ l.length ≤ 60 := by have := hn.out; omega
            simp [this]
          · have : ¬ (bsAll l).length ≤ 5000 := by have := HLE.out; have := HLEN.out; omega
            simp [this]
        rcases h1 with h1 | h1
        · subst h1
          go_wp2
          go_returns
          exact ⟨by rw [HF.out]; rfl, rfl⟩
        · have h1I : ¬ ((m : Int) + nk ≤ 5000) := by omega
          go_wp2
          all_goals
            go_returns
            exact ⟨by rw [HF.out]; rfl, rfl⟩
      · have h2 : k < 60 := by omega
        have h3 : m + nk ≤ 5000 := by omega
        clear h1
        go_wp2
        go_round
        case rel => exact ⟨k + 1, by omega, by omega, by go_num, by rw [HLEN.out]; go_num, by rw [HLEN.out]; omega⟩
        case measure => simp [intOf]; omega
    · obtain rfl : k = n := by omega
      have HF : Hid (fewB l = true) := by
        have h1 : l.take k = l := List.take_of_length_le (by rw [← hn.out]; omega)
        rw [h1] at hsum
        unfold Hid fewB
        rw [← hn.out]
        simp [hk6, hsum]
      go_wp2
      go_returns
      exact ⟨by rw [HF.out]; rfl, rfl⟩

theorem Holds.st_new {w : World} {R : List HP} (hh : Holds w R) : Holds (w.alloc (.cells #[.slice none 0 0, .int .i64 0] 44)) (StH w.heap.size [] 0 :: R) := by
  have h1 := hh.alloc 44 #[.slice none 0 0, .int .i64 ((0 : Nat) : Int)]
  have h2 : Holds _ (rb none [] :: _) := h1.new_ ⟨fun _ => False, ⟨0, RB.nil _ _ _, fun k => by simp⟩, Kept.refl _ _, fun k hk => hk.elim⟩
  exact Holds.mk_st (A := none) (n := 0) (c := 0) (h2.pull 1 rfl) rfl (Nat.le_refl _)
theorem Holds.own_empty {w : World} {R : List HP} (hh : Holds w R) : Holds (w.alloc (.cells #[] 5)) (own (.slice (some ⟨w.heap.size, 0, none⟩) 0 0) [] :: R) :=
  (hh.alloc 5 #[]).own_of_cells (xs := []) (n := 0) (cap := 0) rfl (Nat.le_refl _) (by decide) rfl rfl
theorem strF_xyz : strF [120, 121, 122] = ([], 3, []) := by
  have h := strF_junk [120, 121, 122] [] (by decide)
  rw [strF_nil] at h
  exact h
set_option maxRecDepth 100000 in
set_option maxHeartbeats 1000000 in
theorem stawake_ok (w : World) (R : List HP) (hh : Holds w R) (hk : Ent R KF) : Calls Tryd.prog 20 #[] w fun e w' => e = .returned (.bool true) ∧ Holds w' R := by
  have h1 := hh.st_new
  have h2 := (h1.alloc 5 #[.int .u8 120, .int .u8 121, .int .u8 122]).mark (xs := [120, 121, 122]) rfl
  have hcm : (convert 22 22 (.slice (some ⟨w.heap.size + 1, 0, none⟩) 3 3)).run Tryd.prog ((w.alloc (.cells #[.slice none 0 0, .int .i64 0] 44)).alloc (.cells #[.int .u8 120, .int .u8 121, .int .u8 122] 5)) = .ok (.slice (some ⟨w.heap.size + 1, 0, none⟩) 3 3) (((w.alloc (.cells #[.slice none 0 0, .int .i64 0] 44)).alloc (.cells #[.int .u8 120, .int .u8 121, .int .u8 122] 5)).freeze ⟨w.heap.size + 1, 3, none⟩ 1) := by
    have := run_convert_mark (P := Tryd.prog) ((w.alloc (.cells #[.slice none 0 0, .int .i64 0] 44)).alloc (.cells #[.int .u8 120, .int .u8 121, .int .u8 122] 5)) 22 5 (w.heap.size + 1) #[.int .u8 120, .int .u8 121, .int .u8 122] 3 3 Tryd.underlying22 Tryd.underlying5 (by
      have := heap_alloc_new (w.alloc (.cells #[.slice none 0 0, .int .i64 0] 44)) (.cells #[.int .u8 120, .int .u8 121, .int .u8 122] 5)
      rwa [heap_size_alloc] at this)
    exact this
  rw [heap_size_alloc] at h2
  have h3 : Holds (((w.alloc (.cells #[.slice none 0 0, .int .i64 0] 44)).alloc (.cells #[.int .u8 120, .int .u8 121, .int .u8 122] 5)).freeze ⟨w.heap.size + 1, 3, none⟩ 1) (rb (some ⟨w.heap.size + 1, 0, none⟩) [120, 121, 122] :: StH w.heap.size [] 0 :: R) := h2
  have HF := Lib.hid (sfeed_ok (some ⟨w.heap.size + 1, 0, none⟩) 3 3 [120, 121, 122] (h3.perm (.swap _ _ _)) (Ent.rb) rfl (by omega) (by simp) (by omega) (hk.cons _))
  rw [List.nil_append, strF_xyz] at HF
  clear hh hk h1 h2 h3
  go_enter Tryd.func20, Tryd.ntmps20
  go_wp2_with (first
    | (go_at_call 22; (with_reducible refine HF.out.mono ?_); rintro e w1 ⟨v1, rfl, hh1⟩
       obtain ⟨A1, n1, c1, rfl, hn1, hc1⟩ := hh1.fr_form
       obtain rfl : n1 = 0 := hn1.out
       have HH1 := Lib.hid (hh1.drop 0 rfl); clear hh1)
    | (go_at_call 25; (with_reducible refine (sdropped_ok HH1.out).mono ?_); rintro e w2 ⟨rfl, rfl⟩))
  go_returns
  exact ⟨rfl, HH1.out.tail.tail⟩
end Go.Proofs.YtmaiokjcgijdcaaDoor
