/- sha: a state is turned by a block. -/
import Derived.Test.YtmaiokjcgijdcaaDoorSha
namespace Go.Proofs.YtmaiokjcgijdcaaDoor
open Go.RowKit HP

/-- the table of constants, as the program's variable holds it -/
def KF (w : World) : Prop := ∀ i, i < 64 → w.cell? ⟨0, i, none⟩ = some (wc (kList.getD i 0))
/-- a Hash's state, word by word; whether it was begun; what it keeps of a block; how much it has taken -/
structure HS where
  s : List UInt32
  begun : Bool
  rest : List UInt8
  n : Nat
def HS.list (h : HS) : List Value := wcs h.s ++ ([.bool h.begun] ++ (bcs h.rest ++ [.int .i64 h.n]))
def hcells (h : HS) : Array Value := h.list.toArray
structure HS.Ok (h : HS) : Prop where
  s : h.s.length = 8
  rest : h.rest.length = 64
theorem hcells_s {h : HS} (ok : h.Ok) (i : Nat) (hi : i < 8) : (hcells h)[i]? = some (wc (h.s.getD i 0)) := by
  have := ok.s
  simp [hcells, HS.list, List.getElem?_append, this, hi, List.getD, wcs]
theorem hcells_begun {h : HS} (ok : h.Ok) : (hcells h)[8]? = some (.bool h.begun) := by
  have := ok.s
  simp [hcells, HS.list, this]
theorem hcells_rest {h : HS} (ok : h.Ok) (i : Nat) (hi : i < 64) : (hcells h)[9 + i]? = some (bc (h.rest.getD i 0)) := by
  have h1 := ok.s
  have h2 := ok.rest
  have e : 9 + i - 8 = i + 1 := by omega
  have e2 : ¬ (9 + i < 8) := by omega
  simp [hcells, HS.list, List.getElem?_append, h1, h2, e, e2, hi, List.getD, bcs]
theorem hcells_n {h : HS} (ok : h.Ok) : (hcells h)[73]? = some (.int .i64 h.n) := by
  have h1 := ok.s
  have h2 := ok.rest
  simp [hcells, HS.list, h1, h2]
theorem size_hcells {h : HS} (ok : h.Ok) : (hcells h).size = 74 := by
  have h1 := ok.s
  have h2 := ok.rest
  simp [hcells, HS.list, h1, h2]
theorem hcells_one (h : HS) : ∀ v ∈ (hcells h).toList, v.oneCell' = true := by
  intro v hv
  simp only [hcells, HS.list, List.mem_append, List.mem_cons, List.not_mem_nil, or_false] at hv
  rcases hv with hv | rfl | hv | rfl
  · exact wcs_one v hv
  · rfl
  · exact bcs_one v hv
  · rfl
theorem hcells_set {h : HS} (ok : h.Ok) (i : Nat) (hi : i < 8) (x : UInt32) : (hcells h).setIfInBounds i (wc x) = hcells { h with s := h.s.set i x } := by
  have h1 := ok.s
  simp only [hcells, HS.list, List.setIfInBounds_toArray]
  rw [List.set_append_left _ _ (by simp [h1, hi])]
  simp [wcs, List.map_set]
theorem Holds.rest_rd {w : World} {R : List HP} {b : Nat} {h : HS} (hh : Holds w (HP.blk b 89 (hcells h) :: R)) (ok : h.Ok) : RD w (some ⟨b, 9, none⟩) h.rest :=
  ⟨b, fun _ => ⟨9, rfl, fun j hj => (hh.cells (9 + j)).trans (hcells_rest ok j (by rw [← ok.rest]; exact hj))⟩⟩

def mixL (s u : St) (j : Nat) : List UInt32 := (addS s u).list.take j ++ s.list.drop j
theorem mixL_step (s u : St) (j : Nat) (h : j < 8) : (mixL s u j).set j (s.list.getD j 0 + u.list.getD j 0) = mixL s u (j + 1) := by
  have : j = 0 ∨ j = 1 ∨ j = 2 ∨ j = 3 ∨ j = 4 ∨ j = 5 ∨ j = 6 ∨ j = 7 := by omega
  rcases this with rfl | rfl | rfl | rfl | rfl | rfl | rfl | rfl <;> rfl
theorem mixL_get (s u : St) (j : Nat) (h : j < 8) : (mixL s u j).getD j 0 = s.list.getD j 0 := by
  have : j = 0 ∨ j = 1 ∨ j = 2 ∨ j = 3 ∨ j = 4 ∨ j = 5 ∨ j = 6 ∨ j = 7 := by omega
  rcases this with rfl | rfl | rfl | rfl | rfl | rfl | rfl | rfl <;> rfl
theorem mixL_len (s u : St) (j : Nat) (h : j ≤ 8) : (mixL s u j).length = 8 := by simp [mixL, St.list]; omega
theorem run_index_wcs (w : World) (t : TypeId) (ht : Tryd.prog.underlying t = some (.array 8 84)) (l : List UInt32) (j : Nat) (hj : j < 8) (hl : l.length = 8) : (Instr.index t (.agg (wcs l).toArray) (.int .i64 j)).run Tryd.prog w = .ok (wc (l.getD j 0)) w := by
  have pk : Tryd.prog.plainKey 84 = true := by kernel_rfl
  have hg : (wcs l).toArray[j * 1]? = some (wc (l.getD j 0)) := by
    rw [Nat.mul_one]
    simp [wcs, hl, hj, List.getD]
  have p1 := run_part_plain (P := Tryd.prog) w pk (off := j * 1) hg
  obtain ⟨i, hi⟩ : ∃ i, Tryd.prog.info? 84 = some i := by
    have h : (Tryd.prog.info? 84).isSome = true := by kernel_rfl
    exact Option.isSome_iff_exists.1 h
  have hs : i.size = 1 := by
    have h : (Tryd.prog.info? 84).map (·.size) = some 1 := by kernel_rfl
    simpa [hi] using h
  have h1 : (0 : Int) ≤ (j : Int) ∧ (j : Int) < ((8 : Nat) : Int) := by omega
  simp only [Instr.index, asIntOf, run_underlying ht, Sem.run_bind, Sem.run_pure, Result.andThen_ok, sizeOf, typeInfo, h1, and_self, if_true]
  simpa [hi, hs] using p1

set_option maxRecDepth 100000 in
set_option maxHeartbeats 1000000 in
theorem turn_ok (b : Nat) (h : HS) (s : St) (w : World) (R : List HP) (hh : Holds w (HP.blk b 89 (hcells h) :: R)) (ok : h.Ok) (hs : h.s = s.list) (hk : Ent R KF) :
    Calls Tryd.prog 54 #[.pointer (some ⟨b, 0, none⟩), .slice (some ⟨b, 9, none⟩) 64 64] w fun e w' => e = .returned (.tuple #[]) ∧ Holds w' (blk b 89 (hcells { h with s := (turnS s h.rest).list }) :: R) := by
  have hsc := sched_ok b 9 h.rest w _ hh (fun _ hw => hw.rest_rd ok) ok.rest
  have hsz := size_schedA h.rest 64 (by omega)
  have h1 : ∀ v ∈ (schedA h.rest 64).toList, v.oneCell' = true := fun v hv => wcs_one v (by simpa [schedA] using hv)
  have hget := fun j (hj : j < 64) => schedA_get h.rest 64 j hj (by omega)
  generalize schedA h.rest 64 = F at hsc hsz h1 hget
  have HSC := Lib.hid hsc; have HQ := Lib.hid (show (Tryd.prog.info? 92).map (·.size) = some F.size by rw [Tryd.sizeA64, hsz])
  have H1 := Lib.hid h1; have HG := Lib.hid hget; have HSZ := Lib.hid hsz
  clear hsc hsz h1 hget
  go_enter Tryd.func54, Tryd.ntmps54
  go_wp2_with (first
    | (go_at_call 55; (with_reducible refine HSC.out.mono ?_); rintro e w1 ⟨rfl, hh1⟩)
    | ((with_reducible refine (?_ : wpList _ _ _ [_] _ _)); refine wpList_store_blk rfl 92 (.tmp 4) (.tmp 21) rfl w1.heap.size 0 F rfl rfl 92 _ (Blk.new _ _ _) HQ.out (by rw [HSZ.out]; exact Nat.le_refl _) H1.out ?_
       (
       intro w2 hb2 hk2
       rw [putA_all _ F.toList (by rw [Array.length_toList, HSZ.out]; rfl)] at hb2
       have hh2 : Holds w2 (blk w1.heap.size 92 F :: blk b 89 (hcells h) :: R) := (hh1.alloc 92 _).reblk (by simpa using hb2) hk2
       have HH2 := Lib.hid hh2
       have c0 : w2.cell? ⟨b, 0, none⟩ = some (wc s.a) := (hh2.tail.cells 0).trans ((hcells_s ok 0 (by omega)).trans (by rw [hs]; rfl))
       have c1 : w2.cell? ⟨b, 1, none⟩ = some (wc s.c) := (hh2.tail.cells 1).trans ((hcells_s ok 1 (by omega)).trans (by rw [hs]; rfl))
       have c2 : w2.cell? ⟨b, 2, none⟩ = some (wc s.d) := (hh2.tail.cells 2).trans ((hcells_s ok 2 (by omega)).trans (by rw [hs]; rfl))
       have c3 : w2.cell? ⟨b, 3, none⟩ = some (wc s.e) := (hh2.tail.cells 3).trans ((hcells_s ok 3 (by omega)).trans (by rw [hs]; rfl))
       have c4 : w2.cell? ⟨b, 4, none⟩ = some (wc s.f) := (hh2.tail.cells 4).trans ((hcells_s ok 4 (by omega)).trans (by rw [hs]; rfl))
       have c5 : w2.cell? ⟨b, 5, none⟩ = some (wc s.g) := (hh2.tail.cells 5).trans ((hcells_s ok 5 (by omega)).trans (by rw [hs]; rfl))
       have c6 : w2.cell? ⟨b, 6, none⟩ = some (wc s.h) := (hh2.tail.cells 6).trans ((hcells_s ok 6 (by omega)).trans (by rw [hs]; rfl))
       have c7 : w2.cell? ⟨b, 7, none⟩ = some (wc s.k) := (hh2.tail.cells 7).trans ((hcells_s ok 7 (by omega)).trans (by rw [hs]; rfl))
       clear hb2 hk2 hh2 hh1)))
  simp only [Act.put]
  go_quiet (fail)
  rename_i nq
  have HB := Lib.hid (HH2.out.drewN nq)
  clear c0 c1 c2 c3 c4 c5 c6 c7 HH2 HSC hh
  have HSS := Lib.hid hs; clear hs
  go_wp2
  go_loopw [5, 6, 7, 8, 9, 10, 11, 12, 54] (fun va vc vd ve vf vg vh vk i wr => ∃ (j : Nat) (u : St), j ≤ 64 ∧ i = .int .i64 j ∧ va = wc u.a ∧ vc = wc u.c ∧ vd = wc u.d ∧ ve = wc u.e ∧ vf = wc u.f ∧ vg = wc u.g ∧ vh = wc u.h ∧ vk = wc u.k ∧ Hid (u = roundsN h.rest s j) ∧ Holds wr (blk w1.heap.size 92 F :: blk b 89 (hcells h) :: R)) (fun _ _ _ _ _ _ _ _ i _ => 64 - (intOf i).toNat)
  case atStart => exact ⟨0, s, by omega, rfl, rfl, rfl, rfl, rfl, rfl, rfl, rfl, rfl, rfl, HB.out⟩
  case round =>
    obtain ⟨j, u, hj, rfl, rfl, rfl, rfl, rfl, rfl, rfl, rfl, rfl, hu, hb⟩ := hrel
    by_cases hlt : j < 64
    · have ck := hk _ hb.tail.tail j hlt
      have cw := (hb.cells j).trans (HG.out j hlt)
      have HN := Lib.hid (show roundsN h.rest s (j + 1) = roundS (roundsN h.rest s j) (kList.getD j 0) ((schedN h.rest 64).getD j 0) from rfl)
      rw [← hu.out] at HN
      generalize kList.getD j 0 = kk at ck HN
      generalize (schedN h.rest 64).getD j 0 = ww at cw HN
      have HB2 := Lib.hid hb; clear hb
      have i1 : (0 : Int) ≤ (j : Int) := by omega
      have i2 : (j : Int) < 64 := by omega
      go_wp2_with (first
        | (go_at_call 56; (with_reducible refine (rot_lit u.f (-6) 6 (by decide) (by decide) _).mono ?_); rintro e w' ⟨rfl, rfl⟩)
        | (go_at_call 56; (with_reducible refine (rot_lit u.f (-11) 11 (by decide) (by decide) _).mono ?_); rintro e w' ⟨rfl, rfl⟩)
        | (go_at_call 56; (with_reducible refine (rot_lit u.f (-25) 25 (by decide) (by decide) _).mono ?_); rintro e w' ⟨rfl, rfl⟩))
      go_quiet (fail)
      rename_i nq2
      go_wp2_with (first
        | (go_at_call 56; (with_reducible refine (rot_lit u.a (-2) 2 (by decide) (by decide) _).mono ?_); rintro e w' ⟨rfl, rfl⟩)
        | (go_at_call 56; (with_reducible refine (rot_lit u.a (-13) 13 (by decide) (by decide) _).mono ?_); rintro e w' ⟨rfl, rfl⟩)
        | (go_at_call 56; (with_reducible refine (rot_lit u.a (-22) 22 (by decide) (by decide) _).mono ?_); rintro e w' ⟨rfl, rfl⟩))
      go_roundw
      case rel => exact ⟨j + 1, roundS u kk ww, by omega, by go_num, rfl, rfl, rfl, rfl, rfl, rfl, rfl, rfl, HN.out.symm, HB2.out.drewN _⟩
      case measure => simp [intOf]; omega
    · obtain rfl : j = 64 := by omega
      rw [show ((64 : Nat) : Int) = 64 from rfl]
      have HB2 := Lib.hid hb; clear hb hlt
      go_wp2
      have HU := Lib.hid (show turnS s h.rest = addS s u by rw [hu.out]; rfl)
      go_loopw [128] (fun i wr => ∃ j : Nat, j ≤ 8 ∧ i = .int .i64 j ∧ Holds wr (blk b 89 (hcells { h with s := mixL s u j }) :: R)) (fun i _ => 8 - (intOf i).toNat)
      case atStart =>
        refine ⟨0, by omega, rfl, ?_⟩
        have := HB2.out.tail
        rwa [show ({ h with s := mixL s u 0 } : HS) = h by rw [show mixL s u 0 = s.list by rfl, ← HSS.out]]
      case round =>
        obtain ⟨j, hj, rfl, hb⟩ := hrel
        by_cases hlt : j < 8
        · have ok2 : ({ h with s := mixL s u j } : HS).Ok := ⟨mixL_len s u j hj, ok.rest⟩
          have cj := (hb.cells j).trans (hcells_s ok2 j hlt)
          have fj := hb.free j
          have hix := fun w => run_index_wcs w 85 Tryd.underlying85 u.list j hlt rfl
          simp only [mixL_get s u j hlt] at cj
          have HM := Lib.hid (mixL_step s u j hlt)
          rw [show (wcs u.list).toArray = #[wc u.a, wc u.c, wc u.d, wc u.e, wc u.f, wc u.g, wc u.h, wc u.k] from rfl] at hix
          generalize s.list.getD j 0 = x at cj HM
          generalize u.list.getD j 0 = y at hix HM
          have HB3 := Lib.hid hb; have HOK2 := Lib.hid ok2; clear hb ok2
          have i1 : (0 : Int) ≤ (j : Int) := by omega
          have i2 : (j : Int) < 8 := by omega
          go_wp2
          go_outline
          refine wp_region_still_tail 9 (by kernel_rfl) (by kernel_rfl) ?_
          change wpStill _ _ (World.drew _) _ _ _
          simp only [List.take_succ_cons, List.take_zero, List.drop_succ_cons, List.drop_zero]
          repeat still_step
          refine wpStill_nil ?_
          change wpList _ _ _ _ _ (World.drew _)
          (try simp only [World.drew_drewN])
          refine wpList_store_one rfl 84 (.tmp 140) (.tmp 138) rfl b j _ rfl rfl rfl (by kernel_rfl) _ cj fj ?_
          go_wp2
          go_roundw
          case rel =>
            refine ⟨j + 1, by omega, by go_num, ?_⟩
            have h2 := HB3.out.drew.set_ j (wc (x + y))
            rw [hcells_set HOK2.out j hlt] at h2
            simp only [HM.out] at h2
            exact h2
          case measure => simp [intOf]; omega
        · obtain rfl : j = 8 := by omega
          have HB3 := Lib.hid hb; clear hb
          go_wp2
          go_returns
          refine ⟨rfl, ?_⟩
          rw [HU.out]
          exact HB3.out
end Go.Proofs.YtmaiokjcgijdcaaDoor
