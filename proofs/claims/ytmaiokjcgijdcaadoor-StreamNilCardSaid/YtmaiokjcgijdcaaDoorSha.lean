/- sha: words, schedules, turns. -/
import Derived.Test.YtmaiokjcgijdcaaDoorShaPure
import Derived.Test.YtmaiokjcgijdcaaDoorSl
namespace Go.Proofs.YtmaiokjcgijdcaaDoor
open Go.RowKit HP

theorem cell_other (w : World) (g i j : Nat) {u : Value} (h : i ≠ j) : (w.setCell ⟨g, j, none⟩ u).cell? ⟨g, i, none⟩ = w.cell? ⟨g, i, none⟩ := by
  simp only [World.cell?, World.setCell, Array.getElem?_modify, Option.isSome_none, Bool.false_eq_true, if_false]
  cases w.heap[g]? with
  | none => rfl
  | some o => cases o <;> simp [Ne.symm h]
theorem rot_lit (x : UInt32) (k : Int) (n : Nat) (hk : k = -(n : Int)) (hn : n ∈ [2, 6, 7, 11, 13, 17, 18, 19, 22, 25]) (w : World) :
    Calls Tryd.prog 56 #[wc x, .int .i64 k] w fun e w' => e = .returned (wc (rotr x n)) ∧ w = w' := by
  subst hk; exact rot_ok x n hn w

theorem word_ok (A : Option Addr) (n c : Nat) (xs : List UInt8) (w : World) (hr : RD w A xs) (hn : Hid (n = xs.length)) (h4 : 4 ≤ n) :
    Calls Tryd.prog 57 #[.slice A n c] w fun e w' => e = .returned (wc (wordL xs)) ∧ ∃ k, w' = w.drewN k := by
  obtain ⟨g, hr⟩ := hr
  have h4' : 4 ≤ xs.length := by rw [← hn.out]; exact h4
  obtain ⟨o, rfl, c0⟩ := hr.cell (j := 0) (by omega)
  obtain ⟨o1, e1, c1⟩ := hr.cell (j := 1) (by omega)
  obtain ⟨o2, e2, c2⟩ := hr.cell (j := 2) (by omega)
  obtain ⟨o3, e3, c3⟩ := hr.cell (j := 3) (by omega)
  cases e1; cases e2; cases e3
  rw [Nat.add_zero] at c0
  unfold wordL
  have i0 : (0 : Int) < (n : Int) := by omega
  have i1 : (1 : Int) < (n : Int) := by omega
  have i2 : (2 : Int) < (n : Int) := by omega
  have i3 : (3 : Int) < (n : Int) := by omega
  generalize xs.getD 0 0 = x0 at c0 ⊢
  generalize xs.getD 1 0 = x1 at c1 ⊢
  generalize xs.getD 2 0 = x2 at c2 ⊢
  generalize xs.getD 3 0 = x3 at c3 ⊢
  clear h4' hr
  go_enter Tryd.func57, Tryd.ntmps57
  go_wp2
  go_quiet (fail)
  go_wp2
  go_ret
  exact ⟨rfl, _, rfl⟩

/-- words so far, the rest zero -/
def schedA (b : List UInt8) (i : Nat) : Array Value := (wcs (schedN b i ++ List.replicate (64 - i) 0)).toArray
theorem size_schedA (b : List UInt8) (i : Nat) (hi : i ≤ 64) : (schedA b i).size = 64 := by simp [schedA]; omega
theorem schedA_set (b : List UInt8) (i : Nat) (hi : i < 64) : (schedA b i).setIfInBounds i (wc (nextW b (schedN b i))) = schedA b (i + 1) := by
  apply Array.ext_getElem?
  intro k
  simp only [schedA, Array.getElem?_setIfInBounds, List.getElem?_toArray, List.size_toArray, length_wcs, wcs_get, schedN, List.getElem?_append, length_schedN, List.length_append, List.length_replicate, List.getElem?_replicate, List.length_cons, List.length_nil]
  by_cases h : i = k
  · subst h
    rw [if_pos rfl, if_pos (by omega), if_pos (by omega), if_neg (by omega)]
    simp
  · rw [if_neg h]
    by_cases h2 : k < i
    · rw [if_pos h2, if_pos (by omega), if_pos h2]
    · rw [if_neg h2]
      by_cases h3 : k < i + 1
      · omega
      · rw [if_neg h3]
        by_cases h4 : k < 64
        · rw [if_pos (by omega), if_pos (by omega)]
        · rw [if_neg (by omega), if_neg (by omega)]
theorem schedA_get (b : List UInt8) (i j : Nat) (hj : j < i) (_hi : i ≤ 64) : (schedA b i)[j]? = some (wc ((schedN b i).getD j 0)) := by
  simp [schedA, wcs_get, List.getElem?_append, hj, List.getD]
theorem schedA_get0 (b : List UInt8) (i : Nat) (hi : i < 64) : (schedA b i)[i]? = some (wc 0) := by
  simp [schedA, wcs_get, List.getElem?_append, List.getElem?_replicate]; omega

theorem Tryd.infoA64 : (Tryd.prog.info? 92).map (fun i => (i.zero, i.size)) = some (some (.agg (wcs (List.replicate 64 0)).toArray), 64) := by kernel_rfl
theorem Tryd.sizeA64 : (Tryd.prog.info? 92).map (·.size) = some 64 := by kernel_rfl
theorem run_alloc_a64 (w : World) : (Instr.alloc 92 true undef).run Tryd.prog w = .ok (.pointer (some ⟨w.heap.size, 0, none⟩)) (w.alloc (.cells (wcs (List.replicate 64 0)).toArray 92)) := by
  have h := Tryd.infoA64
  cases hi : Tryd.prog.info? 92 with
  | none => rw [hi] at h; cases h
  | some i =>
    rw [hi] at h
    simp only [Option.map_some, Option.some.injEq, Prod.mk.injEq] at h
    simp [Instr.alloc, zeroValue, typeInfo, hi, h.1, newVar, newRow, Value.cells]

set_option maxRecDepth 100000 in
set_option maxHeartbeats 1000000 in
theorem sched_ok (g o : Nat) (xs : List UInt8) (w : World) (R : List HP) (hh : Holds w R) (hr : Ent R fun w => RD w (some ⟨g, o, none⟩) xs) (hx : xs.length = 64) :
    Calls Tryd.prog 55 #[.slice (some ⟨g, o, none⟩) 64 64] w fun e w' => e = .returned (.agg (schedA xs 64)) ∧ Holds w' R := by
  have ha := run_alloc_a64
  have HH := Lib.hid (hh.alloc 92 (schedA xs 0))
  have HX := Lib.hid hx; clear hx hh
  have hz : schedA xs 0 = (wcs (List.replicate 64 0)).toArray := by simp [schedA, schedN]
  rw [← hz] at ha
  clear hz
  go_enter Tryd.func55, Tryd.ntmps55
  go_wp2
  go_loopw [9] (fun i wr => ∃ j : Nat, j ≤ 16 ∧ i = .int .i64 j ∧ Holds wr (blk w.heap.size 92 (schedA xs j) :: R)) (fun i _ => 16 - (intOf i).toNat)
  case atStart => exact ⟨0, by omega, rfl, HH.out⟩
  case round =>
    obtain ⟨j, hj, rfl, hb⟩ := hrel
    by_cases hlt : j < 16
    · have hrd := hr _ hb.tail
      have cj : wr.cell? ⟨w.heap.size, j, none⟩ = some (wc 0) := (hb.cells j).trans (schedA_get0 xs j (by omega))
      have fj := hb.free j
      have hrd2 : RD wr (some ⟨g, o + 4 * j, none⟩) (xs.drop (4 * j)) := by
        have := hrd.drop (k := 4 * j) (c := 64) (by rw [HX.out]; omega) (by rw [HX.out]; omega)
        rwa [if_neg (by omega), Option.map_some, add_plain] at this
      have hl2 : 64 - 4 * j = (xs.drop (4 * j)).length := by rw [List.length_drop, HX.out]
      have HB := Lib.hid hb; have HRD := Lib.hid hrd2; have HL2 := Lib.hid hl2; clear hb hrd hrd2 hl2
      go_wp2_with (go_at_call 57; (with_reducible refine (word_ok _ _ _ (xs.drop (4 * j)) _ HRD.out HL2 (by omega)).mono ?_); rintro e w' ⟨rfl, k, rfl⟩)
      go_simp
      go_wp2
      go_roundw
      case rel =>
        refine ⟨j + 1, by omega, by go_num, ?_⟩
        have h2 := (HB.out.drewN k).set_ j (wc (nextW xs (schedN xs j)))
        rw [schedA_set xs j (by omega)] at h2
        have e : nextW xs (schedN xs j) = wordL (xs.drop (4 * j)) := by unfold nextW; rw [length_schedN, if_pos hlt]
        rw [e] at h2
        exact h2
      case measure => simp [intOf]; omega
    · obtain rfl : j = 16 := by omega
      have HB := Lib.hid hb; clear hb hlt
      rw [show ((16 : Nat) : Int) = 16 from rfl]
      go_wp2
      go_loopw [4] (fun i wr => ∃ j : Nat, 16 ≤ j ∧ j ≤ 64 ∧ i = .int .i64 j ∧ Holds wr (blk w.heap.size 92 (schedA xs j) :: R)) (fun i _ => 64 - (intOf i).toNat)
      case atStart => exact ⟨16, by omega, by omega, rfl, HB.out⟩
      case round =>
        obtain ⟨j, hj0, hj, rfl, hb⟩ := hrel
        by_cases hlt : j < 64
        · have cj : _ = some (wc 0) := (hb.cells j).trans (schedA_get0 xs j (by omega))
          have c16 := (hb.cells (j - 16)).trans (schedA_get xs j (j - 16) (by omega) (by omega))
          have c15 := (hb.cells (j - 15)).trans (schedA_get xs j (j - 15) (by omega) (by omega))
          have c7 := (hb.cells (j - 7)).trans (schedA_get xs j (j - 7) (by omega) (by omega))
          have c2 := (hb.cells (j - 2)).trans (schedA_get xs j (j - 2) (by omega) (by omega))
          have fj := hb.free j
          have HN := Lib.hid (show nextW xs (schedN xs j) = _ by unfold nextW; rw [length_schedN, if_neg (by omega)])
          generalize (schedN xs j).getD (j - 16) 0 = x16 at c16 HN
          generalize (schedN xs j).getD (j - 15) 0 = x15 at c15 HN
          generalize (schedN xs j).getD (j - 7) 0 = x7 at c7 HN
          generalize (schedN xs j).getD (j - 2) 0 = x2 at c2 HN
          have HB := Lib.hid hb; clear hb
          have i1 : (0 : Int) ≤ (j : Int) - 15 := by omega
          have i2 : (0 : Int) ≤ (j : Int) - 2 := by omega
          go_wp2
          go_quiet (fail)
          rename_i nq
          go_wp2_with (first
            | (go_at_call 56; (with_reducible refine (rot_lit x15 (-7) 7 (by decide) (by decide) _).mono ?_); rintro e w' ⟨rfl, rfl⟩)
            | (go_at_call 56; (with_reducible refine (rot_lit x15 (-18) 18 (by decide) (by decide) _).mono ?_); rintro e w' ⟨rfl, rfl⟩)
            | (go_at_call 56; (with_reducible refine (rot_lit x2 (-17) 17 (by decide) (by decide) _).mono ?_); rintro e w' ⟨rfl, rfl⟩)
            | (go_at_call 56; (with_reducible refine (rot_lit x2 (-19) 19 (by decide) (by decide) _).mono ?_); rintro e w' ⟨rfl, rfl⟩))
          have i3 : (0 : Int) ≤ (j : Int) - 16 := by omega
          have i4 : (0 : Int) ≤ (j : Int) - 7 := by omega
          have i5 : ((j : Int) - 16).toNat = j - 16 := by omega
          have i6 : ((j : Int) - 7).toNat = j - 7 := by omega
          have i7 : IntKind.i64.wrap ((j : Int) - 16) = (j : Int) - 16 := IntWalk.i64_in _ (by omega)
          have i8 : IntKind.i64.wrap ((j : Int) - 7) = (j : Int) - 7 := IntWalk.i64_in _ (by omega)
          have i9 : (j : Int) - 16 < 64 := by omega
          have i10 : (j : Int) - 7 < 64 := by omega
          have i11 : (j : Int) < 64 := by omega
          have i12 : (0 : Int) ≤ (j : Int) := by omega
          have i13 : (16 : Int) ≤ (j : Int) := by omega
          have i14 : (7 : Int) ≤ (j : Int) := by omega
          refine wp_region_still_tail 15 (by kernel_rfl) (by kernel_rfl) ?_
          change wpStill _ _ (World.drew _) _ _ _
          simp only [List.take_succ_cons, List.take_zero, List.drop_succ_cons, List.drop_zero]
          repeat still_step
          refine wpStill_nil ?_
          change wpList _ _ _ _ _ (World.drew _)
          (try simp only [World.drew_drewN])
          refine wpList_store_one rfl 84 (.tmp 62) (.tmp 61) rfl w.heap.size j _ rfl rfl rfl (by kernel_rfl) (wc 0) cj fj ?_
          go_wp2
          go_roundw
          case rel =>
            refine ⟨j + 1, by omega, by omega, by go_num, ?_⟩
            have h2 := (HB.out.drewN (nq + 1)).set_ j (wc (nextW xs (schedN xs j)))
            rw [schedA_set xs j hlt, HN.out] at h2
            exact h2
          case measure => simp [intOf]; omega
        · obtain rfl : j = 64 := by omega
          have hbk := hb.blk
          have hsz := size_schedA xs 64 (by omega)
          have h1 : ∀ v ∈ (schedA xs 64).toList, v.oneCell' = true := fun v hv => wcs_one v (by simpa [schedA] using hv)
          generalize hF : schedA xs 64 = F at hb hbk hsz h1
          have HF := Lib.hid hF; clear hF
          have hq : (Tryd.prog.info? 92).map (·.size) = some F.size := by rw [Tryd.sizeA64, hsz]
          have hbh : wr.heap[w.heap.size]? = some (.cells F 92 (0, 0)) := hbk
          have HQ := Lib.hid hq; have HS := Lib.hid hsz; have HP := Lib.hid (putA_all F F.toList (by simp)); have H1 := Lib.hid h1; have HB := Lib.hid hb; have HBK := Lib.hid hbk; have HBH := Lib.hid hbh
          clear hq hsz h1 hb hbk hbh hlt
          go_wp2_with (first
            | (with_reducible refine wpList_load_row rfl 92 (.tmp 2) rfl w.heap.size rfl 92 F (0, 0) _ HBH.out Tryd.underlying92 rfl HQ.out ?_)
            | (with_reducible refine wpList_store_blk rfl 92 (.tmp 2) (.tmp 63) rfl w.heap.size 0 F rfl rfl 92 F HBK.out HQ.out (by rw [Nat.zero_add]; exact Nat.le_refl _) H1.out ?_
               (
               intro w2 hb2 hk2; rw [HP.out] at hb2
               have hq2 : Holds w2 (blk w.heap.size 92 F :: R) := HB.out.reblk (by simpa using hb2) hk2
               have HB2 := Lib.hid hq2
               have hc2 : w2.heap[w.heap.size]? = some (.cells F 92 (0, 0)) := hq2.blk
               clear hb2 hk2 hq2)))
          refine bodyPost_ret (results_cell_row rfl _ _ w.heap.size 92 F (0, 0) _ rfl hc2 Tryd.underlying92 rfl HQ.out) rfl ?_
          exact ⟨by rw [HF.out], HB2.out.tail⟩
end Go.Proofs.YtmaiokjcgijdcaaDoor
