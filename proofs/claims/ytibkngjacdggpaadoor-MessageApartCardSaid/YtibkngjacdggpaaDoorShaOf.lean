import Derived.Test.YtibkngjacdggpaaDoorShaWrite
import Derived.Laws.MakeOwn
import Derived.Test.YtibkngjacdggpaaDoorSl
/- sha: Sum of a Hash. -/
namespace Go.Proofs.YtibkngjacdggpaaDoor
open Go.RowKit HP

def outA (L : List UInt8) (m : Nat) : Array Value := (bcs (L.take m ++ zeros (32 - m))).toArray
theorem size_outA (L : List UInt8) (m : Nat) (hL : L.length = 32) (hm : m ≤ 32) : (outA L m).size = 32 := by simp [outA, hL]; omega
theorem outA_cut (L : List UInt8) (m : Nat) (hm : m < 32) : outA L m = (bcs (L.take m) ++ bc 0 :: bcs (zeros (31 - m))).toArray := by
  unfold outA
  rw [show zeros (32 - m) = 0 :: zeros (31 - m) by rw [show 32 - m = (31 - m) + 1 by omega]; rfl, bcs_append]
  rfl
theorem outA_get (L : List UInt8) (m : Nat) (hL : L.length = 32) (hm : m < 32) : (outA L m)[m]? = some (bc 0) := by
  have hl : (bcs (L.take m)).length = m := by rw [length_bcs, List.length_take, hL]; omega
  rw [outA_cut L m hm, List.getElem?_toArray, List.getElem?_append_right (by omega), hl, Nat.sub_self]
  rfl
theorem outA_set (L : List UInt8) (m : Nat) (hL : L.length = 32) (hm : m < 32) : (outA L m).setIfInBounds m (bc (L.getD m 0)) = outA L (m + 1) := by
  have hl : (bcs (L.take m)).length = m := by rw [length_bcs, List.length_take, hL]; omega
  rw [outA_cut L m hm, List.setIfInBounds_toArray, List.set_append_right _ _ (by omega), hl, Nat.sub_self, List.set_cons_zero]
  unfold outA
  rw [List.take_succ_eq_append_getElem (by omega : m < L.length), show 32 - (m + 1) = 31 - m by omega, bcs_append, bcs_append]
  have : L.getD m 0 = L[m] := by simp [List.getD, hL, hm]
  rw [this, List.append_assoc]
  rfl
theorem outA_all (L : List UInt8) (hL : L.length = 32) : outA L 32 = (bcs L).toArray := by
  simp [outA, zeros, List.take_of_length_le (Nat.le_of_eq hL)]
theorem outA_zero (L : List UInt8) : outA L 0 = (bcs (zeros 32)).toArray := by simp [outA]
theorem outS_get (s : St) (i j : Nat) (hi : i < 8) (hj : j < 4) : (outS s).getD (4 * i + j) 0 = (shr32 (s.list.getD i 0) (24 - 8 * j)).toUInt8 := by
  have h1 : i = 0 ∨ i = 1 ∨ i = 2 ∨ i = 3 ∨ i = 4 ∨ i = 5 ∨ i = 6 ∨ i = 7 := by omega
  have h2 : j = 0 ∨ j = 1 ∨ j = 2 ∨ j = 3 := by omega
  rcases h1 with rfl | rfl | rfl | rfl | rfl | rfl | rfl | rfl <;> rcases h2 with rfl | rfl | rfl | rfl <;> rfl

theorem padB_take (n j : Nat) (hj : j < 8) : (128 :: List.replicate ((119 - n % 64) % 64) 0 ++ ((List.range 8).map fun i => UInt8.ofNat (n * 8 / 2 ^ (56 - 8 * i))).take (j + 1) : List UInt8) = (128 :: List.replicate ((119 - n % 64) % 64) 0 ++ ((List.range 8).map fun i => UInt8.ofNat (n * 8 / 2 ^ (56 - 8 * i))).take j) ++ [UInt8.ofNat (n * 8 / 2 ^ (56 - 8 * j))] := by
  rw [List.take_succ_eq_append_getElem (by simpa using hj), ← List.append_assoc]
  simp
end Go.Proofs.YtibkngjacdggpaaDoor
/- sha: Sum of a Hash: the walk. -/
namespace Go.Proofs.YtibkngjacdggpaaDoor
open Go.RowKit HP

set_option maxRecDepth 100000 in
theorem hsum_nil (w : World) (R : List HP) (hh : Holds w R) : Calls Tryd.prog 84 #[.pointer none] w fun e w' => e = .returned (.agg (bcs (zeros 32)).toArray) ∧ Holds w' R := by
  have HFIN := Lib.hid (hh.alloc 22 (bcs (zeros 32)).toArray); clear hh
  have HSZ := Lib.hid (show (Tryd.prog.info? 22).map (·.size) = some (bcs (zeros 32)).toArray.size from Tryd.sizeHash)
  have HSZ2 := Lib.hid (show (Tryd.prog.info? 22).map (·.size) = some (bcs (zeros 32)).length from Tryd.sizeHash)
  have HPA := Lib.hid (show putA (bcs (zeros 32)).toArray 0 (bcs (zeros 32)).toArray.toList = (bcs (zeros 32)).toArray from putA_all _ _ (by simp))
  have HZL := Lib.hid (show 0 + (bcs (zeros 32)).toArray.size ≤ (bcs (zeros 32)).toArray.size by omega); have H1B := Lib.hid (show ∀ v ∈ (bcs (zeros 32)).toArray.toList, v.oneCell' = true from bcs_one)
  have ha := run_alloc_hash
  go_enter Tryd.func84, Tryd.ntmps84
  go_wp2_with (first
    | ((with_reducible refine (?_ : wpList _ _ _ (_ :: [_]) _ _)); refine wpList_load_mid rfl 22 (.tmp 2) rfl w.heap.size 0 rfl (bcs (zeros 32)) _ HFIN.out.blk.range Tryd.underlying22 rfl HSZ2.out ?_)
    | ((with_reducible refine (?_ : wpList _ _ _ [_] _ _)); refine wpList_store_blk rfl 22 (.tmp 2) (.tmp 12) rfl w.heap.size 0 (bcs (zeros 32)).toArray rfl rfl 22 (bcs (zeros 32)).toArray HFIN.out.blk HSZ.out HZL.out H1B.out ?_; (
       intro w4 hb4 hk4
       rw [HPA.out] at hb4
       have hh5 := HFIN.out.reblk hb4 hk4
       have hcc : w4.heap[w.heap.size]? = some (.cells (bcs (zeros 32)).toArray 22 (0, 0)) := hb4
       have HH5 := Lib.hid hh5; have HCC := Lib.hid hcc
       clear hb4 hk4 hh5 hcc)))
  refine bodyPost_ret (results_cell_row rfl _ _ w.heap.size 22 (bcs (zeros 32)).toArray (0, 0) _ rfl HCC.out Tryd.underlying22 rfl HSZ.out) rfl ?_
  exact ⟨rfl, HH5.out.tail⟩

set_option maxRecDepth 100000 in
set_option maxHeartbeats 2000000 in
theorem hsum_ok (b : Nat) (xs : List UInt8) (w : World) (R : List HP) (hh : Holds w (HashH b xs :: R)) (hk : Ent R KF) (hbd : xs.length ≤ 1152921504606846976) :
    Calls Tryd.prog 84 #[.pointer (some ⟨b, 0, none⟩)] w fun e w' => e = .returned (.agg (bcs (shaL xs)).toArray) ∧ Holds w' (HashH b xs :: R) := by
  obtain ⟨h, hh⟩ := hh.ex_
  obtain ⟨hi, hh⟩ := hh.cond_
  have hs := size_hcells hi.ok
  have cn := hcells_n hi.ok
  have h1 := hcells_one h
  rw [hi.n] at cn
  obtain ⟨L, hL⟩ : ∃ L : Nat, L = (119 - xs.length % 64) % 64 := ⟨_, rfl⟩
  have hL' : 1 + (119 - (xs.length : Int)) % 64 = ((1 + L : Nat) : Int) := by omega
  obtain ⟨ib, hib, hz0, hz1, hz2⟩ := info_parts Tryd.infoByte
  have hmk : ∀ w, (Instr.makeSlice 23 (.int .i64 (1 + (119 - (xs.length : Int)) % 64)) (.int .i64 73)).run Tryd.prog w = .ok (.slice (some ⟨w.heap.size, 0, none⟩) (1 + L) 73) (w.alloc (.cells (bcs (zeros 73)).toArray 5)) := by
    intro w
    have := run_make (P := Tryd.prog) w 23 5 ib _ Tryd.underlying23 hib hz0 .i64 .i64 ((1 + L : Nat) : Int) 73 (by omega) (by omega) (by rw [hz2]; omega) (by omega)
    have e : madeCells (Value.int .u8 0).cells (Int.toNat 73 * 1) = (bcs (zeros 73)).toArray := by kernel_rfl
    rw [hL', this, hz1, Int.toNat_natCast, e]
    rfl
  have HI := Lib.hid hi; have HH := Lib.hid hh; have HB := Lib.hid (show ∀ o, (w.alloc o).heap[b]? = some (.cells (hcells h) 118 (0, 0)) from fun o => (hh.alloc_ o).blk)
  generalize hC : hcells h = C at hs cn h1 HH HB
  have HC := Lib.hid hC; clear hC
  have HS0 := Lib.hid hs; have HCN := Lib.hid cn; have HONE := Lib.hid h1; have HLL := Lib.hid hL
  have HQ := Lib.hid (show (Tryd.prog.info? 118).map (·.size) = some C.size by rw [Tryd.sizeHashT, hs])
  have hzv : ∀ w, (zeroValue 118).run Tryd.prog w = .ok (.agg (hcells HS.zero)) w := fun _ => by kernel_rfl
  have hzs : (hcells HS.zero).size = 74 := rfl
  generalize hcells HS.zero = Z at hzv hzs
  have HZS := Lib.hid hzs
  clear hL'
  clear hh hi hs cn h1 hL hz0 hz1 hz2 hib hzs
  go_enter Tryd.func84, Tryd.ntmps84
  go_wp2_with (first
    | (with_reducible refine wpList_load_row rfl 118 (.tmp 14) rfl b rfl 118 C (0, 0) _ (HB.out _) Tryd.underlying118 rfl HQ.out ?_)
    | ((with_reducible refine (?_ : wpList _ _ _ [_] _ _)); refine wpList_store_blk rfl 118 (.tmp 3) (.tmp 15) rfl (w.heap.size + 1) 0 C rfl rfl 118 _ (by rw [← heap_size_alloc]; exact Blk.new _ _ _) HQ.out (by rw [HS0.out, HZS.out]; exact Nat.le_refl _) HONE.out ?_; (
       intro w2 hb2 hk2
       rw [putA_all _ C.toList (by rw [Array.length_toList, HS0.out, HZS.out]), Array.toArray_toList] at hb2
       have h0 := (HH.out.alloc 22 (bcs (zeros 32)).toArray).alloc 118 Z
       rw [heap_size_alloc] at h0
       have hh2 : Holds w2 (blk (w.heap.size + 1) 118 C :: blk w.heap.size 22 (bcs (zeros 32)).toArray :: blk b 118 C :: R) := h0.reblk hb2 hk2
       have c73 := (hh2.cells 73).trans HCN.out
       have HH2 := Lib.hid hh2
       clear hb2 hk2 hh2 h0)))
  have hpad : Holds (w2.alloc (.cells ((bcs (zeros 73)).set 0 (.int .u8 128)).toArray 5)) (own (.slice (some ⟨w2.heap.size, 0, none⟩) (1 + L) 73) (128 :: List.replicate L 0) :: blk (w.heap.size + 1) 118 C :: blk w.heap.size 22 (bcs (zeros 32)).toArray :: blk b 118 C :: R) := by
    refine (HH2.out.alloc 5 ((bcs (zeros 73)).set 0 (.int .u8 128)).toArray).own_of_cells (by simp; omega) (by have := HLL.out; omega) (by decide) (by simp) ?_
    have hL63 : L ≤ 63 := by have := HLL.out; omega
    rw [show ((bcs (zeros 73)).set 0 (.int .u8 128)).toArray.toList = bcs (128 :: zeros 72) from rfl]
    unfold bcs
    rw [← List.map_take, show 1 + L = L + 1 by omega, List.take_succ_cons]
    unfold zeros
    rw [List.take_replicate, Nat.min_eq_left (by omega)]
  have HPAD := Lib.hid hpad; clear hpad
  rw [show ((xs.length : Int) * 8) = ((xs.length * 8 : Nat) : Int) by omega, show ((119 : Int) - (xs.length : Int) % 64) % 64 = (119 - (xs.length : Int)) % 64 by omega]
  generalize hN8 : xs.length * 8 = N8
  have HN8 := Lib.hid hN8
  have hL63 : L ≤ 63 := by have := HLL.out; omega
  clear hN8
  go_loopw [5, 6] (fun v i wr => ∃ j : Nat, j ≤ 8 ∧ i = .int .i64 (56 - 8 * (j : Int)) ∧ Holds wr (own v (128 :: List.replicate L 0 ++ ((List.range 8).map fun i => UInt8.ofNat (N8 / 2 ^ (56 - 8 * i))).take j) :: blk (w.heap.size + 1) 118 C :: blk w.heap.size 22 (bcs (zeros 32)).toArray :: blk b 118 C :: R)) (fun _ i _ => (intOf i + 8).toNat)
  case atStart => exact ⟨0, by omega, rfl, by rw [List.take_zero, List.append_nil]; exact HPAD.out⟩
  case round =>
    obtain ⟨j, hj, rfl, hb⟩ := hrel
    by_cases hlt : j < 8
    · have hsn : ((List.range 8).map fun i => UInt8.ofNat (N8 / 2 ^ (56 - 8 * i))).take (j + 1) = ((List.range 8).map fun i => UInt8.ofNat (N8 / 2 ^ (56 - 8 * i))).take j ++ [UInt8.ofNat (N8 / 2 ^ (56 - 8 * j))] := by
        rw [List.take_succ_eq_append_getElem (by simpa using hlt)]
        simp
      have HSN := Lib.hid hsn; have HB3 := Lib.hid hb; clear hsn hb
      generalize hq : (128 :: List.replicate L 0 ++ ((List.range 8).map fun i => UInt8.ofNat (N8 / 2 ^ (56 - 8 * i))).take j : List UInt8) = q at HB3
      have hqb : q.length + 1 ≤ 140737488355328 := by rw [← hq]; simp; omega
      have HQQ := Lib.hid hq; clear hq
      go_wp2_with (at_builtin
                   refine wpList_app_b _ rfl (.tmp 33) (.tmp 39) 23 rfl Tryd.underlying23 Tryd.infoByte _ q (HB3.out.ob.alloc _) rfl wr.heap.size _ [UInt8.ofNat (N8 / 2 ^ (56 - 8 * j))] 1 1 rfl rfl (RB.of_byte (bc_shr _ _).symm) hqb ?_
                   intro v2 w3 ho2 hk2 hp2
                   have HA := Lib.hid ((HB3.out.alloc_ _).app ho2 hk2 hp2)
                   clear ho2 hk2 hp2)
      go_roundw
      case rel =>
        refine ⟨j + 1, by omega, by congr 1; omega, ?_⟩
        rw [HSN.out, ← List.append_assoc, HQQ.out]
        exact HA.out
      case measure => simp [intOf]; omega
    · obtain rfl : j = 8 := by omega
      have hpd : (128 :: List.replicate L 0 ++ ((List.range 8).map fun i => UInt8.ofNat (N8 / 2 ^ (56 - 8 * i))).take 8 : List UInt8) = padB xs.length := by
        rw [List.take_of_length_le (by simp), HLL.out, ← HN8.out]; rfl
      rw [hpd] at hb
      have hpl : (padB xs.length).length ≤ 72 := by simp [padB]; omega
      obtain ⟨A, n, c, rfl, hn, hc, -⟩ := hb.own_form
      have hnb : n ≤ 72 := by rw [hn.out]; exact hpl
      have hb2 : Holds wr (blk (w.heap.size + 1) 118 C :: own (.slice A n c) (padB xs.length) :: blk w.heap.size 22 (bcs (zeros 32)).toArray :: blk b 118 C :: R) := hb.perm (.swap _ _ _)
      have hb3 : Holds wr (HashH (w.heap.size + 1) xs :: own (.slice A n c) (padB xs.length) :: blk w.heap.size 22 (bcs (zeros 32)).toArray :: blk b 118 C :: R) := Holds.mk_ex h (Holds.mk_cond HI.out (by rw [HC.out]; exact hb2))
      have hwr := write_ok (w.heap.size + 1) xs (padB xs.length) A n c wr _ hb3 Ent.own hn hc (((hk.cons _).cons _).cons _) (by omega)
      have HW := Lib.hid hwr
      clear hb hb2 hb3 hwr hpd hpl hlt
      rw [show (56 - 8 * ((8 : Nat) : Int)) = -8 from rfl]
      go_wp2_with (first
        | (go_at_call 83; (with_reducible refine HW.out.mono ?_); rintro e w3 ⟨rfl, hh3⟩
           obtain ⟨h4, hh4⟩ := hh3.ex_
           obtain ⟨hi4, hh4⟩ := hh4.cond_
           have hrg : w3.rangeAt (w.heap.size + 1) 0 (wcs h4.s) := fun j v hv => by
             rw [wcs_get] at hv
             obtain ⟨x, hx, rfl⟩ := Option.map_eq_some_iff.1 hv
             obtain ⟨hj, rfl⟩ := List.getElem?_eq_some_iff.1 hx
             rw [Nat.zero_add]
             refine (hh4.cells j).trans ((hcells_s hi4.ok j (by rw [← hi4.ok.s]; exact hj)).trans ?_)
             simp [List.getD, hj]
           have HRG := Lib.hid hrg; have HS4 := Lib.hid (show (Tryd.prog.info? 115).map (·.size) = some (wcs h4.s).length by rw [length_wcs, hi4.ok.s]; exact Tryd.sizeState)
           have HI4 := Lib.hid hi4; have HH4 := Lib.hid hh4; clear hh3 hi4 hh4 hrg)
        | (with_reducible refine wpList_load_mid rfl 115 (.tmp 43) rfl (w.heap.size + 1) 0 rfl (wcs h4.s) _ HRG.out Tryd.underlying115 rfl HS4.out ?_))
      have hbeg : h4.begun = true := by
        cases hb : h4.begun
        · have := (HI4.out.no hb).1
          simp [padB] at this
        · rfl
      have hs4 := HI4.out.s hbeg
      have hsl : shaL xs = outS (foldB begS (xs ++ padB xs.length)) := rfl
      generalize foldB begS (xs ++ padB xs.length) = st at hs4 hsl
      have HSL := Lib.hid hsl
      rw [hs4]
      have HHx := Lib.hid (HH4.out.tail.pull 1 rfl)
      clear hs4 hsl hbeg HH4 HRG HS4
      have hL32 := length_outS st
      have HGET := Lib.hid (outS_get st)
      generalize outS st = Lo at hL32 HSL HGET
      have HL32 := Lib.hid hL32; clear hL32
      go_loopw [45] (fun i wr => ∃ j : Nat, j ≤ 8 ∧ i = .int .i64 j ∧ Holds wr (blk w.heap.size 22 (outA Lo (4 * j)) :: own (.slice A n c) (padB xs.length) :: blk b 118 C :: R)) (fun i _ => 8 - (intOf i).toNat)
      case atStart => exact ⟨0, by omega, rfl, by rw [Nat.mul_zero, outA_zero]; exact HHx.out⟩
      case round =>
        obtain ⟨i, hi8, rfl, hbo⟩ := hrel
        by_cases hlt : i < 8
        · have hix := fun w => run_index_wcs w 115 Tryd.underlying115 st.list i hlt rfl
          have hgx := fun j (hj : j < 4) => HGET.out i j hlt hj
          generalize st.list.getD i 0 = x at hix hgx
          have HGX := Lib.hid hgx; have HBO := Lib.hid hbo; clear hgx hbo
          have hd8 : decide ((i : Int) < 8) = true := decide_eq_true (by omega)
          go_wp2
          obtain ⟨wo, rfl⟩ : ∃ wo : World, wo = wr := ⟨_, rfl⟩
          go_loopw [49] (fun i' wr => ∃ j : Nat, j ≤ 4 ∧ i' = .int .i64 j ∧ Holds wr (blk w.heap.size 22 (outA Lo (4 * i + j)) :: own (.slice A n c) (padB xs.length) :: blk b 118 C :: R)) (fun i _ => 4 - (intOf i).toNat)
          case atStart => exact ⟨0, by omega, rfl, HBO.out⟩
          case round =>
            obtain ⟨j, hj4, rfl, hbi⟩ := hrel
            by_cases hlj : j < 4
            · have cj := (hbi.cells (4 * i + j)).trans (outA_get Lo (4 * i + j) HL32.out (by omega))
              have fj := hbi.free (4 * i + j)
              have hst := hbi.set_ (4 * i + j) (bc (Lo.getD (4 * i + j) 0))
              rw [outA_set Lo (4 * i + j) HL32.out (by omega), HGX.out j hlj] at hst
              have HST := Lib.hid hst; clear hst hbi
              have k1 : (0 : Int) ≤ 24 - 8 * (j : Int) := by omega
              have k2 : 8 * (j : Int) ≤ 24 := by omega
              have k3 : (24 : Int) - 8 * (j : Int) < 32 := by omega
              have k4 : ((24 : Int) - 8 * (j : Int)).toNat = 24 - 8 * j := by omega
              go_wp2
              go_simp
              go_wp2
              go_roundw
              case rel => exact ⟨j + 1, by omega, by go_num, HST.out⟩
              case measure => simp [intOf]; omega
            · obtain rfl : j = 4 := by omega
              have HBI := Lib.hid hbi; clear hbi hlj
              go_wp2
              go_roundw
              case rel => exact ⟨i + 1, by omega, by go_num, HBI.out⟩
              case measure => simp [intOf]; omega
        · obtain rfl : i = 8 := by omega
          rw [show 4 * 8 = 32 from rfl, outA_all Lo HL32.out] at hbo
          have hfin : Holds wr (blk w.heap.size 22 (bcs Lo).toArray :: HashH b xs :: R) := by
            have h2 := (hbo.drop 1 rfl).pull 1 rfl
            exact ((h2.turn (Q := HashH b xs) (fun S hS => ⟨S, ⟨h, HI.out, by rw [HC.out]; exact hS⟩, fun _ h => h⟩)).pull 1 rfl)
          have hsz : (Tryd.prog.info? 22).map (·.size) = some (bcs Lo).toArray.size := by rw [Tryd.sizeHash]; simp [HL32.out]
          have HSZ := Lib.hid hsz; have HFIN := Lib.hid hfin; have HBL := Lib.hid hfin.blk
          have HPA := Lib.hid (show putA (bcs Lo).toArray 0 (bcs Lo).toArray.toList = (bcs Lo).toArray from putA_all _ _ (by simp))
          have HSZ2 := Lib.hid (show (Tryd.prog.info? 22).map (·.size) = some (bcs Lo).length by rw [Tryd.sizeHash]; simp [HL32.out])
          have HZL := Lib.hid (show 0 + (bcs Lo).toArray.size ≤ (bcs Lo).toArray.size by omega); have H1B := Lib.hid (show ∀ v ∈ (bcs Lo).toArray.toList, v.oneCell' = true from bcs_one)
          clear hbo hfin hsz hlt
          go_wp2_with (first
            | (with_reducible refine wpList_load_mid rfl 22 (.tmp 2) rfl w.heap.size 0 rfl (bcs Lo) _ HBL.out.range Tryd.underlying22 rfl HSZ2.out ?_)
            | (with_reducible refine wpList_store_blk rfl 22 (.tmp 2) (.tmp 66) rfl w.heap.size 0 (bcs Lo).toArray rfl rfl 22 (bcs Lo).toArray HBL.out HSZ.out HZL.out H1B.out ?_
               (
               intro w4 hb4 hk4
               rw [HPA.out] at hb4
               have hh5 := HFIN.out.reblk hb4 hk4
               have hcc : w4.heap[w.heap.size]? = some (.cells (bcs Lo).toArray 22 (0, 0)) := hb4
               have HH5 := Lib.hid hh5; have HCC := Lib.hid hcc
               clear hb4 hk4 hh5 hcc)))
          refine bodyPost_ret (results_cell_row rfl _ _ w.heap.size 22 (bcs Lo).toArray (0, 0) _ rfl HCC.out Tryd.underlying22 rfl HSZ.out) rfl ?_
          exact ⟨by rw [HSL.out], HH5.out.tail⟩
end Go.Proofs.YtibkngjacdggpaaDoor
/- sha: Of, Sum. -/
namespace Go.Proofs.YtibkngjacdggpaaDoor
open Go.RowKit HP

set_option maxRecDepth 100000 in
set_option maxHeartbeats 2000000 in
theorem of_ok (A : Option Addr) (n c : Nat) (l : List BS) (w : World) (R : List HP) (hh : Holds w R) (hp : Ent R fun w => PRd w A l) (hn : Hid (n = l.length)) (hnb : n ≤ 140737488355328) (hk : Ent R KF) (hbd : (bsAll l).length ≤ 1152921504606846976) :
    Calls Tryd.prog 52 #[.slice A n c] w fun e w' => e = .returned (.agg (bcs (shaL (bsAll l))).toArray) ∧ Holds w' R := by
  have hz := run_alloc_hash
  have hzv : ∀ w, (zeroValue 118).run Tryd.prog w = .ok (.agg (hcells HS.zero)) w := fun _ => by kernel_rfl
  have h0 := (hh.alloc 22 (bcs (zeros 32)).toArray).alloc 118 (hcells HS.zero)
  rw [heap_size_alloc] at h0
  have HH0 := Lib.hid (h0.hash_new rfl)
  have HBD := Lib.hid hbd
  generalize hcells HS.zero = Z at hzv HH0
  clear h0 hh hbd
  go_enter Tryd.func52, Tryd.ntmps52
  go_wp2
  go_loopw [8] (fun i wr => ∃ j : Nat, j ≤ n ∧ i = .int .i64 j ∧ Holds wr (HashH (w.heap.size + 1) (bsAll (l.take j)) :: blk w.heap.size 22 (bcs (zeros 32)).toArray :: R)) (fun i _ => n - (intOf i).toNat)
  case atStart => exact ⟨0, by omega, rfl, HH0.out⟩
  case round =>
    obtain ⟨j, hj, rfl, hb⟩ := hrel
    by_cases hlt : j < n
    · have hjl : j < l.length := by rw [← hn.out]; exact hlt
      obtain ⟨g, o, rfl, cj, hok⟩ := (hp _ hb.tail.tail).at_ hjl
      have hrd : Ent (blk w.heap.size 22 (bcs (zeros 32)).toArray :: R) fun w => RD w l[j].A l[j].xs := fun w' hw' => ((hp _ hw'.tail).2 _ (List.getElem_mem hjl)).rd
      have hlen : (bsAll (l.take j)).length + l[j].n ≤ 1152921504606846976 := by
        have h1 := bsAll_take_le l (j + 1)
        rw [bsAll_snoc hjl, List.length_append, ← hok.n.out] at h1
        have := HBD.out; omega
      have hwr := write_ok (w.heap.size + 1) (bsAll (l.take j)) l[j].xs l[j].A l[j].n l[j].c wr _ hb hrd hok.n hok.c (hk.cons _) (by omega)
      rw [← bsAll_snoc hjl] at hwr
      have HW := Lib.hid hwr
      generalize l[j].A = Aj at cj HW
      generalize l[j].n = nj at cj HW
      generalize l[j].c = ccj at cj HW
      clear hwr hlen hrd hok hjl hb
      go_wp2_with (go_at_call 83; (with_reducible refine HW.out.mono ?_); rintro e w2 ⟨rfl, hh2⟩)
      go_roundw
      case rel => exact ⟨j + 1, by omega, by go_num, hh2⟩
      case measure => simp [intOf]; omega
    · have hlj : l.take j = l := List.take_of_length_le (by rw [← hn.out]; omega)
      rw [hlj] at hb
      have hs := hsum_ok (w.heap.size + 1) (bsAll l) wr _ hb (hk.cons _) HBD.out
      have h32 : (shaL (bsAll l)).length = 32 := by simp [shaL]
      generalize hL : shaL (bsAll l) = Lo at hs h32
      have HL := Lib.hid hL
      have HSM := Lib.hid hs; have H32 := Lib.hid h32
      clear hs h32 hb hlj hL
      have HSZ := Lib.hid (show (Tryd.prog.info? 22).map (·.size) = some (bcs Lo).toArray.size by rw [Tryd.sizeHash]; simp [H32.out])
      have HPA := Lib.hid (show putA (bcs (zeros 32)).toArray 0 (bcs Lo).toArray.toList = (bcs Lo).toArray from putA_all _ _ (by simp [H32.out]))
      have HZL := Lib.hid (show 0 + (bcs Lo).toArray.size ≤ (bcs (zeros 32)).toArray.size by simp [H32.out]); have H1B := Lib.hid (show ∀ v ∈ (bcs Lo).toArray.toList, v.oneCell' = true from bcs_one)
      go_wp2_with (first
        | (go_at_call 84; (with_reducible refine HSM.out.mono ?_); rintro e w2 ⟨rfl, hh2⟩; have HH2 := Lib.hid (hh2.pull 1 rfl); have HBL := Lib.hid (hh2.pull 1 rfl).blk; clear hh2)
        | (with_reducible refine wpList_store_blk rfl 22 (.tmp 2) (.tmp 15) rfl w.heap.size 0 (bcs Lo).toArray rfl rfl 22 (bcs (zeros 32)).toArray HBL.out HSZ.out HZL.out H1B.out ?_
           (
           intro w4 hb4 hk4
           rw [HPA.out] at hb4
           have hh5 := HH2.out.reblk hb4 hk4
           have hcc : w4.heap[w.heap.size]? = some (.cells (bcs Lo).toArray 22 (0, 0)) := hb4
           have HH5 := Lib.hid hh5; have HCC := Lib.hid hcc
           clear hb4 hk4 hh5 hcc)))
      refine bodyPost_ret (results_cell_row rfl _ _ w.heap.size 22 (bcs Lo).toArray (0, 0) _ rfl HCC.out Tryd.underlying22 rfl HSZ.out) rfl ?_
      exact ⟨by rw [HL.out], HH5.out.tail.tail⟩

theorem Ent.parts1 {R : List HP} {g : Nat} {t : TypeId} {A : Option Addr} {n c : Nat} {xs : List UInt8} (hr : Ent R fun w => RD w A xs) (hn : Hid (n = xs.length)) (hc : n ≤ c) : Ent (HP.blk g t #[.slice A n c] :: R) fun w => PRd w (some ⟨g, 0, none⟩) [⟨A, n, c, xs⟩] := fun w hw =>
  ⟨PAt.of_blk hw.blk rfl, fun s hs => by rw [List.mem_singleton] at hs; subst hs; exact ⟨hn, hc, hr w hw.tail⟩⟩
































end Go.Proofs.YtibkngjacdggpaaDoor
