/- the reference: Number, Of, Join. -/
import Derived.Test.YtibkngjacdggpaaDoorSl
import Derived.Test.YtibkngjacdggpaaDoorBase
import Derived.Test.YtibkngjacdggpaaDoorShaTurn
import Derived.Laws.MakeOwn
namespace Go.Proofs.YtibkngjacdggpaaDoor
open Go.RowKit HP

set_option maxRecDepth 100000 in
set_option maxHeartbeats 1000000 in
theorem join_ok (A : Option Addr) (n c : Nat) (l : List BS) (w : World) (R : List HP) (hh : Holds w R) (hp : Ent R fun w => PRd w A l) (hn : Hid (n = l.length)) (hnb : n ≤ 140737488355328) (hbd : (bsAll l).length ≤ 140737488355328) :
    Calls Tryd.prog 53 #[.slice A n c] w fun e w' => ∃ v, e = .returned v ∧ Holds w' (own v (bsAll l) :: R) := by
  have HH := Lib.hid hh.nil_own; have HBD := Lib.hid hbd
  clear hh hbd
  go_enter Tryd.func53, Tryd.ntmps53
  go_wp2
  go_loopw [3, 7] (fun v i wr => ∃ j : Nat, j ≤ n ∧ i = .int .i64 j ∧ Holds wr (own v (bsAll (l.take j)) :: R)) (fun _ i _ => n - (intOf i).toNat)
  case atStart => exact ⟨0, by omega, rfl, HH.out⟩
  case round =>
    obtain ⟨j, hj, rfl, hb⟩ := hrel
    by_cases hlt : j < n
    · have hjl : j < l.length := by rw [← hn.out]; exact hlt
      obtain ⟨g, o, rfl, cj, hok⟩ := (hp _ hb.tail).at_ hjl
      obtain ⟨gs, hrb⟩ := hok.rd
      have hlen : (bsAll (l.take j)).length + l[j].xs.length ≤ 140737488355328 := by
        have h1 := bsAll_take_le l (j + 1)
        rw [bsAll_snoc hjl, List.length_append] at h1
        have := HBD.out; omega
      have hsn := bsAll_snoc hjl
      have HNJ := hok.n
      generalize l[j].A = Aj at cj hrb
      generalize l[j].n = nj at cj HNJ
      generalize l[j].c = ccj at cj
      generalize l[j].xs = xj at hrb hlen hsn HNJ
      have HRB := Lib.hid hrb; have HSN := Lib.hid hsn; have HB := Lib.hid hb
      clear hrb hsn hok hjl hb
      go_wp2_with (at_builtin
                   refine wpList_app_b _ rfl (.tmp 10) (.tmp 14) 23 rfl Tryd.underlying23 Tryd.infoByte _ _ HB.out.ob rfl gs Aj xj nj ccj HNJ.out rfl HRB.out hlen ?_
                   intro v2 w2 ho2 hk2 hp2
                   have HA := Lib.hid (HB.out.app ho2 hk2 hp2)
                   clear ho2 hk2 hp2)
      go_roundw
      case rel => exact ⟨j + 1, by omega, by go_num, by rw [HSN.out]; exact HA.out⟩
      case measure => simp [intOf]; omega
    · have hlj : l.take j = l := List.take_of_length_le (by rw [← hn.out]; omega)
      rw [hlj] at hb
      have HB := Lib.hid hb; clear hb hlj
      go_wp2
      go_returns
      exact ⟨_, rfl, HB.out⟩

theorem rof_ok (A : Option Addr) (n c : Nat) (xs : List UInt8) (w : World) (hr : RD w A xs) (hn : Hid (n = xs.length)) (h8 : n ≤ 8) :
    Calls Tryd.prog 62 #[.slice A n c] w fun e w' => e = .returned (.int .u64 (unbe xs)) ∧ w = w' := by
  obtain ⟨g, hx⟩ := hr
  go_enter Tryd.func62, Tryd.ntmps62
  go_wp2
  go_loop [3, 7] (fun t i => ∃ j : Nat, j ≤ n ∧ i = .int .i64 j ∧ t = .int .u64 (unbe (xs.take j) : Nat)) (fun _ i => n - (intOf i).toNat)
  case atStart => exact ⟨0, by omega, rfl, rfl⟩
  case round =>
    obtain ⟨j, hj, rfl, rfl⟩ := hrel
    by_cases hlt : j < n
    · have hjl : j < xs.length := by rw [← hn.out]; exact hlt
      obtain ⟨off, rfl, hcell⟩ := hx.cell hjl
      have HJ := Lib.hid hjl; clear hjl
      have hu : ((unbe (xs.take j) : Nat) : Int) < 72057594037927936 := by
        have := unbe_lt8 (xs.take j) 7 (by simp; omega)
        have h2 : (256 : Nat) ^ 7 = 72057594037927936 := by decide
        rw [h2] at this; omega
      generalize hy : xs.getD j 0 = y at hcell
      unfold bc at hcell
      have hy2 : (y.toNat : Int) < 256 := by have := y.toNat_lt; omega
      have HY := Lib.hid hy; clear hy
      go_wp2
      go_round
      case rel =>
        refine ⟨j + 1, by omega, by go_num, ?_⟩
        rw [or_shl8 _ _ hu hy2, take_snoc HJ.out, unbe_snoc, HY.out]
      case measure => simp [intOf]; omega
    · go_wp2
      go_returns
      rw [List.take_of_length_le (by rw [← hn.out]; omega)]
      exact ⟨rfl, rfl⟩

/-- k zero bytes, the last j of them laid with n's -/
def numA (n k j : Nat) : List UInt8 := zeros (k - j) ++ (beL n k).drop (k - j)
theorem numA_zero (n k : Nat) : numA n k 0 = zeros k := by simp [numA]
theorem numA_all (n k : Nat) : numA n k k = beL n k := by simp [numA, zeros]
theorem madeCells_zero (m : Nat) : madeCells (Value.int .u8 0).cells m = (bcs (zeros m)).toArray := by
  apply Array.ext
  · simp [madeCells]
  · intro i h1 h2
    simp [madeCells, bcs, zeros, Value.cells, Nat.mod_one]
    rfl
theorem length_numA (n k j : Nat) : (numA n k j).length = k := by simp [numA]
theorem numA_get (n k j : Nat) (hj : j < k) : (bcs (numA n k j)).toArray[k - 1 - j]? = some (bc 0) := by
  rw [List.getElem?_toArray, bcs_get]
  unfold numA
  rw [List.getElem?_append_left (by simp; omega)]
  simp [zeros, show k - 1 - j < k - j by omega, bc]
theorem numA_set (n k j : Nat) (hj : j < k) : (bcs (numA n k j)).toArray.setIfInBounds (k - 1 - j) (bc (UInt8.ofNat (n / 2 ^ (8 * j)))) = (bcs (numA n k (j + 1))).toArray := by
  unfold numA
  rw [List.setIfInBounds_toArray]
  have hz : zeros (k - j) = zeros (k - (j + 1)) ++ [0] := by
    unfold zeros
    rw [show k - j = (k - (j + 1)) + 1 by omega, List.replicate_succ']
  have hd : (beL n k).drop (k - (j + 1)) = UInt8.ofNat (n / 2 ^ (8 * j)) :: (beL n k).drop (k - j) := by
    rw [List.drop_eq_getElem_cons (by simp; omega), show k - (j + 1) + 1 = k - j by omega]
    congr 1
    simp only [beL, List.getElem_map, List.getElem_range]
    rw [show k - 1 - (k - (j + 1)) = j by omega]
  rw [hz, hd, bcs_append, bcs_append, bcs_append]
  congr 1
  have hl : (bcs (zeros (k - (j + 1)))).length = k - 1 - j := by simp; omega
  rw [List.append_assoc, List.set_append_right _ _ (by omega), hl, Nat.sub_self]
  rfl

set_option maxRecDepth 100000 in
set_option maxHeartbeats 1000000 in
theorem rnumb_ok (n : Nat) (k : Nat) (hk : k ≤ 8) (w : World) (R : List HP) (hh : Holds w R) :
    Calls Tryd.prog 61 #[.int .u64 n, .int .i64 k] w fun e w' => ∃ v, e = .returned v ∧ Holds w' (own v (beL n k) :: R) := by
  obtain ⟨ib, hib, hz0, hz1, hz2⟩ := info_parts Tryd.infoByte
  have hmk : ∀ w, (Instr.makeSlice 23 (.int .i64 (k : Int)) (.int .i64 (k : Int))).run Tryd.prog w = .ok (.slice (some ⟨w.heap.size, 0, none⟩) k k) (w.alloc (.cells (bcs (numA n k 0)).toArray 5)) := by
    intro w
    have := run_make (P := Tryd.prog) w 23 5 ib _ Tryd.underlying23 hib hz0 .i64 .i64 (k : Int) (k : Int) (by omega) (by omega) (by rw [hz2]; omega) (by omega)
    have e : madeCells (Value.int .u8 0).cells (k * 1) = (bcs (numA n k 0)).toArray := by rw [Nat.mul_one, madeCells_zero, numA_zero]
    rw [this, hz1, Int.toNat_natCast, e]
  have HH := Lib.hid (hh.alloc 5 (bcs (numA n k 0)).toArray)
  clear hz0 hz1 hz2 hib hh
  go_enter Tryd.func61, Tryd.ntmps61
  go_wp2
  go_loopw [10] (fun i wr => ∃ j : Nat, j ≤ k ∧ i = .int .i64 j ∧ Holds wr (blk w.heap.size 5 (bcs (numA n k j)).toArray :: R)) (fun i _ => k - (intOf i).toNat)
  case atStart => exact ⟨0, by omega, rfl, HH.out⟩
  case round =>
    obtain ⟨j, hj, rfl, hb⟩ := hrel
    by_cases hlt : j < k
    · have cj := (hb.cells (k - 1 - j)).trans (numA_get n k j hlt)
      have fj := hb.free (k - 1 - j)
      have hst := hb.set_ (k - 1 - j) (bc (UInt8.ofNat (n / 2 ^ (8 * j))))
      rw [numA_set n k j hlt] at hst
      rw [bc_shr] at hst
      have HST := Lib.hid hst; clear hst hb
      have i1 : (0 : Int) ≤ (k : Int) - 1 - (j : Int) := by omega
      have i2 : (k : Int) - 1 - (j : Int) < (k : Int) := by omega
      have i3 : ((k : Int) - 1 - (j : Int)).toNat = k - 1 - j := by omega
      go_wp2
      go_roundw
      case rel => exact ⟨j + 1, by omega, by go_num, HST.out⟩
      case measure => simp [intOf]; omega
    · obtain rfl : j = k := by omega
      rw [numA_all] at hb
      have HB := Lib.hid (hb.own_of_cells (xs := beL n j) (n := j) (cap := j) (by simp) (Nat.le_refl _) (by simp [maxLen]; omega) (by simp) (by simp [List.take_of_length_le]))
      clear hb hlt
      go_wp2
      go_returns
      exact ⟨_, rfl, HB.out⟩

set_option maxRecDepth 100000 in
theorem rturn_ok (x : UInt32) (n : Nat) (hn : n ∈ [2, 6, 7, 11, 13, 17, 18, 19, 22, 25]) (k : Int) (hk : k = n) (w : World) :
    Calls Tryd.prog 63 #[wc x, .int .u64 k] w fun e w' => e = .returned (wc (rotr x n)) ∧ w = w' := by
  subst hk
  simp only [List.mem_cons, List.not_mem_nil, or_false] at hn
  rcases hn with rfl | rfl | rfl | rfl | rfl | rfl | rfl | rfl | rfl | rfl
  all_goals
    go_enter Tryd.func63, Tryd.ntmps63
    go_wp2
    go_ret
    exact ⟨by rw [rotr, UInt32.or_comm]; rfl, rfl⟩
end Go.Proofs.YtibkngjacdggpaaDoor
