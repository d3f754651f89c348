import Derived.Test.YtibkngjacdggpaaShaWrite
import Derived.Laws.MakeOwn
import Derived.Test.YtibkngjacdggpaaSl
/- sha: Sum of a Hash. -/
namespace Go.Proofs.Ytibkngjacdggpaa
open Go.RowKit HP

def outA (L : List UInt8) (m : Nat) : Array Value := (bcs (L.take m ++ zeros (32 - m))).toArray
theorem size_outA (L : List UInt8) (m : Nat) (hL : L.length = 32) (hm : m ≤ 32) : (outA L m).size = 32 := by simp [outA, hL]; omega
theorem outA_cut (L : List UInt8) (m : Nat) (hm : m < 32) : outA L m = (bcs (L.take m) ++ bc 0 :: bcs (zeros (31 - m))).toArray := by
  unfold outA
  rw [show zeros (32 - m) = 0 :: zeros (31 - m) by rw [show 32 - m = (31 - m) + 1 by omega]; rfl, bcs_append]
  rfl
theorem outA_get (L : List UInt8) (m : Nat) (hL : L.length = 32) (hm : m < 32) : (outA L m)[m]? = some (bc 0) := by
  have hl : (bcs (L.take m)).length = m := by rw [length_bcs, List.length_take, hL]; omega
  rw [outA_cut L m hm, List.getElem?_toArray, List.getElem?_append_right (by omega), hl, Nat.sub_self]
  rfl
theorem outA_set (L : List UInt8) (m : Nat) (hL : L.length = 32) (hm : m < 32) : (outA L m).setIfInBounds m (bc (L.getD m 0)) = outA L (m + 1) := by
  have hl : (bcs (L.take m)).length = m := by rw [length_bcs, List.length_take, hL]; omega
  rw [outA_cut L m hm, List.setIfInBounds_toArray, List.set_append_right _ _ (by omega), hl, Nat.sub_self, List.set_cons_zero]
  unfold outA
  rw [List.take_succ_eq_append_getElem (by omega : m < L.length), show 32 - (m + 1) = 31 - m by omega, bcs_append, bcs_append]
  have : L.getD m 0 = L[m] := by simp [List.getD, hL, hm]
  rw [this, List.append_assoc]
  rfl
theorem outA_all (L : List UInt8) (hL : L.length = 32) : outA L 32 = (bcs L).toArray := by
  simp [outA, zeros, List.take_of_length_le (Nat.le_of_eq hL)]
theorem outA_zero (L : List UInt8) : outA L 0 = (bcs (zeros 32)).toArray := by simp [outA]
theorem outS_get (s : St) (i j : Nat) (hi : i < 8) (hj : j < 4) : (outS s).getD (4 * i + j) 0 = (shr32 (s.list.getD i 0) (24 - 8 * j)).toUInt8 := by
  have h1 : i = 0 ∨ i = 1 ∨ i = 2 ∨ i = 3 ∨ i = 4 ∨ i = 5 ∨ i = 6 ∨ i = 7 := by omega
  have h2 : j = 0 ∨ j = 1 ∨ j = 2 ∨ j = 3 := by omega
  rcases h1 with rfl | rfl | rfl | rfl | rfl | rfl | rfl | rfl <;> rcases h2 with rfl | rfl | rfl | rfl <;> rfl

theorem padB_take (n j : Nat) (hj : j < 8) : (128 :: List.replicate ((119 - n % 64) % 64) 0 ++ ((List.range 8).map fun i => UInt8.ofNat (n * 8 / 2 ^ (56 - 8 * i))).take (j + 1) : List UInt8) = (128 :: List.replicate ((119 - n % 64) % 64) 0 ++ ((List.range 8).map fun i => UInt8.ofNat (n * 8 / 2 ^ (56 - 8 * i))).take j) ++ [UInt8.ofNat (n * 8 / 2 ^ (56 - 8 * j))] := by
  rw [List.take_succ_eq_append_getElem (by simpa using hj), ← List.append_assoc]
  simp
end Go.Proofs.Ytibkngjacdggpaa
/- sha: Sum of a Hash: the walk. -/
namespace Go.Proofs.Ytibkngjacdggpaa
open Go.RowKit HP













































































































































































































end Go.Proofs.Ytibkngjacdggpaa
/- sha: Of, Sum. -/
namespace Go.Proofs.Ytibkngjacdggpaa
open Go.RowKit HP






























































theorem Ent.parts1 {R : List HP} {g : Nat} {t : TypeId} {A : Option Addr} {n c : Nat} {xs : List UInt8} (hr : Ent R fun w => RD w A xs) (hn : Hid (n = xs.length)) (hc : n ≤ c) : Ent (HP.blk g t #[.slice A n c] :: R) fun w => PRd w (some ⟨g, 0, none⟩) [⟨A, n, c, xs⟩] := fun w hw =>
  ⟨PAt.of_blk hw.blk rfl, fun s hs => by rw [List.mem_singleton] at hs; subst hs; exact ⟨hn, hc, hr w hw.tail⟩⟩
































end Go.Proofs.Ytibkngjacdggpaa
