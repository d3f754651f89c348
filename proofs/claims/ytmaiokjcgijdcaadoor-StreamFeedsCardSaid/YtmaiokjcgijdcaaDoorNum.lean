/- Numbers and their bytes. -/
import Derived.Test.YtmaiokjcgijdcaaDoorArr
namespace Go.Proofs.YtmaiokjcgijdcaaDoor
open Go.RowKit

/-- n's bytes, the greatest first. -/
def beL (n k : Nat) : List UInt8 := (List.range k).map fun i => UInt8.ofNat (n / 2 ^ (8 * (k - 1 - i)))
@[simp] theorem length_beL (n k : Nat) : (beL n k).length = k := by simp [beL]
theorem beL_take (n k j : Nat) (hj : j < k) : (beL n k).take (j + 1) = (beL n k).take j ++ [UInt8.ofNat (n / 2 ^ (8 * (k - 1 - j)))] := by
  rw [List.take_succ_eq_append_getElem (by simpa using hj)]
  simp [beL]
/-- A number out of bytes, the greatest first. -/
def unbe (l : List UInt8) : Nat := l.foldl (fun n c => n * 256 + c.toNat) 0
theorem unbe_snoc (l : List UInt8) (c : UInt8) : unbe (l ++ [c]) = unbe l * 256 + c.toNat := by simp [unbe]
theorem unbe_lt_from (l : List UInt8) : ∀ n : Nat, l.foldl (fun n c => n * 256 + c.toNat) n < (n + 1) * 256 ^ l.length := by
  induction l with
  | nil => intro n; simp
  | cons c l ih =>
    intro n
    rw [List.foldl_cons, List.length_cons, Nat.pow_succ, Nat.mul_comm (256 ^ l.length) 256, ← Nat.mul_assoc]
    refine Nat.lt_of_lt_of_le (ih _) (Nat.mul_le_mul_right _ ?_)
    have := c.toNat_lt
    omega
theorem unbe_lt (l : List UInt8) : unbe l < 256 ^ l.length := by simpa [unbe] using unbe_lt_from l 0
theorem unbe_lt8 (l : List UInt8) (k : Nat) (h : l.length ≤ k) : unbe l < 256 ^ k := Nat.lt_of_lt_of_le (unbe_lt l) (Nat.pow_le_pow_right (by omega) h)

theorem or_shl8 (a b : Nat) (ha : (a : Int) < 72057594037927936) (hb : (b : Int) < 256) : bits .or .u64 ((a : Int) * 256) (b : Int) = ((a * 256 + b : Nat) : Int) := by
  rw [bits_join .u64 64 (by decide) wraps_u64 8 _ _ (by omega) (by omega) (by omega) (by omega) (by omega) (by omega)]
  omega
theorem take_snoc {xs : List UInt8} {j : Nat} (h : j < xs.length) : xs.take (j + 1) = xs.take j ++ [xs.getD j 0] := by
  rw [List.take_succ_eq_append_getElem h]
  simp [List.getD, h]
theorem unbe_beL_take (n k : Nat) : ∀ j, j ≤ k → unbe ((beL n k).take j) = n / 256 ^ (k - j) % 256 ^ j
  | 0, _ => by simp [unbe, Nat.mod_one]
  | j + 1, h => by
    rw [beL_take n k j (by omega), unbe_snoc, unbe_beL_take n k j (by omega), UInt8.toNat_ofNat', show (2 : Nat) ^ (8 * (k - 1 - j)) = 256 ^ (k - (j + 1)) by rw [Nat.pow_mul]; congr 1; omega,
      show k - j = (k - (j + 1)) + 1 by omega, Nat.pow_succ, ← Nat.div_div_eq_div_mul, Nat.pow_succ 256 j, Nat.mul_comm (256 ^ j) 256, Nat.mod_mul]
    omega
theorem unbe_beL (n k : Nat) : unbe (beL n k) = n % 256 ^ k := by
  have := unbe_beL_take n k k (Nat.le_refl _)
  rw [List.take_of_length_le (by rw [length_beL]; omega)] at this
  simpa using this
end Go.Proofs.YtmaiokjcgijdcaaDoor
