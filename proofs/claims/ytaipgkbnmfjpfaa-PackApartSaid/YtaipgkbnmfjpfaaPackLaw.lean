/- pack: what was written is read. -/
import Derived.Test.YtaipgkbnmfjpfaaPackAll
namespace Go.Proofs.Ytaipgkbnmfjpfaa
open Go.RowKit

theorem rtake_app (b rest : List UInt8) (n : Nat) (h : b.length = n) : rtake (b ++ rest, false) n = (b, (rest, false)) := by
  subst h; simp [rtake]
theorem unbe_beL_take (n k : Nat) : ∀ j, j ≤ k → unbe ((beL n k).take j) = n / 256 ^ (k - j) % 256 ^ j
  | 0, _ => by simp [unbe, Nat.mod_one]
  | j + 1, h => by
    rw [beL_take n k j (by omega), unbe_snoc, unbe_beL_take n k j (by omega), UInt8.toNat_ofNat', show (2 : Nat) ^ (8 * (k - 1 - j)) = 256 ^ (k - (j + 1)) by rw [Nat.pow_mul]; congr 1; omega,
      show k - j = (k - (j + 1)) + 1 by omega, Nat.pow_succ, ← Nat.div_div_eq_div_mul, Nat.pow_succ 256 j, Nat.mul_comm (256 ^ j) 256, Nat.mod_mul]
    omega
theorem unbe_beL (n k : Nat) : unbe (beL n k) = n % 256 ^ k := by
  have := unbe_beL_take n k k (Nat.le_refl _)
  rw [List.take_of_length_le (by rw [length_beL]; omega)] at this
  simpa using this
theorem rnum_app (n : Nat) (k : Int) (rest : List UInt8) (hs : szB k = true) (hn : n < 256 ^ k.toNat) : rnum (beL n k.toNat ++ rest, false) k = (n, (rest, false)) := by
  unfold rnum
  rw [if_pos hs, rtake_app _ _ _ (length_beL _ _), unbe_beL, Nat.mod_eq_of_lt hn]
theorem fits_lt {n : Nat} {k : Int} (h64 : n < 18446744073709551616) (hs : szB k = true) (hf : fitsB n k = true) : n < 256 ^ k.toNat := by
  unfold fitsB at hf
  rcases szB_cases hs with rfl | rfl | rfl | rfl
  · simp at hf; simp; omega
  · simp at hf; simp; omega
  · simp at hf; simp; omega
  · simp; omega
/-- One item is read back. -/
theorem back0 {x : Itm} (hx : x.Ok) {b : List UInt8} (he : encI x = some b) (k0 : x.kind = 0) (rest : List UInt8) : rnum (b ++ rest, false) x.size = (x.n, (rest, false)) := by
  unfold encI at he
  rw [if_pos k0] at he
  split at he
  · rename_i h
    simp only [Bool.and_eq_true] at h
    cases he
    exact rnum_app _ _ _ h.1 (fits_lt hx.n h.1 h.2)
  · cases he
theorem back1 {x : Itm} {b : List UInt8} (he : encI x = some b) (k1 : x.kind = 1) (rest : List UInt8) : rtruth (b ++ rest, false) = (x.b, (rest, false)) := by
  unfold encI at he
  rw [if_neg (by rw [k1]; decide), if_pos k1] at he
  cases he
  cases hb : x.b
  · have := rnum_app 0 1 rest rfl (by decide)
    rw [show beL 0 (1 : Int).toNat = [0] from rfl] at this
    have h2 : rnum (0 :: rest, false) 1 = _ := this
    simp [rtruth, h2]
  · have := rnum_app 1 1 rest rfl (by decide)
    rw [show beL 1 (1 : Int).toNat = [1] from rfl] at this
    have h2 : rnum (1 :: rest, false) 1 = _ := this
    simp [rtruth, h2]
theorem back2 {x : Itm} {b : List UInt8} (he : encI x = some b) (k2 : x.kind = 2) (rest : List UInt8) : rtext (b ++ rest, false) = (x.s.data.toList, (rest, false)) := by
  unfold encI at he
  rw [if_neg (by rw [k2]; decide), if_neg (by rw [k2]; decide), if_pos k2] at he
  split at he
  · cases he
  · rename_i h
    cases he
    have := rnum_app x.s.data.toList.length 2 (x.s.data.toList ++ rest) rfl (by rw [show (2 : Int).toNat = 2 from rfl]; omega)
    rw [show (2 : Int).toNat = 2 from rfl] at this
    unfold rtext
    rw [List.append_assoc, this]
    exact rtake_app _ _ _ rfl
theorem back3 {x : Itm} (hx : x.Ok) {b : List UInt8} (he : encI x = some b) (k0 : ¬ x.kind = 0) (k1 : ¬ x.kind = 1) (k2 : ¬ x.kind = 2) (rest : List UInt8) : rhash (b ++ rest, false) = (x.h, (rest, false)) := by
  unfold encI at he
  rw [if_neg k0, if_neg k1, if_neg k2] at he
  cases he
  unfold rhash
  rw [rtake_app _ _ _ hx.h]
  simp [padTo, hx.h, zeros]
/-- The next item of a row that could be written. -/
theorem enc_drop {l : List Itm} (hb : badAll l = false) {j : Nat} (hj : j < l.length) : ∃ b, encI l[j] = some b ∧ encAll (l.drop j) = b ++ encAll (l.drop (j + 1)) := by
  have : (encI l[j]).isNone = false := by
    have := List.any_eq_false.1 hb l[j] (List.getElem_mem hj)
    cases he : (encI l[j]).isNone
    · rfl
    · exact absurd he this
  cases he : encI l[j] with
  | none => rw [he] at this; cases this
  | some b => exact ⟨b, rfl, by rw [List.drop_eq_getElem_cons hj]; unfold encAll; rw [List.flatMap_cons, he]; rfl⟩
theorem strOf_data (s : ByteArray) : strOf s.data.toList = s := by
  simp [strOf]
end Go.Proofs.Ytaipgkbnmfjpfaa
