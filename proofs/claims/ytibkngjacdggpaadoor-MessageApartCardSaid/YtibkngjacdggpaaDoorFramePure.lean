/- Frames as plain functions. -/
import Derived.Test.YtibkngjacdggpaaDoorShaTurn
import Derived.Test.YtibkngjacdggpaaDoorBase
namespace Go.Proofs.YtibkngjacdggpaaDoor
open Go.RowKit

def magB : List UInt8 := [114, 100, 1]
/-- what stands for type, length and body -/
def sumF (front body : List UInt8) : List UInt8 := (shaL (front ++ body)).take 4
def frontF (t : UInt8) (body : List UInt8) : List UInt8 := t :: beL body.length 2
def encB (t : UInt8) (body : List UInt8) : List UInt8 := magB ++ (frontF t body ++ (sumF (frontF t body) body ++ body))
/-- a frame's bytes, and the error's number -/
def encF (t : UInt8) (body : List UInt8) : List UInt8 × Nat := if t = 0 then ([], 1) else if 1000 < body.length then ([], 5) else (encB t body, 0)
def lenF (b : List UInt8) : Nat := unbe ((b.drop 4).take 2)
/-- whether a frame may begin so -/
def beginsF (b : List UInt8) : Bool :=
  b.take 3 == magB.take (min b.length 3) && !(decide (3 < b.length) && b.getD 3 0 == 0) && (if 6 ≤ b.length then decide (lenF b ≤ 1000) else if 4 < b.length then decide ((b.getD 4 0).toNat ≤ 3) else true)
/-- type, body, how many bytes, and the error's number -/
def decF (b : List UInt8) : UInt8 × List UInt8 × Nat × Nat :=
  if beginsF b = false then (0, [], 0, 2) else if b.length < 10 ∨ b.length < 10 + lenF b then (0, [], 0, 4)
  else if sumF ((b.drop 3).take 3) ((b.drop 10).take (lenF b)) ≠ (b.drop 6).take 4 then (0, [], 0, 3)
  else (b.getD 3 0, (b.drop 10).take (lenF b), 10 + lenF b, 0)

@[simp] theorem length_shaL' (b : List UInt8) : (shaL b).length = 32 := length_outS _
@[simp] theorem length_sumF (a b : List UInt8) : (sumF a b).length = 4 := by simp [sumF]
theorem beL2 (n : Nat) : beL n 2 = [UInt8.ofNat (n / 256), UInt8.ofNat n] := by simp [beL, List.range, List.range.loop]
@[simp] theorem length_encB (t : UInt8) (body : List UInt8) : (encB t body).length = 10 + body.length := by simp [encB, magB, frontF]; omega
theorem encB_cons (t : UInt8) (body : List UInt8) : encB t body = 114 :: 100 :: 1 :: t :: UInt8.ofNat (body.length / 256) :: UInt8.ofNat body.length :: (sumF (frontF t body) body ++ body) := by
  simp [encB, magB, frontF, beL2]
/-- a head of a frame, and of what stands behind it, may begin a frame -/
theorem begins_take (t a c : UInt8) (rest : List UInt8) (ht : t ≠ 0) (hac : a.toNat * 256 + c.toNat ≤ 1000) (k : Nat) : beginsF ((114 :: 100 :: 1 :: t :: a :: c :: rest).take k) = true := by
  match k with
  | 0 => rfl
  | 1 => rfl
  | 2 => rfl
  | 3 => rfl
  | 4 => simp [beginsF, magB, ht]
  | 5 => simp [beginsF, magB, ht]; omega
  | k + 6 => simp [beginsF, magB, ht, lenF, unbe]; omega
theorem lenF_cons (x y z t a c : UInt8) (rest : List UInt8) : lenF (x :: y :: z :: t :: a :: c :: rest) = a.toNat * 256 + c.toNat := by simp [lenF, unbe]
theorem len_enc {n : Nat} (hn : n ≤ 1000) : (UInt8.ofNat (n / 256)).toNat * 256 + (UInt8.ofNat n).toNat = n := by
  simp only [UInt8.toNat_ofNat']
  omega
theorem dec_enc (t : UInt8) (body behind : List UInt8) (ht : t ≠ 0) (hb : body.length ≤ 1000) : decF (encB t body ++ behind) = (t, body, 10 + body.length, 0) := by
  have hac := len_enc hb
  have hlen : lenF (encB t body ++ behind) = body.length := by rw [encB_cons]; simpa [lenF_cons] using hac
  have hbeg : beginsF (encB t body ++ behind) = true := by
    rw [encB_cons]
    have := begins_take t (UInt8.ofNat (body.length / 256)) (UInt8.ofNat body.length) (sumF (frontF t body) body ++ body ++ behind) ht (by omega) (6 + (sumF (frontF t body) body ++ body ++ behind).length)
    rw [List.take_of_length_le (by simp; omega)] at this
    simpa using this
  have h10 : (encB t body ++ behind).drop 10 = body ++ behind := by
    rw [encB_cons]
    simp
  unfold decF
  rw [hbeg, hlen, h10, List.take_append_of_le_length (Nat.le_refl _), List.take_length]
  rw [if_neg (by simp), if_neg (by simp; omega)]
  have h3 : ((encB t body ++ behind).drop 3).take 3 = frontF t body := by rw [encB_cons]; simp [frontF, beL2]
  have h6 : ((encB t body ++ behind).drop 6).take 4 = sumF (frontF t body) body := by
    rw [encB_cons]
    simp
  rw [h3, h6, if_neg (by simp), encB_cons]
  simp
theorem dec_cut (t : UInt8) (body : List UInt8) (ht : t ≠ 0) (hb : body.length ≤ 1000) (k : Nat) (hk : k < 10 + body.length) : decF ((encB t body).take k) = (0, [], 0, 4) ∧ beginsF ((encB t body).take k) = true := by
  have hac := len_enc hb
  have hbeg : beginsF ((encB t body).take k) = true := by
    rw [encB_cons]
    exact begins_take _ _ _ _ ht (by omega) k
  refine ⟨?_, hbeg⟩
  unfold decF
  rw [hbeg, if_neg (by simp), if_pos]
  by_cases h6 : k < 10
  · left; simp; omega
  · right
    have hlen : lenF ((encB t body).take k) = body.length := by
      obtain ⟨m, rfl⟩ : ∃ m, k = m + 6 := ⟨k - 6, by omega⟩
      rw [encB_cons]
      simpa [lenF_cons] using hac
    rw [hlen]
    simp
    omega
/-- what two bytes tell stands in two bytes -/
theorem beL_unbe2 (l : List UInt8) (h : l.length = 2) : beL (unbe l) 2 = l := by
  match l, h with
  | [a, c], _ =>
    rw [beL2]
    simp only [unbe, List.foldl_cons, List.foldl_nil, Nat.zero_mul, Nat.zero_add]
    have ha := a.toNat_lt
    have hc := c.toNat_lt
    congr 1
    · apply UInt8.toNat.inj; simp only [UInt8.toNat_ofNat']; omega
    · congr 1; apply UInt8.toNat.inj; simp only [UInt8.toNat_ofNat']; omega
end Go.Proofs.YtibkngjacdggpaaDoor
