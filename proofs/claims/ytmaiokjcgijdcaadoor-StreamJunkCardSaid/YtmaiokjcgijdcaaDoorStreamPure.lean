/- What a stream gives out, as plain functions. -/
import Derived.Test.YtmaiokjcgijdcaaDoorFramePure
namespace Go.Proofs.YtmaiokjcgijdcaaDoor
open Go.RowKit

theorem decF_ok {b : List UInt8} (h : (decF b).2.2.2 = 0) : 10 ≤ (decF b).2.2.1 ∧ (decF b).2.2.1 ≤ b.length := by
  unfold decF at h ⊢
  split at h
  · cases h
  · rename_i h1
    rw [if_neg h1]
    split at h
    · cases h
    · rename_i h2
      rw [if_neg h2]
      split at h
      · cases h
      · rename_i h3
        rw [if_neg h3]
        simp only
        omega
/-- frames, how many are dropped, what waits -/
def strF (b : List UInt8) : List (UInt8 × List UInt8) × Nat × List UInt8 :=
  if hb : b = [] then ([], 0, [])
  else if h : (decF b).2.2.2 = 0 then
    let r := strF (b.drop (decF b).2.2.1)
    (((decF b).1, (decF b).2.1) :: r.1, r.2.1, r.2.2)
  else if (decF b).2.2.2 = 4 then ([], 0, b)
  else
    let r := strF (b.drop 1)
    (r.1, r.2.1 + 1, r.2.2)
termination_by b.length
decreasing_by
  · have h1 := decF_ok h
    have h2 : 0 < b.length := List.length_pos_iff.2 hb
    rw [List.length_drop]
    omega
  · have h2 : 0 < b.length := List.length_pos_iff.2 hb
    rw [List.length_drop]
    omega
theorem strF_nil : strF [] = ([], 0, []) := by unfold strF; rfl
theorem strF_ok {b : List UInt8} (hb : b ≠ []) (h : (decF b).2.2.2 = 0) : strF b = (((decF b).1, (decF b).2.1) :: (strF (b.drop (decF b).2.2.1)).1, (strF (b.drop (decF b).2.2.1)).2.1, (strF (b.drop (decF b).2.2.1)).2.2) := by
  rw [strF, dif_neg hb, dif_pos h]
theorem strF_short {b : List UInt8} (hb : b ≠ []) (h : (decF b).2.2.2 = 4) : strF b = ([], 0, b) := by
  rw [strF, dif_neg hb, dif_neg (by rw [h]; decide), if_pos h]
theorem strF_bad {b : List UInt8} (hb : b ≠ []) (h : (decF b).2.2.2 ≠ 0) (h4 : (decF b).2.2.2 ≠ 4) : strF b = ((strF (b.drop 1)).1, (strF (b.drop 1)).2.1 + 1, (strF (b.drop 1)).2.2) := by
  rw [strF, dif_neg hb, dif_neg h, if_neg h4]

theorem begins_prefix (b p : List UInt8) (h : beginsF (b ++ p) = true) : beginsF b = true := by
  match b with
  | [] => rfl
  | [x] => simp [beginsF, magB] at h ⊢; cases p with | nil => simpa using h | cons y p => (cases p <;> simp_all)
  | [x, y] => simp [beginsF, magB] at h ⊢; cases p with | nil => simpa using h | cons z p => simp_all
  | [x, y, z] => simp [beginsF, magB] at h ⊢; exact h.1.1
  | [x, y, z, t] => simp [beginsF, magB] at h ⊢; simp_all
  | [x, y, z, t, a] =>
    simp [beginsF, magB] at h ⊢
    cases p with
    | nil => simpa using h
    | cons c p =>
      have := c.toNat_lt
      simp [lenF, unbe] at h
      exact ⟨h.1, by omega⟩
  | x :: y :: z :: t :: a :: c :: b =>
    simp [beginsF, magB, lenF, unbe] at h ⊢
    exact h
theorem lenF_append (b p : List UInt8) (h : 6 ≤ b.length) : lenF (b ++ p) = lenF b := by
  unfold lenF
  rw [List.drop_append_of_le_length (by omega), List.take_append_of_le_length (by simp; omega)]
theorem begins_append (b p : List UInt8) (h : 6 ≤ b.length) : beginsF (b ++ p) = beginsF b := by
  match b, h with
  | x :: y :: z :: t :: a :: c :: b, _ => simp [beginsF, magB, lenF, unbe]
/-- what is not short is judged so whatever stands behind it -/
theorem dec_append (b p : List UInt8) (h : (decF b).2.2.2 ≠ 4) : decF (b ++ p) = decF b := by
  by_cases h1 : beginsF b = false
  · have h2 : beginsF (b ++ p) = false := by
      cases h3 : beginsF (b ++ p)
      · rfl
      · rw [begins_prefix b p h3] at h1; cases h1
    unfold decF
    rw [if_pos h1, if_pos h2]
  · by_cases h2 : b.length < 10 ∨ b.length < 10 + lenF b
    · exact absurd (by unfold decF; rw [if_neg h1, if_pos h2]) h
    · have e1 := begins_append b p (by omega)
      have e2 := lenF_append b p (by omega)
      unfold decF
      rw [e1, e2, if_neg h1, if_neg h1, if_neg h2, if_neg (by rw [List.length_append]; omega)]
      rw [List.drop_append_of_le_length (by omega), List.drop_append_of_le_length (by omega), List.drop_append_of_le_length (by omega), List.take_append_of_le_length (by simp; omega), List.take_append_of_le_length (by simp; omega),
        List.take_append_of_le_length (by simp; omega)]
      rw [show (b ++ p).getD 3 0 = b.getD 3 0 by simp [List.getD, List.getElem?_append_left (show 3 < b.length by omega)]]
/-- feeding on: what waits, with what comes -/
theorem strF_append (b p : List UInt8) : strF (b ++ p) = ((strF b).1 ++ (strF ((strF b).2.2 ++ p)).1, (strF b).2.1 + (strF ((strF b).2.2 ++ p)).2.1, (strF ((strF b).2.2 ++ p)).2.2) := by
  by_cases hb : b = []
  · subst hb; rw [strF_nil]; simp
  · have hbp : b ++ p ≠ [] := by simp [hb]
    have hpos : 0 < b.length := List.length_pos_iff.2 hb
    by_cases h4 : (decF b).2.2.2 = 4
    · rw [strF_short hb h4]; simp
    · have hd := dec_append b p h4
      by_cases h0 : (decF b).2.2.2 = 0
      · have hn := decF_ok h0
        have ih := strF_append (b.drop (decF b).2.2.1) p
        rw [strF_ok hbp (by rw [hd]; exact h0), hd, strF_ok hb h0, List.drop_append_of_le_length (by omega), ih]
        simp
      · have ih := strF_append (b.drop 1) p
        rw [strF_bad hbp (by rw [hd]; exact h0) (by rw [hd]; exact h4), strF_bad hb h0 h4, List.drop_append_of_le_length (by omega), ih]
        simp
        omega
termination_by b.length
decreasing_by
  · rw [List.length_drop]; omega
  · rw [List.length_drop]; omega
/-- how many bytes are dropped and wait -/
theorem strF_count (b : List UInt8) : (strF b).2.1 + (strF b).2.2.length ≤ b.length := by
  by_cases hb : b = []
  · subst hb; rw [strF_nil]; simp
  · have hpos : 0 < b.length := List.length_pos_iff.2 hb
    by_cases h4 : (decF b).2.2.2 = 4
    · rw [strF_short hb h4]; simp
    · by_cases h0 : (decF b).2.2.2 = 0
      · have hn := decF_ok h0
        have ih := strF_count (b.drop (decF b).2.2.1)
        rw [List.length_drop] at ih
        rw [strF_ok hb h0]
        simp only
        omega
      · have ih := strF_count (b.drop 1)
        rw [List.length_drop] at ih
        rw [strF_bad hb h0 h4]
        simp only
        omega
termination_by b.length
decreasing_by
  · rw [List.length_drop]; omega
  · rw [List.length_drop]; omega
theorem strF_enc (t : UInt8) (body rest : List UInt8) (ht : t ≠ 0) (hb : body.length ≤ 1000) : strF (encB t body ++ rest) = ((t, body) :: (strF rest).1, (strF rest).2.1, (strF rest).2.2) := by
  have hd := dec_enc t body rest ht hb
  have hne : encB t body ++ rest ≠ [] := by rw [encB_cons]; simp
  rw [strF_ok hne (by rw [hd]), hd]
  have : (encB t body ++ rest).drop (10 + body.length) = rest := by
    rw [← length_encB t body, List.drop_append_of_le_length (Nat.le_refl _), List.drop_length, List.nil_append]
  simp only [this]
theorem dec_junk (x : UInt8) (b : List UInt8) (h : x ≠ 114) : (decF (x :: b)).2.2.2 = 2 := by
  have : beginsF (x :: b) = false := by
    match b with
    | [] => simp [beginsF, magB, h]
    | [y] => simp [beginsF, magB, h]
    | y :: z :: b => simp [beginsF, magB, h]
  unfold decF
  rw [if_pos this]
theorem strF_junk (junk rest : List UInt8) (h : ∀ x ∈ junk, x ≠ 114) : strF (junk ++ rest) = ((strF rest).1, (strF rest).2.1 + junk.length, (strF rest).2.2) := by
  induction junk with
  | nil => simp
  | cons x junk ih =>
    have hx := dec_junk x (junk ++ rest) (h x (by simp))
    rw [List.cons_append, strF_bad (by simp) (by rw [hx]; decide) (by rw [hx]; decide), List.drop_one, List.tail_cons, ih (fun y hy => h y (by simp [hy]))]
    simp
    omega
theorem strF_cut (t : UInt8) (body : List UInt8) (ht : t ≠ 0) (hb : body.length ≤ 1000) (k : Nat) (hk : k < 10 + body.length) : strF ((encB t body).take k) = ([], 0, (encB t body).take k) := by
  by_cases h0 : (encB t body).take k = []
  · rw [h0, strF_nil]
  · exact strF_short h0 (by rw [(dec_cut t body ht hb k hk).1])
end Go.Proofs.YtmaiokjcgijdcaaDoor
