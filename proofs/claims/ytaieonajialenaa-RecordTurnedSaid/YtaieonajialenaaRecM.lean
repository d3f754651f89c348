/- What record.Decode reads. -/
import Derived.Test.YtaieonajialenaaRecD
namespace Go.Proofs.Ytaieonajialenaa
open Go.RowKit HP

/-- What Decode reads, and what is left. -/
def rdec (xs : List UInt8) : Rec × (List UInt8 × Bool) :=
  let a := rnum (xs, false) 1
  let b := rnum a.2 4
  if a.1 = 1 then let e := redit b.2; ({ Rec.zero with kind := (a.1 : Int), id := b.1, ed := e.1 }, e.2)
  else if a.1 = 2 then
    let c := rnum b.2 4; let e := redit c.2; let h := rhash e.2
    ({ Rec.zero with kind := (a.1 : Int), id := b.1, base := c.1, ed := e.1, root := h.1 }, h.2)
  else if a.1 = 3 then let c := rnum b.2 1; ({ Rec.zero with kind := (a.1 : Int), id := b.1, code := (c.1 : Int) }, c.2)
  else if a.1 = 4 then
    let c := rtruth b.2; let d := rtruth c.2
    if d.1 = true then let t := rtext d.2; ({ Rec.zero with kind := (a.1 : Int), id := b.1, commit := c.1, has := d.1, text := t.1 }, t.2)
    else ({ Rec.zero with kind := (a.1 : Int), id := b.1, commit := c.1, has := d.1 }, d.2)
  else ({ Rec.zero with kind := (a.1 : Int), id := b.1 }, b.2)
/-- Decode's answer. -/
def decR (xs : List UInt8) : Rec × Int :=
  if (!(rdec xs).2.2 && (rdec xs).2.1.length == 0) = true ∧ formedR (rdec xs).1 = true then ((rdec xs).1, 0) else (Rec.zero, 2)
theorem redit_wf (s : List UInt8 × Bool) (hb : s.1.length ≤ 140737488355328) : (redit s).1.Wf := by
  refine ⟨rhash_len32 _, ?_⟩
  have h1 := rtruth_len s
  have h2 := rtruth_len (rtruth s).2
  have h3 := rtake_len (rtruth (rtruth s).2).2 32
  have h4 := rnum_len (rhash (rtruth (rtruth s).2).2).2 2
  show (rtext (rhash (rtruth (rtruth s).2).2).2).1.length ≤ maxLen
  have h5 : ∀ (s : List UInt8 × Bool) n, (rtake s n).1.length ≤ s.1.length := by
    intro s n
    unfold rtake
    split
    · simp
    · split
      · simp
      · simp; omega
  have h6 := h5 (rnum (rhash (rtruth (rtruth s).2).2).2 2).2 (rnum (rhash (rtruth (rtruth s).2).2).2 2).1
  have h7 : (rhash (rtruth (rtruth s).2).2).2.1.length ≤ (rtruth (rtruth s).2).2.1.length := h3
  simp only [maxLen]
  unfold rtext
  omega
theorem redit_len (s : List UInt8 × Bool) : (redit s).2.1.length ≤ s.1.length := by
  have h1 := rtruth_len s
  have h2 := rtruth_len (rtruth s).2
  have h3 : (rhash (rtruth (rtruth s).2).2).2.1.length ≤ (rtruth (rtruth s).2).2.1.length := rtake_len (rtruth (rtruth s).2).2 32
  have h4 := rnum_len (rhash (rtruth (rtruth s).2).2).2 2
  have h5 := rtake_len (rnum (rhash (rtruth (rtruth s).2).2).2 2).2 (rnum (rhash (rtruth (rtruth s).2).2).2 2).1
  show (rtext (rhash (rtruth (rtruth s).2).2).2).2.1.length ≤ _
  unfold rtext
  omega
theorem rtext_len1 (s : List UInt8 × Bool) : (rtext s).1.length ≤ s.1.length := by
  have h4 := rnum_len s 2
  have h5 : ∀ (s : List UInt8 × Bool) n, (rtake s n).1.length ≤ s.1.length := by
    intro s n
    unfold rtake
    split
    · simp
    · split
      · simp
      · simp; omega
  have h6 := h5 (rnum s 2).2 (rnum s 2).1
  unfold rtext; omega
theorem rdec_wf (xs : List UInt8) (hb : xs.length ≤ 140737488355328) : (rdec xs).1.Wf := by
  have z : (0 : Nat) ≤ maxLen := by decide
  have zn : (0 : Nat) < 18446744073709551616 := by decide
  have zi : -9223372036854775808 ≤ (0 : Int) := by decide
  have zj : (0 : Int) ≤ 9223372036854775807 := by decide
  have a1 : (rnum (xs, false) 1).1 < 256 ^ 1 := rnum_lt (xs, false) 1
  have b1 : (rnum (rnum (xs, false) 1).2 4).1 < 256 ^ 4 := rnum_lt (rnum (xs, false) 1).2 4
  have c1 : (rnum (rnum (rnum (xs, false) 1).2 4).2 4).1 < 256 ^ 4 := rnum_lt (rnum (rnum (xs, false) 1).2 4).2 4
  have d1 : (rnum (rnum (rnum (xs, false) 1).2 4).2 1).1 < 256 ^ 1 := rnum_lt (rnum (rnum (xs, false) 1).2 4).2 1
  have l1 := rnum_len (xs, false) 1
  have l2 := rnum_len (rnum (xs, false) 1).2 4
  have l3 := rnum_len (rnum (rnum (xs, false) 1).2 4).2 4
  have k0 : -9223372036854775808 ≤ ((rnum (xs, false) 1).1 : Int) := by omega
  have k1 : ((rnum (xs, false) 1).1 : Int) ≤ 9223372036854775807 := by omega
  have i1 : (rnum (rnum (xs, false) 1).2 4).1 < 18446744073709551616 := by omega
  have hb2 : (rnum (rnum (xs, false) 1).2 4).2.1.length ≤ 140737488355328 := Nat.le_trans l2 (Nat.le_trans l1 hb)
  have hb3 : (rnum (rnum (rnum (xs, false) 1).2 4).2 4).2.1.length ≤ 140737488355328 := Nat.le_trans l3 hb2
  unfold rdec
  simp only
  split
  · exact ⟨⟨(redit_wf _ hb2).ok, length_zeros 32⟩, redit_wf _ hb2, k0, k1, i1, zn, zi, zj, z⟩
  · split
    · exact ⟨⟨(redit_wf _ hb3).ok, rhash_len32 _⟩, redit_wf _ hb3, k0, k1, i1, (by omega : (rnum (rnum (rnum (xs, false) 1).2 4).2 4).1 < 18446744073709551616), zi, zj, z⟩
    · split
      · exact ⟨⟨Ed.zero_ok, length_zeros 32⟩, Ed.zero_wf, k0, k1, i1, zn, (by show -9223372036854775808 ≤ ((rnum (rnum (rnum (xs, false) 1).2 4).2 1).1 : Int); omega), (by show ((rnum (rnum (rnum (xs, false) 1).2 4).2 1).1 : Int) ≤ _; omega), z⟩
      · split
        · split
          · refine ⟨⟨Ed.zero_ok, length_zeros 32⟩, Ed.zero_wf, k0, k1, i1, zn, zi, zj, ?_⟩
            show (rtext _).1.length ≤ maxLen
            refine Nat.le_trans (rtext_len1 _) ?_
            have t1 := rtruth_len (rnum (rnum (xs, false) 1).2 4).2
            have t2 := rtruth_len (rtruth (rnum (rnum (xs, false) 1).2 4).2).2
            simp only [maxLen]; omega
          · exact ⟨⟨Ed.zero_ok, length_zeros 32⟩, Ed.zero_wf, k0, k1, i1, zn, zi, zj, z⟩
        · exact ⟨⟨Ed.zero_ok, length_zeros 32⟩, Ed.zero_wf, k0, k1, i1, zn, zi, zj, z⟩
end Go.Proofs.Ytaieonajialenaa
