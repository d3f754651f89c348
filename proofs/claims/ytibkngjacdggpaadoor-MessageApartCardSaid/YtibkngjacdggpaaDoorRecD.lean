/- A record's bytes. -/
import Derived.Test.YtibkngjacdggpaaDoorRecC
import Derived.Test.YtibkngjacdggpaaDoorRecF
namespace Go.Proofs.YtibkngjacdggpaaDoor
open Go.RowKit HP

def bitN (b : Bool) : Nat := if b then 1 else 0
def encE (e : Ed) : List UInt8 := beL (bitN e.q) 1 ++ (beL (bitN e.x) 1 ++ (e.h ++ (beL e.s.length 2 ++ e.s)))
def encR (r : Rec) : List UInt8 :=
  beL r.kind.toNat 1 ++ (beL r.id 4 ++
    (if r.kind = 1 then encE r.ed else if r.kind = 2 then beL r.base 4 ++ (encE r.ed ++ r.root) else if r.kind = 3 then beL r.code.toNat 1
      else beL (bitN r.commit) 1 ++ (beL (bitN r.has) 1 ++ if r.has = true then beL r.text.length 2 ++ r.text else [])))
def wrec (r : Rec) : List UInt8 × Bool :=
  if r.kind = 1 then wedit (wnum (wnum ([], false) r.kind.toNat 1) r.id 4) r.ed
  else if r.kind = 2 then whash (wedit (wnum (wnum (wnum ([], false) r.kind.toNat 1) r.id 4) r.base 4) r.ed) r.root
  else if r.kind = 3 then wnum (wnum (wnum ([], false) r.kind.toNat 1) r.id 4) r.code.toNat 1
  else if r.has = true then wtext (wtruth (wtruth (wnum (wnum ([], false) r.kind.toNat 1) r.id 4) r.commit) r.has) r.text
  else wtruth (wtruth (wnum (wnum ([], false) r.kind.toNat 1) r.id 4) r.commit) r.has
theorem wnum_fit (xs : List UInt8) (n : Nat) (k : Nat) (hk : szB k = true) (h : n < 2 ^ (8 * k)) : wnum (xs, false) n k = (xs ++ beL n k, false) := by
  unfold wnum
  have hf : fitsB n k = true := by
    unfold fitsB
    simp only [Int.toNat_natCast, Bool.or_eq_true, beq_iff_eq]
    exact .inr (Nat.div_eq_of_lt h)
  simp [hk, hf]
theorem wtruth_fit (xs : List UInt8) (b : Bool) : wtruth (xs, false) b = (xs ++ beL (bitN b) 1, false) := by
  unfold wtruth
  exact wnum_fit xs _ 1 (by decide) (by cases b <;> decide)
theorem wedit_fit (xs : List UInt8) (e : Ed) (h : e.s.length ≤ 65535) : wedit (xs, false) e = (xs ++ encE e, false) := by
  unfold wedit
  rw [wtruth_fit, wtruth_fit]
  have h2 : ¬ 65535 < e.s.length := by omega
  simp [whash, wtext, h2, encE]
/-- what a formed record has -/
structure Formed (r : Rec) : Prop where
  k1 : 1 ≤ r.kind
  k4 : r.kind ≤ 4
  i0 : 0 < r.id
  i1 : r.id ≤ 4294967295
  b1 : r.base ≤ 4294967295
  s : r.ed.s.length ≤ 500
  t : r.text.length ≤ 2000
  code : r.kind = 3 → 1 ≤ r.code ∧ r.code ≤ 17
  has : r.has = true → r.commit = true
  bare : r = bareR r
theorem formedR_iff (r : Rec) : formedR r = true ↔ Formed r := by
  constructor
  · intro h
    simp only [formedR, Bool.and_eq_true, decide_eq_true_eq, Bool.or_eq_true, Bool.not_eq_true', decide_eq_false_iff_not, codeOk, sameR_iff] at h
    obtain ⟨h1, h2, h3, h4, h5, h6, h7, h8, h9, h10⟩ := h
    exact ⟨h1, h2, h3, h4, h5, h6, h7, fun e => h8.resolve_left (fun h => h e), fun e => h9.resolve_right (by rw [e]; decide), h10⟩
  · rintro ⟨h1, h2, h3, h4, h5, h6, h7, h8, h9, h10⟩
    simp only [formedR, Bool.and_eq_true, decide_eq_true_eq, Bool.or_eq_true, Bool.not_eq_true', decide_eq_false_iff_not, codeOk, sameR_iff]
    refine ⟨h1, h2, h3, h4, h5, h6, h7, ?_, ?_, h10⟩
    · by_cases e : r.kind = 3
      · exact .inr (h8 e)
      · exact .inl e
    · cases hh : r.has
      · exact .inr rfl
      · exact .inl (h9 hh)
theorem wrec_fit {r : Rec} (h : Formed r) : wrec r = (encR r, false) := by
  have hk : r.kind.toNat < 2 ^ (8 * 1) := by have := h.k4; omega
  have e1 : wnum ([], false) r.kind.toNat 1 = (beL r.kind.toNat 1, false) := by have := wnum_fit [] r.kind.toNat 1 (by decide) hk; simpa using this
  have e2 : wnum (wnum ([], false) r.kind.toNat 1) r.id 4 = (beL r.kind.toNat 1 ++ beL r.id 4, false) := by
    rw [e1]; exact wnum_fit _ _ 4 (by decide) (by have := h.i1; omega)
  unfold wrec encR
  rw [e2]
  split
  · rw [wedit_fit _ _ (by have := h.s; omega)]; simp
  · split
    · rw [show wnum (beL r.kind.toNat 1 ++ beL r.id 4, false) r.base 4 = _ from wnum_fit _ _ 4 (by decide) (by have := h.b1; omega), wedit_fit _ _ (by have := h.s; omega)]
      simp [whash]
    · split
      · rename_i h3
        rw [show wnum (beL r.kind.toNat 1 ++ beL r.id 4, false) r.code.toNat 1 = _ from wnum_fit _ _ 1 (by decide) (by have := h.code h3; omega)]
        simp
      · rw [wtruth_fit, wtruth_fit]
        have h2 : ¬ 65535 < r.text.length := by have := h.t; omega
        split
        · simp [wtext, h2]
        · simp
theorem wrec_bytes {r : Rec} (h : Formed r) : wbytes (wrec r) = encR r := by rw [wrec_fit h]; rfl
end Go.Proofs.YtibkngjacdggpaaDoor
