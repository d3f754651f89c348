/- What the reference's DecodeRecord reads (plain). -/
import Derived.Test.YtaieonajialenaaRecW
import Derived.Test.YtaieonajialenaaRecPure
namespace Go.Proofs.Ytaieonajialenaa
open Go.RowKit HP

def rr0 (xs : List UInt8) : Rec := { Rec.zero with kind := ((xs.getD 0 0).toNat : Int), id := unbe ((xs.drop 1).take 4) }
def rParse (xs : List UInt8) : Rec × Bool :=
  if (xs.getD 0 0).toNat = 1 then ({ rr0 xs with ed := (rEd (xs.drop 5) 0).1 }, (rEd (xs.drop 5) 0).2)
  else if (xs.getD 0 0).toNat = 2 ∧ 9 ≤ xs.length then ({ rr0 xs with base := unbe ((xs.drop 5).take 4), ed := (rEd (xs.drop 9) 32).1, root := if (rEd (xs.drop 9) 32).2 = true then xs.drop (xs.length - 32) else zeros 32 }, (rEd (xs.drop 9) 32).2)
  else if (xs.getD 0 0).toNat = 3 ∧ xs.length = 6 then ({ rr0 xs with code := ((xs.getD 5 0).toNat : Int) }, true)
  else if (xs.getD 0 0).toNat = 4 ∧ 7 ≤ xs.length then ({ rr0 xs with commit := xs.getD 5 0 == 1, has := xs.getD 6 0 == 1, text := if (xs.getD 6 0 == 1) = true ∧ 9 ≤ xs.length then xs.drop 9 else [] }, true)
  else (rr0 xs, false)
def refDec (xs : List UInt8) : Rec × Int :=
  if 5 ≤ xs.length ∧ (rParse xs).2 = true ∧ formedR (rParse xs).1 = true ∧ encR (rParse xs).1 = xs then ((rParse xs).1, 0) else (Rec.zero, 2)
theorem rEd_encE (e : Ed) (he : e.Ok) (tl : List UInt8) : rEd (encE e ++ tl) tl.length = (e, true) := by
  unfold Ed.Ok at he
  have hl : (encE e ++ tl).length = 36 + e.s.length + tl.length := by rw [List.length_append, length_encE he]
  unfold rEd
  rw [if_neg (by omega), hl]
  have e1 : encE e ++ tl = UInt8.ofNat (bitN e.q) :: UInt8.ofNat (bitN e.x) :: (e.h ++ (beL e.s.length 2 ++ (e.s ++ tl))) := by
    rw [← encE_parts e]; simp
  rw [e1]
  have d2 : (UInt8.ofNat (bitN e.q) :: UInt8.ofNat (bitN e.x) :: (e.h ++ (beL e.s.length 2 ++ (e.s ++ tl)))).drop 2 = e.h ++ (beL e.s.length 2 ++ (e.s ++ tl)) := rfl
  have d34 : (e.h ++ (beL e.s.length 2 ++ (e.s ++ tl))).drop 32 = beL e.s.length 2 ++ (e.s ++ tl) := List.drop_left' he
  have d36 : (UInt8.ofNat (bitN e.q) :: UInt8.ofNat (bitN e.x) :: (e.h ++ (beL e.s.length 2 ++ (e.s ++ tl)))).drop 36 = e.s ++ tl := by
    rw [show (36 : Nat) = 2 + 34 from rfl, ← List.drop_drop, d2, show (34 : Nat) = 32 + 2 from rfl, ← List.drop_drop, d34]
    exact List.drop_left' (length_beL _ _)
  rw [d36, d2, List.take_left' he, show 36 + e.s.length + tl.length - tl.length - 36 = e.s.length by omega, List.take_left' rfl]
  cases e with
  | mk s q x h => cases q <;> cases x <;> rfl
theorem rParse_enc {r : Rec} (h : Formed r) (ok : r.Ok) : 5 ≤ (encR r).length ∧ rParse (encR r) = (r, true) := by
  have hk : r.kind = 1 ∨ r.kind = 2 ∨ r.kind = 3 ∨ r.kind = 4 := by have := h.k1; have := h.k4; omega
  have hi : r.id < 256 ^ 4 := by have := h.i1; rw [show (256 : Nat) ^ 4 = 4294967296 from rfl]; omega
  have hb : r.base < 256 ^ 4 := by have := h.b1; rw [show (256 : Nat) ^ 4 = 4294967296 from rfl]; omega
  have hp := encR_pre r
  have hp5 := r.length_pre
  refine ⟨by rw [hp, List.length_append]; omega, ?_⟩
  generalize hz : (if r.kind = 1 then encE r.ed else if r.kind = 2 then beL r.base 4 ++ (encE r.ed ++ r.root) else if r.kind = 3 then beL r.code.toNat 1
      else beL (bitN r.commit) 1 ++ (beL (bitN r.has) 1 ++ if r.has = true then beL r.text.length 2 ++ r.text else [])) = z at hp
  have hx : encR r = r.kb :: (beL r.id 4 ++ z) := by rw [hp]; rfl
  have g0 : (encR r).getD 0 0 = r.kb := by rw [hx]; rfl
  have hkb : r.kb.toNat = r.kind.toNat := by unfold Rec.kb; rw [UInt8.toNat_ofNat']; have := h.k4; have := h.k1; omega
  have d1 : ((encR r).drop 1).take 4 = beL r.id 4 := by rw [hx]; show (beL r.id 4 ++ z).take 4 = _; exact List.take_left' (length_beL _ _)
  have d5 : (encR r).drop 5 = z := by rw [hp]; exact List.drop_left' hp5
  have r0 : rr0 (encR r) = { Rec.zero with kind := r.kind, id := r.id } := by
    unfold rr0
    rw [g0, hkb, d1, unbe_beL, Nat.mod_eq_of_lt hi, show ((r.kind.toNat : Nat) : Int) = r.kind by have := h.k1; omega]
  have hlen : (encR r).length = 5 + z.length := by rw [hp, List.length_append, hp5]
  have hbare := h.bare
  unfold rParse
  rw [g0, hkb]
  rcases hk with k | k | k | k
  · rw [if_pos (by omega), r0, d5]
    rw [if_pos k] at hz
    have := rEd_encE r.ed ok.ed []
    rw [List.append_nil] at this
    rw [← hz, show (0 : Nat) = ([] : List UInt8).length from rfl, this]
    simp only
    rw [show ({ Rec.zero with kind := r.kind, id := r.id, ed := r.ed } : Rec) = bareR r from by unfold bareR; rw [if_pos k], ← hbare]
  · have hz2 : beL r.base 4 ++ (encE r.ed ++ r.root) = z := by rw [← hz, if_neg (show ¬ r.kind = 1 by omega), if_pos k]
    have hzl : z.length = 4 + (36 + r.ed.s.length + 32) := by rw [← hz2]; simp [length_encE ok.ed, ok.root]
    have d9 : (encR r).drop 9 = encE r.ed ++ r.root := by
      rw [show (9 : Nat) = 5 + 4 from rfl, ← List.drop_drop, d5, ← hz2]
      exact List.drop_left' (length_beL _ _)
    have dr : (encR r).drop ((encR r).length - 32) = r.root := by
      rw [hlen, hzl, show 5 + (4 + (36 + r.ed.s.length + 32)) - 32 = 9 + (encE r.ed).length by rw [length_encE ok.ed]; omega, ← List.drop_drop, d9]
      exact List.drop_left' rfl
    rw [if_neg (by omega), if_pos (by omega), r0, d5, ← hz2, List.take_left' (length_beL _ _), unbe_beL, Nat.mod_eq_of_lt hb, d9, show (32 : Nat) = r.root.length from ok.root.symm, rEd_encE r.ed ok.ed r.root]
    simp only
    rw [if_pos trivial, ok.root, dr, show ({ Rec.zero with kind := r.kind, id := r.id, base := r.base, ed := r.ed, root := r.root } : Rec) = bareR r from by unfold bareR; rw [if_neg (show ¬ r.kind = 1 by omega), if_pos k], ← hbare]
  · have hz3 : beL r.code.toNat 1 = z := by rw [← hz, if_neg (show ¬ r.kind = 1 by omega), if_neg (show ¬ r.kind = 2 by omega), if_pos k]
    have hc := h.code k
    have g5 : (encR r).getD 5 0 = r.cb := by
      have : (encR r).getD 5 0 = ((encR r).drop 5).getD 0 0 := by simp [List.getD]
      rw [this, d5, ← hz3, beL_one]; rfl
    have hcb : r.cb.toNat = r.code.toNat := by unfold Rec.cb; rw [UInt8.toNat_ofNat']; omega
    rw [if_neg (by omega), if_neg (by omega), if_pos ⟨by omega, by rw [hlen, ← hz3]; simp⟩, r0, g5, hcb, show ((r.code.toNat : Nat) : Int) = r.code by omega]
    rw [show ({ Rec.zero with kind := r.kind, id := r.id, code := r.code } : Rec) = bareR r from by unfold bareR; rw [if_neg (show ¬ r.kind = 1 by omega), if_neg (show ¬ r.kind = 2 by omega), if_pos k], ← hbare]
  · have hz4 : UInt8.ofNat (bitN r.commit) :: UInt8.ofNat (bitN r.has) :: (if r.has = true then beL r.text.length 2 ++ r.text else []) = z := by
      rw [← hz, if_neg (show ¬ r.kind = 1 by omega), if_neg (show ¬ r.kind = 2 by omega), if_neg (show ¬ r.kind = 3 by omega), beL_one, beL_one]; rfl
    have g5 : (encR r).getD 5 0 = UInt8.ofNat (bitN r.commit) := by
      have : (encR r).getD 5 0 = ((encR r).drop 5).getD 0 0 := by simp [List.getD]
      rw [this, d5, ← hz4]; rfl
    have g6 : (encR r).getD 6 0 = UInt8.ofNat (bitN r.has) := by
      have : (encR r).getD 6 0 = ((encR r).drop 5).getD 1 0 := by simp [List.getD]
      rw [this, d5, ← hz4]; rfl
    have hb1 : ∀ b : Bool, (UInt8.ofNat (bitN b) == 1) = b := fun b => by cases b <;> rfl
    have d9 : r.has = true → (encR r).drop 9 = r.text := fun hh => by
      rw [show (9 : Nat) = 5 + 4 from rfl, ← List.drop_drop, d5, ← hz4, if_pos hh]
      show (beL r.text.length 2 ++ r.text).drop 2 = _
      exact List.drop_left' (length_beL _ _)
    have hzl : 2 ≤ z.length := by rw [← hz4]; simp
    rw [if_neg (by omega), if_neg (by omega), if_neg (by omega), if_pos (by omega), r0, g5, g6, hb1, hb1]
    have ht : (if r.has = true ∧ 9 ≤ (encR r).length then (encR r).drop 9 else []) = if r.has = true then r.text else [] := by
      cases hh : r.has
      · rw [if_neg (by simp), if_neg (by simp)]
      · rw [if_pos rfl, if_pos ⟨rfl, by rw [hlen, ← hz4, if_pos hh]; simp; omega⟩, d9 hh]
    rw [ht, show ({ Rec.zero with kind := r.kind, id := r.id, commit := r.commit, has := r.has, text := if r.has = true then r.text else [] } : Rec) = bareR r from by
      unfold bareR; rw [if_neg (show ¬ r.kind = 1 by omega), if_neg (show ¬ r.kind = 2 by omega), if_neg (show ¬ r.kind = 3 by omega), if_pos k], ← hbare]
theorem rParse_ok (xs : List UInt8) (_ : 5 ≤ xs.length) : (rParse xs).1.Ok := by
  have h0 : (rr0 xs).Ok := ⟨Ed.zero_ok, length_zeros 32⟩
  unfold rParse
  split
  · exact ⟨rEd_ok _ _, length_zeros 32⟩
  · split
    · rename_i h9
      refine ⟨rEd_ok _ _, ?_⟩
      show (if (rEd (xs.drop 9) 32).2 = true then xs.drop (xs.length - 32) else zeros 32).length = 32
      split
      · rename_i h2
        unfold rEd at h2
        split at h2
        · cases h2
        · rename_i h3; simp at h3 ⊢; omega
      · exact length_zeros 32
    · split
      · exact ⟨Ed.zero_ok, length_zeros 32⟩
      · split
        · exact ⟨Ed.zero_ok, length_zeros 32⟩
        · exact h0
theorem refDec_eq (xs : List UInt8) (hb : xs.length ≤ 140737488355328) : refDec xs = decR xs := by
  unfold refDec
  split
  · rename_i h
    obtain ⟨h1, h2, h3, h4⟩ := h
    have := decR_enc ((formedR_iff _).1 h3) (rParse_ok xs h1)
    rw [h4] at this
    exact this.symm
  · rename_i h
    by_cases hd : (decR xs).2 = 0
    · exfalso
      have he : decR xs = ((decR xs).1, 0) := by rw [← hd]
      obtain ⟨h1, h2⟩ := decR_ok he
      obtain ⟨h3, h4⟩ := rParse_enc ((formedR_iff _).1 h1) (decR_wf xs hb).ok
      rw [h2] at h3 h4
      exact h ⟨h3, by rw [h4], by rw [h4]; exact h1, by rw [h4]; exact h2⟩
    · exact (decR_no hd).symm
end Go.Proofs.Ytaieonajialenaa
