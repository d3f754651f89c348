/- Records that differ have bytes that differ. -/
import Derived.Test.YtaieonajialenaaRecD
namespace Go.Proofs.Ytaieonajialenaa
open Go.RowKit HP

theorem beL_inj {n m k : Nat} (hn : n < 256 ^ k) (hm : m < 256 ^ k) (h : beL n k = beL m k) : n = m := by
  have h1 := congrArg unbe h
  rwa [unbe_beL, unbe_beL, Nat.mod_eq_of_lt hn, Nat.mod_eq_of_lt hm] at h1
theorem bitN_lt (b : Bool) : bitN b < 256 ^ 1 := by cases b <;> decide
theorem bitN_inj {a b : Bool} (h : bitN a = bitN b) : a = b := by cases a <;> cases b <;> first | rfl | cases h
theorem encE_inj {a b : Ed} (ha : a.Ok) (hb : b.Ok) (la : a.s.length ≤ 65535) (lb : b.s.length ≤ 65535) {x y : List UInt8} (h : encE a ++ x = encE b ++ y) : a = b ∧ x = y := by
  simp only [encE, List.append_assoc] at h
  obtain ⟨h1, h⟩ := List.append_inj h (by simp)
  obtain ⟨h2, h⟩ := List.append_inj h (by simp)
  obtain ⟨h3, h⟩ := List.append_inj h (by rw [show a.h.length = 32 from ha, show b.h.length = 32 from hb])
  obtain ⟨h4, h⟩ := List.append_inj h (by simp)
  have e4 := beL_inj (k := 2) (by omega) (by omega) h4
  obtain ⟨h5, h6⟩ := List.append_inj h e4
  refine ⟨?_, h6⟩
  have e1 := bitN_inj (beL_inj (bitN_lt _) (bitN_lt _) h1)
  have e2 := bitN_inj (beL_inj (bitN_lt _) (bitN_lt _) h2)
  cases a; cases b
  simp only at e1 e2 h3 h5
  subst e1 e2 h3 h5
  rfl
theorem bareR_eq {a b : Rec} (hk : a.kind = b.kind) (hi : a.id = b.id) (h1 : a.kind = 1 → a.ed = b.ed) (h2 : a.kind = 2 → a.base = b.base ∧ a.ed = b.ed ∧ a.root = b.root) (h3 : a.kind = 3 → a.code = b.code)
    (h4 : a.kind = 4 → a.commit = b.commit ∧ a.has = b.has ∧ (a.has = true → a.text = b.text)) : bareR a = bareR b := by
  unfold bareR
  rw [← hk, ← hi]
  split
  · rename_i h; rw [h1 h]
  · split
    · rename_i h; rw [(h2 h).1, (h2 h).2.1, (h2 h).2.2]
    · split
      · rename_i h; rw [h3 h]
      · split
        · rename_i h
          obtain ⟨e1, e2, e3⟩ := h4 h
          have e4 : (if a.has = true then a.text else []) = if a.has = true then b.text else [] := by
            split
            · rename_i hh; exact e3 hh
            · rfl
          rw [← e1, ← e2, e4]
        · rfl
theorem encR_inj {a b : Rec} (wa : a.Ok) (wb : b.Ok) (ha : Formed a) (hb : Formed b) (h : encR a = encR b) : a = b := by
  rw [ha.bare, hb.bare]
  have a1 := ha.k1; have a4 := ha.k4; have b1 := hb.k1; have b4 := hb.k4
  have ai := ha.i1; have bi := hb.i1; have ab := ha.b1; have bb := hb.b1
  have sa := ha.s; have sb := hb.s; have at_ := ha.t; have bt := hb.t
  unfold encR at h
  obtain ⟨h1, h⟩ := List.append_inj h (by simp)
  obtain ⟨h2, h⟩ := List.append_inj h (by simp)
  have ek := beL_inj (k := 1) (by omega) (by omega) h1
  have ei := beL_inj (k := 4) (by omega) (by omega) h2
  have hk : a.kind = b.kind := by omega
  rw [← hk] at h
  refine bareR_eq hk ei (fun e => ?_) (fun e => ?_) (fun e => ?_) (fun e => ?_)
  · rw [if_pos e, if_pos e] at h
    exact (encE_inj wa.ed wb.ed (by omega) (by omega) (x := []) (y := []) (by simpa using h)).1
  · rw [if_neg (by omega), if_pos e, if_neg (by omega), if_pos e] at h
    obtain ⟨h3, h⟩ := List.append_inj h (by simp)
    obtain ⟨e5, e6⟩ := encE_inj wa.ed wb.ed (by omega) (by omega) h
    exact ⟨beL_inj (k := 4) (by omega) (by omega) h3, e5, e6⟩
  · have ca := ha.code e
    have cb := hb.code (by omega)
    rw [if_neg (by omega), if_neg (by omega), if_pos e, if_neg (by omega), if_neg (by omega), if_pos e] at h
    have := beL_inj (k := 1) (by omega) (by omega) h
    omega
  · have n1 : ¬ a.kind = 1 := by omega
    have n2 : ¬ a.kind = 2 := by omega
    have n3 : ¬ a.kind = 3 := by omega
    rw [if_neg n1, if_neg n2, if_neg n3, if_neg n1, if_neg n2, if_neg n3] at h
    obtain ⟨h3, h⟩ := List.append_inj h (by simp)
    obtain ⟨h4, h⟩ := List.append_inj h (by simp)
    have e1 := bitN_inj (beL_inj (bitN_lt _) (bitN_lt _) h3)
    have e2 := bitN_inj (beL_inj (bitN_lt _) (bitN_lt _) h4)
    refine ⟨e1, e2, fun hh => ?_⟩
    rw [← e2, if_pos hh, if_pos hh] at h
    exact (List.append_inj h (by simp)).2
end Go.Proofs.Ytaieonajialenaa
