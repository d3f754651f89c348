import Derived.Test.YtibkngjacdggpaaDoorRecD
/- What record.Decode reads. -/
namespace Go.Proofs.YtibkngjacdggpaaDoor
open Go.RowKit HP

/-- What Decode reads, and what is left. -/
def rdec (xs : List UInt8) : Rec × (List UInt8 × Bool) :=
  let a := rnum (xs, false) 1
  let b := rnum a.2 4
  if a.1 = 1 then let e := redit b.2; ({ Rec.zero with kind := (a.1 : Int), id := b.1, ed := e.1 }, e.2)
  else if a.1 = 2 then
    let c := rnum b.2 4; let e := redit c.2; let h := rhash e.2
    ({ Rec.zero with kind := (a.1 : Int), id := b.1, base := c.1, ed := e.1, root := h.1 }, h.2)
  else if a.1 = 3 then let c := rnum b.2 1; ({ Rec.zero with kind := (a.1 : Int), id := b.1, code := (c.1 : Int) }, c.2)
  else if a.1 = 4 then
    let c := rtruth b.2; let d := rtruth c.2
    if d.1 = true then let t := rtext d.2; ({ Rec.zero with kind := (a.1 : Int), id := b.1, commit := c.1, has := d.1, text := t.1 }, t.2)
    else ({ Rec.zero with kind := (a.1 : Int), id := b.1, commit := c.1, has := d.1 }, d.2)
  else ({ Rec.zero with kind := (a.1 : Int), id := b.1 }, b.2)
/-- Decode's answer. -/
def decR (xs : List UInt8) : Rec × Int :=
  if (!(rdec xs).2.2 && (rdec xs).2.1.length == 0) = true ∧ formedR (rdec xs).1 = true then ((rdec xs).1, 0) else (Rec.zero, 2)
theorem redit_wf (s : List UInt8 × Bool) (hb : s.1.length ≤ 140737488355328) : (redit s).1.Wf := by
  refine ⟨rhash_len32 _, ?_⟩
  have h1 := rtruth_len s
  have h2 := rtruth_len (rtruth s).2
  have h3 := rtake_len (rtruth (rtruth s).2).2 32
  have h4 := rnum_len (rhash (rtruth (rtruth s).2).2).2 2
  show (rtext (rhash (rtruth (rtruth s).2).2).2).1.length ≤ maxLen
  have h5 : ∀ (s : List UInt8 × Bool) n, (rtake s n).1.length ≤ s.1.length := by
    intro s n
    unfold rtake
    split
    · simp
    · split
      · simp
      · simp; omega
  have h6 := h5 (rnum (rhash (rtruth (rtruth s).2).2).2 2).2 (rnum (rhash (rtruth (rtruth s).2).2).2 2).1
  have h7 : (rhash (rtruth (rtruth s).2).2).2.1.length ≤ (rtruth (rtruth s).2).2.1.length := h3
  simp only [maxLen]
  unfold rtext
  omega
theorem redit_len (s : List UInt8 × Bool) : (redit s).2.1.length ≤ s.1.length := by
  have h1 := rtruth_len s
  have h2 := rtruth_len (rtruth s).2
  have h3 : (rhash (rtruth (rtruth s).2).2).2.1.length ≤ (rtruth (rtruth s).2).2.1.length := rtake_len (rtruth (rtruth s).2).2 32
  have h4 := rnum_len (rhash (rtruth (rtruth s).2).2).2 2
  have h5 := rtake_len (rnum (rhash (rtruth (rtruth s).2).2).2 2).2 (rnum (rhash (rtruth (rtruth s).2).2).2 2).1
  show (rtext (rhash (rtruth (rtruth s).2).2).2).2.1.length ≤ _
  unfold rtext
  omega
theorem rtext_len1 (s : List UInt8 × Bool) : (rtext s).1.length ≤ s.1.length := by
  have h4 := rnum_len s 2
  have h5 : ∀ (s : List UInt8 × Bool) n, (rtake s n).1.length ≤ s.1.length := by
    intro s n
    unfold rtake
    split
    · simp
    · split
      · simp
      · simp; omega
  have h6 := h5 (rnum s 2).2 (rnum s 2).1
  unfold rtext; omega
theorem rdec_wf (xs : List UInt8) (hb : xs.length ≤ 140737488355328) : (rdec xs).1.Wf := by
  have z : (0 : Nat) ≤ maxLen := by decide
  have zn : (0 : Nat) < 18446744073709551616 := by decide
  have zi : -9223372036854775808 ≤ (0 : Int) := by decide
  have zj : (0 : Int) ≤ 9223372036854775807 := by decide
  have a1 : (rnum (xs, false) 1).1 < 256 ^ 1 := rnum_lt (xs, false) 1
  have b1 : (rnum (rnum (xs, false) 1).2 4).1 < 256 ^ 4 := rnum_lt (rnum (xs, false) 1).2 4
  have c1 : (rnum (rnum (rnum (xs, false) 1).2 4).2 4).1 < 256 ^ 4 := rnum_lt (rnum (rnum (xs, false) 1).2 4).2 4
  have d1 : (rnum (rnum (rnum (xs, false) 1).2 4).2 1).1 < 256 ^ 1 := rnum_lt (rnum (rnum (xs, false) 1).2 4).2 1
  have l1 := rnum_len (xs, false) 1
  have l2 := rnum_len (rnum (xs, false) 1).2 4
  have l3 := rnum_len (rnum (rnum (xs, false) 1).2 4).2 4
  have k0 : -9223372036854775808 ≤ ((rnum (xs, false) 1).1 : Int) := by omega
  have k1 : ((rnum (xs, false) 1).1 : Int) ≤ 9223372036854775807 := by omega
  have i1 : (rnum (rnum (xs, false) 1).2 4).1 < 18446744073709551616 := by omega
  have hb2 : (rnum (rnum (xs, false) 1).2 4).2.1.length ≤ 140737488355328 := Nat.le_trans l2 (Nat.le_trans l1 hb)
  have hb3 : (rnum (rnum (rnum (xs, false) 1).2 4).2 4).2.1.length ≤ 140737488355328 := Nat.le_trans l3 hb2
  unfold rdec
  simp only
  split
  · exact ⟨⟨(redit_wf _ hb2).ok, length_zeros 32⟩, redit_wf _ hb2, k0, k1, i1, zn, zi, zj, z⟩
  · split
    · exact ⟨⟨(redit_wf _ hb3).ok, rhash_len32 _⟩, redit_wf _ hb3, k0, k1, i1, (by omega : (rnum (rnum (rnum (xs, false) 1).2 4).2 4).1 < 18446744073709551616), zi, zj, z⟩
    · split
      · exact ⟨⟨Ed.zero_ok, length_zeros 32⟩, Ed.zero_wf, k0, k1, i1, zn, (by show -9223372036854775808 ≤ ((rnum (rnum (rnum (xs, false) 1).2 4).2 1).1 : Int); omega), (by show ((rnum (rnum (rnum (xs, false) 1).2 4).2 1).1 : Int) ≤ _; omega), z⟩
      · split
        · split
          · refine ⟨⟨Ed.zero_ok, length_zeros 32⟩, Ed.zero_wf, k0, k1, i1, zn, zi, zj, ?_⟩
            show (rtext _).1.length ≤ maxLen
            refine Nat.le_trans (rtext_len1 _) ?_
            have t1 := rtruth_len (rnum (rnum (xs, false) 1).2 4).2
            have t2 := rtruth_len (rtruth (rnum (rnum (xs, false) 1).2 4).2).2
            simp only [maxLen]; omega
          · exact ⟨⟨Ed.zero_ok, length_zeros 32⟩, Ed.zero_wf, k0, k1, i1, zn, zi, zj, z⟩
        · exact ⟨⟨Ed.zero_ok, length_zeros 32⟩, Ed.zero_wf, k0, k1, i1, zn, zi, zj, z⟩
end Go.Proofs.YtibkngjacdggpaaDoor
/- Records that differ have bytes that differ. -/
namespace Go.Proofs.YtibkngjacdggpaaDoor
open Go.RowKit HP

theorem beL_inj {n m k : Nat} (hn : n < 256 ^ k) (hm : m < 256 ^ k) (h : beL n k = beL m k) : n = m := by
  have h1 := congrArg unbe h
  rwa [unbe_beL, unbe_beL, Nat.mod_eq_of_lt hn, Nat.mod_eq_of_lt hm] at h1
theorem bitN_lt (b : Bool) : bitN b < 256 ^ 1 := by cases b <;> decide
theorem bitN_inj {a b : Bool} (h : bitN a = bitN b) : a = b := by cases a <;> cases b <;> first | rfl | cases h
theorem encE_inj {a b : Ed} (ha : a.Ok) (hb : b.Ok) (la : a.s.length ≤ 65535) (lb : b.s.length ≤ 65535) {x y : List UInt8} (h : encE a ++ x = encE b ++ y) : a = b ∧ x = y := by
  simp only [encE, List.append_assoc] at h
  obtain ⟨h1, h⟩ := List.append_inj h (by simp)
  obtain ⟨h2, h⟩ := List.append_inj h (by simp)
  obtain ⟨h3, h⟩ := List.append_inj h (by rw [show a.h.length = 32 from ha, show b.h.length = 32 from hb])
  obtain ⟨h4, h⟩ := List.append_inj h (by simp)
  have e4 := beL_inj (k := 2) (by omega) (by omega) h4
  obtain ⟨h5, h6⟩ := List.append_inj h e4
  refine ⟨?_, h6⟩
  have e1 := bitN_inj (beL_inj (bitN_lt _) (bitN_lt _) h1)
  have e2 := bitN_inj (beL_inj (bitN_lt _) (bitN_lt _) h2)
  cases a; cases b
  simp only at e1 e2 h3 h5
  subst e1 e2 h3 h5
  rfl
theorem bareR_eq {a b : Rec} (hk : a.kind = b.kind) (hi : a.id = b.id) (h1 : a.kind = 1 → a.ed = b.ed) (h2 : a.kind = 2 → a.base = b.base ∧ a.ed = b.ed ∧ a.root = b.root) (h3 : a.kind = 3 → a.code = b.code)
    (h4 : a.kind = 4 → a.commit = b.commit ∧ a.has = b.has ∧ (a.has = true → a.text = b.text)) : bareR a = bareR b := by
  unfold bareR
  rw [← hk, ← hi]
  split
  · rename_i h; rw [h1 h]
  · split
    · rename_i h; rw [(h2 h).1, (h2 h).2.1, (h2 h).2.2]
    · split
      · rename_i h; rw [h3 h]
      · split
        · rename_i h
          obtain ⟨e1, e2, e3⟩ := h4 h
          have e4 : (if a.has = true then a.text else []) = if a.has = true then b.text else [] := by
            split
            · rename_i hh; exact e3 hh
            · rfl
          rw [← e1, ← e2, e4]
        · rfl
theorem encR_inj {a b : Rec} (wa : a.Ok) (wb : b.Ok) (ha : Formed a) (hb : Formed b) (h : encR a = encR b) : a = b := by
  rw [ha.bare, hb.bare]
  have a1 := ha.k1; have a4 := ha.k4; have b1 := hb.k1; have b4 := hb.k4
  have ai := ha.i1; have bi := hb.i1; have ab := ha.b1; have bb := hb.b1
  have sa := ha.s; have sb := hb.s; have at_ := ha.t; have bt := hb.t
  unfold encR at h
  obtain ⟨h1, h⟩ := List.append_inj h (by simp)
  obtain ⟨h2, h⟩ := List.append_inj h (by simp)
  have ek := beL_inj (k := 1) (by omega) (by omega) h1
  have ei := beL_inj (k := 4) (by omega) (by omega) h2
  have hk : a.kind = b.kind := by omega
  rw [← hk] at h
  refine bareR_eq hk ei (fun e => ?_) (fun e => ?_) (fun e => ?_) (fun e => ?_)
  · rw [if_pos e, if_pos e] at h
    exact (encE_inj wa.ed wb.ed (by omega) (by omega) (x := []) (y := []) (by simpa using h)).1
  · rw [if_neg (by omega), if_pos e, if_neg (by omega), if_pos e] at h
    obtain ⟨h3, h⟩ := List.append_inj h (by simp)
    obtain ⟨e5, e6⟩ := encE_inj wa.ed wb.ed (by omega) (by omega) h
    exact ⟨beL_inj (k := 4) (by omega) (by omega) h3, e5, e6⟩
  · have ca := ha.code e
    have cb := hb.code (by omega)
    rw [if_neg (by omega), if_neg (by omega), if_pos e, if_neg (by omega), if_neg (by omega), if_pos e] at h
    have := beL_inj (k := 1) (by omega) (by omega) h
    omega
  · have n1 : ¬ a.kind = 1 := by omega
    have n2 : ¬ a.kind = 2 := by omega
    have n3 : ¬ a.kind = 3 := by omega
    rw [if_neg n1, if_neg n2, if_neg n3, if_neg n1, if_neg n2, if_neg n3] at h
    obtain ⟨h3, h⟩ := List.append_inj h (by simp)
    obtain ⟨h4, h⟩ := List.append_inj h (by simp)
    have e1 := bitN_inj (beL_inj (bitN_lt _) (bitN_lt _) h3)
    have e2 := bitN_inj (beL_inj (bitN_lt _) (bitN_lt _) h4)
    refine ⟨e1, e2, fun hh => ?_⟩
    rw [← e2, if_pos hh, if_pos hh] at h
    exact (List.append_inj h (by simp)).2
end Go.Proofs.YtibkngjacdggpaaDoor
/- What record.Decode reads of what record.Encode wrote, and the other way round (plain). -/
namespace Go.Proofs.YtibkngjacdggpaaDoor
open Go.RowKit

theorem rtakeA (b rest : List UInt8) (n : Nat) (h : b.length = n) : rtake (b ++ rest, false) n = (b, (rest, false)) := by
  subst h; simp [rtake]
theorem rnumA (n : Nat) (k : Nat) (rest : List UInt8) (hs : szB k = true) (hn : n < 256 ^ k) : rnum (beL n k ++ rest, false) k = (n, (rest, false)) := by
  unfold rnum
  rw [if_pos hs, Int.toNat_natCast, rtakeA _ _ _ (length_beL _ _), unbe_beL, Nat.mod_eq_of_lt hn]
theorem rtruthA (b : Bool) (rest : List UInt8) : rtruth (beL (bitN b) 1 ++ rest, false) = (b, (rest, false)) := by
  have h := rnumA (bitN b) 1 rest rfl (by cases b <;> decide)
  unfold rtruth
  rw [show ((1 : Nat) : Int) = 1 from rfl] at h
  rw [h]
  cases b <;> rfl
theorem rhashA (t rest : List UInt8) (h : t.length = 32) : rhash (t ++ rest, false) = (t, (rest, false)) := by
  unfold rhash
  rw [rtakeA t rest 32 h]
  simp [padTo, h, zeros]
theorem rtextA (t rest : List UInt8) (h : t.length ≤ 65535) : rtext (beL t.length 2 ++ (t ++ rest), false) = (t, (rest, false)) := by
  have hn := rnumA t.length 2 (t ++ rest) rfl (by rw [show (256 : Nat) ^ 2 = 65536 from rfl]; omega)
  unfold rtext
  rw [show ((2 : Nat) : Int) = 2 from rfl] at hn
  rw [hn, rtakeA t rest _ rfl]
theorem reditA (e : Ed) (he : e.Ok) (hs : e.s.length ≤ 65535) (rest : List UInt8) : redit (encE e ++ rest, false) = (e, (rest, false)) := by
  unfold redit encE
  simp only [List.append_assoc]
  rw [rtruthA]
  simp only
  rw [rtruthA]
  simp only
  rw [rhashA _ _ he]
  simp only
  rw [rtextA _ _ hs]
theorem decR_enc {r : Rec} (h : Formed r) (ok : r.Ok) : decR (encR r) = (r, 0) := by
  have hk : r.kind = 1 ∨ r.kind = 2 ∨ r.kind = 3 ∨ r.kind = 4 := by have := h.k1; have := h.k4; omega
  have hi : r.id < 256 ^ 4 := by have := h.i1; rw [show (256 : Nat) ^ 4 = 4294967296 from rfl]; omega
  have hb : r.base < 256 ^ 4 := by have := h.b1; rw [show (256 : Nat) ^ 4 = 4294967296 from rfl]; omega
  have hd : rdec (encR r) = (r, ([], false)) := by
    have e4 : ((4 : Nat) : Int) = 4 := rfl
    have e1 : ((1 : Nat) : Int) = 1 := rfl
    have n1 := fun n rest hn => rnumA n 1 rest rfl hn
    have n4 := fun n rest hn => rnumA n 4 rest rfl hn
    rw [e1] at n1
    rw [e4] at n4
    have hbare := h.bare
    rcases hk with k | k | k | k
    · have hr : bareR r = { Rec.zero with kind := 1, id := r.id, ed := r.ed } := by unfold bareR; rw [if_pos k, k]
      have he : encR r = beL 1 1 ++ (beL r.id 4 ++ encE r.ed) := by
        unfold encR
        rw [if_pos k, k]
        rfl
      rw [he]
      unfold rdec
      rw [n1 1 _ (by decide)]
      simp only
      rw [n4 _ _ hi]
      simp only [if_true]
      have := reditA r.ed ok.ed (by have := h.s; omega) []
      rw [List.append_nil] at this
      rw [this]
      simp only
      rw [hbare, hr]
      rfl
    · have hr : bareR r = { Rec.zero with kind := 2, id := r.id, base := r.base, ed := r.ed, root := r.root } := by unfold bareR; rw [if_neg (show ¬ r.kind = 1 by omega), if_pos k, k]
      have he : encR r = beL 2 1 ++ (beL r.id 4 ++ (beL r.base 4 ++ (encE r.ed ++ r.root))) := by
        unfold encR
        rw [if_neg (show ¬ r.kind = 1 by omega), if_pos k, k]
        rfl
      rw [he]
      unfold rdec
      rw [n1 2 _ (by decide)]
      simp only
      rw [n4 _ _ hi]
      simp only [show ¬ (2 : Nat) = 1 from by decide, if_false, if_true]
      rw [n4 _ _ hb]
      simp only
      rw [reditA r.ed ok.ed (by have := h.s; omega) r.root]
      simp only
      have := rhashA r.root [] ok.root
      rw [List.append_nil] at this
      rw [this]
      simp only
      rw [hbare, hr]
      rfl
    · have hr : bareR r = { Rec.zero with kind := 3, id := r.id, code := r.code } := by unfold bareR; rw [if_neg (show ¬ r.kind = 1 by omega), if_neg (show ¬ r.kind = 2 by omega), if_pos k, k]
      have hc := h.code k
      have he : encR r = beL 3 1 ++ (beL r.id 4 ++ beL r.code.toNat 1) := by
        unfold encR
        rw [if_neg (show ¬ r.kind = 1 by omega), if_neg (show ¬ r.kind = 2 by omega), if_pos k, k]
        rfl
      rw [he]
      unfold rdec
      rw [n1 3 _ (by decide)]
      simp only
      rw [n4 _ _ hi]
      simp only [show ¬ (3 : Nat) = 1 from by decide, show ¬ (3 : Nat) = 2 from by decide, if_false, if_true]
      have := n1 r.code.toNat [] (by rw [show (256 : Nat) ^ 1 = 256 from rfl]; omega)
      rw [List.append_nil] at this
      rw [this]
      simp only
      rw [show ((r.code.toNat : Nat) : Int) = r.code by omega, hbare, hr]
      rfl
    · have hr : bareR r = { Rec.zero with kind := 4, id := r.id, commit := r.commit, has := r.has, text := if r.has = true then r.text else [] } := by
        unfold bareR
        rw [if_neg (show ¬ r.kind = 1 by omega), if_neg (show ¬ r.kind = 2 by omega), if_neg (show ¬ r.kind = 3 by omega), if_pos k, k]
      have he : encR r = beL 4 1 ++ (beL r.id 4 ++ (beL (bitN r.commit) 1 ++ (beL (bitN r.has) 1 ++ if r.has = true then beL r.text.length 2 ++ r.text else []))) := by
        unfold encR
        rw [if_neg (show ¬ r.kind = 1 by omega), if_neg (show ¬ r.kind = 2 by omega), if_neg (show ¬ r.kind = 3 by omega), k]
        rfl
      rw [he]
      unfold rdec
      rw [n1 4 _ (by decide)]
      simp only
      rw [n4 _ _ hi]
      simp only [show ¬ (4 : Nat) = 1 from by decide, show ¬ (4 : Nat) = 2 from by decide, show ¬ (4 : Nat) = 3 from by decide, if_false, if_true]
      rw [rtruthA]
      simp only
      rw [rtruthA]
      simp only
      cases hh : r.has
      · rw [if_neg (by simp), if_neg (by simp), hbare, hr, hh]
        rfl
      · rw [if_pos rfl, if_pos rfl]
        have := rtextA r.text [] (by have := h.t; omega)
        rw [List.append_nil] at this
        rw [this]
        simp only
        rw [hbare, hr, hh]
        rfl
  unfold decR
  rw [hd]
  simp only
  rw [if_pos ⟨rfl, (formedR_iff r).2 h⟩]

/-! ### what is decoded is encoded as it stood -/
theorem beL_snoc (n k : Nat) : beL n (k + 1) = beL (n / 256) k ++ [UInt8.ofNat n] := by
  unfold beL
  rw [List.range_succ, List.map_append]
  congr 1
  · apply List.map_congr_left
    intro i hi
    have hi := List.mem_range.1 hi
    rw [Nat.div_div_eq_div_mul, show (256 : Nat) = 2 ^ 8 from rfl, ← Nat.pow_add]
    congr 3
    omega
  · simp
theorem beL_unbe (k : Nat) : ∀ (l : List UInt8), l.length = k → beL (unbe l) k = l := by
  induction k with
  | zero => intro l h; rw [List.eq_nil_of_length_eq_zero h]; rfl
  | succ k ih =>
    intro l h
    have hne : l ≠ [] := fun e => by rw [e] at h; cases h
    obtain ⟨l', c, rfl⟩ : ∃ l' c, l = l' ++ [c] := ⟨l.dropLast, l.getLast hne, (List.dropLast_concat_getLast hne).symm⟩
    rw [unbe_snoc, beL_snoc, show (unbe l' * 256 + c.toNat) / 256 = unbe l' by have := c.toNat_lt; omega, ih l' (by simpa using h)]
    congr 2
    apply UInt8.toNat.inj
    rw [UInt8.toNat_ofNat']
    have := c.toNat_lt
    omega
theorem rtakeB {s : List UInt8 × Bool} {n : Nat} (h : (rtake s n).2.2 = false) : s.2 = false ∧ s.1 = (rtake s n).1 ++ (rtake s n).2.1 ∧ (rtake s n).1.length = n := by
  obtain ⟨xs, b⟩ := s
  unfold rtake at *
  cases b
  · simp only [Bool.false_eq_true, if_false] at *
    split at h
    · cases h
    · rename_i hl
      rw [if_neg hl]
      exact ⟨by simp, (List.take_append_drop n xs).symm, by simp; omega⟩
  · simp at h
theorem rnumB {s : List UInt8 × Bool} {k : Nat} (hs : szB k = true) (h : (rnum s k).2.2 = false) : s.2 = false ∧ s.1 = beL (rnum s k).1 k ++ (rnum s k).2.1 := by
  unfold rnum at *
  rw [if_pos hs, Int.toNat_natCast] at *
  obtain ⟨h1, h2, h3⟩ := rtakeB h
  refine ⟨h1, ?_⟩
  rw [beL_unbe k _ h3]
  exact h2
theorem rtruthB {s : List UInt8 × Bool} (h : (rtruth s).2.2 = false) : s.2 = false ∧ s.1 = beL (bitN (rtruth s).1) 1 ++ (rtruth s).2.1 := by
  unfold rtruth at *
  simp only at *
  split at h
  · cases h
  · rename_i hl
    rw [if_neg hl]
    obtain ⟨h1, h2⟩ := rnumB (k := 1) rfl h
    refine ⟨h1, h2.trans ?_⟩
    have h01 : (rnum s ((1 : Nat) : Int)).1 = 0 ∨ (rnum s ((1 : Nat) : Int)).1 = 1 := by
      have : ¬ 1 < (rnum s ((1 : Nat) : Int)).1 := hl
      omega
    congr 2
    show (rnum s ((1 : Nat) : Int)).1 = bitN ((rnum s ((1 : Nat) : Int)).1 == 1)
    rcases h01 with e | e <;> rw [e] <;> rfl
theorem rhashB {s : List UInt8 × Bool} (h : (rhash s).2.2 = false) : s.2 = false ∧ s.1 = (rhash s).1 ++ (rhash s).2.1 := by
  unfold rhash at *
  obtain ⟨h1, h2, h3⟩ := rtakeB h
  refine ⟨h1, h2.trans ?_⟩
  congr 1
  simp [padTo, h3, zeros]
theorem rtextB {s : List UInt8 × Bool} (h : (rtext s).2.2 = false) : s.2 = false ∧ s.1 = beL (rtext s).1.length 2 ++ ((rtext s).1 ++ (rtext s).2.1) := by
  unfold rtext at *
  obtain ⟨h1, h2, h3⟩ := rtakeB h
  obtain ⟨h4, h5⟩ := rnumB (k := 2) rfl h1
  refine ⟨h4, h5.trans ?_⟩
  rw [h3]
  congr 1
theorem reditB {s : List UInt8 × Bool} (h : (redit s).2.2 = false) : s.2 = false ∧ s.1 = encE (redit s).1 ++ (redit s).2.1 := by
  unfold redit at *
  obtain ⟨h1, h2⟩ := rtextB h
  obtain ⟨h3, h4⟩ := rhashB h1
  obtain ⟨h5, h6⟩ := rtruthB h3
  obtain ⟨h7, h8⟩ := rtruthB h5
  refine ⟨h7, ?_⟩
  unfold encE
  simp only [List.append_assoc]
  rw [h8]
  congr 1
  rw [h6]
  congr 1
  rw [h4]
  congr 1
theorem rdecB {xs : List UInt8} (h : (rdec xs).2.2 = false) (hf : formedR (rdec xs).1 = true) : xs = encR (rdec xs).1 ++ (rdec xs).2.1 := by
  have hF := (formedR_iff _).1 hf
  have k1 := hF.k1
  have k4 := hF.k4
  have e1 : ((1 : Nat) : Int) = 1 := rfl
  have e4 : ((4 : Nat) : Int) = 4 := rfl
  have n1 := fun s h => rnumB (s := s) (k := 1) rfl h
  have n4 := fun s h => rnumB (s := s) (k := 4) rfl h
  rw [e1] at n1
  rw [e4] at n4
  unfold rdec at *
  simp only at *
  generalize ha : rnum (xs, false) 1 = a at *
  generalize hb : rnum a.2 4 = b at *
  have fin : ∀ z : List UInt8, b.2.2 = false → b.2.1 = z → xs = beL a.1 1 ++ (beL b.1 4 ++ z) := fun z h1 h2 => by
    obtain ⟨h3, h4⟩ := n4 a.2 (by rw [hb]; exact h1)
    obtain ⟨_, h6⟩ := n1 (xs, false) (by rw [ha]; exact h3)
    rw [hb] at h4
    rw [ha] at h6
    rw [← h2, ← h4]
    exact h6
  by_cases c1 : a.1 = 1
  · rw [if_pos c1] at *
    obtain ⟨h1, h2⟩ := reditB h
    rw [fin _ h1 h2]
    unfold encR
    rw [if_pos (show ((a.1 : Nat) : Int) = 1 by omega)]
    simp
  · rw [if_neg c1] at *
    by_cases c2 : a.1 = 2
    · rw [if_pos c2] at *
      obtain ⟨h1, h2⟩ := rhashB h
      obtain ⟨h3, h4⟩ := reditB h1
      obtain ⟨h5, h6⟩ := n4 _ h3
      rw [fin _ h5 (h6.trans (by rw [h4, h2]))]
      unfold encR
      rw [if_neg (show ¬ ((a.1 : Nat) : Int) = 1 by omega), if_pos (show ((a.1 : Nat) : Int) = 2 by omega)]
      simp
    · rw [if_neg c2] at *
      by_cases c3 : a.1 = 3
      · rw [if_pos c3] at *
        obtain ⟨h1, h2⟩ := n1 _ h
        rw [fin _ h1 h2]
        unfold encR
        rw [if_neg (show ¬ ((a.1 : Nat) : Int) = 1 by omega), if_neg (show ¬ ((a.1 : Nat) : Int) = 2 by omega), if_pos (show ((a.1 : Nat) : Int) = 3 by omega)]
        simp
      · rw [if_neg c3] at *
        by_cases c4 : a.1 = 4
        · rw [if_pos c4] at *
          generalize hc : rtruth b.2 = c at *
          generalize hd : rtruth c.2 = d at *
          by_cases hh : d.1 = true
          · rw [if_pos hh] at *
            obtain ⟨h1, h2⟩ := rtextB h
            obtain ⟨h3, h4⟩ := rtruthB (s := c.2) (by rw [hd]; exact h1)
            obtain ⟨h5, h6⟩ := rtruthB (s := b.2) (by rw [hc]; exact h3)
            rw [hd] at h4
            rw [hc] at h6
            rw [fin _ h5 (h6.trans (by rw [h4, h2]))]
            unfold encR
            rw [if_neg (show ¬ ((a.1 : Nat) : Int) = 1 by omega), if_neg (show ¬ ((a.1 : Nat) : Int) = 2 by omega), if_neg (show ¬ ((a.1 : Nat) : Int) = 3 by omega), if_pos hh]
            simp
          · rw [if_neg hh] at *
            obtain ⟨h3, h4⟩ := rtruthB (s := c.2) (by rw [hd]; exact h)
            obtain ⟨h5, h6⟩ := rtruthB (s := b.2) (by rw [hc]; exact h3)
            rw [hd] at h4
            rw [hc] at h6
            rw [fin _ h5 (h6.trans (by rw [h4]))]
            unfold encR
            rw [if_neg (show ¬ ((a.1 : Nat) : Int) = 1 by omega), if_neg (show ¬ ((a.1 : Nat) : Int) = 2 by omega), if_neg (show ¬ ((a.1 : Nat) : Int) = 3 by omega), if_neg hh]
            simp
        · exfalso
          rw [if_neg c4] at *
          have k1' : (1 : Int) ≤ ((a.1 : Nat) : Int) := k1
          have k4' : ((a.1 : Nat) : Int) ≤ 4 := k4
          omega
theorem decR_ok {xs : List UInt8} {r : Rec} (h : decR xs = (r, 0)) : formedR r = true ∧ encR r = xs := by
  unfold decR at h
  split at h
  · rename_i hc
    obtain ⟨h1, h2⟩ := hc
    simp only [Bool.and_eq_true, Bool.not_eq_true', beq_iff_eq] at h1
    obtain ⟨rfl, -⟩ := Prod.mk.inj h
    refine ⟨h2, ?_⟩
    have := rdecB h1.1 h2
    rw [List.eq_nil_of_length_eq_zero h1.2, List.append_nil] at this
    exact this.symm
  · cases h
theorem Rec.zero_wfP : Rec.zero.Wf := ⟨Rec.zero_ok, Ed.zero_wf, by decide, by decide, by decide, by decide, by decide, by decide, by decide⟩
theorem decR_wf (xs : List UInt8) (hb : xs.length ≤ 140737488355328) : (decR xs).1.Wf := by
  unfold decR
  split
  · exact rdec_wf xs hb
  · exact Rec.zero_wfP
theorem decR_no {xs : List UInt8} (h : (decR xs).2 ≠ 0) : decR xs = (Rec.zero, 2) := by
  unfold decR at *
  split at h
  · exact absurd rfl h
  · rename_i hc; rw [if_neg hc]
end Go.Proofs.YtibkngjacdggpaaDoor
