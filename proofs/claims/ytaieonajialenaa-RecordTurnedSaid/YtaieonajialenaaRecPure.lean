/- What record.Decode reads of what record.Encode wrote, and the other way round (plain). -/
import Derived.Test.YtaieonajialenaaRecM
import Derived.Test.YtaieonajialenaaRecInj
namespace Go.Proofs.Ytaieonajialenaa
open Go.RowKit

theorem rtakeA (b rest : List UInt8) (n : Nat) (h : b.length = n) : rtake (b ++ rest, false) n = (b, (rest, false)) := by
  subst h; simp [rtake]
theorem rnumA (n : Nat) (k : Nat) (rest : List UInt8) (hs : szB k = true) (hn : n < 256 ^ k) : rnum (beL n k ++ rest, false) k = (n, (rest, false)) := by
  unfold rnum
  rw [if_pos hs, Int.toNat_natCast, rtakeA _ _ _ (length_beL _ _), unbe_beL, Nat.mod_eq_of_lt hn]
theorem rtruthA (b : Bool) (rest : List UInt8) : rtruth (beL (bitN b) 1 ++ rest, false) = (b, (rest, false)) := by
  have h := rnumA (bitN b) 1 rest rfl (by cases b <;> decide)
  unfold rtruth
  rw [show ((1 : Nat) : Int) = 1 from rfl] at h
  rw [h]
  cases b <;> rfl
theorem rhashA (t rest : List UInt8) (h : t.length = 32) : rhash (t ++ rest, false) = (t, (rest, false)) := by
  unfold rhash
  rw [rtakeA t rest 32 h]
  simp [padTo, h, zeros]
theorem rtextA (t rest : List UInt8) (h : t.length ≤ 65535) : rtext (beL t.length 2 ++ (t ++ rest), false) = (t, (rest, false)) := by
  have hn := rnumA t.length 2 (t ++ rest) rfl (by rw [show (256 : Nat) ^ 2 = 65536 from rfl]; omega)
  unfold rtext
  rw [show ((2 : Nat) : Int) = 2 from rfl] at hn
  rw [hn, rtakeA t rest _ rfl]
theorem reditA (e : Ed) (he : e.Ok) (hs : e.s.length ≤ 65535) (rest : List UInt8) : redit (encE e ++ rest, false) = (e, (rest, false)) := by
  unfold redit encE
  simp only [List.append_assoc]
  rw [rtruthA]
  simp only
  rw [rtruthA]
  simp only
  rw [rhashA _ _ he]
  simp only
  rw [rtextA _ _ hs]
theorem decR_enc {r : Rec} (h : Formed r) (ok : r.Ok) : decR (encR r) = (r, 0) := by
  have hk : r.kind = 1 ∨ r.kind = 2 ∨ r.kind = 3 ∨ r.kind = 4 := by have := h.k1; have := h.k4; omega
  have hi : r.id < 256 ^ 4 := by have := h.i1; rw [show (256 : Nat) ^ 4 = 4294967296 from rfl]; omega
  have hb : r.base < 256 ^ 4 := by have := h.b1; rw [show (256 : Nat) ^ 4 = 4294967296 from rfl]; omega
  have hd : rdec (encR r) = (r, ([], false)) := by
    have e4 : ((4 : Nat) : Int) = 4 := rfl
    have e1 : ((1 : Nat) : Int) = 1 := rfl
    have n1 := fun n rest hn => rnumA n 1 rest rfl hn
    have n4 := fun n rest hn => rnumA n 4 rest rfl hn
    rw [e1] at n1
    rw [e4] at n4
    have hbare := h.bare
    rcases hk with k | k | k | k
    · have hr : bareR r = { Rec.zero with kind := 1, id := r.id, ed := r.ed } := by unfold bareR; rw [if_pos k, k]
      have he : encR r = beL 1 1 ++ (beL r.id 4 ++ encE r.ed) := by
        unfold encR
        rw [if_pos k, k]
        rfl
      rw [he]
      unfold rdec
      rw [n1 1 _ (by decide)]
      simp only
      rw [n4 _ _ hi]
      simp only [if_true]
      have := reditA r.ed ok.ed (by have := h.s; omega) []
      rw [List.append_nil] at this
      rw [this]
      simp only
      rw [hbare, hr]
      rfl
    · have hr : bareR r = { Rec.zero with kind := 2, id := r.id, base := r.base, ed := r.ed, root := r.root } := by unfold bareR; rw [if_neg (show ¬ r.kind = 1 by omega), if_pos k, k]
      have he : encR r = beL 2 1 ++ (beL r.id 4 ++ (beL r.base 4 ++ (encE r.ed ++ r.root))) := by
        unfold encR
        rw [if_neg (show ¬ r.kind = 1 by omega), if_pos k, k]
        rfl
      rw [he]
      unfold rdec
      rw [n1 2 _ (by decide)]
      simp only
      rw [n4 _ _ hi]
      simp only [show ¬ (2 : Nat) = 1 from by decide, if_false, if_true]
      rw [n4 _ _ hb]
      simp only
      rw [reditA r.ed ok.ed (by have := h.s; omega) r.root]
      simp only
      have := rhashA r.root [] ok.root
      rw [List.append_nil] at this
      rw [this]
      simp only
      rw [hbare, hr]
      rfl
    · have hr : bareR r = { Rec.zero with kind := 3, id := r.id, code := r.code } := by unfold bareR; rw [if_neg (show ¬ r.kind = 1 by omega), if_neg (show ¬ r.kind = 2 by omega), if_pos k, k]
      have hc := h.code k
      have he : encR r = beL 3 1 ++ (beL r.id 4 ++ beL r.code.toNat 1) := by
        unfold encR
        rw [if_neg (show ¬ r.kind = 1 by omega), if_neg (show ¬ r.kind = 2 by omega), if_pos k, k]
        rfl
      rw [he]
      unfold rdec
      rw [n1 3 _ (by decide)]
      simp only
      rw [n4 _ _ hi]
      simp only [show ¬ (3 : Nat) = 1 from by decide, show ¬ (3 : Nat) = 2 from by decide, if_false, if_true]
      have := n1 r.code.toNat [] (by rw [show (256 : Nat) ^ 1 = 256 from rfl]; omega)
      rw [List.append_nil] at this
      rw [this]
      simp only
      rw [show ((r.code.toNat : Nat) : Int) = r.code by omega, hbare, hr]
      rfl
    · have hr : bareR r = { Rec.zero with kind := 4, id := r.id, commit := r.commit, has := r.has, text := if r.has = true then r.text else [] } := by
        unfold bareR
        rw [if_neg (show ¬ r.kind = 1 by omega), if_neg (show ¬ r.kind = 2 by omega), if_neg (show ¬ r.kind = 3 by omega), if_pos k, k]
      have he : encR r = beL 4 1 ++ (beL r.id 4 ++ (beL (bitN r.commit) 1 ++ (beL (bitN r.has) 1 ++ if r.has = true then beL r.text.length 2 ++ r.text else []))) := by
        unfold encR
        rw [if_neg (show ¬ r.kind = 1 by omega), if_neg (show ¬ r.kind = 2 by omega), if_neg (show ¬ r.kind = 3 by omega), k]
        rfl
      rw [he]
      unfold rdec
      rw [n1 4 _ (by decide)]
      simp only
      rw [n4 _ _ hi]
      simp only [show ¬ (4 : Nat) = 1 from by decide, show ¬ (4 : Nat) = 2 from by decide, show ¬ (4 : Nat) = 3 from by decide, if_false, if_true]
      rw [rtruthA]
      simp only
      rw [rtruthA]
      simp only
      cases hh : r.has
      · rw [if_neg (by simp), if_neg (by simp), hbare, hr, hh]
        rfl
      · rw [if_pos rfl, if_pos rfl]
        have := rtextA r.text [] (by have := h.t; omega)
        rw [List.append_nil] at this
        rw [this]
        simp only
        rw [hbare, hr, hh]
        rfl
  unfold decR
  rw [hd]
  simp only
  rw [if_pos ⟨rfl, (formedR_iff r).2 h⟩]

/-! ### what is decoded is encoded as it stood -/
theorem beL_snoc (n k : Nat) : beL n (k + 1) = beL (n / 256) k ++ [UInt8.ofNat n] := by
  unfold beL
  rw [List.range_succ, List.map_append]
  congr 1
  · apply List.map_congr_left
    intro i hi
    have hi := List.mem_range.1 hi
    rw [Nat.div_div_eq_div_mul, show (256 : Nat) = 2 ^ 8 from rfl, ← Nat.pow_add]
    congr 3
    omega
  · simp
theorem beL_unbe (k : Nat) : ∀ (l : List UInt8), l.length = k → beL (unbe l) k = l := by
  induction k with
  | zero => intro l h; rw [List.eq_nil_of_length_eq_zero h]; rfl
  | succ k ih =>
    intro l h
    have hne : l ≠ [] := fun e => by rw [e] at h; cases h
    obtain ⟨l', c, rfl⟩ : ∃ l' c, l = l' ++ [c] := ⟨l.dropLast, l.getLast hne, (List.dropLast_concat_getLast hne).symm⟩
    rw [unbe_snoc, beL_snoc, show (unbe l' * 256 + c.toNat) / 256 = unbe l' by have := c.toNat_lt; omega, ih l' (by simpa using h)]
    congr 2
    apply UInt8.toNat.inj
    rw [UInt8.toNat_ofNat']
    have := c.toNat_lt
    omega
theorem rtakeB {s : List UInt8 × Bool} {n : Nat} (h : (rtake s n).2.2 = false) : s.2 = false ∧ s.1 = (rtake s n).1 ++ (rtake s n).2.1 ∧ (rtake s n).1.length = n := by
  obtain ⟨xs, b⟩ := s
  unfold rtake at *
  cases b
  · simp only [Bool.false_eq_true, if_false] at *
    split at h
    · cases h
    · rename_i hl
      rw [if_neg hl]
      exact ⟨by simp, (List.take_append_drop n xs).symm, by simp; omega⟩
  · simp at h
theorem rnumB {s : List UInt8 × Bool} {k : Nat} (hs : szB k = true) (h : (rnum s k).2.2 = false) : s.2 = false ∧ s.1 = beL (rnum s k).1 k ++ (rnum s k).2.1 := by
  unfold rnum at *
  rw [if_pos hs, Int.toNat_natCast] at *
  obtain ⟨h1, h2, h3⟩ := rtakeB h
  refine ⟨h1, ?_⟩
  rw [beL_unbe k _ h3]
  exact h2
theorem rtruthB {s : List UInt8 × Bool} (h : (rtruth s).2.2 = false) : s.2 = false ∧ s.1 = beL (bitN (rtruth s).1) 1 ++ (rtruth s).2.1 := by
  unfold rtruth at *
  simp only at *
  split at h
  · cases h
  · rename_i hl
    rw [if_neg hl]
    obtain ⟨h1, h2⟩ := rnumB (k := 1) rfl h
    refine ⟨h1, h2.trans ?_⟩
    have h01 : (rnum s ((1 : Nat) : Int)).1 = 0 ∨ (rnum s ((1 : Nat) : Int)).1 = 1 := by
      have : ¬ 1 < (rnum s ((1 : Nat) : Int)).1 := hl
      omega
    congr 2
    show (rnum s ((1 : Nat) : Int)).1 = bitN ((rnum s ((1 : Nat) : Int)).1 == 1)
    rcases h01 with e | e <;> rw [e] <;> rfl
theorem rhashB {s : List UInt8 × Bool} (h : (rhash s).2.2 = false) : s.2 = false ∧ s.1 = (rhash s).1 ++ (rhash s).2.1 := by
  unfold rhash at *
  obtain ⟨h1, h2, h3⟩ := rtakeB h
  refine ⟨h1, h2.trans ?_⟩
  congr 1
  simp [padTo, h3, zeros]
theorem rtextB {s : List UInt8 × Bool} (h : (rtext s).2.2 = false) : s.2 = false ∧ s.1 = beL (rtext s).1.length 2 ++ ((rtext s).1 ++ (rtext s).2.1) := by
  unfold rtext at *
  obtain ⟨h1, h2, h3⟩ := rtakeB h
  obtain ⟨h4, h5⟩ := rnumB (k := 2) rfl h1
  refine ⟨h4, h5.trans ?_⟩
  rw [h3]
  congr 1
theorem reditB {s : List UInt8 × Bool} (h : (redit s).2.2 = false) : s.2 = false ∧ s.1 = encE (redit s).1 ++ (redit s).2.1 := by
  unfold redit at *
  obtain ⟨h1, h2⟩ := rtextB h
  obtain ⟨h3, h4⟩ := rhashB h1
  obtain ⟨h5, h6⟩ := rtruthB h3
  obtain ⟨h7, h8⟩ := rtruthB h5
  refine ⟨h7, ?_⟩
  unfold encE
  simp only [List.append_assoc]
  rw [h8]
  congr 1
  rw [h6]
  congr 1
  rw [h4]
  congr 1
theorem rdecB {xs : List UInt8} (h : (rdec xs).2.2 = false) (hf : formedR (rdec xs).1 = true) : xs = encR (rdec xs).1 ++ (rdec xs).2.1 := by
  have hF := (formedR_iff _).1 hf
  have k1 := hF.k1
  have k4 := hF.k4
  have e1 : ((1 : Nat) : Int) = 1 := rfl
  have e4 : ((4 : Nat) : Int) = 4 := rfl
  have n1 := fun s h => rnumB (s := s) (k := 1) rfl h
  have n4 := fun s h => rnumB (s := s) (k := 4) rfl h
  rw [e1] at n1
  rw [e4] at n4
  unfold rdec at *
  simp only at *
  generalize ha : rnum (xs, false) 1 = a at *
  generalize hb : rnum a.2 4 = b at *
  have fin : ∀ z : List UInt8, b.2.2 = false → b.2.1 = z → xs = beL a.1 1 ++ (beL b.1 4 ++ z) := fun z h1 h2 => by
    obtain ⟨h3, h4⟩ := n4 a.2 (by rw [hb]; exact h1)
    obtain ⟨_, h6⟩ := n1 (xs, false) (by rw [ha]; exact h3)
    rw [hb] at h4
    rw [ha] at h6
    rw [← h2, ← h4]
    exact h6
  by_cases c1 : a.1 = 1
  · rw [if_pos c1] at *
    obtain ⟨h1, h2⟩ := reditB h
    rw [fin _ h1 h2]
    unfold encR
    rw [if_pos (show ((a.1 : Nat) : Int) = 1 by omega)]
    simp
  · rw [if_neg c1] at *
    by_cases c2 : a.1 = 2
    · rw [if_pos c2] at *
      obtain ⟨h1, h2⟩ := rhashB h
      obtain ⟨h3, h4⟩ := reditB h1
      obtain ⟨h5, h6⟩ := n4 _ h3
      rw [fin _ h5 (h6.trans (by rw [h4, h2]))]
      unfold encR
      rw [if_neg (show ¬ ((a.1 : Nat) : Int) = 1 by omega), if_pos (show ((a.1 : Nat) : Int) = 2 by omega)]
      simp
    · rw [if_neg c2] at *
      by_cases c3 : a.1 = 3
      · rw [if_pos c3] at *
        obtain ⟨h1, h2⟩ := n1 _ h
        rw [fin _ h1 h2]
        unfold encR
        rw [if_neg (show ¬ ((a.1 : Nat) : Int) = 1 by omega), if_neg (show ¬ ((a.1 : Nat) : Int) = 2 by omega), if_pos (show ((a.1 : Nat) : Int) = 3 by omega)]
        simp
      · rw [if_neg c3] at *
        by_cases c4 : a.1 = 4
        · rw [if_pos c4] at *
          generalize hc : rtruth b.2 = c at *
          generalize hd : rtruth c.2 = d at *
          by_cases hh : d.1 = true
          · rw [if_pos hh] at *
            obtain ⟨h1, h2⟩ := rtextB h
            obtain ⟨h3, h4⟩ := rtruthB (s := c.2) (by rw [hd]; exact h1)
            obtain ⟨h5, h6⟩ := rtruthB (s := b.2) (by rw [hc]; exact h3)
            rw [hd] at h4
            rw [hc] at h6
            rw [fin _ h5 (h6.trans (by rw [h4, h2]))]
            unfold encR
            rw [if_neg (show ¬ ((a.1 : Nat) : Int) = 1 by omega), if_neg (show ¬ ((a.1 : Nat) : Int) = 2 by omega), if_neg (show ¬ ((a.1 : Nat) : Int) = 3 by omega), if_pos hh]
            simp
          · rw [if_neg hh] at *
            obtain ⟨h3, h4⟩ := rtruthB (s := c.2) (by rw [hd]; exact h)
            obtain ⟨h5, h6⟩ := rtruthB (s := b.2) (by rw [hc]; exact h3)
            rw [hd] at h4
            rw [hc] at h6
            rw [fin _ h5 (h6.trans (by rw [h4]))]
            unfold encR
            rw [if_neg (show ¬ ((a.1 : Nat) : Int) = 1 by omega), if_neg (show ¬ ((a.1 : Nat) : Int) = 2 by omega), if_neg (show ¬ ((a.1 : Nat) : Int) = 3 by omega), if_neg hh]
            simp
        · exfalso
          rw [if_neg c4] at *
          have k1' : (1 : Int) ≤ ((a.1 : Nat) : Int) := k1
          have k4' : ((a.1 : Nat) : Int) ≤ 4 := k4
          omega
theorem decR_ok {xs : List UInt8} {r : Rec} (h : decR xs = (r, 0)) : formedR r = true ∧ encR r = xs := by
  unfold decR at h
  split at h
  · rename_i hc
    obtain ⟨h1, h2⟩ := hc
    simp only [Bool.and_eq_true, Bool.not_eq_true', beq_iff_eq] at h1
    obtain ⟨rfl, -⟩ := Prod.mk.inj h
    refine ⟨h2, ?_⟩
    have := rdecB h1.1 h2
    rw [List.eq_nil_of_length_eq_zero h1.2, List.append_nil] at this
    exact this.symm
  · cases h
theorem Rec.zero_wfP : Rec.zero.Wf := ⟨Rec.zero_ok, Ed.zero_wf, by decide, by decide, by decide, by decide, by decide, by decide, by decide⟩
theorem decR_wf (xs : List UInt8) (hb : xs.length ≤ 140737488355328) : (decR xs).1.Wf := by
  unfold decR
  split
  · exact rdec_wf xs hb
  · exact Rec.zero_wfP
theorem decR_no {xs : List UInt8} (h : (decR xs).2 ≠ 0) : decR xs = (Rec.zero, 2) := by
  unfold decR at *
  split at h
  · exact absurd rfl h
  · rename_i hc; rw [if_neg hc]
end Go.Proofs.Ytaieonajialenaa
