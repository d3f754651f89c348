/- What message.Of reads of a frame's body, what the reference's OfFrame reads, and that they are the same (plain). -/
import Derived.Test.YtibkngjacdggpaaDoorMsgA
import Derived.Test.YtibkngjacdggpaaDoorRecPure
namespace Go.Proofs.YtibkngjacdggpaaDoor
set_option linter.unusedSimpArgs false
set_option linter.unusedVariables false
open Go.RowKit HP

def mdec (t : UInt8) (xs : List UInt8) : Msg × (List UInt8 × Bool) :=
  let a := rnum (xs, false) 1
  let b := rnum a.2 1
  let c := rnum b.2 4
  if t.toNat = 1 then let d := rnum c.2 4; let e := redit d.2; ({ Msg.zero with kind := (t.toNat : Int), frm := (a.1 : Int), to := (b.1 : Int), id := c.1, base := d.1, ed := e.1 }, e.2)
  else if t.toNat = 2 then
    let y := rtruth c.2
    if y.1 = true then let h := rhash y.2; let r := rhash h.2; ({ Msg.zero with kind := (t.toNat : Int), frm := (a.1 : Int), to := (b.1 : Int), id := c.1, yes := true, hash := h.1, root := r.1 }, r.2)
    else let k := rnum y.2 1; ({ Msg.zero with kind := (t.toNat : Int), frm := (a.1 : Int), to := (b.1 : Int), id := c.1, code := (k.1 : Int) }, k.2)
  else if t.toNat = 3 then let y := rtruth c.2; ({ Msg.zero with kind := (t.toNat : Int), frm := (a.1 : Int), to := (b.1 : Int), id := c.1, commit := y.1 }, y.2)
  else if t.toNat = 6 then let y := rtruth c.2; ({ Msg.zero with kind := (t.toNat : Int), frm := (a.1 : Int), to := (b.1 : Int), id := c.1, commit := y.1 }, y.2)
  else ({ Msg.zero with kind := (t.toNat : Int), frm := (a.1 : Int), to := (b.1 : Int), id := c.1 }, c.2)
def decM (t : UInt8) (xs : List UInt8) : Msg × Int :=
  if (!(mdec t xs).2.2 && (mdec t xs).2.1.length == 0) = true ∧ formedM (mdec t xs).1 = true then ((mdec t xs).1, 0) else (Msg.zero, 2)
theorem mdec_wf (t : UInt8) (xs : List UInt8) (hb : xs.length ≤ 140737488355328) : (mdec t xs).1.Wf := by
  have zn : (0 : Nat) < 18446744073709551616 := by decide
  have zi : -9223372036854775808 ≤ (0 : Int) := by decide
  have zj : (0 : Int) ≤ 9223372036854775807 := by decide
  have z := length_zeros 32
  have ht := t.toNat_lt
  unfold mdec
  simp only
  generalize ha : rnum (xs, false) 1 = a
  generalize hbb : rnum a.2 1 = b
  generalize hc : rnum b.2 4 = c
  have a1 : a.1 < 256 ^ 1 := by rw [← ha]; exact rnum_lt (xs, false) 1
  have b1 : b.1 < 256 ^ 1 := by rw [← hbb]; exact rnum_lt a.2 1
  have c1 : c.1 < 256 ^ 4 := by rw [← hc]; exact rnum_lt b.2 4
  have l1 : a.2.1.length ≤ xs.length := by rw [← ha]; exact rnum_len (xs, false) 1
  have l2 : b.2.1.length ≤ a.2.1.length := by rw [← hbb]; exact rnum_len a.2 1
  have l3 : c.2.1.length ≤ b.2.1.length := by rw [← hc]; exact rnum_len b.2 4
  have d1 : (rnum c.2 4).1 < 256 ^ 4 := rnum_lt c.2 4
  have l4 : (rnum c.2 4).2.1.length ≤ c.2.1.length := rnum_len c.2 4
  have e1 := redit_wf (rnum c.2 4).2 (by omega)
  have k1 : (rnum (rtruth c.2).2 1).1 < 256 ^ 1 := rnum_lt (rtruth c.2).2 1
  have p256 : (256 : Nat) ^ 1 = 256 := rfl
  have p4 : (256 : Nat) ^ 4 = 4294967296 := rfl
  have kk0 : -9223372036854775808 ≤ (t.toNat : Int) := by omega
  have kk1 : (t.toNat : Int) ≤ 9223372036854775807 := by omega
  have ff0 : -9223372036854775808 ≤ (a.1 : Int) := by omega
  have ff1 : (a.1 : Int) ≤ 9223372036854775807 := by omega
  have tt0 : -9223372036854775808 ≤ (b.1 : Int) := by omega
  have tt1 : (b.1 : Int) ≤ 9223372036854775807 := by omega
  have ii : c.1 < 18446744073709551616 := by omega
  repeat' split
  · exact ⟨⟨e1.ok, z, z⟩, e1, kk0, kk1, ff0, ff1, tt0, tt1, ii, (by omega : (rnum c.2 4).1 < 18446744073709551616), zi, zj⟩
  · exact ⟨⟨Ed.zero_ok, rhash_len32 _, rhash_len32 _⟩, Ed.zero_wf, kk0, kk1, ff0, ff1, tt0, tt1, ii, zn, zi, zj⟩
  · exact ⟨⟨Ed.zero_ok, z, z⟩, Ed.zero_wf, kk0, kk1, ff0, ff1, tt0, tt1, ii, zn, (by show -9223372036854775808 ≤ ((rnum (rtruth c.2).2 1).1 : Int); omega), (by show ((rnum (rtruth c.2).2 1).1 : Int) ≤ _; omega)⟩
  all_goals exact ⟨⟨Ed.zero_ok, z, z⟩, Ed.zero_wf, kk0, kk1, ff0, ff1, tt0, tt1, ii, zn, zi, zj⟩
theorem decM_wf (t : UInt8) (xs : List UInt8) (hb : xs.length ≤ 140737488355328) : (decM t xs).1.Wf := by
  unfold decM
  split
  · exact mdec_wf t xs hb
  · exact Msg.zero_wf
theorem decM_no {t : UInt8} {xs : List UInt8} (h : (decM t xs).2 ≠ 0) : decM t xs = (Msg.zero, 2) := by
  unfold decM at *
  split at h
  · exact absurd rfl h
  · rename_i hc; rw [if_neg hc]
theorem FormedM.k_cases {m : Msg} (h : FormedM m) : m.kind = 1 ∨ m.kind = 2 ∨ m.kind = 3 ∨ m.kind = 4 ∨ m.kind = 5 ∨ m.kind = 6 := by have := h.k1; have := h.k6; omega
theorem mdec_enc {m : Msg} (h : FormedM m) (ok : m.Ok) {t : UInt8} (ht : (t.toNat : Int) = m.kind) : mdec t (encM m) = (m, ([], false)) := by
  have hk := h.k_cases
  have p256 : (256 : Nat) ^ 1 = 256 := rfl
  have p4 : (256 : Nat) ^ 4 = 4294967296 := rfl
  have hi : m.id < 256 ^ 4 := by have := h.i1; omega
  have hb : m.base < 256 ^ 4 := by have := h.b1; omega
  have hf : m.frm.toNat < 256 ^ 1 := by have := h.f0; have := h.f1; omega
  have hto : m.to.toNat < 256 ^ 1 := by have := h.t0; have := h.t1; omega
  have e4 : ((4 : Nat) : Int) = 4 := rfl
  have e1 : ((1 : Nat) : Int) = 1 := rfl
  have n1 := fun n rest hn => rnumA n 1 rest rfl hn
  have n4 := fun n rest hn => rnumA n 4 rest rfl hn
  rw [e1] at n1
  rw [e4] at n4
  have hbare := h.bare
  have ff : ((m.frm.toNat : Nat) : Int) = m.frm := by have := h.f0; omega
  have tt : ((m.to.toNat : Nat) : Int) = m.to := by have := h.t0; omega
  unfold mdec encM
  rw [n1 _ _ hf]
  simp only
  rw [n1 _ _ hto]
  simp only
  rw [n4 _ _ hi]
  simp only
  rw [ff, tt, ht]
  rcases hk with k | k | k | k | k | k
  · rw [if_pos (show t.toNat = 1 by omega), if_pos k, n4 _ _ hb]
    simp only
    have := reditA m.ed ok.ed (by have := h.s; omega) []
    rw [List.append_nil] at this
    rw [this]
    simp only
    rw [show ({ Msg.zero with kind := m.kind, frm := m.frm, to := m.to, id := m.id, base := m.base, ed := m.ed } : Msg) = bareM m from by unfold bareM; rw [if_pos k], ← hbare]
  · rw [if_neg (show ¬ t.toNat = 1 by omega), if_pos (show t.toNat = 2 by omega), if_neg (show ¬ m.kind = 1 by omega), if_pos k]
    cases hy : m.yes
    · simp only [Bool.false_eq_true, if_false]
      rw [rtruthA]
      simp only [Bool.false_eq_true, if_false]
      have hc := h.code k hy
      have := n1 m.code.toNat [] (by omega)
      rw [List.append_nil] at this
      rw [this]
      simp only
      rw [show ((m.code.toNat : Nat) : Int) = m.code by omega]
      rw [show ({ Msg.zero with kind := m.kind, frm := m.frm, to := m.to, id := m.id, code := m.code } : Msg) = bareM m from by unfold bareM; rw [if_neg (show ¬ m.kind = 1 by omega), if_pos k, if_neg (by rw [hy]; simp)], ← hbare]
    · rw [if_pos rfl]
      rw [rtruthA]
      simp only
      rw [if_pos trivial, rhashA _ _ ok.hash]
      simp only
      have := rhashA m.root [] ok.root
      rw [List.append_nil] at this
      rw [this]
      simp only
      rw [show ({ Msg.zero with kind := m.kind, frm := m.frm, to := m.to, id := m.id, yes := true, hash := m.hash, root := m.root } : Msg) = bareM m from by unfold bareM; rw [if_neg (show ¬ m.kind = 1 by omega), if_pos k, if_pos hy], ← hbare]
  · rw [if_neg (show ¬ t.toNat = 1 by omega), if_neg (show ¬ t.toNat = 2 by omega), if_pos (show t.toNat = 3 by omega), if_neg (show ¬ m.kind = 1 by omega), if_neg (show ¬ m.kind = 2 by omega), if_pos k]
    have := rtruthA m.commit []
    rw [List.append_nil] at this
    rw [this]
    simp only
    rw [show ({ Msg.zero with kind := m.kind, frm := m.frm, to := m.to, id := m.id, commit := m.commit } : Msg) = bareM m from by unfold bareM; rw [if_neg (show ¬ m.kind = 1 by omega), if_neg (show ¬ m.kind = 2 by omega), if_pos k], ← hbare]
  · rw [if_neg (show ¬ t.toNat = 1 by omega), if_neg (show ¬ t.toNat = 2 by omega), if_neg (show ¬ t.toNat = 3 by omega), if_neg (show ¬ t.toNat = 6 by omega), if_neg (show ¬ m.kind = 1 by omega), if_neg (show ¬ m.kind = 2 by omega), if_neg (show ¬ m.kind = 3 by omega), if_neg (show ¬ m.kind = 6 by omega)]
    rw [show ({ Msg.zero with kind := m.kind, frm := m.frm, to := m.to, id := m.id } : Msg) = bareM m from by unfold bareM; rw [if_neg (show ¬ m.kind = 1 by omega), if_neg (show ¬ m.kind = 2 by omega), if_neg (show ¬ m.kind = 3 by omega), if_neg (show ¬ m.kind = 6 by omega)], ← hbare]
  · rw [if_neg (show ¬ t.toNat = 1 by omega), if_neg (show ¬ t.toNat = 2 by omega), if_neg (show ¬ t.toNat = 3 by omega), if_neg (show ¬ t.toNat = 6 by omega), if_neg (show ¬ m.kind = 1 by omega), if_neg (show ¬ m.kind = 2 by omega), if_neg (show ¬ m.kind = 3 by omega), if_neg (show ¬ m.kind = 6 by omega)]
    rw [show ({ Msg.zero with kind := m.kind, frm := m.frm, to := m.to, id := m.id } : Msg) = bareM m from by unfold bareM; rw [if_neg (show ¬ m.kind = 1 by omega), if_neg (show ¬ m.kind = 2 by omega), if_neg (show ¬ m.kind = 3 by omega), if_neg (show ¬ m.kind = 6 by omega)], ← hbare]
  · rw [if_neg (show ¬ t.toNat = 1 by omega), if_neg (show ¬ t.toNat = 2 by omega), if_neg (show ¬ t.toNat = 3 by omega), if_pos (show t.toNat = 6 by omega), if_neg (show ¬ m.kind = 1 by omega), if_neg (show ¬ m.kind = 2 by omega), if_neg (show ¬ m.kind = 3 by omega), if_pos k]
    have := rtruthA m.commit []
    rw [List.append_nil] at this
    rw [this]
    simp only
    rw [show ({ Msg.zero with kind := m.kind, frm := m.frm, to := m.to, id := m.id, commit := m.commit } : Msg) = bareM m from by unfold bareM; rw [if_neg (show ¬ m.kind = 1 by omega), if_neg (show ¬ m.kind = 2 by omega), if_neg (show ¬ m.kind = 3 by omega), if_pos k], ← hbare]
theorem decM_enc {m : Msg} (h : FormedM m) (ok : m.Ok) {t : UInt8} (ht : (t.toNat : Int) = m.kind) : decM t (encM m) = (m, 0) := by
  unfold decM
  rw [mdec_enc h ok ht]
  simp only
  rw [if_pos ⟨rfl, (formedM_iff m).2 h⟩]
theorem mdecB {t : UInt8} {xs : List UInt8} (h : (mdec t xs).2.2 = false) : xs = encM (mdec t xs).1 ++ (mdec t xs).2.1 ∧ ((mdec t xs).1.kind = (t.toNat : Int)) := by
  have e1 : ((1 : Nat) : Int) = 1 := rfl
  have e4 : ((4 : Nat) : Int) = 4 := rfl
  have n1 := fun s h => rnumB (s := s) (k := 1) rfl h
  have n4 := fun s h => rnumB (s := s) (k := 4) rfl h
  rw [e1] at n1
  rw [e4] at n4
  unfold mdec at *
  simp only at *
  generalize ha : rnum (xs, false) 1 = a at *
  generalize hb : rnum a.2 1 = b at *
  generalize hc : rnum b.2 4 = c at *
  have fin : ∀ z : List UInt8, c.2.2 = false → c.2.1 = z → xs = beL a.1 1 ++ (beL b.1 1 ++ (beL c.1 4 ++ z)) := fun z h1 h2 => by
    obtain ⟨h3, h4⟩ := n4 b.2 (by rw [hc]; exact h1)
    obtain ⟨h5, h6⟩ := n1 a.2 (by rw [hb]; exact h3)
    obtain ⟨_, h8⟩ := n1 (xs, false) (by rw [ha]; exact h5)
    rw [hc] at h4
    rw [hb] at h6
    rw [ha] at h8
    rw [← h2, ← h4, ← h6]
    exact h8
  have enc : ∀ (m : Msg) (z y : List UInt8), m.frm = (a.1 : Int) → m.to = (b.1 : Int) → m.id = c.1 → (if m.kind = 1 then beL m.base 4 ++ encE m.ed else if m.kind = 2 then (if m.yes = true then beL (bitN true) 1 ++ (m.hash ++ m.root) else beL (bitN false) 1 ++ beL m.code.toNat 1)
      else if m.kind = 3 then beL (bitN m.commit) 1 else if m.kind = 6 then beL (bitN m.commit) 1 else []) = z → encM m ++ y = beL a.1 1 ++ (beL b.1 1 ++ (beL c.1 4 ++ (z ++ y))) := fun m z y h1 h2 h3 h4 => by
    unfold encM
    rw [h1, h2, h3, h4]
    simp
  by_cases c1 : t.toNat = 1
  · rw [if_pos c1] at *
    obtain ⟨h1, h2⟩ := reditB h
    obtain ⟨h3, h4⟩ := n4 _ h1
    refine ⟨?_, rfl⟩
    rw [enc _ (beL (rnum c.2 4).1 4 ++ encE (redit (rnum c.2 4).2).1) _ rfl rfl rfl (by simp only; rw [if_pos (by omega)])]
    refine fin _ h3 (h4.trans ?_)
    rw [h2, List.append_assoc]
  · rw [if_neg c1] at *
    by_cases c2 : t.toNat = 2
    · rw [if_pos c2] at *
      generalize hy : rtruth c.2 = y at *
      by_cases hyy : y.1 = true
      · rw [if_pos hyy] at *
        obtain ⟨h1, h2⟩ := rhashB h
        obtain ⟨h3, h4⟩ := rhashB h1
        obtain ⟨h5, h6⟩ := rtruthB (s := c.2) (by rw [hy]; exact h3)
        rw [hy, hyy] at h6
        refine ⟨?_, rfl⟩
        rw [enc _ (beL (bitN true) 1 ++ ((rhash y.2).1 ++ (rhash (rhash y.2).2).1)) _ rfl rfl rfl (by simp only; rw [if_neg (by omega), if_pos (by omega), if_pos trivial])]
        refine fin _ h5 (h6.trans ?_)
        rw [h4, h2]
        simp
      · rw [if_neg hyy] at *
        have hyf : y.1 = false := by simpa using hyy
        obtain ⟨h1, h2⟩ := n1 _ h
        obtain ⟨h5, h6⟩ := rtruthB (s := c.2) (by rw [hy]; exact h1)
        rw [hy, hyf] at h6
        refine ⟨?_, rfl⟩
        rw [enc _ (beL (bitN false) 1 ++ beL (rnum y.2 1).1 1) _ rfl rfl rfl (by simp only; rw [if_neg (by omega), if_pos (by omega), if_neg (by simp [Msg.zero])]; simp)]
        refine fin _ h5 (h6.trans ?_)
        rw [h2]
        simp
    · rw [if_neg c2] at *
      by_cases c3 : t.toNat = 3
      · rw [if_pos c3] at *
        obtain ⟨h5, h6⟩ := rtruthB (s := c.2) h
        refine ⟨?_, rfl⟩
        rw [enc _ (beL (bitN (rtruth c.2).1) 1) _ rfl rfl rfl (by simp only; rw [if_neg (by omega), if_neg (by omega), if_pos (by omega)])]
        exact fin _ h5 h6
      · rw [if_neg c3] at *
        by_cases c6 : t.toNat = 6
        · rw [if_pos c6] at *
          obtain ⟨h5, h6⟩ := rtruthB (s := c.2) h
          refine ⟨?_, rfl⟩
          rw [enc _ (beL (bitN (rtruth c.2).1) 1) _ rfl rfl rfl (by simp only; rw [if_neg (by omega), if_neg (by omega), if_neg (by omega), if_pos (by omega)])]
          exact fin _ h5 h6
        · rw [if_neg c6] at *
          refine ⟨?_, rfl⟩
          rw [enc _ [] _ rfl rfl rfl (by simp only; rw [if_neg (by omega), if_neg (by omega), if_neg (by omega), if_neg (by omega)])]
          exact fin _ h rfl
theorem decM_ok {t : UInt8} {xs : List UInt8} {m : Msg} (h : decM t xs = (m, 0)) : formedM m = true ∧ encM m = xs ∧ m.kind = (t.toNat : Int) := by
  unfold decM at h
  split at h
  · rename_i hc
    obtain ⟨h1, h2⟩ := hc
    simp only [Bool.and_eq_true, Bool.not_eq_true', beq_iff_eq] at h1
    obtain ⟨rfl, -⟩ := Prod.mk.inj h
    obtain ⟨h3, h4⟩ := mdecB h1.1
    rw [List.eq_nil_of_length_eq_zero h1.2, List.append_nil] at h3
    exact ⟨h2, h3.symm, h4⟩
  · cases h
/-! ### the reference's -/
def mm0 (t : UInt8) (xs : List UInt8) : Msg := { Msg.zero with kind := (t.toNat : Int), frm := ((xs.getD 0 0).toNat : Int), to := ((xs.getD 1 0).toNat : Int), id := unbe ((xs.drop 2).take 4) }
def mParse (t : UInt8) (xs : List UInt8) : Msg :=
  if t.toNat = 1 ∧ 46 ≤ xs.length then { mm0 t xs with base := unbe ((xs.drop 6).take 4), ed := ⟨xs.drop 46, xs.getD 10 0 == 1, xs.getD 11 0 == 1, (xs.drop 12).take 32⟩ }
  else if t.toNat = 2 ∧ xs.length = 71 then { mm0 t xs with yes := true, hash := (xs.drop 7).take 32, root := (xs.drop 39).take 32 }
  else if t.toNat = 2 ∧ xs.length = 8 then { mm0 t xs with code := ((xs.getD 7 0).toNat : Int) }
  else if (t.toNat = 3 ∨ t.toNat = 6) ∧ xs.length = 7 then { mm0 t xs with commit := xs.getD 6 0 == 1 }
  else mm0 t xs
def refOf (t : UInt8) (xs : List UInt8) : Msg × Int :=
  if t.toNat ≤ 6 ∧ 6 ≤ xs.length ∧ formedM (mParse t xs) = true ∧ encM (mParse t xs) = xs then (mParse t xs, 0) else (Msg.zero, 2)
theorem mParse_ok (t : UInt8) (xs : List UInt8) : (mParse t xs).Ok := by
  have z := length_zeros 32
  have h0 : (mm0 t xs).Ok := ⟨Ed.zero_ok, z, z⟩
  unfold mParse
  repeat' split
  · rename_i h; exact ⟨by show ((xs.drop 12).take 32).length = 32; simp; omega, z, z⟩
  · rename_i h; exact ⟨Ed.zero_ok, by show ((xs.drop 7).take 32).length = 32; simp; omega, by show ((xs.drop 39).take 32).length = 32; simp; omega⟩
  all_goals exact ⟨Ed.zero_ok, z, z⟩
theorem mParse_kind (t : UInt8) (xs : List UInt8) : (mParse t xs).kind = (t.toNat : Int) := by
  unfold mParse
  repeat' split
  all_goals rfl
theorem beL_oneM (n : Nat) : beL n 1 = [UInt8.ofNat n] := by simp [beL]
theorem length_encEM {e : Ed} (h : e.Ok) : (encE e).length = 36 + e.s.length := by unfold Ed.Ok at h; simp [encE, h]; omega
theorem encE_partsM (e : Ed) : [UInt8.ofNat (bitN e.q), UInt8.ofNat (bitN e.x)] ++ (e.h ++ (beL e.s.length 2 ++ e.s)) = encE e := by
  unfold encE
  cases e.q <;> cases e.x <;> rfl
theorem bit_one (b : Bool) : (UInt8.ofNat (bitN b) == 1) = b := by cases b <;> rfl
theorem mParse_enc {m : Msg} (h : FormedM m) (ok : m.Ok) {t : UInt8} (ht : (t.toNat : Int) = m.kind) : 6 ≤ (encM m).length ∧ mParse t (encM m) = m := by
  have hk := h.k_cases
  have p4 : (256 : Nat) ^ 4 = 4294967296 := rfl
  have hi : m.id < 256 ^ 4 := by have := h.i1; omega
  have hb : m.base < 256 ^ 4 := by have := h.b1; omega
  have hbare := h.bare
  obtain ⟨z, hz⟩ : ∃ z, (if m.kind = 1 then beL m.base 4 ++ encE m.ed else if m.kind = 2 then (if m.yes = true then beL (bitN true) 1 ++ (m.hash ++ m.root) else beL (bitN false) 1 ++ beL m.code.toNat 1)
      else if m.kind = 3 then beL (bitN m.commit) 1 else if m.kind = 6 then beL (bitN m.commit) 1 else []) = z := ⟨_, rfl⟩
  have hx : encM m = UInt8.ofNat m.frm.toNat :: UInt8.ofNat m.to.toNat :: (beL m.id 4 ++ z) := by
    unfold encM
    rw [hz, beL_oneM, beL_oneM]
    rfl
  have hlen : (encM m).length = 6 + z.length := by rw [hx]; simp; omega
  have g0 : (encM m).getD 0 0 = UInt8.ofNat m.frm.toNat := by rw [hx]; rfl
  have g1 : (encM m).getD 1 0 = UInt8.ofNat m.to.toNat := by rw [hx]; rfl
  have d2 : (encM m).drop 2 = beL m.id 4 ++ z := by rw [hx]; rfl
  have d6 : (encM m).drop 6 = z := by rw [show (6 : Nat) = 2 + 4 from rfl, ← List.drop_drop, d2]; exact List.drop_left' (length_beL _ _)
  have gz : ∀ j, (encM m).getD (6 + j) 0 = z.getD j 0 := fun j => by
    have : (encM m).getD (6 + j) 0 = ((encM m).drop 6).getD j 0 := by simp [List.getD]
    rw [this, d6]
  have dz : ∀ j, (encM m).drop (6 + j) = z.drop j := fun j => by rw [← List.drop_drop, d6]
  have r0 : mm0 t (encM m) = { Msg.zero with kind := m.kind, frm := m.frm, to := m.to, id := m.id } := by
    unfold mm0
    rw [g0, g1, d2, List.take_left' (length_beL _ _), unbe_beL, Nat.mod_eq_of_lt hi, ht, UInt8.toNat_ofNat', UInt8.toNat_ofNat']
    have := h.f0; have := h.f1; have := h.t0; have := h.t1
    rw [show (((m.frm.toNat % 2 ^ 8 : Nat)) : Int) = m.frm by omega, show (((m.to.toNat % 2 ^ 8 : Nat)) : Int) = m.to by omega]
  refine ⟨by omega, ?_⟩
  unfold mParse
  rcases hk with k | k | k | k | k | k
  · rw [if_pos k] at hz
    have hl := length_encEM ok.ed
    have hoh : m.ed.h.length = 32 := ok.ed
    have hz2 : z = beL m.base 4 ++ (UInt8.ofNat (bitN m.ed.q) :: UInt8.ofNat (bitN m.ed.x) :: (m.ed.h ++ (beL m.ed.s.length 2 ++ m.ed.s))) := by rw [← hz, ← encE_partsM m.ed]; rfl
    have hzl : z.length = 4 + (36 + m.ed.s.length) := by rw [← hz]; simp [hl]
    have z4 : z.drop 4 = UInt8.ofNat (bitN m.ed.q) :: UInt8.ofNat (bitN m.ed.x) :: (m.ed.h ++ (beL m.ed.s.length 2 ++ m.ed.s)) := by rw [hz2]; exact List.drop_left' (length_beL _ _)
    have z6 : z.drop 6 = m.ed.h ++ (beL m.ed.s.length 2 ++ m.ed.s) := by rw [show (6 : Nat) = 4 + 2 from rfl, ← List.drop_drop, z4]; rfl
    have z40 : z.drop 40 = m.ed.s := by
      rw [show (40 : Nat) = 6 + 34 from rfl, ← List.drop_drop, z6, show (34 : Nat) = 32 + 2 from rfl, ← List.drop_drop, List.drop_left' hoh]
      exact List.drop_left' (length_beL _ _)
    have q4 : z.getD 4 0 = UInt8.ofNat (bitN m.ed.q) := by
      have : z.getD 4 0 = (z.drop 4).getD 0 0 := by simp [List.getD]
      rw [this, z4]; rfl
    have q5 : z.getD 5 0 = UInt8.ofNat (bitN m.ed.x) := by
      have : z.getD 5 0 = (z.drop 4).getD 1 0 := by simp [List.getD]
      rw [this, z4]; rfl
    rw [if_pos (by omega), r0]
    have a1 := gz 4; have a2 := gz 5; have a3 := dz 6; have a4 := dz 40
    simp only [Nat.reduceAdd] at a1 a2 a3 a4
    rw [a1, a2, a3, a4, d6, q4, q5, z6, z40, bit_one, bit_one, List.take_left' hoh, hz2, List.take_left' (length_beL _ _), unbe_beL, Nat.mod_eq_of_lt hb]
    have : ({ Msg.zero with kind := m.kind, frm := m.frm, to := m.to, id := m.id, base := m.base, ed := ⟨m.ed.s, m.ed.q, m.ed.x, m.ed.h⟩ } : Msg) = bareM m := by unfold bareM; rw [if_pos k]
    exact this.trans hbare.symm
  · rw [if_neg (show ¬ m.kind = 1 by omega), if_pos k] at hz
    rw [if_neg (by omega)]
    cases hy : m.yes
    · rw [hy, if_neg (by simp)] at hz
      have hc := h.code k hy
      have hzl : z.length = 2 := by rw [← hz]; simp
      have z1 : z.getD 1 0 = UInt8.ofNat m.code.toNat := by rw [← hz, beL_oneM, beL_oneM]; rfl
      rw [if_neg (by omega), if_pos (by omega), r0]
      have a1 := gz 1
      simp only [Nat.reduceAdd] at a1
      rw [a1, z1, UInt8.toNat_ofNat', show (((m.code.toNat % 2 ^ 8 : Nat)) : Int) = m.code by omega]
      have : ({ Msg.zero with kind := m.kind, frm := m.frm, to := m.to, id := m.id, code := m.code } : Msg) = bareM m := by unfold bareM; rw [if_neg (show ¬ m.kind = 1 by omega), if_pos k, if_neg (by rw [hy]; simp)]
      exact this.trans hbare.symm
    · rw [hy, if_pos rfl] at hz
      have hzl : z.length = 65 := by rw [← hz]; simp [ok.hash, ok.root]
      have z1 : z.drop 1 = m.hash ++ m.root := by rw [← hz, beL_oneM]; rfl
      have z33 : z.drop 33 = m.root := by rw [show (33 : Nat) = 1 + 32 from rfl, ← List.drop_drop, z1]; exact List.drop_left' ok.hash
      rw [if_pos (by omega), r0]
      have a1 := dz 1; have a2 := dz 33
      simp only [Nat.reduceAdd] at a1 a2
      rw [a1, a2, z1, z33, List.take_left' ok.hash, List.take_of_length_le (by rw [ok.root]; omega)]
      have : ({ Msg.zero with kind := m.kind, frm := m.frm, to := m.to, id := m.id, yes := true, hash := m.hash, root := m.root } : Msg) = bareM m := by unfold bareM; rw [if_neg (show ¬ m.kind = 1 by omega), if_pos k, if_pos hy]
      exact this.trans hbare.symm
  · rw [if_neg (show ¬ m.kind = 1 by omega), if_neg (show ¬ m.kind = 2 by omega), if_pos k] at hz
    have hzl : z.length = 1 := by rw [← hz]; simp
    have z0 : z.getD 0 0 = UInt8.ofNat (bitN m.commit) := by rw [← hz, beL_oneM]; rfl
    rw [if_neg (by omega), if_neg (by omega), if_neg (by omega), if_pos (by omega), r0]
    have a1 := gz 0
    simp only [Nat.reduceAdd] at a1
    rw [a1, z0, bit_one]
    have : ({ Msg.zero with kind := m.kind, frm := m.frm, to := m.to, id := m.id, commit := m.commit } : Msg) = bareM m := by unfold bareM; rw [if_neg (show ¬ m.kind = 1 by omega), if_neg (show ¬ m.kind = 2 by omega), if_pos k]
    exact this.trans hbare.symm
  · rw [if_neg (by omega), if_neg (by omega), if_neg (by omega), if_neg (by omega), r0]
    have : ({ Msg.zero with kind := m.kind, frm := m.frm, to := m.to, id := m.id } : Msg) = bareM m := by unfold bareM; rw [if_neg (show ¬ m.kind = 1 by omega), if_neg (show ¬ m.kind = 2 by omega), if_neg (show ¬ m.kind = 3 by omega), if_neg (show ¬ m.kind = 6 by omega)]
    exact this.trans hbare.symm
  · rw [if_neg (by omega), if_neg (by omega), if_neg (by omega), if_neg (by omega), r0]
    have : ({ Msg.zero with kind := m.kind, frm := m.frm, to := m.to, id := m.id } : Msg) = bareM m := by unfold bareM; rw [if_neg (show ¬ m.kind = 1 by omega), if_neg (show ¬ m.kind = 2 by omega), if_neg (show ¬ m.kind = 3 by omega), if_neg (show ¬ m.kind = 6 by omega)]
    exact this.trans hbare.symm
  · rw [if_neg (show ¬ m.kind = 1 by omega), if_neg (show ¬ m.kind = 2 by omega), if_neg (show ¬ m.kind = 3 by omega), if_pos k] at hz
    have hzl : z.length = 1 := by rw [← hz]; simp
    have z0 : z.getD 0 0 = UInt8.ofNat (bitN m.commit) := by rw [← hz, beL_oneM]; rfl
    rw [if_neg (by omega), if_neg (by omega), if_neg (by omega), if_pos (by omega), r0]
    have a1 := gz 0
    simp only [Nat.reduceAdd] at a1
    rw [a1, z0, bit_one]
    have : ({ Msg.zero with kind := m.kind, frm := m.frm, to := m.to, id := m.id, commit := m.commit } : Msg) = bareM m := by unfold bareM; rw [if_neg (show ¬ m.kind = 1 by omega), if_neg (show ¬ m.kind = 2 by omega), if_neg (show ¬ m.kind = 3 by omega), if_pos k]
    exact this.trans hbare.symm
theorem refOf_eq (t : UInt8) (xs : List UInt8) (hb : xs.length ≤ 140737488355328) : refOf t xs = decM t xs := by
  unfold refOf
  split
  · rename_i h
    obtain ⟨h1, h2, h3, h4⟩ := h
    have := decM_enc ((formedM_iff _).1 h3) (mParse_ok t xs) (mParse_kind t xs).symm
    rw [h4] at this
    exact this.symm
  · rename_i h
    by_cases hd : (decM t xs).2 = 0
    · exfalso
      have he : decM t xs = ((decM t xs).1, 0) := by rw [← hd]
      obtain ⟨h1, h2, h3⟩ := decM_ok he
      have hF := (formedM_iff _).1 h1
      obtain ⟨h4, h5⟩ := mParse_enc hF (decM_wf t xs hb).ok h3.symm
      rw [h2] at h4 h5
      exact h ⟨by have := hF.k6; rw [h3] at this; omega, h4, by rw [h5]; exact h1, by rw [h5]; exact h2⟩
    · exact (decM_no hd).symm
end Go.Proofs.YtibkngjacdggpaaDoor
