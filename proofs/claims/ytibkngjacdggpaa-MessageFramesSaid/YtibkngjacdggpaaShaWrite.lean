import Derived.Test.YtibkngjacdggpaaShaTurn
/- sha: what a Hash holds behind the bytes that it has taken. -/
namespace Go.Proofs.Ytibkngjacdggpaa
open Go.RowKit HP

theorem foldB_lt (s : St) (b : List UInt8) (h : b.length < 64) : foldB s b = s := by unfold foldB; rw [dif_neg (by omega)]
theorem foldB_ge (s : St) (b : List UInt8) (h : 64 ≤ b.length) : foldB s b = foldB (turnS s (b.take 64)) (b.drop 64) := by
  conv => lhs; unfold foldB
  rw [dif_pos h]
theorem foldB_app : ∀ (m : Nat) (s : St) (p t : List UInt8), p.length = 64 * m → foldB s (p ++ t) = foldB (foldB s p) t
  | 0, s, p, t, h => by
    obtain rfl : p = [] := List.eq_nil_of_length_eq_zero (by omega)
    rw [List.nil_append, foldB_lt s [] (by simp)]
  | m + 1, s, p, t, h => by
    rw [foldB_ge s (p ++ t) (by rw [List.length_append]; omega), foldB_ge s p (by omega), List.take_append_of_le_length (by omega), List.drop_append_of_le_length (by omega)]
    exact foldB_app m _ _ t (by rw [List.length_drop]; omega)
def tailB (xs : List UInt8) : List UInt8 := xs.drop (xs.length / 64 * 64)
theorem length_tailB (xs : List UInt8) : (tailB xs).length = xs.length % 64 := by unfold tailB; rw [List.length_drop]; omega
theorem foldB_pre (s : St) (xs zs : List UInt8) : foldB s (xs ++ zs) = foldB (foldB s xs) (tailB xs ++ zs) := by
  have h1 : xs = xs.take (xs.length / 64 * 64) ++ tailB xs := (List.take_append_drop _ _).symm
  have hl : (xs.take (xs.length / 64 * 64)).length = 64 * (xs.length / 64) := by rw [List.length_take]; omega
  have h2 := foldB_app _ s (xs.take (xs.length / 64 * 64)) (tailB xs ++ zs) hl
  have h3 := foldB_app _ s (xs.take (xs.length / 64 * 64)) (tailB xs) hl
  rw [← List.append_assoc, ← h1] at h2
  rw [← h1, foldB_lt _ (tailB xs) (by rw [length_tailB]; omega)] at h3
  rw [h2, h3]
theorem foldB_few (s : St) (xs zs : List UInt8) (h : xs.length % 64 + zs.length < 64) : foldB s (xs ++ zs) = foldB s xs := by
  rw [foldB_pre, foldB_lt _ _ (by rw [List.length_append, length_tailB]; exact h)]
theorem foldB_full (s : St) (xs zs : List UInt8) (h : xs.length % 64 + zs.length = 64) : foldB s (xs ++ zs) = turnS (foldB s xs) (tailB xs ++ zs) := by
  have hl : (tailB xs ++ zs).length = 64 := by rw [List.length_append, length_tailB]; exact h
  rw [foldB_pre, foldB_ge _ _ (by omega), List.take_of_length_le (by omega), foldB_lt _ _ (by rw [List.length_drop]; omega)]
theorem tailB_few (xs zs : List UInt8) (h : xs.length % 64 + zs.length < 64) : tailB (xs ++ zs) = tailB xs ++ zs := by
  have : (xs ++ zs).length / 64 * 64 = xs.length / 64 * 64 := by rw [List.length_append]; omega
  unfold tailB
  rw [this, List.drop_append_of_le_length (by omega)]
theorem tailB_full (xs zs : List UInt8) (h : xs.length % 64 + zs.length = 64) : tailB (xs ++ zs) = [] := by
  unfold tailB
  exact List.drop_eq_nil_of_le (by rw [List.length_append]; omega)

/-- A Hash that has taken the bytes xs. -/
structure ShaInv (h : HS) (xs : List UInt8) : Prop where
  ok : h.Ok
  n : h.n = xs.length
  s : h.begun = true → h.s = (foldB begS xs).list
  no : h.begun = false → xs = [] ∧ h.s = List.replicate 8 0
  rest : h.rest.take (xs.length % 64) = tailB xs
def restPut (r : List UInt8) (o : Nat) (zs : List UInt8) : List UInt8 := r.take o ++ zs ++ r.drop (o + zs.length)
theorem length_restPut (r : List UInt8) (o : Nat) (zs : List UInt8) (h : o + zs.length ≤ r.length) : (restPut r o zs).length = r.length := by simp [restPut]; omega
theorem restPut_take (r : List UInt8) (o : Nat) (zs : List UInt8) (h : o + zs.length ≤ r.length) : (restPut r o zs).take (o + zs.length) = r.take o ++ zs := by
  unfold restPut
  rw [List.take_append_of_le_length (by simp; omega), List.take_of_length_le (by simp; omega)]
theorem ShaInv.few {h : HS} {xs zs : List UInt8} (hi : ShaInv h xs) (hb : h.begun = true) (hl : xs.length % 64 + zs.length < 64) : ShaInv { h with rest := restPut h.rest (xs.length % 64) zs, n := h.n + zs.length } (xs ++ zs) := by
  have hr := hi.ok.rest
  refine ⟨⟨hi.ok.s, by rw [length_restPut _ _ _ (by omega)]; exact hr⟩, by rw [List.length_append, ← hi.n], (fun _ => by rw [foldB_few _ _ _ hl]; exact hi.s hb), fun h' => absurd (hb.symm.trans h') (by decide), ?_⟩
  rw [show (xs ++ zs).length % 64 = xs.length % 64 + zs.length by rw [List.length_append]; omega, restPut_take _ _ _ (by omega), hi.rest, tailB_few _ _ hl]
theorem ShaInv.full {h : HS} {xs zs : List UInt8} (hi : ShaInv h xs) (hb : h.begun = true) (hl : xs.length % 64 + zs.length = 64) :
    ShaInv { h with s := (turnS (foldB begS xs) (restPut h.rest (xs.length % 64) zs)).list, rest := restPut h.rest (xs.length % 64) zs, n := h.n + zs.length } (xs ++ zs) := by
  have hr := hi.ok.rest
  have hp : restPut h.rest (xs.length % 64) zs = tailB xs ++ zs := by
    have := restPut_take h.rest (xs.length % 64) zs (by omega)
    rwa [List.take_of_length_le (by rw [length_restPut _ _ _ (by omega)]; omega), hi.rest] at this
  refine ⟨⟨rfl, by rw [length_restPut _ _ _ (by omega)]; exact hr⟩, by rw [List.length_append, ← hi.n], (fun _ => by rw [foldB_full _ _ _ hl, hp]), fun h' => absurd (hb.symm.trans h') (by decide), ?_⟩
  rw [show (xs ++ zs).length % 64 = 0 by rw [List.length_append]; omega, tailB_full _ _ hl, List.take_zero]


theorem hcells_rest_put {h : HS} (ok : h.Ok) (o : Nat) (zs : List UInt8) (hl : o + zs.length ≤ 64) : putA (hcells h) (9 + o) (bcs zs) = hcells { h with rest := restPut h.rest o zs } := by
  have h1 := ok.s
  have h2 := ok.rest
  unfold putA
  have e : (hcells h).toList = wcs h.s ++ ([.bool h.begun] ++ (bcs h.rest ++ [.int .i64 h.n])) := rfl
  rw [e]
  have t1 : (wcs h.s ++ ([Value.bool h.begun] ++ (bcs h.rest ++ [Value.int .i64 h.n]))).take (9 + o) = wcs h.s ++ ([.bool h.begun] ++ (bcs h.rest).take o) := by
    rw [List.take_append, List.take_of_length_le (by simp; omega), List.take_append, List.take_of_length_le (by simp; omega), List.take_append_of_le_length (by simp; omega)]
    simp [h1, show 9 + o - 8 - 1 = o by omega]
  have t2 : (wcs h.s ++ ([Value.bool h.begun] ++ (bcs h.rest ++ [Value.int .i64 h.n]))).drop (9 + o + (bcs zs).length) = (bcs h.rest).drop (o + zs.length) ++ [.int .i64 h.n] := by
    rw [List.drop_append, List.drop_eq_nil_of_le (by simp; omega), List.nil_append, List.drop_append, List.drop_eq_nil_of_le (by simp; omega), List.nil_append, List.drop_append_of_le_length (by simp; omega)]
    simp [h1, show 9 + o + zs.length - 8 - 1 = o + zs.length by omega]
  rw [t1, t2]
  simp [hcells, HS.list, restPut, bcs, List.map_take, List.map_drop]
theorem hcells_s_put {h : HS} (ok : h.Ok) (l : List UInt32) (hl : l.length = 8) : putA (hcells h) 0 (wcs l) = hcells { h with s := l } := by
  have h1 := ok.s
  simp [putA, hcells, HS.list, h1, hl]
theorem hcells_begun_put {h : HS} (ok : h.Ok) (t : Bool) : (hcells h).setIfInBounds 8 (.bool t) = hcells { h with begun := t } := by
  have h1 := ok.s
  simp only [hcells, HS.list, List.setIfInBounds_toArray]
  rw [List.set_append_right _ _ (by simp; omega)]
  simp [h1]
theorem hcells_n_put {h : HS} (ok : h.Ok) (m : Nat) : (hcells h).setIfInBounds 73 (.int .i64 m) = hcells { h with n := m } := by
  have h1 := ok.s
  have h2 := ok.rest
  simp only [hcells, HS.list, List.setIfInBounds_toArray]
  rw [List.set_append_right _ _ (by simp; omega), List.set_append_right _ _ (by simp; omega), List.set_append_right _ _ (by simp; omega)]
  simp [h1, h2]
theorem ShaInv.begin_ {h : HS} {xs : List UInt8} (hi : ShaInv h xs) (hb : h.begun = false) : ShaInv { h with s := begS.list, begun := true } xs := by
  obtain ⟨rfl, _⟩ := hi.no hb
  exact ⟨⟨rfl, hi.ok.rest⟩, hi.n, (fun _ => by rw [foldB_lt _ _ (by simp)]), fun h' => Bool.noConfusion h', hi.rest⟩
def HS.zero : HS := ⟨List.replicate 8 0, false, List.replicate 64 0, 0⟩
theorem ShaInv.zero : ShaInv HS.zero [] := ⟨⟨rfl, rfl⟩, rfl, fun h' => absurd h' (by decide), fun _ => ⟨rfl, rfl⟩, rfl⟩
end Go.Proofs.Ytibkngjacdggpaa
/- sha: begin, Write, Len, Reset, New. -/
namespace Go.Proofs.Ytibkngjacdggpaa
open Go.RowKit HP






















theorem take_drop_snoc (ys : List UInt8) (d k : Nat) : ys.take d ++ (ys.drop d).take k = ys.take (d + k) := by
  rw [List.take_add]




















































































































































































end Go.Proofs.Ytibkngjacdggpaa
/- sha: New, Reset. -/
namespace Go.Proofs.Ytibkngjacdggpaa
open Go.RowKit HP








































end Go.Proofs.Ytibkngjacdggpaa
