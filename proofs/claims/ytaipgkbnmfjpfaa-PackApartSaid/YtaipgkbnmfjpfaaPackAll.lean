/- pack: rows of items, as data. -/
import Derived.Test.YtaipgkbnmfjpfaaPackRef2
namespace Go.Proofs.Ytaipgkbnmfjpfaa
open Go.RowKit

def wputs (l : List Itm) : List UInt8 × Bool := l.foldl wput ([], false)
def encAll (l : List Itm) : List UInt8 := l.flatMap fun x => (encI x).getD []
def badAll (l : List Itm) : Bool := l.any fun x => (encI x).isNone
theorem wputs_snoc (l : List Itm) (x : Itm) : wputs (l ++ [x]) = wput (wputs l) x := by simp [wputs]
theorem encAll_snoc (l : List Itm) (x : Itm) : encAll (l ++ [x]) = encAll l ++ (encI x).getD [] := by simp [encAll]
theorem badAll_snoc (l : List Itm) (x : Itm) : badAll (l ++ [x]) = (badAll l || (encI x).isNone) := by simp [badAll]
theorem take_snocI {l : List Itm} {j : Nat} (h : j < l.length) : l.take (j + 1) = l.take j ++ [l[j]] := by rw [List.take_succ_eq_append_getElem h]
theorem wputs_spec (l : List Itm) (n : Nat) : (wputs (l.take n)).2 = badAll (l.take n) ∧ (badAll (l.take n) = false → (wputs (l.take n)).1 = encAll (l.take n)) := by
  induction n with
  | zero => exact ⟨rfl, fun _ => rfl⟩
  | succ n ih =>
    by_cases h : n < l.length
    · rw [take_snocI h, wputs_snoc, encAll_snoc, badAll_snoc, wput_enc]
      obtain ⟨h1, h2⟩ := ih
      rw [h1]
      cases hb : badAll (l.take n)
      · cases he : encI l[n]
        · simp
        · simp [h2 hb]
      · simp [h1, hb]
    · rw [List.take_of_length_le (by omega)] at ih ⊢
      exact ih
theorem wput_good {l : List Itm} {j : Nat} {x : Itm} {b : List UInt8} (h1 : badAll (l.take j) = false) (h2 : encI x = some b) : wput (wputs (l.take j)) x = (encAll (l.take j) ++ b, false) := by
  obtain ⟨e1, e2⟩ := wputs_spec l j
  rw [wput_enc, e1, h1, h2, e2 h1]
  rfl
theorem wput_bad {l : List Itm} {j : Nat} {x : Itm} (h : badAll (l.take j) = true ∨ encI x = none) : (wput (wputs (l.take j)) x).2 = true := by
  obtain ⟨e1, e2⟩ := wputs_spec l j
  rw [wput_enc, e1]
  cases hb : badAll (l.take j) with
  | true => simp [e1, hb]
  | false =>
    rcases h with h | h
    · rw [hb] at h; cases h
    · simp [h]
theorem encAll_len {l : List Itm} (hok : ∀ x ∈ l, x.Ok) : (encAll l).length ≤ 65537 * l.length := by
  induction l with
  | nil => simp [encAll]
  | cons x l ih =>
    have h1 := ih (fun y hy => hok y (by simp [hy]))
    have h2 : ((encI x).getD []).length ≤ 65537 := by
      cases he : encI x with
      | none => simp
      | some b => exact encI_len (hok x (by simp)) he
    simp only [encAll, List.flatMap_cons, List.length_append, List.length_cons] at h1 ⊢
    omega
theorem wput_len (s : List UInt8 × Bool) {x : Itm} (hx : x.Ok) : (wput s x).1.length ≤ s.1.length + 65537 := by
  rw [wput_enc]
  split
  · omega
  · cases he : encI x with
    | none => simp
    | some b => have := encI_len hx he; simp; omega
theorem wputs_len {l : List Itm} (hok : ∀ x ∈ l, x.Ok) (n : Nat) : (wputs (l.take n)).1.length ≤ 65537 * (l.take n).length := by
  induction n with
  | zero => simp [wputs]
  | succ n ih =>
    by_cases h : n < l.length
    · rw [take_snocI h, wputs_snoc, List.length_append, List.length_singleton]
      have := wput_len (wputs (l.take n)) (hok _ (List.getElem_mem h))
      omega
    · rw [List.take_of_length_le (by omega)] at ih ⊢
      exact ih
theorem Items.ok {w : World} {g : Nat} {A : Option Addr} {l : List Itm} (h : Items w g A l) : ∀ x ∈ l, x.Ok := fun x hx => by
  obtain ⟨j, hj, rfl⟩ := List.getElem_of_mem hx
  obtain ⟨o, _, _, hok⟩ := h.at_ hj
  exact hok

theorem Items.next {w : World} {g : Nat} {A : Option Addr} {l : List Itm} (h : Items w g A l) {j : Nat} (hj : j < l.length) : ∃ o x, A = some ⟨g, o, none⟩ ∧ ItmAt w g (o + j * 37) x ∧ x.Ok ∧ Hid (l.take (j + 1) = l.take j ++ [x]) := by
  obtain ⟨o, h1, h2, h3⟩ := h.at_ hj
  exact ⟨o, l[j], h1, h2, h3, take_snocI hj⟩
theorem Try.sizeItem : (Try.prog.info? 38).map (·.size) = some 37 := by kernel_rfl
end Go.Proofs.Ytaipgkbnmfjpfaa
