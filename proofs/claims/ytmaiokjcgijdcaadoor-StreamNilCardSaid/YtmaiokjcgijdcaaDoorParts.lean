/- Slices of slices of bytes that are read. -/
import Derived.Test.YtmaiokjcgijdcaaDoorSl
namespace Go.Proofs.YtmaiokjcgijdcaaDoor
open Go.RowKit HP

/-- A slice of bytes as it stands in a cell, and what it reads. -/
structure BS where
  A : Option Addr
  n : Nat
  c : Nat
  xs : List UInt8
def BS.val (s : BS) : Value := .slice s.A s.n s.c
structure BS.Ok (w : World) (s : BS) : Prop where
  n : Hid (s.n = s.xs.length)
  c : s.n ≤ s.c
  rd : RD w s.A s.xs
def bsAll (l : List BS) : List UInt8 := l.flatMap BS.xs
/-- the row of slices at A -/
def PAt (w : World) (A : Option Addr) (l : List BS) : Prop := l ≠ [] → ∃ g o, A = some ⟨g, o, none⟩ ∧ ∀ j (h : j < l.length), w.cell? ⟨g, o + j, none⟩ = some l[j].val
/-- .. and what they read -/
def PRd (w : World) (A : Option Addr) (l : List BS) : Prop := PAt w A l ∧ ∀ s ∈ l, s.Ok w
theorem PRd.at_ {w : World} {A : Option Addr} {l : List BS} (h : PRd w A l) {j : Nat} (hj : j < l.length) : ∃ g o, A = some ⟨g, o, none⟩ ∧ w.cell? ⟨g, o + j, none⟩ = some (.slice l[j].A l[j].n l[j].c) ∧ l[j].Ok w := by
  obtain ⟨g, o, hA, hc⟩ := h.1 (by intro e; subst e; simp at hj)
  exact ⟨g, o, hA, hc j hj, h.2 _ (List.getElem_mem hj)⟩
theorem BS.Ok.kept {w w' : World} {s : BS} (h : s.Ok w) (hk : Kept w w' No) : s.Ok w' := ⟨h.n, h.c, h.rd.kept hk⟩
theorem PRd.kept {w w' : World} {A : Option Addr} {l : List BS} (h : PRd w A l) (hk : Kept w w' No) : PRd w' A l := by
  refine ⟨fun hl => ?_, fun s hs => (h.2 s hs).kept hk⟩
  obtain ⟨g, o, hA, hc⟩ := h.1 hl
  exact ⟨g, o, hA, fun j hj => by rw [hk.cell (block_lt_of_cell (hc j hj)) (fun h => h)]; exact hc j hj⟩
theorem bsAll_snoc {l : List BS} {j : Nat} (hj : j < l.length) : bsAll (l.take (j + 1)) = bsAll (l.take j) ++ l[j].xs := by
  unfold bsAll
  rw [List.take_succ_eq_append_getElem hj, List.flatMap_append]
  simp
theorem bsAll_take_le (l : List BS) (j : Nat) : (bsAll (l.take j)).length ≤ (bsAll l).length := by
  have : bsAll l = bsAll (l.take j) ++ bsAll (l.drop j) := by simp only [bsAll]; rw [← List.flatMap_append, List.take_append_drop]
  rw [this, List.length_append]; omega
/-- A block that is just a row of slices. -/
theorem PAt.of_blk {w : World} {g : Nat} {t : TypeId} {cs : Array Value} {l : List BS} (h : Blk w g t cs) (hc : cs = (l.map BS.val).toArray) : PAt w (some ⟨g, 0, none⟩) l := fun _ => by
  refine ⟨g, 0, rfl, fun j hj => ?_⟩
  rw [h.cell, hc, Nat.zero_add]
  simp [hj]
/-- what the pieces R tell of slices -/
theorem Ent.oks_nil {R : List HP} : Ent R fun w => ∀ s ∈ ([] : List BS), s.Ok w := fun _ _ _ hs => by cases hs
theorem Ent.oks {R : List HP} {A : Option Addr} {n c : Nat} {xs : List UInt8} {l : List BS} (hr : Ent R fun w => RD w A xs) (hn : Hid (n = xs.length)) (hc : n ≤ c) (h : Ent R fun w => ∀ s ∈ l, s.Ok w) : Ent R fun w => ∀ s ∈ (⟨A, n, c, xs⟩ :: l : List BS), s.Ok w := fun w hw s hs => by
  rcases List.mem_cons.1 hs with rfl | hs
  · exact ⟨hn, hc, hr w hw⟩
  · exact h w hw s hs
theorem Ent.parts {R : List HP} {g : Nat} {t : TypeId} {cs : Array Value} {l : List BS} (hc : cs = (l.map BS.val).toArray) (h : Ent R fun w => ∀ s ∈ l, s.Ok w) : Ent (HP.blk g t cs :: R) fun w => PRd w (some ⟨g, 0, none⟩) l := fun w hw =>
  ⟨PAt.of_blk hw.blk hc, h w hw.tail⟩
end Go.Proofs.YtmaiokjcgijdcaaDoor
