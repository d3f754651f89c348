/- Lists of frames in memory. -/
import Derived.Test.YtmaiokjcgijdcaaDoorSl
import Derived.Test.YtmaiokjcgijdcaaDoorFrameE
namespace Go.Proofs.YtmaiokjcgijdcaaDoor
open Go.RowKit HP

/-- a frame as it stands in two cells, and what its body reads -/
structure FS where
  t : UInt8
  A : Option Addr
  n : Nat
  c : Nat
  xs : List UInt8
def FS.cells (f : FS) : List Value := [.int .u8 (f.t.toNat : Int), .slice f.A f.n f.c]
def FS.frm (f : FS) : UInt8 × List UInt8 := (f.t, f.xs)
def FS.Ok (f : FS) : Prop := Hid (f.n = f.xs.length) ∧ f.n ≤ f.c
def fsCells (l : List FS) : List Value := l.flatMap FS.cells
def fsBodies (l : List FS) : HP := HP.all (l.map fun f => rb f.A f.xs)
/-- the slice v owns a row of frames, that have bodies of their own -/
def FrH (T : TypeId) (v : Value) (fs : List (UInt8 × List UInt8)) : HP := ex fun l : List FS => cond (Hid (l.map FS.frm = fs) ∧ ∀ f ∈ l, f.Ok) (sep (row T 2 v l.length (fsCells l)) (fsBodies l))
theorem fsCells_length (l : List FS) : (fsCells l).length = l.length * 2 := by
  induction l with
  | nil => rfl
  | cons f l ih => simp [fsCells, FS.cells] at ih ⊢; omega
theorem fsCells_append (l l' : List FS) : fsCells (l ++ l') = fsCells l ++ fsCells l' := by simp [fsCells]
theorem fsCells_one (l : List FS) : ∀ u ∈ fsCells l, u.oneCell' = true := by
  intro u hu
  simp only [fsCells, List.mem_flatMap] at hu
  obtain ⟨f, _, hf⟩ := hu
  simp only [FS.cells, List.mem_cons, List.not_mem_nil, or_false] at hf
  rcases hf with rfl | rfl <;> rfl
theorem FS.cells_one (f : FS) : ∀ u ∈ f.cells, u.oneCell' = true := by
  intro u hf
  simp only [FS.cells, List.mem_cons, List.not_mem_nil, or_false] at hf
  rcases hf with rfl | rfl <;> rfl
theorem fsCells_get (l : List FS) (j : Nat) (h : j < l.length) : (fsCells l)[2 * j]? = some (.int .u8 (l[j].t.toNat : Int)) ∧ (fsCells l)[2 * j + 1]? = some (.slice l[j].A l[j].n l[j].c) := by
  induction l generalizing j with
  | nil => simp at h
  | cons f l ih =>
    cases j with
    | zero => exact ⟨rfl, rfl⟩
    | succ j =>
      have := ih j (by simpa using h)
      simp only [fsCells, FS.cells, List.flatMap_cons, List.getElem_cons_succ] at this ⊢
      exact ⟨by rw [show 2 * (j + 1) = 2 * j + 1 + 1 by omega]; exact this.1, by rw [show 2 * (j + 1) + 1 = 2 * j + 1 + 1 + 1 by omega]; exact this.2⟩
section
variable {w : World} {R : List HP} {T : TypeId} {v : Value} {fs : List (UInt8 × List UInt8)}
theorem Holds.frs (h : Holds w (FrH T v fs :: R)) : ∃ l : List FS, Hid (l.map FS.frm = fs) ∧ (∀ f ∈ l, f.Ok) ∧ Holds w (row T 2 v l.length (fsCells l) :: fsBodies l :: R) := by
  obtain ⟨l, h⟩ := h.ex_
  obtain ⟨⟨h1, h2⟩, h⟩ := h.cond_
  exact ⟨l, h1, h2, h.sep_⟩
theorem Holds.mk_frs {l : List FS} (h : Holds w (row T 2 v l.length (fsCells l) :: fsBodies l :: R)) (h1 : Hid (l.map FS.frm = fs)) (h2 : ∀ f ∈ l, f.Ok) : Holds w (FrH T v fs :: R) := Holds.mk_ex l (Holds.mk_cond ⟨h1, h2⟩ h.join)
theorem Holds.frs_nil (h : Holds w R) : Holds w (FrH T (.slice none 0 0) [] :: R) := by
  refine Holds.mk_frs (l := []) ?_ rfl (fun _ hf => by cases hf)
  have h1 : Holds w (fsBodies [] :: R) := h.emp_cons
  exact h1.nil_row T 2
theorem Holds.fr_form (h : Holds w (FrH T v fs :: R)) : ∃ A n c, v = .slice A n c ∧ Hid (n = fs.length) ∧ n ≤ c := by
  obtain ⟨l, h1, _, h⟩ := h.frs
  obtain ⟨A, c, hv, hc, _, _⟩ := h.row_form
  exact ⟨A, _, c, hv, by unfold Hid; rw [← h1.out, List.length_map], hc⟩
theorem Holds.body_rd {l : List FS} (h : Holds w (fsBodies l :: R)) {j : Nat} (hj : j < l.length) : RD w l[j].A l[j].xs := by
  obtain ⟨S, g, hS, _⟩ := h.all_mem (P := rb l[j].A l[j].xs) (List.mem_map.2 ⟨l[j], List.getElem_mem hj, rfl⟩)
  exact ⟨g, hS⟩
/-- one more frame: its cells stand in a block -/
theorem Holds.frs_snoc {l : List FS} {v' : Value} {f : FS} {m : Nat} (hm : m = l.length + 1) (h : Holds w (row T 2 v' m (fsCells l ++ f.cells) :: fsBodies l :: rb f.A f.xs :: R)) (h1 : Hid (l.map FS.frm = fs)) (h2 : ∀ f ∈ l, f.Ok) (hf : f.Ok) :
    Holds w (FrH T v' (fs ++ [f.frm]) :: R) := by
  subst hm
  refine Holds.mk_frs (l := l ++ [f]) ?_ (by unfold Hid; rw [List.map_append, h1.out]; rfl) (fun g hg => ?_)
  · have h3 : Holds w (fsBodies l :: rb f.A f.xs :: row T 2 v' (l.length + 1) (fsCells l ++ f.cells) :: R) := h.perm (((List.Perm.swap _ _ _)).trans ((List.Perm.swap _ _ _).cons _))
    have h4 : Holds w (HP.all ((l.map fun f => rb f.A f.xs) ++ [rb f.A f.xs]) :: _) := Holds.all_snoc h3
    have h5 : fsBodies (l ++ [f]) = HP.all ((l.map fun f => rb f.A f.xs) ++ [rb f.A f.xs]) := by simp [fsBodies]
    rw [h5, fsCells_append, List.length_append]
    refine h4.perm ?_
    rw [show fsCells [f] = f.cells by simp [fsCells]]
    exact .swap _ _ _
  · rcases List.mem_append.1 hg with hg | hg
    · exact h2 g hg
    · obtain rfl : g = f := by simpa using hg
      exact hf
/-- two rows, one behind the other -/
theorem Holds.frs_app {l l' : List FS} {v' : Value} {m : Nat} {fs' : List (UInt8 × List UInt8)} (hm : m = l.length + l'.length) (h : Holds w (row T 2 v' m (fsCells l ++ fsCells l') :: fsBodies l :: fsBodies l' :: R)) (h1 : Hid (l.map FS.frm = fs)) (h2 : ∀ f ∈ l, f.Ok) (h1' : Hid (l'.map FS.frm = fs')) (h2' : ∀ f ∈ l', f.Ok) :
    Holds w (FrH T v' (fs ++ fs') :: R) := by
  subst hm
  refine Holds.mk_frs (l := l ++ l') ?_ (by unfold Hid; rw [List.map_append, h1.out, h1'.out]) (fun g hg => (List.mem_append.1 hg).elim (h2 g) (h2' g))
  have h3 : Holds w (fsBodies l :: fsBodies l' :: row T 2 v' (l.length + l'.length) (fsCells l ++ fsCells l') :: R) := h.perm (((List.Perm.swap _ _ _)).trans ((List.Perm.swap _ _ _).cons _))
  have h4 : Holds w (HP.all ((l.map fun f => rb f.A f.xs) ++ (l'.map fun f => rb f.A f.xs)) :: _) := Holds.all_append h3
  have h5 : fsBodies (l ++ l') = HP.all ((l.map fun f => rb f.A f.xs) ++ (l'.map fun f => rb f.A f.xs)) := by simp [fsBodies]
  rw [h5, fsCells_append, List.length_append]
  exact h4.perm (.swap _ _ _)
end
end Go.Proofs.YtmaiokjcgijdcaaDoor
