/- Words on memory for this seat's proofs: a block that is known whole, and what a call leaves alone. -/
import Derived.Test.YtmaiokjcgijdcaaDoorRows
import Derived.WalkKit
import Derived.ProofKit
import Derived.OpenShut
import Derived.Laws.MakeOwn
import Derived.Laws.Rows
import Derived.Laws.CopyOwn
import Derived.Deep.Draws
import Derived.Deep.QuietTactic
import Derived.BigQuiet
import Derived.RegionTactic
import Derived.BigRegion
import Derived.StillTailTactics
import Derived.Deep.RegionHeld3
import Derived.Deep.MidRow
import Derived.Lib.Hide
import Derived.Handy
import Derived.WalkSpells
import Derived.WalkLawsBesides
import Derived.Outline
namespace Go.Proofs.YtmaiokjcgijdcaaDoor
open Go.RowKit

/-- Block g is just the cells cs of element type t, none of them frozen. -/
def Blk (w : World) (g : Nat) (t : TypeId) (cs : Array Value) : Prop := w.heap[g]? = some (.cells cs t (0, 0))
/-- Block g is a map with just these entries. -/
def MapB (w : World) (g : Nat) (es : Array MapEntry) (cl : Nat) : Prop := w.heap[g]? = some (.map es cl)

/-- w' is w with new blocks, and with changes in the blocks that S tells alone. -/
structure Kept (w w' : World) (S : Nat → Prop) : Prop where
  os : w'.os = w.os
  tape : w'.tape = w.tape
  output : w'.output = w.output
  size : w.heap.size ≤ w'.heap.size
  block : ∀ k, k < w.heap.size → ¬ S k → w'.heap[k]? = w.heap[k]?
/-- no old block -/
def No : Nat → Prop := fun _ => False

section
variable {w w' w1 : World} {g : Nat} {t : TypeId} {cs : Array Value} {L L1 L2 : Nat → Prop}
theorem heap_size_alloc (w : World) (o : Obj) : (w.alloc o).heap.size = w.heap.size + 1 := by simp
theorem lt_of_heap {o : Obj} (h : w.heap[g]? = some o) : g < w.heap.size := (Array.getElem?_eq_some_iff.1 h).1
theorem Blk.lt (h : Blk w g t cs) : g < w.heap.size := lt_of_heap h
theorem Blk.cell (h : Blk w g t cs) (i : Nat) : w.cell? ⟨g, i, none⟩ = cs[i]? := cell_of_row w g i cs t (0, 0) h
theorem Blk.cell_ (h : Blk w g t cs) {i : Nat} {v : Value} (hv : cs[i]? = some v) : w.cell? ⟨g, i, none⟩ = some v := (h.cell i).trans hv
theorem Blk.frozen (h : Blk w g t cs) (i : Nat) : w.frozen? ⟨g, i, none⟩ = false := frozen_of_row w g i cs t h
theorem Blk.new (w : World) (t : TypeId) (cs : Array Value) : Blk (w.alloc (.cells cs t)) w.heap.size t cs := heap_alloc_new w _
theorem Blk.drew (h : Blk w g t cs) : Blk w.drew g t cs := h
theorem Blk.drewN (h : Blk w g t cs) (n : Nat) : Blk (w.drewN n) g t cs := h
theorem Blk.alloc (h : Blk w g t cs) (o : Obj) : Blk (w.alloc o) g t cs := (Below.heap_alloc w o g h.lt).trans h
theorem Blk.set_ (h : Blk w g t cs) (i : Nat) (u : Value) : Blk (w.setCell ⟨g, i, none⟩ u) g t (cs.setIfInBounds i u) := heap_setCell_same w g i cs t u h
theorem Blk.far (h : Blk w g t cs) {p : Addr} (hp : g ≠ p.block) (u : Value) : Blk (w.setCell p u) g t cs := (heap_setCell_other w p g u hp).trans h
theorem Blk.kept (h : Blk w g t cs) (hk : Kept w w' L) (hg : ¬ L g) : Blk w' g t cs := (hk.block g h.lt hg).trans h
theorem Blk.ne_ {g' : Nat} {t' : TypeId} {cs' : Array Value} (h : Blk w g t cs) (h' : Blk w g' t' cs') (hne : t ≠ t') : g ≠ g' := by
  rintro rfl
  unfold Blk at h h'
  rw [h] at h'
  injection h' with h'
  injection h' with _ ht
  exact hne ht
theorem MapB.lt {es : Array MapEntry} {cl : Nat} (h : MapB w g es cl) : g < w.heap.size := lt_of_heap h
theorem MapB.drew {es : Array MapEntry} {cl : Nat} (h : MapB w g es cl) : MapB w.drew g es cl := h
theorem MapB.kept {es : Array MapEntry} {cl : Nat} (h : MapB w g es cl) (hk : Kept w w' L) (hg : ¬ L g) : MapB w' g es cl := (hk.block g h.lt hg).trans h
theorem MapB.alloc {es : Array MapEntry} {cl : Nat} (h : MapB w g es cl) (o : Obj) : MapB (w.alloc o) g es cl := (Below.heap_alloc w o g h.lt).trans h
theorem MapB.far {es : Array MapEntry} {cl : Nat} (h : MapB w g es cl) {p : Addr} (hp : g ≠ p.block) (u : Value) : MapB (w.setCell p u) g es cl := (heap_setCell_other w p g u hp).trans h
theorem MapB.ne_ {es : Array MapEntry} {cl : Nat} {g' : Nat} {t' : TypeId} {cs' : Array Value} (h : MapB w g es cl) (h' : Blk w g' t' cs') : g ≠ g' := by
  rintro rfl
  unfold Blk at h'; unfold MapB at h
  rw [h] at h'
  injection h' with h'
  cases h'

theorem Kept.refl (w : World) (L : Nat → Prop) : Kept w w L := ⟨rfl, rfl, rfl, Nat.le_refl _, fun _ _ _ => rfl⟩
theorem Kept.drew (h : Kept w w' L) : Kept w w'.drew L := ⟨h.os, h.tape, h.output, h.size, h.block⟩
theorem Kept.drewN (h : Kept w w' L) (n : Nat) : Kept w (w'.drewN n) L := ⟨h.os, h.tape, h.output, h.size, h.block⟩
theorem Kept.trans (h : Kept w w1 L1) (h' : Kept w1 w' L2) (hL : ∀ k, k < w.heap.size → L1 k ∨ L2 k → L k) : Kept w w' L :=
  ⟨h'.os.trans h.os, h'.tape.trans h.tape, h'.output.trans h.output, Nat.le_trans h.size h'.size, fun k hk hn =>
    (h'.block k (Nat.lt_of_lt_of_le hk h.size) (fun e => hn (hL k hk (.inr e)))).trans (h.block k hk (fun e => hn (hL k hk (.inl e))))⟩
/-- .. and then changes in new blocks alone -/
theorem Kept.new_ (h : Kept w w1 L) (h' : Kept w1 w' L2) (hL : ∀ k, L2 k → w.heap.size ≤ k) : Kept w w' L := h.trans h' (fun k hk e => e.elim id (fun e => by have := hL k e; omega))
theorem Kept.seq (h : Kept w w1 L) (h' : Kept w1 w' No) : Kept w w' L := h.trans h' (fun _ _ e => e.elim id (fun e => e.elim))
theorem Kept.mono (h : Kept w w' L1) (hL : ∀ k, k < w.heap.size → L1 k → L k) : Kept w w' L :=
  ⟨h.os, h.tape, h.output, h.size, fun k hk hn => h.block k hk (fun e => hn (hL k hk e))⟩
theorem Kept.alloc (h : Kept w w' L) (o : Obj) : Kept w (w'.alloc o) L :=
  ⟨h.os, h.tape, h.output, by have := h.size; simp; omega, fun k hk hn => (Below.heap_alloc w' o k (Nat.lt_of_lt_of_le hk h.size)).trans (h.block k hk hn)⟩
theorem Kept.set_ (h : Kept w w' L) {p : Addr} (hp : L p.block ∨ w.heap.size ≤ p.block) (u : Value) : Kept w (w'.setCell p u) L :=
  ⟨h.os, h.tape, h.output, by have := h.size; simpa [World.setCell] using this, fun k hk hn => (heap_setCell_other w' p k u (by rintro rfl; rcases hp with hp | hp; exact hn hp; omega)).trans (h.block k hk hn)⟩
theorem Kept.set1 {b : Nat} (h : Kept w w' (· = b)) (i : Nat) (u : Value) : Kept w (w'.setCell ⟨b, i, none⟩ u) (· = b) := h.set_ (p := ⟨b, i, none⟩) (Or.inl rfl) u
/-- Any change of one block's object. -/
theorem Kept.setBlock (h : Kept w w' L) {g : Nat} (hp : L g ∨ w.heap.size ≤ g) (o : Obj) : Kept w { w' with heap := w'.heap.setIfInBounds g o } L :=
  ⟨h.os, h.tape, h.output, by simpa using h.size, fun k hk hn => by
    have : g ≠ k := by rintro rfl; rcases hp with hp | hp; exact hn hp; omega
    simp [this, h.block k hk hn]⟩
theorem Kept.grown {row : Option Nat} (h : Kept w w' L) (hg : w'.grownBy w1 row) (hr : ∀ k, row = some k → L k ∨ w.heap.size ≤ k) : Kept w w1 L :=
  ⟨hg.os.trans h.os, hg.tape.trans h.tape, hg.output.trans h.output, Nat.le_trans h.size hg.size, fun k hk hn =>
    (hg.block k (Nat.lt_of_lt_of_le hk h.size) (fun e => by rcases hr k e.symm with x | x; exact hn x; omega)).trans (h.block k hk hn)⟩
theorem Kept.below (h : Kept w w' No) : Below w.heap.size w w' := ⟨h.os, h.tape, h.output, h.size, fun k hk => h.block k hk (fun h => h)⟩
theorem Kept.cell (h : Kept w w' L) {p : Addr} (hp : p.block < w.heap.size) (hL : ¬ L p.block) : w'.cell? p = w.cell? p := World.cell?_of_block (h.block _ hp hL)
theorem Kept.frozen (h : Kept w w' L) {p : Addr} (hp : p.block < w.heap.size) (hL : ¬ L p.block) : w'.frozen? p = w.frozen? p := World.frozen?_of_block (h.block _ hp hL)
end

/-- a contract that leaves the world, for 'go_quiet' -/
theorem quiet_same {P : Program} {f : FuncId} {args : Array Value} {w : World} {v : Value} {n : Nat} (h : Calls P f args (w.drewN n) fun e w' => e = .returned v ∧ w.drewN n = w') : Calls P f args (w.drewN n) fun e w'' => e = .returned v ∧ ∃ m, w'' = w.drewN m :=
  h.mono fun _ _ ⟨he, hw⟩ => ⟨he, n, hw.symm⟩

/-! ### a region that draws its order: S made stronger on the way -/
theorem wpAnyH_strong {P : Program} {md : Region.Mode} {ops : Array Oper} {Q : Exit → Act → World → Prop} {S S' : World → Prop} (hS : ∀ w, S' w → S w) :
    ∀ {fuel : Nat} {listed : Array Bool} {a : Act} {w : World}, wpAnyH P md ops Q S' fuel listed a w → wpAnyH P md ops Q S fuel listed a w
  | 0, _, _, _, h => h
  | _ + 1, _, _, _, h => ⟨h.1, fun i hi => wpOp_mono (fun _ _ h' => ⟨hS _ h'.1, wpAnyH_strong hS h'.2⟩) (h.2 i hi)⟩

/-- an operation whose guard says yes -/
theorem wpList_wanted {P : Program} {ops : Array Oper} {rest : List Oper} {o : Oper} {a : Act} {w : World} {Q : Exit → Act → World → Prop} (hw : Region.wanted o (yielded ops a.tmps) = true)
    (h : ∀ K, (∀ a w, wpList P ops Q rest a w → K a w) → o.wp P a w K Q) : wpList P ops Q (o :: rest) a w := by
  refine wpList_step fun K hK => ?_
  rw [if_pos hw]
  exact h K hK
theorem wpList_load_midg {P : Program} {ops : Array Oper} {rest : List Oper} {op : Oper} {a : Act} {w : World} {Q : Exit → Act → World → Prop} (hw : Region.wanted op (yielded ops a.tmps) = true) (ty : TypeId) (x : Operand) (ho : op.op = .load ty x)
    (b o : Nat) (hx : a.eval x = .pointer (some ⟨b, o, none⟩)) (cs : List Value) (d : TypeDesc) (hc : w.rangeAt b o cs)
    (hu : P.underlying ty = some d) (hd : d.isRow = true) (hi : (P.info? ty).map (·.size) = some cs.length)
    (h : wpList P ops Q rest (a.put op.dst (.agg cs.toArray)) w) : wpList P ops Q (op :: rest) a w :=
  wpList_wanted hw fun _ hK => wp_load_mid ty x ho b o hx cs d hc hu hd hi (hK _ _ h)

def nthOp : List Oper → Nat → Option Oper
  | [], _ => none
  | o :: _, 0 => some o
  | _ :: l, n + 1 => nthOp l n
theorem nthOp_eq : ∀ (l : List Oper) (i : Nat), nthOp l i = l[i]?
  | [], _ => rfl
  | _ :: _, 0 => rfl
  | _ :: l, n + 1 => by rw [List.getElem?_cons_succ]; exact nthOp_eq l n
section
variable {P : Program} {md : Region.Mode} {l : List Oper} {Q : Exit → Act → World → Prop} {S : World → Prop}
/-- 'wpAnyH_take', the operation told as it is written -/
theorem takeH (i : Nat) {oi : Oper} (v : Value) {fuel : Nat} {listed : Array Bool} {a : Act} {w : World} (hi : nthOp l i = some oi)
    (hs : Region.noSelect l.toArray = true) (hf : Region.free md l.toArray listed i = true) (hr : (Region.ready md l.toArray listed).contains i = true)
    (hQ : ∀ c a w, Q (.panic c) (a.put oi.dst v) w → Q (.panic c) a w) (hw : Region.wanted oi (yielded l.toArray a.tmps) = true) (hS : S w) (hy : ∀ w, S w → (execOp a.eval oi).run P w = .ok (.value v) w)
    (h : wpAnyH P md l.toArray Q S fuel (listed.setIfInBounds i true) (a.put oi.dst v) w) : wpAnyH P md l.toArray Q S (fuel + 1) listed a w :=
  wpAnyH_take (by rw [List.getElem?_toArray, ← nthOp_eq]; exact hi) hs hf hr hQ (.inl ⟨hw, hy⟩) hS h
theorem skipH (i : Nat) {oi : Oper} {fuel : Nat} {listed : Array Bool} {a : Act} {w : World} (hi : nthOp l i = some oi)
    (hs : Region.noSelect l.toArray = true) (hf : Region.free md l.toArray listed i = true) (hr : (Region.ready md l.toArray listed).contains i = true)
    (hQ : ∀ c a w, Q (.panic c) (a.put oi.dst undef) w → Q (.panic c) a w) (hw : Region.wanted oi (yielded l.toArray a.tmps) = false) (hS : S w)
    (h : wpAnyH P md l.toArray Q S fuel (listed.setIfInBounds i true) (a.put oi.dst undef) w) : wpAnyH P md l.toArray Q S (fuel + 1) listed a w :=
  wpAnyH_take (by rw [List.getElem?_toArray, ← nthOp_eq]; exact hi) hs hf hr hQ (.inr ⟨hw, rfl⟩) hS h
/-- the one operation that may come up -/
theorem effH (i : Nat) {oi : Oper} {fuel : Nat} {listed : Array Bool} {a : Act} {w : World} (hi : nthOp l i = some oi) (hr : Region.ready md l.toArray listed = [i])
    (hw : Region.wanted oi (yielded l.toArray a.tmps) = true)
    (h : ∀ K' : Act → World → Prop, Shut (∀ a w, S w → (S w → wpAnyH P md l.toArray Q S fuel (listed.setIfInBounds i true) a w) → K' a w) → Oper.wp P oi a w K' Q) : wpAnyH P md l.toArray Q S (fuel + 1) listed a w :=
  wpAnyH_ready hr (by simp) (AllReadyH.cons (by rw [List.getElem?_toArray, ← nthOp_eq]; exact hi) (fun K hK => by rw [if_pos hw]; exact h K hK) AllReadyH.nil)
end

/-! ### arrays by value, in a region that only reads -/
section
variable {P : Program}
theorem wpStill_load_row {ops : Array Oper} {rest : List Oper} {o : Oper} {a : Act} {w : World} {Q : Act → Prop} (hgd : o.guard = none) (ty : TypeId) (x : Operand) (ho : o.op = .load ty x)
    (g : Nat) (hx : a.eval x = .pointer (some ⟨g, 0, none⟩)) (t : TypeId) (cs : Array Value) (fr : Nat × Nat) (d : TypeDesc) (hg : w.heap[g]? = some (.cells cs t fr))
    (hu : P.underlying ty = some d) (hd : (match d with | .struct _ | .array _ _ => true | _ => false) = true) (hi : (P.info? ty).map (·.size) = some cs.size)
    (h : wpStill P ops w Q rest (a.put o.dst (.agg cs))) : wpStill P ops w Q (o :: rest) a := by
  refine wpStill_step fun K hK => ?_
  simp only [Region.wanted, hgd, if_true]
  unfold Oper.still execOp
  simp only [ho, hx, Instr.loadAt, Instr.sureAddr, Sem.run_bind, Sem.run_pure, Result.andThen_ok, run_loadVar_row w g t ty cs fr d hg hu hd hi, Oper.stillUpon]
  exact ⟨trivial, hK _ h⟩
end
end Go.Proofs.YtmaiokjcgijdcaaDoor
