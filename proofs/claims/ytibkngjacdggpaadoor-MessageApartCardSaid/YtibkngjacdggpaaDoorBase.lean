import Derived.Test.YtibkngjacdggpaaDoorRows
import Derived.WalkKit
import Derived.ProofKit
import Derived.OpenShut
import Derived.Laws.MakeOwn
import Derived.Laws.Rows
import Derived.Laws.CopyOwn
import Derived.Deep.Draws
import Derived.Deep.QuietTactic
import Derived.BigQuiet
import Derived.RegionTactic
import Derived.BigRegion
import Derived.StillTailTactics
import Derived.Deep.RegionHeld3
import Derived.Deep.MidRow
import Derived.Lib.Hide
import Derived.Handy
import Derived.WalkSpells
import Derived.WalkLawsBesides
import Derived.Outline
import Derived.Maps.AppendAt
import Derived.Deep.AppendLies
import Derived.Deep.RegionLaw
import Derived.Lib.AppendStr
import Derived.Laws.BytesArg
import Derived.Laws.BytesString
import Derived.OwnWalk
import Derived.IntWalk
import Derived.Laws.BitsLemmas
import Derived.Lib.EndianBits
import Derived.Laws.CopyRow
import Derived.Laws.IdiomCopy
/- Words on memory for this seat's proofs: a block that is known whole, and what a call leaves alone. -/
namespace Go.Proofs.YtibkngjacdggpaaDoor
open Go.RowKit

/-- Block g is just the cells cs of element type t, none of them frozen. -/
def Blk (w : World) (g : Nat) (t : TypeId) (cs : Array Value) : Prop := w.heap[g]? = some (.cells cs t (0, 0))
/-- Block g is a map with just these entries. -/
def MapB (w : World) (g : Nat) (es : Array MapEntry) (cl : Nat) : Prop := w.heap[g]? = some (.map es cl)

/-- w' is w with new blocks, and with changes in the blocks that S tells alone. -/
structure Kept (w w' : World) (S : Nat → Prop) : Prop where
  os : w'.os = w.os
  tape : w'.tape = w.tape
  output : w'.output = w.output
  size : w.heap.size ≤ w'.heap.size
  block : ∀ k, k < w.heap.size → ¬ S k → w'.heap[k]? = w.heap[k]?
/-- no old block -/
def No : Nat → Prop := fun _ => False

section
variable {w w' w1 : World} {g : Nat} {t : TypeId} {cs : Array Value} {L L1 L2 : Nat → Prop}
theorem heap_size_alloc (w : World) (o : Obj) : (w.alloc o).heap.size = w.heap.size + 1 := by simp
theorem lt_of_heap {o : Obj} (h : w.heap[g]? = some o) : g < w.heap.size := (Array.getElem?_eq_some_iff.1 h).1
theorem Blk.lt (h : Blk w g t cs) : g < w.heap.size := lt_of_heap h
theorem Blk.cell (h : Blk w g t cs) (i : Nat) : w.cell? ⟨g, i, none⟩ = cs[i]? := cell_of_row w g i cs t (0, 0) h
theorem Blk.cell_ (h : Blk w g t cs) {i : Nat} {v : Value} (hv : cs[i]? = some v) : w.cell? ⟨g, i, none⟩ = some v := (h.cell i).trans hv
theorem Blk.frozen (h : Blk w g t cs) (i : Nat) : w.frozen? ⟨g, i, none⟩ = false := frozen_of_row w g i cs t h
theorem Blk.new (w : World) (t : TypeId) (cs : Array Value) : Blk (w.alloc (.cells cs t)) w.heap.size t cs := heap_alloc_new w _
theorem Blk.drew (h : Blk w g t cs) : Blk w.drew g t cs := h
theorem Blk.drewN (h : Blk w g t cs) (n : Nat) : Blk (w.drewN n) g t cs := h
theorem Blk.alloc (h : Blk w g t cs) (o : Obj) : Blk (w.alloc o) g t cs := (Below.heap_alloc w o g h.lt).trans h
theorem Blk.set_ (h : Blk w g t cs) (i : Nat) (u : Value) : Blk (w.setCell ⟨g, i, none⟩ u) g t (cs.setIfInBounds i u) := heap_setCell_same w g i cs t u h
theorem Blk.far (h : Blk w g t cs) {p : Addr} (hp : g ≠ p.block) (u : Value) : Blk (w.setCell p u) g t cs := (heap_setCell_other w p g u hp).trans h
theorem Blk.kept (h : Blk w g t cs) (hk : Kept w w' L) (hg : ¬ L g) : Blk w' g t cs := (hk.block g h.lt hg).trans h
theorem Blk.ne_ {g' : Nat} {t' : TypeId} {cs' : Array Value} (h : Blk w g t cs) (h' : Blk w g' t' cs') (hne : t ≠ t') : g ≠ g' := by
  rintro rfl
  unfold Blk at h h'
  rw [h] at h'
  injection h' with h'
  injection h' with _ ht
  exact hne ht
theorem MapB.lt {es : Array MapEntry} {cl : Nat} (h : MapB w g es cl) : g < w.heap.size := lt_of_heap h
theorem MapB.drew {es : Array MapEntry} {cl : Nat} (h : MapB w g es cl) : MapB w.drew g es cl := h
theorem MapB.kept {es : Array MapEntry} {cl : Nat} (h : MapB w g es cl) (hk : Kept w w' L) (hg : ¬ L g) : MapB w' g es cl := (hk.block g h.lt hg).trans h
theorem MapB.alloc {es : Array MapEntry} {cl : Nat} (h : MapB w g es cl) (o : Obj) : MapB (w.alloc o) g es cl := (Below.heap_alloc w o g h.lt).trans h
theorem MapB.far {es : Array MapEntry} {cl : Nat} (h : MapB w g es cl) {p : Addr} (hp : g ≠ p.block) (u : Value) : MapB (w.setCell p u) g es cl := (heap_setCell_other w p g u hp).trans h
theorem MapB.ne_ {es : Array MapEntry} {cl : Nat} {g' : Nat} {t' : TypeId} {cs' : Array Value} (h : MapB w g es cl) (h' : Blk w g' t' cs') : g ≠ g' := by
  rintro rfl
  unfold Blk at h'; unfold MapB at h
  rw [h] at h'
  injection h' with h'
  cases h'

theorem Kept.refl (w : World) (L : Nat → Prop) : Kept w w L := ⟨rfl, rfl, rfl, Nat.le_refl _, fun _ _ _ => rfl⟩
theorem Kept.drew (h : Kept w w' L) : Kept w w'.drew L := ⟨h.os, h.tape, h.output, h.size, h.block⟩
theorem Kept.drewN (h : Kept w w' L) (n : Nat) : Kept w (w'.drewN n) L := ⟨h.os, h.tape, h.output, h.size, h.block⟩
theorem Kept.trans (h : Kept w w1 L1) (h' : Kept w1 w' L2) (hL : ∀ k, k < w.heap.size → L1 k ∨ L2 k → L k) : Kept w w' L :=
  ⟨h'.os.trans h.os, h'.tape.trans h.tape, h'.output.trans h.output, Nat.le_trans h.size h'.size, fun k hk hn =>
    (h'.block k (Nat.lt_of_lt_of_le hk h.size) (fun e => hn (hL k hk (.inr e)))).trans (h.block k hk (fun e => hn (hL k hk (.inl e))))⟩
/-- .. and then changes in new blocks alone -/
theorem Kept.new_ (h : Kept w w1 L) (h' : Kept w1 w' L2) (hL : ∀ k, L2 k → w.heap.size ≤ k) : Kept w w' L := h.trans h' (fun k hk e => e.elim id (fun e => by have := hL k e; omega))
theorem Kept.seq (h : Kept w w1 L) (h' : Kept w1 w' No) : Kept w w' L := h.trans h' (fun _ _ e => e.elim id (fun e => e.elim))
theorem Kept.mono (h : Kept w w' L1) (hL : ∀ k, k < w.heap.size → L1 k → L k) : Kept w w' L :=
  ⟨h.os, h.tape, h.output, h.size, fun k hk hn => h.block k hk (fun e => hn (hL k hk e))⟩
theorem Kept.alloc (h : Kept w w' L) (o : Obj) : Kept w (w'.alloc o) L :=
  ⟨h.os, h.tape, h.output, by have := h.size; simp; omega, fun k hk hn => (Below.heap_alloc w' o k (Nat.lt_of_lt_of_le hk h.size)).trans (h.block k hk hn)⟩
theorem Kept.set_ (h : Kept w w' L) {p : Addr} (hp : L p.block ∨ w.heap.size ≤ p.block) (u : Value) : Kept w (w'.setCell p u) L :=
  ⟨h.os, h.tape, h.output, by have := h.size; simpa [World.setCell] using this, fun k hk hn => (heap_setCell_other w' p k u (by rintro rfl; rcases hp with hp | hp; exact hn hp; omega)).trans (h.block k hk hn)⟩
theorem Kept.set1 {b : Nat} (h : Kept w w' (· = b)) (i : Nat) (u : Value) : Kept w (w'.setCell ⟨b, i, none⟩ u) (· = b) := h.set_ (p := ⟨b, i, none⟩) (Or.inl rfl) u
/-- Any change of one block's object. -/
theorem Kept.setBlock (h : Kept w w' L) {g : Nat} (hp : L g ∨ w.heap.size ≤ g) (o : Obj) : Kept w { w' with heap := w'.heap.setIfInBounds g o } L :=
  ⟨h.os, h.tape, h.output, by simpa using h.size, fun k hk hn => by
    have : g ≠ k := by rintro rfl; rcases hp with hp | hp; exact hn hp; omega
    simp [this, h.block k hk hn]⟩
theorem Kept.grown {row : Option Nat} (h : Kept w w' L) (hg : w'.grownBy w1 row) (hr : ∀ k, row = some k → L k ∨ w.heap.size ≤ k) : Kept w w1 L :=
  ⟨hg.os.trans h.os, hg.tape.trans h.tape, hg.output.trans h.output, Nat.le_trans h.size hg.size, fun k hk hn =>
    (hg.block k (Nat.lt_of_lt_of_le hk h.size) (fun e => by rcases hr k e.symm with x | x; exact hn x; omega)).trans (h.block k hk hn)⟩
theorem Kept.below (h : Kept w w' No) : Below w.heap.size w w' := ⟨h.os, h.tape, h.output, h.size, fun k hk => h.block k hk (fun h => h)⟩
theorem Kept.cell (h : Kept w w' L) {p : Addr} (hp : p.block < w.heap.size) (hL : ¬ L p.block) : w'.cell? p = w.cell? p := World.cell?_of_block (h.block _ hp hL)
theorem Kept.frozen (h : Kept w w' L) {p : Addr} (hp : p.block < w.heap.size) (hL : ¬ L p.block) : w'.frozen? p = w.frozen? p := World.frozen?_of_block (h.block _ hp hL)
end

/-- a contract that leaves the world, for 'go_quiet' -/
theorem quiet_same {P : Program} {f : FuncId} {args : Array Value} {w : World} {v : Value} {n : Nat} (h : Calls P f args (w.drewN n) fun e w' => e = .returned v ∧ w.drewN n = w') : Calls P f args (w.drewN n) fun e w'' => e = .returned v ∧ ∃ m, w'' = w.drewN m :=
  h.mono fun _ _ ⟨he, hw⟩ => ⟨he, n, hw.symm⟩

/-! ### a region that draws its order: S made stronger on the way -/
theorem wpAnyH_strong {P : Program} {md : Region.Mode} {ops : Array Oper} {Q : Exit → Act → World → Prop} {S S' : World → Prop} (hS : ∀ w, S' w → S w) :
    ∀ {fuel : Nat} {listed : Array Bool} {a : Act} {w : World}, wpAnyH P md ops Q S' fuel listed a w → wpAnyH P md ops Q S fuel listed a w
  | 0, _, _, _, h => h
  | _ + 1, _, _, _, h => ⟨h.1, fun i hi => wpOp_mono (fun _ _ h' => ⟨hS _ h'.1, wpAnyH_strong hS h'.2⟩) (h.2 i hi)⟩

/-- an operation whose guard says yes -/
theorem wpList_wanted {P : Program} {ops : Array Oper} {rest : List Oper} {o : Oper} {a : Act} {w : World} {Q : Exit → Act → World → Prop} (hw : Region.wanted o (yielded ops a.tmps) = true)
    (h : ∀ K, (∀ a w, wpList P ops Q rest a w → K a w) → o.wp P a w K Q) : wpList P ops Q (o :: rest) a w := by
  refine wpList_step fun K hK => ?_
  rw [if_pos hw]
  exact h K hK
theorem wpList_load_midg {P : Program} {ops : Array Oper} {rest : List Oper} {op : Oper} {a : Act} {w : World} {Q : Exit → Act → World → Prop} (hw : Region.wanted op (yielded ops a.tmps) = true) (ty : TypeId) (x : Operand) (ho : op.op = .load ty x)
    (b o : Nat) (hx : a.eval x = .pointer (some ⟨b, o, none⟩)) (cs : List Value) (d : TypeDesc) (hc : w.rangeAt b o cs)
    (hu : P.underlying ty = some d) (hd : d.isRow = true) (hi : (P.info? ty).map (·.size) = some cs.length)
    (h : wpList P ops Q rest (a.put op.dst (.agg cs.toArray)) w) : wpList P ops Q (op :: rest) a w :=
  wpList_wanted hw fun _ hK => wp_load_mid ty x ho b o hx cs d hc hu hd hi (hK _ _ h)

def nthOp : List Oper → Nat → Option Oper
  | [], _ => none
  | o :: _, 0 => some o
  | _ :: l, n + 1 => nthOp l n
theorem nthOp_eq : ∀ (l : List Oper) (i : Nat), nthOp l i = l[i]?
  | [], _ => rfl
  | _ :: _, 0 => rfl
  | _ :: l, n + 1 => by rw [List.getElem?_cons_succ]; exact nthOp_eq l n
section
variable {P : Program} {md : Region.Mode} {l : List Oper} {Q : Exit → Act → World → Prop} {S : World → Prop}
/-- 'wpAnyH_take', the operation told as it is written -/
theorem takeH (i : Nat) {oi : Oper} (v : Value) {fuel : Nat} {listed : Array Bool} {a : Act} {w : World} (hi : nthOp l i = some oi)
    (hs : Region.noSelect l.toArray = true) (hf : Region.free md l.toArray listed i = true) (hr : (Region.ready md l.toArray listed).contains i = true)
    (hQ : ∀ c a w, Q (.panic c) (a.put oi.dst v) w → Q (.panic c) a w) (hw : Region.wanted oi (yielded l.toArray a.tmps) = true) (hS : S w) (hy : ∀ w, S w → (execOp a.eval oi).run P w = .ok (.value v) w)
    (h : wpAnyH P md l.toArray Q S fuel (listed.setIfInBounds i true) (a.put oi.dst v) w) : wpAnyH P md l.toArray Q S (fuel + 1) listed a w :=
  wpAnyH_take (by rw [List.getElem?_toArray, ← nthOp_eq]; exact hi) hs hf hr hQ (.inl ⟨hw, hy⟩) hS h
theorem skipH (i : Nat) {oi : Oper} {fuel : Nat} {listed : Array Bool} {a : Act} {w : World} (hi : nthOp l i = some oi)
    (hs : Region.noSelect l.toArray = true) (hf : Region.free md l.toArray listed i = true) (hr : (Region.ready md l.toArray listed).contains i = true)
    (hQ : ∀ c a w, Q (.panic c) (a.put oi.dst undef) w → Q (.panic c) a w) (hw : Region.wanted oi (yielded l.toArray a.tmps) = false) (hS : S w)
    (h : wpAnyH P md l.toArray Q S fuel (listed.setIfInBounds i true) (a.put oi.dst undef) w) : wpAnyH P md l.toArray Q S (fuel + 1) listed a w :=
  wpAnyH_take (by rw [List.getElem?_toArray, ← nthOp_eq]; exact hi) hs hf hr hQ (.inr ⟨hw, rfl⟩) hS h
/-- the one operation that may come up -/
theorem effH (i : Nat) {oi : Oper} {fuel : Nat} {listed : Array Bool} {a : Act} {w : World} (hi : nthOp l i = some oi) (hr : Region.ready md l.toArray listed = [i])
    (hw : Region.wanted oi (yielded l.toArray a.tmps) = true)
    (h : ∀ K' : Act → World → Prop, Shut (∀ a w, S w → (S w → wpAnyH P md l.toArray Q S fuel (listed.setIfInBounds i true) a w) → K' a w) → Oper.wp P oi a w K' Q) : wpAnyH P md l.toArray Q S (fuel + 1) listed a w :=
  wpAnyH_ready hr (by simp) (AllReadyH.cons (by rw [List.getElem?_toArray, ← nthOp_eq]; exact hi) (fun K hK => by rw [if_pos hw]; exact h K hK) AllReadyH.nil)
end

/-! ### arrays by value, in a region that only reads -/
section
variable {P : Program}
theorem wpStill_load_row {ops : Array Oper} {rest : List Oper} {o : Oper} {a : Act} {w : World} {Q : Act → Prop} (hgd : o.guard = none) (ty : TypeId) (x : Operand) (ho : o.op = .load ty x)
    (g : Nat) (hx : a.eval x = .pointer (some ⟨g, 0, none⟩)) (t : TypeId) (cs : Array Value) (fr : Nat × Nat) (d : TypeDesc) (hg : w.heap[g]? = some (.cells cs t fr))
    (hu : P.underlying ty = some d) (hd : (match d with | .struct _ | .array _ _ => true | _ => false) = true) (hi : (P.info? ty).map (·.size) = some cs.size)
    (h : wpStill P ops w Q rest (a.put o.dst (.agg cs))) : wpStill P ops w Q (o :: rest) a := by
  refine wpStill_step fun K hK => ?_
  simp only [Region.wanted, hgd, if_true]
  unfold Oper.still execOp
  simp only [ho, hx, Instr.loadAt, Instr.sureAddr, Sem.run_bind, Sem.run_pure, Result.andThen_ok, run_loadVar_row w g t ty cs fr d hg hu hd hi, Oper.stillUpon]
  exact ⟨trivial, hK _ h⟩
end
end Go.Proofs.YtibkngjacdggpaaDoor
/- Slices of bytes: what they read, what a call owns, append, conversion to a string. -/
namespace Go.Proofs.YtibkngjacdggpaaDoor
open Go.RowKit

theorem Tryd.infoByte : (Tryd.prog.info? 5).map (fun i => (i.zero, i.size, i.bytes)) = some (some (.int .u8 0), 1, 1) := by kernel_rfl

/-- A byte as a cell. -/
def bc (x : UInt8) : Value := .int .u8 x.toNat
def bcs (l : List UInt8) : List Value := l.map bc
@[simp] theorem length_bcs (l : List UInt8) : (bcs l).length = l.length := by simp [bcs]
theorem bcs_append (a b : List UInt8) : bcs (a ++ b) = bcs a ++ bcs b := by simp [bcs]
theorem bcs_get (l : List UInt8) (j : Nat) : (bcs l)[j]? = l[j]?.map bc := by simp [bcs]
theorem bcs_one {l : List UInt8} : ∀ u ∈ bcs l, u.oneCell' = true := by
  intro u hu
  simp only [bcs, List.mem_map] at hu
  obtain ⟨b, _, rfl⟩ := hu
  rfl
theorem bcs_inj {a b : List UInt8} (h : bcs a = bcs b) : a = b := by
  have hi : Function.Injective bc := by
    intro x y hxy
    simp only [bc, Value.int.injEq, true_and] at hxy
    exact UInt8.toNat_inj.1 (by omega)
  exact List.map_inj_right (fun x y h => hi h) |>.1 h
theorem strCells_bcs (s : ByteArray) : Lib.strCells s = bcs s.data.toList := rfl

/-- The slice at A reads the bytes xs; they lie in block g. -/
def RB (w : World) (g : Nat) (A : Option Addr) (xs : List UInt8) : Prop :=
  xs ≠ [] → ∃ o, A = some ⟨g, o, none⟩ ∧ ∀ j, j < xs.length → w.cell? ⟨g, o + j, none⟩ = some (bc (xs.getD j 0))
/-- The value v owns a row of just the bytes xs. -/
def OB (w : World) (v : Value) (xs : List UInt8) : Prop := w.ownsRow 0 5 1 v xs.length (bcs xs)
/-- v' lies where v lay, or in new memory. -/
def Place (n : Nat) (v v' : Value) : Prop := v'.ownBlock = v.ownBlock ∨ ∃ g, n ≤ g ∧ v'.ownBlock = some g

section
variable {w w' w1 : World} {g : Nat} {A : Option Addr} {xs ys : List UInt8} {v v' v1 : Value} {L : Nat → Prop}
theorem RB.nil (w : World) (g : Nat) (A : Option Addr) : RB w g A [] := fun h => absurd rfl h
theorem RB.kept (h : RB w g A xs) (hk : Kept w w' L) (hg : ¬ L g) : RB w' g A xs := fun hx => by
  obtain ⟨o, ho, hc⟩ := h hx
  have h0 := hc 0 (List.length_pos_iff.2 hx)
  refine ⟨o, ho, fun j hj => ?_⟩
  have hlt := block_lt_of_cell (hc j hj)
  rw [hk.cell hlt hg]
  exact hc j hj
theorem RB.lt (h : RB w g A xs) (hx : xs ≠ []) : g < w.heap.size := by
  obtain ⟨o, ho, hc⟩ := h hx
  exact block_lt_of_cell (hc 0 (List.length_pos_iff.2 hx))
theorem RB.drew (h : RB w g A xs) : RB w.drew g A xs := h
theorem RB.drewN (h : RB w g A xs) (n : Nat) : RB (w.drewN n) g A xs := h
theorem RB.alloc (h : RB w g A xs) (o : Obj) : RB (w.alloc o) g A xs := h.kept ((Kept.refl w No).alloc o) (fun h => h)
theorem RB.far (h : RB w g A xs) {p : Addr} (hp : g ≠ p.block) (u : Value) : RB (w.setCell p u) g A xs := h.kept ((Kept.refl w (· = p.block)).set_ (Or.inl rfl) u) hp
theorem add_plain (g o j : Nat) : (⟨g, o, none⟩ : Addr).add j = ⟨g, o + j, none⟩ := by unfold Addr.add; split <;> simp_all
/-- s[k:] -/
theorem RB.drop (h : RB w g A xs) {k c : Nat} (hk : k ≤ xs.length) (hc : xs.length ≤ c) : RB w g (if c = k then A else A.map (·.add k)) (xs.drop k) := fun hx => by
  have hlen : 0 < (xs.drop k).length := List.length_pos_iff.2 hx
  rw [List.length_drop] at hlen
  obtain ⟨o, ho, hcell⟩ := h (by intro e; rw [e] at hlen; simp at hlen)
  rw [if_neg (by omega), ho]
  refine ⟨o + k, by simp [add_plain], fun j hj => ?_⟩
  rw [List.length_drop] at hj
  have := hcell (k + j) (by omega)
  rw [Nat.add_assoc, this]
  congr 2
  simp [List.getD]
/-- s[:k] -/
theorem RB.take (h : RB w g A xs) (k : Nat) : RB w g A (xs.take k) := fun hx => by
  obtain ⟨o, ho, hcell⟩ := h (by intro e; rw [e] at hx; simp at hx)
  refine ⟨o, ho, fun j hj => ?_⟩
  rw [List.length_take] at hj
  rw [hcell j (by omega)]
  congr 2
  have : j < k := by omega
  simp [List.getD, this]
/-- a block that is just bytes -/
theorem RB.of_blk {t : TypeId} {cs : Array Value} (h : Blk w g t cs) (hcs : cs = (bcs xs).toArray) : RB w g (some ⟨g, 0, none⟩) xs := fun _ => by
  refine ⟨0, rfl, fun j hj => ?_⟩
  rw [h.cell, hcs]
  simp [bcs, List.getD, hj]
theorem RB.cell (h : RB w g A xs) {j : Nat} (hj : j < xs.length) : ∃ o, A = some ⟨g, o, none⟩ ∧ w.cell? ⟨g, o + j, none⟩ = some (bc (xs.getD j 0)) := by
  obtain ⟨o, ho, hc⟩ := h (by intro e; subst e; simp at hj)
  exact ⟨o, ho, hc j hj⟩
theorem RB.cells (h : RB w g A xs) {ad : Addr} (hA : A = some ad) : ∀ j u, (bcs xs)[j]? = some u → w.cell? (ad.add j) = some u := fun j u hu => by
  rw [bcs_get] at hu
  obtain ⟨x, hx, rfl⟩ := Option.map_eq_some_iff.1 hu
  obtain ⟨hj, rfl⟩ := List.getElem?_eq_some_iff.1 hx
  obtain ⟨o, ho, hc⟩ := h.cell hj
  rw [hA] at ho
  cases ho
  rw [add_plain, hc]
  simp [List.getD, hj]

theorem OB.nil (w : World) : OB w (.slice none 0 0) [] := World.ownsRow_nil w 0 5 1
theorem OB.form (h : OB w v xs) : ∃ A n c, v = .slice A n c ∧ Hid (n = xs.length) ∧ n ≤ c ∧ RB w (v.ownBlock.getD 0) A xs ∧ Hid (v.ownBlock = none → A = none ∧ xs = []) := by
  rcases h.2 with ⟨rfl, h0⟩ | ⟨g, cap, cur, rfl, _, hg, h1, h2, h3, h4⟩
  · have : xs = [] := List.eq_nil_of_length_eq_zero h0
    subst this
    exact ⟨none, 0, 0, rfl, rfl, Nat.le_refl _, RB.nil _ _ _, fun _ => ⟨rfl, rfl⟩⟩
  · refine ⟨some ⟨g, 0, none⟩, _, cap, rfl, rfl, h1, ?_, fun h => by simp [Value.ownBlock] at h⟩
    intro hx
    refine ⟨0, rfl, fun j hj => ?_⟩
    simp only [Value.ownBlock, Option.getD_some]
    rw [Nat.zero_add, cell_of_row w g j cur 5 (0, 0) hg]
    have := congrArg (·[j]?) h4
    simp only [Nat.mul_one, List.getElem?_take, hj, if_true, bcs_get] at this
    rw [← Array.getElem?_toList, this]
    simp [List.getD, hj]
theorem OB.grown {row : Option Nat} (h : OB w v xs) (hg : w.grownBy w' row) (hn : v.ownBlock = none ∨ v.ownBlock ≠ row) : OB w' v xs := World.ownsRow.kept h hg hn
theorem OB.alloc (h : OB w v xs) (o : Obj) : OB (w.alloc o) v xs := World.ownsRow.alloc h o
theorem OB.drew (h : OB w v xs) : OB w.drew v xs := h
theorem OB.drewN (h : OB w v xs) (n : Nat) : OB (w.drewN n) v xs := h
theorem OB.kept (h : OB w v xs) (hk : Kept w w' L) (hg : ∀ k, v.ownBlock = some k → ¬ L k) : OB w' v xs := by
  refine ⟨h.1, ?_⟩
  rcases h.2 with hn | ⟨g, cap, cur, rfl, hb, hgg, rest⟩
  · exact .inl hn
  · refine .inr ⟨g, cap, cur, rfl, hb, ?_, rest⟩
    rw [hk.block g (lt_of_heap hgg) (hg g (by simp [Value.ownBlock]))]
    exact hgg
theorem OB.far (h : OB w v xs) {p : Addr} (hp : ∀ k, v.ownBlock = some k → k ≠ p.block) (u : Value) : OB (w.setCell p u) v xs := h.kept ((Kept.refl w (· = p.block)).set_ (Or.inl rfl) u) hp
theorem OB.blk_ne {t : TypeId} {cs : Array Value} (h : OB w v xs) (hb : Blk w g t cs) (ht : t ≠ 5) : ∀ k, v.ownBlock = some k → k ≠ g := by
  rcases h.2 with ⟨rfl, _⟩ | ⟨g', cap, cur, rfl, _, hgg, _⟩
  · simp [Value.ownBlock]
  · intro k hk hkg
    have : g' = g := by simp [Value.ownBlock] at hk; omega
    subst this
    exact Blk.ne_ (t := 5) hgg hb (fun e => ht e.symm) rfl
theorem OB.lt (h : OB w v xs) : ∀ k, v.ownBlock = some k → k < w.heap.size := by
  rcases h.2 with ⟨rfl, _⟩ | ⟨g', cap, cur, rfl, _, hgg, _⟩
  · simp [Value.ownBlock]
  · intro k hk
    simp [Value.ownBlock] at hk
    subst hk
    exact lt_of_heap hgg
/-- A new block of just these bytes is owned. -/
theorem OB.new (w : World) (xs : List UInt8) (h : xs.length ≤ maxLen) : OB (w.alloc (.cells (bcs xs).toArray 5)) (.slice (some ⟨w.heap.size, 0, none⟩) xs.length xs.length) xs :=
  ⟨by simp, .inr ⟨w.heap.size, xs.length, (bcs xs).toArray, rfl, Nat.zero_le _, heap_alloc_new w _, Nat.le_refl _, h, by simp, by simp [List.take_of_length_le]⟩⟩

theorem Place.refl (n : Nat) (v : Value) : Place n v v := .inl rfl
theorem Place.trans {n n1 : Nat} (h : Place n v v1) (h' : Place n1 v1 v') (hn : n ≤ n1) : Place n v v' := by
  rcases h' with e | ⟨g, hg, e⟩
  · rcases h with e1 | ⟨g, hg, e1⟩
    · exact .inl (e.trans e1)
    · exact .inr ⟨g, hg, e.trans e1⟩
  · exact .inr ⟨g, by omega, e⟩
theorem Place.ne_ {n : Nat} (h : Place n v v') {k : Nat} (hk : k < n) (hv : ∀ j, v.ownBlock = some j → j ≠ k) : ∀ j, v'.ownBlock = some j → j ≠ k := by
  intro j hj
  rcases h with e | ⟨g, hg, e⟩
  · exact hv j (by rw [← e]; exact hj)
  · rw [e] at hj; cases hj; omega
end

/-! ### append -/
section
variable (w : World)
theorem run_app_b {P : Program} (t ty : TypeId) (ht : P.underlying t = some (.slice 5)) (hi : (P.info? 5).map (fun i => (i.zero, i.size, i.bytes)) = some (some (.int .u8 0), 1, 1))
    (v : Value) (xs : List UInt8) (hown : OB w v xs) (g : Nat) (A : Option Addr) (ys : List UInt8) (c : Nat) (hr : RB w g A ys) (hb : xs.length + ys.length ≤ 140737488355328) :
    ∃ v' w', (Builtin.append_ #[t, t] ty #[v, .slice A ys.length c]).run P w = .ok v' w' ∧ OB w' v' (xs ++ ys) ∧ Kept w w' (fun k => some k = v.ownBlock) ∧ Place w.heap.size v v' := by
  obtain ⟨i, hi, hz, hs, hby⟩ := info_parts hi
  by_cases hn : ys = []
  · subst hn
    refine ⟨v, w, ?_, by simpa using hown, Kept.refl _ _, Place.refl _ _⟩
    rcases hown.2 with ⟨rfl, _⟩ | ⟨g, cap, cur, rfl, _, hg, h1, _⟩
    · rcases A with _ | ad <;> simp [Builtin.append_, run_underlying ht, sizeOf, typeInfo, hi, Builtin.lenOf, Builtin.firstCells, loadCells, loadCellsFrom]
    · rcases A with _ | ad <;> simp [Builtin.append_, run_underlying ht, sizeOf, typeInfo, hi, Builtin.lenOf, Builtin.firstCells, loadCells, loadCellsFrom, h1, storeCells]
  · obtain ⟨o, rfl, hc⟩ := hr hn
    obtain ⟨v', w', hrun, h2, h3, _, h5⟩ := run_append_own_at (P := P) w 0 t ty 5 i _ 1 1 ht hi hz hs hby rfl (by omega) v xs.length (bcs xs) hown ⟨g, o, none⟩ ys.length c (bcs ys) (by simp)
      (hr.cells rfl) bcs_one (by simp only [maxLen]; omega) (by omega) (Nat.zero_le _)
    refine ⟨v', w', hrun, ?_, ⟨h3.os, h3.tape, h3.output, h3.size, fun k hk hS => h3.block k hk hS⟩, ?_⟩
    · unfold OB
      rw [List.length_append, bcs_append]
      exact h2
    · rcases h5 with e | e
      · exact .inl e
      · exact .inr ⟨_, Nat.le_refl _, e⟩
theorem run_app_s {P : Program} (t u ty : TypeId) (ht : P.underlying t = some (.slice 5)) (hu : P.underlying u = some .string) (hi : (P.info? 5).map (fun i => (i.zero, i.size, i.bytes)) = some (some (.int .u8 0), 1, 1))
    (v : Value) (xs : List UInt8) (hown : OB w v xs) (s : ByteArray) (hb : xs.length + s.size ≤ 140737488355328) :
    ∃ v' w', (Builtin.append_ #[t, u] ty #[v, .string s]).run P w = .ok v' w' ∧ OB w' v' (xs ++ s.data.toList) ∧ Kept w w' (fun k => some k = v.ownBlock) ∧ Place w.heap.size v v' := by
  obtain ⟨i, hi, hz, hs, hby⟩ := info_parts hi
  obtain ⟨v', w', hrun, h2, h3, h4⟩ := Lib.run_append_own_string (P := P) w 0 t u ty 5 i ht hu hi hz hs hby v xs.length (bcs xs) hown s (by simp only [maxLen]; omega) hb (Nat.zero_le _)
  refine ⟨v', w', hrun, ?_, ⟨h3.os, h3.tape, h3.output, h3.size, fun k hk hS => h3.block k hk hS⟩, ?_⟩
  · unfold OB
    rw [List.length_append, bcs_append, Array.length_toList]
    exact h2
  · rcases hown.2 with ⟨rfl, h0⟩ | ⟨g, cap, cur, rfl, _, hg, hn, _, hcs, _⟩
    · by_cases hm : s.size = 0
      · obtain rfl := h4.2 ⟨rfl, hm⟩
        exact Place.refl _ _
      · have hr := run_append_nil_string (P := P) w t u ty 5 i (.int .u8 0) ht hu hi hz s (by omega) (by omega) (by rw [hby]; omega)
        rw [hrun] at hr
        cases hr
        exact .inr ⟨_, Nat.le_refl _, by simp [Value.ownBlock]⟩
    · by_cases hroom : xs.length + s.size ≤ cap
      · have hr := Lib.run_append_room_string (P := P) w t u ty 5 i ht hu hi hs g xs.length cap cur hg s hroom (by omega)
        rw [hrun] at hr
        cases hr
        exact .inl (by simp [Value.ownBlock])
      · have hr := Lib.run_append_grow_string (P := P) w t u ty 5 i (.int .u8 0) ht hu hi hz ⟨g, 0, none⟩ xs.length cap (bcs xs) (by rw [hs]; simp) (World.ownsRow.cells hown (g := g) rfl) s (by omega) (by omega) (by rw [hby]; exact growslice_fits (by omega) (by omega))
        rw [hrun] at hr
        cases hr
        exact .inr ⟨_, Nat.le_refl _, by simp [Value.ownBlock]⟩

theorem wp_app_b {P : Program} {o : Oper} {a : Act} {K : Act → World → Prop} {Q : Exit → Act → World → Prop} (s x : Operand) (t : TypeId)
    (ho : o.op = .call { callee := .builtin .append, args := #[s, x], argTypes := #[t, t] }) (ht : P.underlying t = some (.slice 5)) (hi : (P.info? 5).map (fun i => (i.zero, i.size, i.bytes)) = some (some (.int .u8 0), 1, 1))
    (v : Value) (xs : List UInt8) (hown : OB w v xs) (hs : a.eval s = v) (g : Nat) (A : Option Addr) (ys : List UInt8) (n c : Nat) (hn : n = ys.length) (hx : a.eval x = .slice A n c) (hr : RB w g A ys) (hb : xs.length + ys.length ≤ 140737488355328)
    (h : ∀ v' w', OB w' v' (xs ++ ys) → Kept w w' (fun k => some k = v.ownBlock) → Place w.heap.size v v' → K (a.put o.dst v') w') : o.wp P a w K Q := by
  subst hn
  obtain ⟨v', w', hrun, h2, h3, h4⟩ := run_app_b w t o.type ht hi v xs hown g A ys c hr hb
  unfold Oper.wp execOp
  simp only [ho, resolve, invoke, builtin, Sem.run_bind, Sem.run_pure, Result.andThen_ok, List.map_toArray, List.map_cons, List.map_nil, hs, hx, hrun]
  exact h v' w' h2 h3 h4
theorem wpList_app_b {P : Program} {ops : Array Oper} {rest : List Oper} {o : Oper} {a : Act} {Q : Exit → Act → World → Prop} (hgd : o.guard = none) (s x : Operand) (t : TypeId)
    (ho : o.op = .call { callee := .builtin .append, args := #[s, x], argTypes := #[t, t] }) (ht : P.underlying t = some (.slice 5)) (hi : (P.info? 5).map (fun i => (i.zero, i.size, i.bytes)) = some (some (.int .u8 0), 1, 1))
    (v : Value) (xs : List UInt8) (hown : OB w v xs) (hs : a.eval s = v) (g : Nat) (A : Option Addr) (ys : List UInt8) (n c : Nat) (hn : n = ys.length) (hx : a.eval x = .slice A n c) (hr : RB w g A ys) (hb : xs.length + ys.length ≤ 140737488355328)
    (h : ∀ v' w', OB w' v' (xs ++ ys) → Kept w w' (fun k => some k = v.ownBlock) → Place w.heap.size v v' → wpList P ops Q rest (a.put o.dst v') w') : wpList P ops Q (o :: rest) a w :=
  wpList_plain hgd fun _ hK => wp_app_b w s x t ho ht hi v xs hown hs g A ys n c hn hx hr hb fun v' w' h2 h3 h4 => hK _ _ (h v' w' h2 h3 h4)
theorem step_app_b {P : Program} {ops : Array Oper} {o : Oper} {a : Act} {K : Act → World → Prop} {Q : Exit → Act → World → Prop} {E : Prop} (hgd : o.guard = none) (s x : Operand) (t : TypeId)
    (ho : o.op = .call { callee := .builtin .append, args := #[s, x], argTypes := #[t, t] }) (ht : P.underlying t = some (.slice 5)) (hi : (P.info? 5).map (fun i => (i.zero, i.size, i.bytes)) = some (some (.int .u8 0), 1, 1))
    (v : Value) (xs : List UInt8) (hown : OB w v xs) (hs : a.eval s = v) (g : Nat) (A : Option Addr) (ys : List UInt8) (n c : Nat) (hn : n = ys.length) (hx : a.eval x = .slice A n c) (hr : RB w g A ys) (hb : xs.length + ys.length ≤ 140737488355328)
    (h : ∀ v' w', OB w' v' (xs ++ ys) → Kept w w' (fun k => some k = v.ownBlock) → Place w.heap.size v v' → K (a.put o.dst v') w') :
    if Region.wanted o (yielded ops a.tmps) = true then Oper.wp P o a w K Q else E := by
  have hw : Region.wanted o (yielded ops a.tmps) = true := by simp [Region.wanted, hgd]
  rw [if_pos hw]
  exact wp_app_b w s x t ho ht hi v xs hown hs g A ys n c hn hx hr hb h
theorem wp_app_s {P : Program} {o : Oper} {a : Act} {K : Act → World → Prop} {Q : Exit → Act → World → Prop} (s x : Operand) (t u : TypeId)
    (ho : o.op = .call { callee := .builtin .append, args := #[s, x], argTypes := #[t, u] }) (ht : P.underlying t = some (.slice 5)) (hu : P.underlying u = some .string) (hi : (P.info? 5).map (fun i => (i.zero, i.size, i.bytes)) = some (some (.int .u8 0), 1, 1))
    (v : Value) (xs : List UInt8) (hown : OB w v xs) (hs : a.eval s = v) (str : ByteArray) (hx : a.eval x = .string str) (hb : xs.length + str.size ≤ 140737488355328)
    (h : ∀ v' w', OB w' v' (xs ++ str.data.toList) → Kept w w' (fun k => some k = v.ownBlock) → Place w.heap.size v v' → K (a.put o.dst v') w') : o.wp P a w K Q := by
  obtain ⟨v', w', hrun, h2, h3, h4⟩ := run_app_s w t u o.type ht hu hi v xs hown str hb
  unfold Oper.wp execOp
  simp only [ho, resolve, invoke, builtin, Sem.run_bind, Sem.run_pure, Result.andThen_ok, List.map_toArray, List.map_cons, List.map_nil, hs, hx, hrun]
  exact h v' w' h2 h3 h4
theorem wpList_app_s {P : Program} {ops : Array Oper} {rest : List Oper} {o : Oper} {a : Act} {Q : Exit → Act → World → Prop} (hgd : o.guard = none) (s x : Operand) (t u : TypeId)
    (ho : o.op = .call { callee := .builtin .append, args := #[s, x], argTypes := #[t, u] }) (ht : P.underlying t = some (.slice 5)) (hu : P.underlying u = some .string) (hi : (P.info? 5).map (fun i => (i.zero, i.size, i.bytes)) = some (some (.int .u8 0), 1, 1))
    (v : Value) (xs : List UInt8) (hown : OB w v xs) (hs : a.eval s = v) (str : ByteArray) (hx : a.eval x = .string str) (hb : xs.length + str.size ≤ 140737488355328)
    (h : ∀ v' w', OB w' v' (xs ++ str.data.toList) → Kept w w' (fun k => some k = v.ownBlock) → Place w.heap.size v v' → wpList P ops Q rest (a.put o.dst v') w') : wpList P ops Q (o :: rest) a w :=
  wpList_plain hgd fun _ hK => wp_app_s w s x t u ho ht hu hi v xs hown hs str hx hb fun v' w' h2 h3 h4 => hK _ _ (h v' w' h2 h3 h4)
theorem step_app_s {P : Program} {ops : Array Oper} {o : Oper} {a : Act} {K : Act → World → Prop} {Q : Exit → Act → World → Prop} {E : Prop} (hgd : o.guard = none) (s x : Operand) (t u : TypeId)
    (ho : o.op = .call { callee := .builtin .append, args := #[s, x], argTypes := #[t, u] }) (ht : P.underlying t = some (.slice 5)) (hu : P.underlying u = some .string) (hi : (P.info? 5).map (fun i => (i.zero, i.size, i.bytes)) = some (some (.int .u8 0), 1, 1))
    (v : Value) (xs : List UInt8) (hown : OB w v xs) (hs : a.eval s = v) (str : ByteArray) (hx : a.eval x = .string str) (hb : xs.length + str.size ≤ 140737488355328)
    (h : ∀ v' w', OB w' v' (xs ++ str.data.toList) → Kept w w' (fun k => some k = v.ownBlock) → Place w.heap.size v v' → K (a.put o.dst v') w') :
    if Region.wanted o (yielded ops a.tmps) = true then Oper.wp P o a w K Q else E := by
  have hw : Region.wanted o (yielded ops a.tmps) = true := by simp [Region.wanted, hgd]
  rw [if_pos hw]
  exact wp_app_s w s x t u ho ht hu hi v xs hown hs str hx hb h

/-- string(b) -/
def strOf (xs : List UInt8) : ByteArray := ⟨xs.toArray⟩
theorem strOf_toList (xs : List UInt8) : (strOf xs).data.toList = xs := by simp [strOf]
theorem strOf_list (xs : List UInt8) : (strOf xs).toList = xs := by rw [ByteArray.toList_eq, strOf_toList]
theorem strOf_size (xs : List UInt8) : (strOf xs).size = xs.length := by simp [strOf, ByteArray.size]
theorem run_conv_str {P : Program} (src dst : TypeId) (hs : P.underlying src = some (.slice 5)) (he : P.underlying 5 = some (.int .u8)) (hd : P.underlying dst = some .string)
    (g : Nat) (A : Option Addr) (xs : List UInt8) (n c : Nat) (hn : n = xs.length) (h : RB w g A xs) : (convert src dst (.slice A n c)).run P w = .ok (.string (strOf xs)) w := by
  subst hn
  by_cases hx : xs = []
  · subst hx
    rcases A with _ | ad
    · exact run_convert_bytes_nil w src 5 hs he 0 c dst hd
    · rw [run_convert_bytes_string w src dst 5 _ _ c hs he hd]
      simp [Conv.bytesToString, loadCells, loadCellsFrom, strOf]
      rfl
  · obtain ⟨o, rfl, hc⟩ := h hx
    have := run_convert_bytes_arg (P := P) w src 5 hs he g o xs.length c (xs.map fun x => (x.toNat : Int)) (by simp) (fun i hi => by
      rw [hc i hi]
      simp [bc, List.getD, hi]) dst hd
    rw [this]
    congr 2
    simp [strOfNums, strOf, Function.comp_def]
end
theorem bc_byte (n : Nat) : bc (UInt8.ofNat n) = .int .u8 ((n : Int) % 256) := by
  simp [bc, UInt8.toNat_ofNat']

theorem bc_shr (n m : Nat) : bc (UInt8.ofNat (n / 2 ^ m)) = .int .u8 ((n : Int) / 2 ^ m % 256) := by
  rw [bc_byte]; simp
theorem RB.of_byte {w : World} {t : TypeId} {x : UInt8} {c : Value} (h : c = bc x) : RB (w.alloc (.cells #[c] t)) w.heap.size (some ⟨w.heap.size, 0, none⟩) [x] := RB.of_blk (Blk.new w t #[c]) (by simp [bcs, h])
end Go.Proofs.YtibkngjacdggpaaDoor
/- Whole arrays by value, and copy. -/
namespace Go.Proofs.YtibkngjacdggpaaDoor
open Go.RowKit

theorem RB.of_range {w : World} {g o : Nat} {xs : List UInt8} (h : w.rangeAt g o (bcs xs)) : RB w g (some ⟨g, o, none⟩) xs := fun _ => ⟨o, rfl, fun j hj => h j _ (by simp [bcs, List.getD, hj])⟩
theorem RB.range {w : World} {g o g' : Nat} {xs : List UInt8} (h : RB w g (some ⟨g', o, none⟩) xs) : w.rangeAt g' o (bcs xs) := fun j v hv => by
  have := h.cells rfl j v hv
  rwa [add_plain] at this
theorem Blk.range {w : World} {g : Nat} {t : TypeId} {cs : Array Value} (h : Blk w g t cs) : w.rangeAt g 0 cs.toList := fun j v hv => by
  rw [Nat.zero_add, h.cell]
  simpa using hv
theorem rangeAt_kept {w w' : World} {g o : Nat} {cs : List Value} {L : Nat → Prop} (h : w.rangeAt g o cs) (hk : Kept w w' L) (hg : ¬ L g) : w'.rangeAt g o cs := fun j v hv => by
  have := h j v hv
  rw [hk.cell (block_lt_of_cell this) hg]
  exact this

/-- cs laid over cur from place o on -/
def putA (cur : Array Value) (o : Nat) (cs : List Value) : Array Value := (cur.toList.take o ++ cs ++ cur.toList.drop (o + cs.length)).toArray
theorem size_putA (cur : Array Value) (o : Nat) (cs : List Value) (h : o + cs.length ≤ cur.size) : (putA cur o cs).size = cur.size := by
  simp [putA]; omega
theorem putA_nil (cur : Array Value) (o : Nat) : putA cur o [] = cur := by simp [putA]
theorem putA_all (cur : Array Value) (cs : List Value) (h : cs.length = cur.size) : putA cur 0 cs = cs.toArray := by
  simp [putA, List.drop_of_length_le, h]
theorem getElem?_putA (cur : Array Value) (o : Nat) (cs : List Value) (h : o + cs.length ≤ cur.size) (i : Nat) :
    (putA cur o cs)[i]? = if o ≤ i ∧ i < o + cs.length then cs[i - o]? else cur[i]? := by
  have ho : (cur.toList.take o).length = o := by simp; omega
  unfold putA
  rw [List.getElem?_toArray, List.append_assoc]
  by_cases h1 : i < o
  · rw [List.getElem?_append_left (by omega), if_neg (by omega)]
    simp [h1]
  · rw [List.getElem?_append_right (by omega), ho]
    by_cases h2 : i < o + cs.length
    · rw [if_pos (by omega), List.getElem?_append_left (by omega)]
    · rw [if_neg (by omega), List.getElem?_append_right (by omega), List.getElem?_drop, Array.getElem?_toList]
      congr 1; omega

section
variable {P : Program}
theorem setRow_blk {w : World} {g : Nat} {t : TypeId} {cur cs : Array Value} (h : Blk w g t cur) : Blk (w.setRow g cs) g t cs := setRow_heap w g cur cs t (0, 0) h
theorem setRow_kept (w : World) (g : Nat) (cs : Array Value) : Kept w (w.setRow g cs) (· = g) := ⟨rfl, rfl, rfl, by simp, fun k _ hS => setRow_other w g k cs hS⟩
theorem run_storeVar_blk (w : World) (g o : Nat) (t ty : TypeId) (cur cells : Array Value) (hg : Blk w g t cur) (hi : (P.info? ty).map (·.size) = some cells.size) (ho : o + cells.size ≤ cur.size) (h1 : ∀ v ∈ cells.toList, v.oneCell' = true) :
    (storeVar ty ⟨g, o, none⟩ (.agg cells)).run P w = .ok () (w.setRow g (putA cur o cells.toList)) := by
  have := run_storeCells_at P g o t cells.toList 0 cur w hg (by simpa using ho) h1
  cases hq : P.info? ty with
  | none => simp [hq] at hi
  | some i =>
    have hs : cells.size = i.size := by simp [hq] at hi; omega
    simp [storeVar, sizeOf, typeInfo, hq, Value.cells, hs, this, putA]
theorem wp_store_blk {o : Oper} {a : Act} {w : World} {K : Act → World → Prop} {Q : Exit → Act → World → Prop} (ty : TypeId) (x y : Operand) (ho : o.op = .store ty x y)
    (g off : Nat) (cells : Array Value) (hx : a.eval x = .pointer (some ⟨g, off, none⟩)) (hy : a.eval y = .agg cells) (t : TypeId) (cur : Array Value) (hg : Blk w g t cur) (hi : (P.info? ty).map (·.size) = some cells.size)
    (hfit : off + cells.size ≤ cur.size) (h1 : ∀ v ∈ cells.toList, v.oneCell' = true) (h : ∀ w', Blk w' g t (putA cur off cells.toList) → Kept w w' (· = g) → K (a.put o.dst undef) w') : o.wp P a w K Q := by
  unfold Oper.wp execOp
  simp only [ho, hx, hy, Instr.storeAt, Instr.sureAddr, Sem.run_bind, Sem.run_pure, Result.andThen_ok, run_storeVar_blk w g off t ty cur cells hg hi hfit h1]
  exact h _ (setRow_blk hg) (setRow_kept _ _ _)
theorem wpList_store_blk {ops : Array Oper} {rest : List Oper} {o : Oper} {a : Act} {w : World} {Q : Exit → Act → World → Prop} (hgd : o.guard = none) (ty : TypeId) (x y : Operand) (ho : o.op = .store ty x y)
    (g off : Nat) (cells : Array Value) (hx : a.eval x = .pointer (some ⟨g, off, none⟩)) (hy : a.eval y = .agg cells) (t : TypeId) (cur : Array Value) (hg : Blk w g t cur) (hi : (P.info? ty).map (·.size) = some cells.size)
    (hfit : off + cells.size ≤ cur.size) (h1 : ∀ v ∈ cells.toList, v.oneCell' = true) (h : ∀ w', Blk w' g t (putA cur off cells.toList) → Kept w w' (· = g) → wpList P ops Q rest (a.put o.dst undef) w') : wpList P ops Q (o :: rest) a w :=
  wpList_plain hgd fun _ hK => wp_store_blk ty x y ho g off cells hx hy t cur hg hi hfit h1 fun w' h2 h3 => hK _ _ (h w' h2 h3)

theorem run_copy_b (w : World) (dT sT ty : TypeId) (hu : P.underlying dT = some (.slice 5)) (hs : (P.info? 5).map (fun i => (i.zero, i.size, i.bytes)) = some (some (.int .u8 0), 1, 1))
    (g off : Nat) (dp : Option Addr) (dLen dCap : Nat) (t : TypeId) (cur : Array Value) (hg : Blk w g t cur) (gs : Nat) (A : Option Addr) (ys : List UInt8) (n c : Nat) (hn : n = ys.length) (hr : RB w gs A ys)
    (hd : 0 < min n dLen → dp = some ⟨g, off, none⟩) (hfit : off + min n dLen ≤ cur.size) :
    ∃ w', (Builtin.copy_ #[dT, sT] ty #[.slice dp dLen dCap, .slice A n c]).run P w = .ok (goInt (min n dLen : Nat)) w' ∧ Blk w' g t (putA cur off (bcs (ys.take dLen))) ∧ Kept w w' (· = g) := by
  subst hn
  have hsz : (P.info? 5).map (·.size) = some 1 := by
    obtain ⟨i, hi, _, h2, _⟩ := info_parts hs
    simp [hi, h2]
  by_cases h0 : min ys.length dLen = 0
  · have hrun := run_copy_none (P := P) w dT sT ty 5 dp A dLen dCap ys.length c hu hsz h0
    refine ⟨w, by rw [hrun, h0]; rfl, ?_, Kept.refl _ _⟩
    have : ys.take dLen = [] := List.eq_nil_of_length_eq_zero (by rw [List.length_take]; omega)
    rw [this]
    simpa [bcs, putA_nil] using hg
  · obtain rfl := hd (by omega)
    have hy : ys ≠ [] := by intro e; subst e; simp at h0
    obtain ⟨o, rfl, hc⟩ := hr hy
    have hl : (bcs (ys.take dLen)).length = Nat.min ys.length dLen := by
      simp only [length_bcs, List.length_take]
      exact Nat.min_comm _ _
    have hrun := run_copy_row (P := P) w dT sT ty 5 g off dLen dCap ⟨gs, o, none⟩ ys.length c cur t (bcs (ys.take dLen)) hu hsz hg hl (fun j v hj => by
      exact (hr.take dLen).cells rfl j v hj) (by rw [hl]; exact hfit) bcs_one
    refine ⟨_, ?_, setRow_blk hg, setRow_kept _ _ _⟩
    · rw [hrun]
      have e : (bcs (ys.take dLen)).length = min ys.length dLen := hl
      rw [e]
      unfold putA
      rw [e]
theorem wp_copy_b {o : Oper} {a : Act} {w : World} {K : Act → World → Prop} {Q : Exit → Act → World → Prop} (d s : Operand) (dT sT : TypeId)
    (ho : o.op = .call { callee := .builtin .copy, args := #[d, s], argTypes := #[dT, sT] }) (hu : P.underlying dT = some (.slice 5)) (hs : (P.info? 5).map (fun i => (i.zero, i.size, i.bytes)) = some (some (.int .u8 0), 1, 1))
    (g off : Nat) (dp : Option Addr) (dLen dCap : Nat) (hdv : a.eval d = .slice dp dLen dCap) (t : TypeId) (cur : Array Value) (hg : Blk w g t cur) (gs : Nat) (A : Option Addr) (ys : List UInt8) (n c : Nat) (hsv : a.eval s = .slice A n c) (hn : n = ys.length) (hr : RB w gs A ys)
    (hd : 0 < min n dLen → dp = some ⟨g, off, none⟩) (hfit : off + min n dLen ≤ cur.size)
    (h : ∀ w', Blk w' g t (putA cur off (bcs (ys.take dLen))) → Kept w w' (· = g) → K (a.put o.dst (.int .i64 (min n dLen : Nat))) w') : o.wp P a w K Q := by
  obtain ⟨w', hrun, h2, h3⟩ := run_copy_b (P := P) w dT sT o.type hu hs g off dp dLen dCap t cur hg gs A ys n c hn hr hd hfit
  unfold Oper.wp execOp
  simp only [ho, resolve, invoke, builtin, Sem.run_bind, Sem.run_pure, Result.andThen_ok, List.map_toArray, List.map_cons, List.map_nil, hdv, hsv, hrun]
  exact h w' h2 h3
theorem wpList_copy_b {ops : Array Oper} {rest : List Oper} {o : Oper} {a : Act} {w : World} {Q : Exit → Act → World → Prop} (hgd : o.guard = none) (d s : Operand) (dT sT : TypeId)
    (ho : o.op = .call { callee := .builtin .copy, args := #[d, s], argTypes := #[dT, sT] }) (hu : P.underlying dT = some (.slice 5)) (hs : (P.info? 5).map (fun i => (i.zero, i.size, i.bytes)) = some (some (.int .u8 0), 1, 1))
    (g off : Nat) (dp : Option Addr) (dLen dCap : Nat) (hdv : a.eval d = .slice dp dLen dCap) (t : TypeId) (cur : Array Value) (hg : Blk w g t cur) (gs : Nat) (A : Option Addr) (ys : List UInt8) (n c : Nat) (hsv : a.eval s = .slice A n c) (hn : n = ys.length) (hr : RB w gs A ys)
    (hd : 0 < min n dLen → dp = some ⟨g, off, none⟩) (hfit : off + min n dLen ≤ cur.size)
    (h : ∀ w', Blk w' g t (putA cur off (bcs (ys.take dLen))) → Kept w w' (· = g) → wpList P ops Q rest (a.put o.dst (.int .i64 (min n dLen : Nat))) w') : wpList P ops Q (o :: rest) a w :=
  wpList_plain hgd fun _ hK => wp_copy_b d s dT sT ho hu hs g off dp dLen dCap hdv t cur hg gs A ys n c hsv hn hr hd hfit fun w' h2 h3 => hK _ _ (h w' h2 h3)
theorem step_copy_b {ops : Array Oper} {o : Oper} {a : Act} {w : World} {K : Act → World → Prop} {Q : Exit → Act → World → Prop} {E : Prop} (hgd : o.guard = none) (d s : Operand) (dT sT : TypeId)
    (ho : o.op = .call { callee := .builtin .copy, args := #[d, s], argTypes := #[dT, sT] }) (hu : P.underlying dT = some (.slice 5)) (hs : (P.info? 5).map (fun i => (i.zero, i.size, i.bytes)) = some (some (.int .u8 0), 1, 1))
    (g off : Nat) (dp : Option Addr) (dLen dCap : Nat) (hdv : a.eval d = .slice dp dLen dCap) (t : TypeId) (cur : Array Value) (hg : Blk w g t cur) (gs : Nat) (A : Option Addr) (ys : List UInt8) (n c : Nat) (hsv : a.eval s = .slice A n c) (hn : n = ys.length) (hr : RB w gs A ys)
    (hd : 0 < min n dLen → dp = some ⟨g, off, none⟩) (hfit : off + min n dLen ≤ cur.size)
    (h : ∀ w', Blk w' g t (putA cur off (bcs (ys.take dLen))) → Kept w w' (· = g) → K (a.put o.dst (.int .i64 (min n dLen : Nat))) w') :
    if Region.wanted o (yielded ops a.tmps) = true then Oper.wp P o a w K Q else E := by
  have hw : Region.wanted o (yielded ops a.tmps) = true := by simp [Region.wanted, hgd]
  rw [if_pos hw]
  exact wp_copy_b d s dT sT ho hu hs g off dp dLen dCap hdv t cur hg gs A ys n c hsv hn hr hd hfit h
end

/-! ### a slice literal of one whole element -/
theorem getElem?_foldl_set : ∀ (l : List Value) (k : Nat) (acc : Array Value) (i : Nat), ((l.zipIdx k).foldl (fun cs p => cs.setIfInBounds p.2 p.1) acc)[i]? = if k ≤ i ∧ i < k + l.length ∧ i < acc.size then l[i - k]? else acc[i]?
  | [], k, acc, i => by
    have : ¬ (k ≤ i ∧ i < k + ([] : List Value).length ∧ i < acc.size) := by simp; omega
    rw [if_neg this]; rfl
  | v :: l, k, acc, i => by
    rw [List.zipIdx_cons, List.foldl_cons, getElem?_foldl_set l (k + 1) _ i]
    simp only [Array.size_setIfInBounds, List.length_cons, Array.getElem?_setIfInBounds]
    by_cases h1 : k + 1 ≤ i ∧ i < k + 1 + l.length ∧ i < acc.size
    · rw [if_pos h1, if_pos (by omega)]
      have : i - k = (i - (k + 1)) + 1 := by omega
      rw [this, List.getElem?_cons_succ]
    · rw [if_neg h1]
      by_cases h2 : k = i
      · subst h2
        by_cases h3 : k < acc.size
        · rw [if_pos rfl, if_pos h3, if_pos (by omega)]; simp
        · rw [if_pos rfl, if_neg h3, if_neg (by omega)]
          rw [Array.getElem?_eq_none (by omega)]
      · rw [if_neg h2, if_neg (by omega)]
theorem fill_all (place : Nat → Option (Nat × Nat)) (zero cs : Array Value) (hp : place 0 = some (0, cs.size)) (h : zero.size = cs.size) : Instr.fill place zero [(0, .agg cs)] = some cs := by
  unfold Instr.fill
  rw [hp]
  simp only [Value.cells, Nat.zero_add, ne_eq, not_true, h, Nat.lt_irrefl, decide_false, Bool.or_self, Bool.false_eq_true, if_false, gt_iff_lt]
  unfold Instr.fill
  congr 1
  apply Array.ext_getElem?
  intro i
  have e : cs.zipIdx.foldl (fun acc (p : Value × Nat) => acc.setIfInBounds p.2 p.1) zero = (cs.toList.zipIdx 0).foldl (fun acc p => acc.setIfInBounds p.2 p.1) zero := by
    rw [← Array.foldl_toList, Array.toList_zipIdx]
  have := getElem?_foldl_set cs.toList 0 zero i
  rw [← e] at this
  refine this.trans ?_
  simp only [Nat.zero_le, true_and, Nat.zero_add, Array.length_toList, Nat.sub_zero, h, and_self, Array.getElem?_toList]
  split
  · rfl
  · rw [Array.getElem?_eq_none (by omega), Array.getElem?_eq_none (by omega)]
theorem run_buildSlice_agg {P : Program} {w : World} (t e : TypeId) (i : TypeInfo) (z : Value) (cs : Array Value) (ht : P.underlying t = some (.slice e)) (hi : P.info? e = some i) (hz : i.zero = some z) (hs : i.size = cs.size) (hpos : 0 < cs.size) (hlt : cs.size ≤ 16777216) :
    (Instr.buildSlice t 1 #[(0, .agg cs)]).run P w = .ok (.slice (some ⟨w.heap.size, 0, none⟩) 1 1) (w.alloc (.cells cs e)) := by
  have h1 : ¬ (16777216 < cs.size) := by omega
  have h2 : ¬ cs.size = 0 := by omega
  have hf := fill_all (fun i => some (i * cs.size, cs.size)) ((Array.range cs.size).map (z.cells[· % z.cells.size]!)) cs (by simp) (by simp)
  simp [Instr.buildSlice, run_underlying ht, sizeOf, typeInfo, zeroValue, hi, hz, hs, h1, h2, hf, newRow]

theorem wpList_build1 {P : Program} {ops : Array Oper} {rest : List Oper} {o : Oper} {a : Act} {w : World} {Q : Exit → Act → World → Prop} (hw : Region.wanted o (yielded ops a.tmps) = true) (t : TypeId) (x : Operand) (ho : o.op = .buildSlice t 1 #[(0, x)])
    (v v' : Value) (w' : World) (hx : a.eval x = v) (hrun : (Instr.buildSlice t 1 #[(0, v)]).run P w = .ok v' w') (h : wpList P ops Q rest (a.put o.dst v') w') : wpList P ops Q (o :: rest) a w := by
  refine wpList_wanted hw fun K hK => ?_
  unfold Oper.wp execOp
  simp only [ho, List.map_toArray, List.map_cons, List.map_nil, hx, Sem.run_bind, Sem.run_pure, Result.andThen_ok, hrun]
  exact hK _ _ h

/-- n zero bytes as a list -/
def zeros (n : Nat) : List UInt8 := List.replicate n 0
@[simp] theorem length_zeros (n : Nat) : (zeros n).length = n := by simp [zeros]
theorem Tryd.infoHash : (Tryd.prog.info? 22).map (fun i => (i.zero, i.size, i.bytes)) = some (some (.agg (bcs (zeros 32)).toArray), 32, 32) := by kernel_rfl
theorem Tryd.sizeHash : (Tryd.prog.info? 22).map (·.size) = some 32 := by kernel_rfl
/-- 'var h [32]byte' -/
theorem run_alloc_hash (w : World) : (Instr.alloc 22 true undef).run Tryd.prog w = .ok (.pointer (some ⟨w.heap.size, 0, none⟩)) (w.alloc (.cells (bcs (zeros 32)).toArray 22)) := by
  obtain ⟨i, hi, hz, hs, hb⟩ := info_parts Tryd.infoHash
  simp [Instr.alloc, zeroValue, typeInfo, hi, hz, newVar, newRow, Value.cells]
end Go.Proofs.YtibkngjacdggpaaDoor
/- Numbers and their bytes. -/
namespace Go.Proofs.YtibkngjacdggpaaDoor
open Go.RowKit

/-- n's bytes, the greatest first. -/
def beL (n k : Nat) : List UInt8 := (List.range k).map fun i => UInt8.ofNat (n / 2 ^ (8 * (k - 1 - i)))
@[simp] theorem length_beL (n k : Nat) : (beL n k).length = k := by simp [beL]
theorem beL_take (n k j : Nat) (hj : j < k) : (beL n k).take (j + 1) = (beL n k).take j ++ [UInt8.ofNat (n / 2 ^ (8 * (k - 1 - j)))] := by
  rw [List.take_succ_eq_append_getElem (by simpa using hj)]
  simp [beL]
/-- A number out of bytes, the greatest first. -/
def unbe (l : List UInt8) : Nat := l.foldl (fun n c => n * 256 + c.toNat) 0
theorem unbe_snoc (l : List UInt8) (c : UInt8) : unbe (l ++ [c]) = unbe l * 256 + c.toNat := by simp [unbe]
theorem unbe_lt_from (l : List UInt8) : ∀ n : Nat, l.foldl (fun n c => n * 256 + c.toNat) n < (n + 1) * 256 ^ l.length := by
  induction l with
  | nil => intro n; simp
  | cons c l ih =>
    intro n
    rw [List.foldl_cons, List.length_cons, Nat.pow_succ, Nat.mul_comm (256 ^ l.length) 256, ← Nat.mul_assoc]
    refine Nat.lt_of_lt_of_le (ih _) (Nat.mul_le_mul_right _ ?_)
    have := c.toNat_lt
    omega
theorem unbe_lt (l : List UInt8) : unbe l < 256 ^ l.length := by simpa [unbe] using unbe_lt_from l 0
theorem unbe_lt8 (l : List UInt8) (k : Nat) (h : l.length ≤ k) : unbe l < 256 ^ k := Nat.lt_of_lt_of_le (unbe_lt l) (Nat.pow_le_pow_right (by omega) h)

theorem or_shl8 (a b : Nat) (ha : (a : Int) < 72057594037927936) (hb : (b : Int) < 256) : bits .or .u64 ((a : Int) * 256) (b : Int) = ((a * 256 + b : Nat) : Int) := by
  rw [bits_join .u64 64 (by decide) wraps_u64 8 _ _ (by omega) (by omega) (by omega) (by omega) (by omega) (by omega)]
  omega
theorem take_snoc {xs : List UInt8} {j : Nat} (h : j < xs.length) : xs.take (j + 1) = xs.take j ++ [xs.getD j 0] := by
  rw [List.take_succ_eq_append_getElem h]
  simp [List.getD, h]
theorem unbe_beL_take (n k : Nat) : ∀ j, j ≤ k → unbe ((beL n k).take j) = n / 256 ^ (k - j) % 256 ^ j
  | 0, _ => by simp [unbe, Nat.mod_one]
  | j + 1, h => by
    rw [beL_take n k j (by omega), unbe_snoc, unbe_beL_take n k j (by omega), UInt8.toNat_ofNat', show (2 : Nat) ^ (8 * (k - 1 - j)) = 256 ^ (k - (j + 1)) by rw [Nat.pow_mul]; congr 1; omega,
      show k - j = (k - (j + 1)) + 1 by omega, Nat.pow_succ, ← Nat.div_div_eq_div_mul, Nat.pow_succ 256 j, Nat.mul_comm (256 ^ j) 256, Nat.mod_mul]
    omega
theorem unbe_beL (n k : Nat) : unbe (beL n k) = n % 256 ^ k := by
  have := unbe_beL_take n k k (Nat.le_refl _)
  rw [List.take_of_length_le (by rw [length_beL]; omega)] at this
  simpa using this
end Go.Proofs.YtibkngjacdggpaaDoor
