import Derived.Test.YtibkngjacdggpaaDoorBase
import Derived.ChangeKeysEq
import Derived.Lib.SlBytesConst
/- What memory holds, piece by piece: a list of pieces that share no block; what a call changes is one piece, the others stay. -/
namespace Go.Proofs.YtibkngjacdggpaaDoor
open Go.RowKit

/-- w' has the blocks S as w had them. -/
structure Same (S : Nat → Prop) (w w' : World) : Prop where
  os : w'.os = w.os
  tape : w'.tape = w.tape
  output : w'.output = w.output
  size : w.heap.size ≤ w'.heap.size
  block : ∀ k, S k → w'.heap[k]? = w.heap[k]?
theorem Same.kept {S : Nat → Prop} {w w' : World} (h : Same S w w') : Kept w w' (fun k => ¬ S k) := ⟨h.os, h.tape, h.output, h.size, fun k _ hn => h.block k (Classical.not_not.1 hn)⟩
theorem Kept.same {L S : Nat → Prop} {w w' : World} (h : Kept w w' L) (hS : ∀ k, S k → k < w.heap.size ∧ ¬ L k) : Same S w w' := ⟨h.os, h.tape, h.output, h.size, fun k hk => h.block k (hS k hk).1 (hS k hk).2⟩
theorem Same.sub {S S' : Nat → Prop} {w w' : World} (h : Same S w w') (hs : ∀ k, S' k → S k) : Same S' w w' := ⟨h.os, h.tape, h.output, h.size, fun k hk => h.block k (hs k hk)⟩

/-- A piece of memory: the blocks that are its own, and what it says of them. -/
structure HP where
  at_ : (Nat → Prop) → World → Prop
  lt : ∀ {S w}, at_ S w → ∀ k, S k → k < w.heap.size
  fr : ∀ {S w w'}, at_ S w → Same S w w' → at_ S w'

namespace HP
/-- nothing -/
def emp : HP := ⟨fun S _ => ∀ k, ¬ S k, fun h k hk => absurd hk (h k), fun h _ => h⟩
/-- two pieces apart -/
def sep (P Q : HP) : HP := ⟨fun S w => ∃ S1 S2, P.at_ S1 w ∧ Q.at_ S2 w ∧ (∀ k, S1 k → ¬ S2 k) ∧ (∀ k, S k ↔ S1 k ∨ S2 k),
  fun ⟨_, _, h1, h2, _, hs⟩ k hk => ((hs k).1 hk).elim (P.lt h1 k) (Q.lt h2 k),
  fun ⟨S1, S2, h1, h2, hd, hs⟩ hw => ⟨S1, S2, P.fr h1 (hw.sub fun k hk => (hs k).2 (.inl hk)), Q.fr h2 (hw.sub fun k hk => (hs k).2 (.inr hk)), hd, hs⟩⟩
def ex {α : Type} (P : α → HP) : HP := ⟨fun S w => ∃ x, (P x).at_ S w, fun ⟨x, h⟩ => (P x).lt h, fun ⟨x, h⟩ hw => ⟨x, (P x).fr h hw⟩⟩
/-- a piece and a fact -/
def cond (p : Prop) (P : HP) : HP := ⟨fun S w => p ∧ P.at_ S w, fun h => P.lt h.2, fun h hw => ⟨h.1, P.fr h.2 hw⟩⟩
/-- block g, known whole -/
def blk (g : Nat) (t : TypeId) (cs : Array Value) : HP := ⟨fun S w => Blk w g t cs ∧ ∀ k, S k ↔ k = g, fun h k hk => by rw [(h.2 k).1 hk]; exact h.1.lt,
  fun h hw => ⟨(hw.block g ((h.2 g).2 rfl)).trans h.1, h.2⟩⟩
def mapb (g : Nat) (es : Array MapEntry) (cl : Nat) : HP := ⟨fun S w => MapB w g es cl ∧ ∀ k, S k ↔ k = g, fun h k hk => by rw [(h.2 k).1 hk]; exact h.1.lt,
  fun h hw => ⟨(hw.block g ((h.2 g).2 rfl)).trans h.1, h.2⟩⟩
/-- the slice v owns a row of n elements of type E, their cells cs -/
def row (E : TypeId) (sz : Nat) (v : Value) (n : Nat) (cs : List Value) : HP := ⟨fun S w => w.ownsRow 0 E sz v n cs ∧ ∀ k, S k ↔ v.ownBlock = some k,
  fun {S w} h k hk => by
    rcases h.1.2 with ⟨rfl, _⟩ | ⟨g, cap, cur, rfl, _, hgg, _⟩
    · have := (h.2 k).1 hk; simp [Value.ownBlock] at this
    · have := (h.2 k).1 hk; simp [Value.ownBlock] at this; subst this; exact lt_of_heap hgg,
  fun {S w w'} h hw => by
    refine ⟨⟨h.1.1, ?_⟩, h.2⟩
    rcases h.1.2 with hn | ⟨g, cap, cur, rfl, hb, hgg, rest⟩
    · exact .inl hn
    · exact .inr ⟨g, cap, cur, rfl, hb, (hw.block g ((h.2 g).2 (by simp [Value.ownBlock]))).trans hgg, rest⟩⟩
/-- the slice v owns a row of just the bytes xs -/
def own (v : Value) (xs : List UInt8) : HP := row 5 1 v xs.length (bcs xs)
/-- all that was there in w0 is there as it was -/
def since (w0 : World) : HP := ⟨fun S w => Kept w0 w No ∧ ∀ k, S k ↔ k < w0.heap.size, fun h k hk => by have := (h.2 k).1 hk; have := h.1.size; omega,
  fun h hw => ⟨⟨hw.os.trans h.1.os, hw.tape.trans h.1.tape, hw.output.trans h.1.output, Nat.le_trans h.1.size hw.size, fun k hk hn => (hw.block k ((h.2 k).2 hk)).trans (h.1.block k hk hn)⟩, h.2⟩⟩
/-- the slice at A reads the bytes xs, in a block of its own -/
def rb (A : Option Addr) (xs : List UInt8) : HP := ⟨fun S w => ∃ g, RB w g A xs ∧ ∀ k, S k ↔ (k = g ∧ xs ≠ []), fun ⟨g, h, hs⟩ k hk => by obtain ⟨rfl, hx⟩ := (hs k).1 hk; exact h.lt hx,
  fun {S w w'} ⟨g, h, hs⟩ hw => by
    refine ⟨g, fun hx => ?_, hs⟩
    exact (h.kept hw.kept (fun hn => hn ((hs g).2 ⟨rfl, hx⟩))) hx⟩
def all : List HP → HP
  | [] => emp
  | P :: l => sep P (all l)
end HP
open HP

/-- In w the pieces l stand apart (and perhaps more). -/
def Holds (w : World) (l : List HP) : Prop := ∃ S, (HP.all l).at_ S w

section
variable {w w' : World} {l R : List HP} {P Q : HP}
theorem Holds.start (w : World) : Holds w [since w] := ⟨fun k => k < w.heap.size, _, fun _ => False, ⟨Kept.refl _ _, fun k => Iff.rfl⟩, fun _ h => h, fun _ _ h => h, fun k => by simp⟩
theorem Holds.same (h : Holds w l) (hs : ∀ S : Nat → Prop, (∀ k, S k → k < w.heap.size) → Same S w w') : Holds w' l := by
  obtain ⟨S, h⟩ := h
  exact ⟨S, HP.fr _ h (hs S (HP.lt _ h))⟩
theorem Holds.kept (h : Holds w l) (hk : Kept w w' No) : Holds w' l := h.same fun _ hS => hk.same fun k hk => ⟨hS k hk, fun h => h⟩
theorem Holds.drew (h : Holds w l) : Holds w.drew l := h.kept (Kept.refl _ _).drew
theorem Holds.drewN (h : Holds w l) (n : Nat) : Holds (w.drewN n) l := h.kept ((Kept.refl _ _).drewN n)
theorem Holds.alloc_ (h : Holds w l) (o : Obj) : Holds (w.alloc o) l := h.kept ((Kept.refl _ _).alloc o)
/-- The one rule of change: the first piece turns into another one, in its own blocks and in new ones. -/
theorem Holds.change (h : Holds w (P :: R)) (hc : ∀ S, P.at_ S w → ∃ S', Q.at_ S' w' ∧ Kept w w' S ∧ (∀ k, S' k → S k ∨ w.heap.size ≤ k)) : Holds w' (Q :: R) := by
  obtain ⟨S, S1, S2, h1, h2, hd, hs⟩ := h
  obtain ⟨S1', h1', hk, hsub⟩ := hc S1 h1
  refine ⟨fun k => S1' k ∨ S2 k, S1', S2, h1', HP.fr _ h2 (hk.same fun k hk2 => ⟨HP.lt _ h2 k hk2, fun h => hd k h hk2⟩), fun k hk1 hk2 => ?_, fun k => Iff.rfl⟩
  rcases hsub k hk1 with h | h
  · exact hd k h hk2
  · have := HP.lt _ h2 k hk2; omega
/-- A new piece in new blocks. -/
theorem Holds.new_ (h : Holds w R) (hc : ∃ S', Q.at_ S' w' ∧ Kept w w' No ∧ (∀ k, S' k → w.heap.size ≤ k)) : Holds w' (Q :: R) := by
  obtain ⟨S', h1, hk, hn⟩ := hc
  have : Holds w (emp :: R) := by
    obtain ⟨S, h⟩ := h
    exact ⟨S, fun _ => False, S, fun _ h => h, h, fun _ h => h.elim, fun k => by simp⟩
  exact this.change fun S hS => ⟨S', h1, hk.mono (fun k _ h => h.elim), fun k hk => .inr (hn k hk)⟩
theorem Holds.turn (h : Holds w (P :: R)) (hc : ∀ S, P.at_ S w → ∃ S', Q.at_ S' w ∧ ∀ k, S' k → S k) : Holds w (Q :: R) := h.change fun S hS => by
  obtain ⟨S', h1, h2⟩ := hc S hS
  exact ⟨S', h1, Kept.refl _ _, fun k hk => .inl (h2 k hk)⟩
theorem Holds.head (h : Holds w (P :: R)) : ∃ S, P.at_ S w := by obtain ⟨_, S1, _, h1, _⟩ := h; exact ⟨S1, h1⟩
theorem Holds.tail (h : Holds w (P :: R)) : Holds w R := by obtain ⟨_, _, S2, _, h2, _⟩ := h; exact ⟨S2, h2⟩
theorem Holds.map_tail {l' : List HP} (h : Holds w (P :: l)) (hc : ∀ S, (HP.all l).at_ S w → ∃ S', (HP.all l').at_ S' w ∧ ∀ k, S' k → S k) : Holds w (P :: l') := by
  obtain ⟨_, S1, S2, h1, h2, hd, _⟩ := h
  obtain ⟨S2', h2', hsub⟩ := hc S2 h2
  exact ⟨fun k => S1 k ∨ S2' k, S1, S2', h1, h2', fun k a b => hd k a (hsub k b), fun k => Iff.rfl⟩
theorem HP.all_perm {l l' : List HP} (h : l.Perm l') : ∀ {S w}, (HP.all l).at_ S w → (HP.all l').at_ S w := by
  induction h with
  | nil => exact fun h => h
  | cons P _ ih => exact fun ⟨S1, S2, h1, h2, hd, hs⟩ => ⟨S1, S2, h1, ih h2, hd, hs⟩
  | swap P Q l =>
    rintro S w ⟨S1, S2, h1, ⟨S3, S4, h3, h4, hd2, hs2⟩, hd, hs⟩
    refine ⟨S3, fun k => S1 k ∨ S4 k, h3, ⟨S1, S4, h1, h4, fun k a b => hd k a ((hs2 k).2 (.inr b)), fun k => Iff.rfl⟩, fun k a b => ?_, fun k => ?_⟩
    · rcases b with b | b
      · exact hd k b ((hs2 k).2 (.inl a))
      · exact hd2 k a b
    · rw [hs, hs2]
      constructor
      · rintro (h | h | h)
        · exact .inr (.inl h)
        · exact .inl h
        · exact .inr (.inr h)
      · rintro (h | h | h)
        · exact .inr (.inl h)
        · exact .inl h
        · exact .inr (.inr h)
  | trans _ _ ih1 ih2 => exact fun h => ih2 (ih1 h)
theorem Holds.perm {l' : List HP} (h : Holds w l) (hp : l.Perm l') : Holds w l' := by
  obtain ⟨S, h⟩ := h
  exact ⟨S, HP.all_perm hp h⟩
theorem perm_pull : ∀ {l : List HP} {i : Nat} {P : HP}, l[i]? = some P → l.Perm (P :: l.eraseIdx i)
  | Q :: l, 0, P, h => by
    obtain rfl : Q = P := by simpa using h
    exact .refl _
  | Q :: l, i + 1, P, h => ((perm_pull (l := l) (i := i) (P := P) (by simpa using h)).cons Q).trans (.swap _ _ _)
/-- piece i goes ahead -/
theorem Holds.pull (h : Holds w l) (i : Nat) {P : HP} (hi : l[i]? = some P) : Holds w (P :: l.eraseIdx i) := h.perm (perm_pull hi)
theorem Holds.nth (h : Holds w l) (i : Nat) {P : HP} (hi : l[i]? = some P) : ∃ S, P.at_ S w := (h.pull i hi).head
theorem Holds.drop (h : Holds w l) (i : Nat) {P : HP} (hi : l[i]? = some P) : Holds w (l.eraseIdx i) := (h.pull i hi).tail
/-- back to its place -/
theorem Holds.push_ (h : Holds w (P :: R)) (i : Nat) (hi : i ≤ R.length) : Holds w (R.insertIdx i P) := h.perm (List.perm_insertIdx P R hi).symm

theorem Holds.sep_ (h : Holds w (sep P Q :: R)) : Holds w (P :: Q :: R) := by
  obtain ⟨S, S1, S2, ⟨S3, S4, h3, h4, hd2, hs2⟩, h2, hd, hs⟩ := h
  refine ⟨S, S3, fun k => S4 k ∨ S2 k, h3, ⟨S4, S2, h4, h2, fun k a b => hd k ((hs2 k).2 (.inr a)) b, fun k => Iff.rfl⟩, fun k a b => ?_, fun k => by rw [hs, hs2, or_assoc]⟩
  rcases b with b | b
  · exact hd2 k a b
  · exact hd k ((hs2 k).2 (.inl a)) b
theorem Holds.join (h : Holds w (P :: Q :: R)) : Holds w (sep P Q :: R) := by
  obtain ⟨S, S1, S2, h1, ⟨S3, S4, h3, h4, hd2, hs2⟩, hd, hs⟩ := h
  refine ⟨S, fun k => S1 k ∨ S3 k, S4, ⟨S1, S3, h1, h3, fun k a b => hd k a ((hs2 k).2 (.inl b)), fun k => Iff.rfl⟩, h4, fun k a b => ?_, fun k => by rw [hs, hs2, or_assoc]⟩
  rcases a with a | a
  · exact hd k a ((hs2 k).2 (.inr b))
  · exact hd2 k a b
theorem Holds.ex_ {α : Type} {P : α → HP} (h : Holds w (ex P :: R)) : ∃ x, Holds w (P x :: R) := by
  obtain ⟨S, S1, S2, ⟨x, h1⟩, h2, hd, hs⟩ := h
  exact ⟨x, S, S1, S2, h1, h2, hd, hs⟩
theorem Holds.mk_ex {α : Type} {P : α → HP} (x : α) (h : Holds w (P x :: R)) : Holds w (ex P :: R) := h.turn fun S hS => ⟨S, ⟨x, hS⟩, fun _ h => h⟩
theorem Holds.cond_ {p : Prop} (h : Holds w (cond p P :: R)) : p ∧ Holds w (P :: R) := by
  obtain ⟨S, S1, S2, ⟨hp, h1⟩, h2, hd, hs⟩ := h
  exact ⟨hp, S, S1, S2, h1, h2, hd, hs⟩
theorem Holds.mk_cond {p : Prop} (hp : p) (h : Holds w (P :: R)) : Holds w (cond p P :: R) := h.turn fun S hS => ⟨S, ⟨hp, hS⟩, fun _ h => h⟩

/-! ### blocks -/
variable {g : Nat} {t : TypeId} {cs : Array Value}
theorem Holds.blk (h : Holds w (blk g t cs :: R)) : Blk w g t cs := by obtain ⟨S, h, _⟩ := h.head; exact h
theorem Holds.cells (h : Holds w (HP.blk g t cs :: R)) : ∀ i, w.cell? ⟨g, i, none⟩ = cs[i]? := h.blk.cell
theorem Holds.free (h : Holds w (HP.blk g t cs :: R)) : ∀ i, w.frozen? ⟨g, i, none⟩ = false := h.blk.frozen
theorem Holds.set_ (h : Holds w (HP.blk g t cs :: R)) (i : Nat) (u : Value) : Holds (w.setCell ⟨g, i, none⟩ u) (HP.blk g t (cs.setIfInBounds i u) :: R) :=
  h.change fun S hS => ⟨S, ⟨hS.1.set_ i u, hS.2⟩, Kept.set_ (Kept.refl _ _) (p := ⟨g, i, none⟩) (.inl ((hS.2 g).2 rfl)) u, fun _ hk => .inl hk⟩
theorem Holds.alloc (h : Holds w R) (t : TypeId) (cs : Array Value) : Holds (w.alloc (.cells cs t)) (HP.blk w.heap.size t cs :: R) :=
  h.new_ ⟨fun k => k = w.heap.size, ⟨Blk.new w t cs, fun _ => Iff.rfl⟩, (Kept.refl _ _).alloc _, fun k hk => by omega⟩
theorem Holds.allocMap (h : Holds w R) : Holds (w.alloc (.map #[] 0)) (HP.mapb w.heap.size #[] 0 :: R) :=
  h.new_ ⟨fun k => k = w.heap.size, ⟨heap_alloc_new w _, fun _ => Iff.rfl⟩, (Kept.refl _ _).alloc _, fun k hk => by omega⟩
/-- the whole row of a block is stored anew -/
theorem Holds.reblk {cs' : Array Value} (h : Holds w (HP.blk g t cs :: R)) (hb : Blk w' g t cs') (hk : Kept w w' (· = g)) : Holds w' (HP.blk g t cs' :: R) :=
  h.change fun S hS => ⟨S, ⟨hb, hS.2⟩, hk.mono (fun k _ e => (hS.2 k).2 e), fun _ hk => .inl hk⟩
theorem Holds.blk_ne {g' : Nat} {t' : TypeId} {cs' : Array Value} (h : Holds w (HP.blk g t cs :: HP.blk g' t' cs' :: R)) : g ≠ g' := by
  obtain ⟨S, S1, S2, h1, ⟨S3, S4, h3, h4, hd2, hs2⟩, hd, hs⟩ := h
  intro e
  exact hd g ((h1.2 g).2 rfl) ((hs2 g).2 (.inl ((h3.2 g).2 e)))

/-! ### rows -/
variable {v : Value} {xs ys : List UInt8}
theorem Holds.ob (h : Holds w (own v xs :: R)) : OB w v xs := by obtain ⟨S, h, _⟩ := h.head; exact h
theorem Holds.nil_own (h : Holds w R) : Holds w (own (.slice none 0 0) [] :: R) :=
  h.new_ ⟨fun _ => False, ⟨OB.nil w, fun k => by simp [Value.ownBlock]⟩, Kept.refl _ _, fun _ h => h.elim⟩
theorem Holds.nil_row (h : Holds w R) (E : TypeId) (sz : Nat) : Holds w (row E sz (.slice none 0 0) 0 [] :: R) :=
  h.new_ ⟨fun _ => False, ⟨World.ownsRow_nil w 0 E sz, fun k => by simp [Value.ownBlock]⟩, Kept.refl _ _, fun _ h => h.elim⟩
/-- A block of just bytes is owned as a row. -/
theorem Holds.own_of_blk (h : Holds w (HP.blk g 5 (bcs xs).toArray :: R)) (hl : xs.length ≤ maxLen) : Holds w (own (.slice (some ⟨g, 0, none⟩) xs.length xs.length) xs :: R) :=
  h.turn fun S hS => ⟨S, ⟨⟨by simp, .inr ⟨g, xs.length, (bcs xs).toArray, rfl, Nat.zero_le _, hS.1, Nat.le_refl _, hl, by simp, by simp [List.take_of_length_le]⟩⟩, fun k => by simp [Value.ownBlock, hS.2, eq_comm]⟩, fun _ h => h⟩
/-- The slice at A reads the bytes xs. -/
def RD (w : World) (A : Option Addr) (xs : List UInt8) : Prop := ∃ g, RB w g A xs
theorem RD.kept {A : Option Addr} (h : RD w A xs) (hk : Kept w w' No) : RD w' A xs := by obtain ⟨g, h⟩ := h; exact ⟨g, h.kept hk (fun h => h)⟩
theorem RD.drew {A : Option Addr} (h : RD w A xs) : RD w.drew A xs := h
theorem RD.nil (w : World) (A : Option Addr) : RD w A [] := ⟨0, RB.nil _ _ _⟩
theorem RD.take {A : Option Addr} (h : RD w A xs) (k : Nat) : RD w A (xs.take k) := by obtain ⟨g, h⟩ := h; exact ⟨g, h.take k⟩
theorem RD.drop {A : Option Addr} (h : RD w A xs) {k c : Nat} (hk : k ≤ xs.length) (hc : xs.length ≤ c) : RD w (if c = k then A else A.map (·.add k)) (xs.drop k) := by obtain ⟨g, h⟩ := h; exact ⟨g, h.drop hk hc⟩
theorem Holds.own_form (h : Holds w (own v xs :: R)) : ∃ A n c, v = .slice A n c ∧ Hid (n = xs.length) ∧ n ≤ c ∧ RD w A xs := by
  obtain ⟨A, n, c, rfl, hn, hc, hr, _⟩ := h.ob.form
  exact ⟨A, n, c, rfl, hn, hc, _, hr⟩
theorem Holds.own_rd {A : Option Addr} {n c : Nat} (h : Holds w (own (.slice A n c) xs :: R)) : RD w A xs := by
  obtain ⟨A', n', c', e, hn, hc, hr⟩ := h.own_form
  cases e; exact hr
theorem Holds.rb_rd {A : Option Addr} (h : Holds w (rb A xs :: R)) : RD w A xs := by obtain ⟨S, g, h, _⟩ := h.head; exact ⟨g, h⟩
/-- append's law, as pieces -/
theorem Holds.app {v' : Value} (h : Holds w (own v xs :: R)) (ho : OB w' v' (xs ++ ys)) (hk : Kept w w' (fun k => some k = v.ownBlock)) (hp : Place w.heap.size v v') : Holds w' (own v' (xs ++ ys) :: R) :=
  h.change fun S hS => ⟨fun k => v'.ownBlock = some k, ⟨ho, fun _ => Iff.rfl⟩, hk.mono (fun k _ e => (hS.2 k).2 e.symm), fun k hk => by
    rcases hp with e | ⟨g, hg, e⟩
    · exact .inl ((hS.2 k).2 (by rw [← e]; exact hk))
    · rw [e] at hk; cases hk; exact .inr hg⟩
theorem Holds.fresh {v' : Value} (h : Holds w R) (hf : OB w' v' xs ∧ Kept w w' No ∧ (∀ k, v'.ownBlock = some k → w.heap.size ≤ k)) : Holds w' (own v' xs :: R) :=
  h.new_ ⟨fun k => v'.ownBlock = some k, ⟨hf.1, fun _ => Iff.rfl⟩, hf.2.1, fun k hk => hf.2.2 k hk⟩
/-- an owned row is read, and no more written -/
theorem Holds.own_rb {A : Option Addr} {n c : Nat} (h : Holds w (own (.slice A n c) xs :: R)) : Holds w (rb A xs :: R) := h.turn fun S hS => by
  obtain ⟨A', n', c', e, hn, hc, hr, ho⟩ := OB.form (w := w) (v := .slice A n c) (xs := xs) hS.1
  cases e
  refine ⟨fun k => k = (Value.slice A n c).ownBlock.getD 0 ∧ xs ≠ [], ⟨_, hr, fun _ => Iff.rfl⟩, fun k hk => (hS.2 k).2 ?_⟩
  obtain ⟨rfl, hx⟩ := hk
  cases hb : (Value.slice A n c).ownBlock with
  | none => exact absurd (ho.out hb).2 hx
  | some k => rfl

/-! ### since -/
theorem Holds.since_kept {w0 : World} (h : Holds w (since w0 :: R)) : Kept w0 w No := by obtain ⟨S, h, _⟩ := h.head; exact h

/-- What the pieces l tell of every world. -/
def Ent (l : List HP) (φ : World → Prop) : Prop := ∀ w, Holds w l → φ w
theorem Ent.cons {φ : World → Prop} (h : Ent l φ) (P : HP) : Ent (P :: l) φ := fun _ hw => h _ hw.tail
theorem Ent.since {w0 : World} {A : Option Addr} (h : RD w0 A xs) : Ent (HP.since w0 :: R) (fun w => RD w A xs) := fun _ hw => h.kept hw.since_kept
theorem Ent.own {A : Option Addr} {n c : Nat} : Ent (HP.own (.slice A n c) xs :: R) (fun w => RD w A xs) := fun _ hw => hw.own_rd
theorem Ent.rb {A : Option Addr} : Ent (HP.rb A xs :: R) (fun w => RD w A xs) := fun _ hw => hw.rb_rd
theorem Ent.perm {l' : List HP} {φ : World → Prop} (h : Ent l φ) (hp : l'.Perm l) : Ent l' φ := fun _ hw => h _ (hw.perm hp)
theorem Ent.pull {φ : World → Prop} (i : Nat) {P : HP} (hi : l[i]? = some P) (h : Ent (P :: l.eraseIdx i) φ) : Ent l φ := fun _ hw => h _ (hw.pull i hi)
end

/-- a block of bytes that is owned as the row of its first ones -/
theorem Holds.own_of_cells {w : World} {R : List HP} {g : Nat} {cur : Array Value} {xs : List UInt8} {n cap : Nat} (h : Holds w (HP.blk g 5 cur :: R)) (hn : n = xs.length) (hc : n ≤ cap) (hcap : cap ≤ maxLen) (hs : cur.size = cap) (hx : cur.toList.take n = bcs xs) :
    Holds w (HP.own (.slice (some ⟨g, 0, none⟩) n cap) xs :: R) := by
  subst hn
  exact h.turn fun S hS => ⟨S, ⟨⟨by simp, .inr ⟨g, cap, cur, rfl, Nat.zero_le _, hS.1, hc, hcap, by rw [Nat.mul_one]; exact hs, by rw [Nat.mul_one]; exact hx⟩⟩, fun k => by simp [Value.ownBlock, hS.2, eq_comm]⟩, fun _ h => h⟩

/-! ### one cell is stored -/
section
variable {P : Program}
theorem run_storeVar_one (w : World) (g off : Nat) (ty : TypeId) (v u : Value) (h1 : v.oneCell' = true) (hi : (P.info? ty).map (·.size) = some 1) (hc : w.cell? ⟨g, off, none⟩ = some u) (hf : w.frozen? ⟨g, off, none⟩ = false) :
    (storeVar ty ⟨g, off, none⟩ v).run P w = .ok () (w.setCell ⟨g, off, none⟩ v) := by
  cases hq : P.info? ty with
  | none => simp [hq] at hi
  | some i =>
    have hs : i.size = 1 := by simpa [hq] using hi
    have hcs : v.cells = #[v] := by cases v <;> first | rfl | cases h1
    have ha : (⟨g, off, none⟩ : Addr).add 0 = ⟨g, off, none⟩ := by simp [add_plain]
    simp only [storeVar, hcs, sizeOf, typeInfo, storeCells, ha]
    simp [run_store P w _ v _ h1, hc, hf, hs, hq]
theorem wp_store_one {o : Oper} {a : Act} {w : World} {K : Act → World → Prop} {Q : Exit → Act → World → Prop} (ty : TypeId) (x y : Operand) (ho : o.op = .store ty x y)
    (g off : Nat) (v : Value) (hx : a.eval x = .pointer (some ⟨g, off, none⟩)) (hy : a.eval y = v) (h1 : v.oneCell' = true) (hi : (P.info? ty).map (·.size) = some 1) (u : Value) (hc : w.cell? ⟨g, off, none⟩ = some u) (hf : w.frozen? ⟨g, off, none⟩ = false)
    (h : K (a.put o.dst undef) (w.setCell ⟨g, off, none⟩ v)) : o.wp P a w K Q := by
  unfold Oper.wp execOp
  simp only [ho, hx, hy, Instr.storeAt, Instr.sureAddr, Sem.run_bind, Sem.run_pure, Result.andThen_ok, run_storeVar_one w g off ty v u h1 hi hc hf]
  exact h
theorem wpList_store_one {ops : Array Oper} {rest : List Oper} {o : Oper} {a : Act} {w : World} {Q : Exit → Act → World → Prop} (hgd : o.guard = none) (ty : TypeId) (x y : Operand) (ho : o.op = .store ty x y)
    (g off : Nat) (v : Value) (hx : a.eval x = .pointer (some ⟨g, off, none⟩)) (hy : a.eval y = v) (h1 : v.oneCell' = true) (hi : (P.info? ty).map (·.size) = some 1) (u : Value) (hc : w.cell? ⟨g, off, none⟩ = some u) (hf : w.frozen? ⟨g, off, none⟩ = false)
    (h : wpList P ops Q rest (a.put o.dst undef) (w.setCell ⟨g, off, none⟩ v)) : wpList P ops Q (o :: rest) a w :=
  wpList_plain hgd fun _ hK => wp_store_one ty x y ho g off v hx hy h1 hi u hc hf (hK _ _ h)
end
end Go.Proofs.YtibkngjacdggpaaDoor
/- More pieces of memory: a block with a frozen range. -/
namespace Go.Proofs.YtibkngjacdggpaaDoor
open Go.RowKit HP
/-- block g, known whole, with its frozen range -/
def HP.blkF (g : Nat) (t : TypeId) (cs : Array Value) (fr : Nat × Nat) : HP := ⟨fun S w => w.heap[g]? = some (.cells cs t fr) ∧ ∀ k, S k ↔ k = g, fun h k hk => by rw [(h.2 k).1 hk]; exact lt_of_heap h.1,
  fun h hw => ⟨(hw.block g ((h.2 g).2 rfl)).trans h.1, h.2⟩⟩
theorem Holds.allocF {w : World} {R : List HP} (h : Holds w R) (t : TypeId) (cs : Array Value) (fr : Nat × Nat) : Holds (w.alloc (.cells cs t fr)) (HP.blkF w.heap.size t cs fr :: R) :=
  h.new_ ⟨fun k => k = w.heap.size, ⟨heap_alloc_new w _, fun _ => Iff.rfl⟩, (Kept.refl _ _).alloc _, fun k hk => by omega⟩
theorem Holds.cellsF {w : World} {R : List HP} {g : Nat} {t : TypeId} {cs : Array Value} {fr : Nat × Nat} (h : Holds w (HP.blkF g t cs fr :: R)) : ∀ i, w.cell? ⟨g, i, none⟩ = cs[i]? := fun i => by
  obtain ⟨S, hS⟩ := h.head
  exact cell_of_row w g i cs t fr hS.1
theorem conv_rd {w : World} {A : Option Addr} {n c : Nat} {xs : List UInt8} (hn : n = xs.length) (h : RD w A xs) : (convert 23 9 (.slice A n c)).run Tryd.prog w = .ok (.string (strOf xs)) w := by
  obtain ⟨g, h⟩ := h
  exact run_conv_str w 23 9 Tryd.underlying23 Tryd.underlying5 Tryd.underlying9 g A xs n c hn h
theorem strOf_append (a b : List UInt8) : strOf (a ++ b) = strOf a ++ strOf b := by
  apply ByteArray.ext
  simp [strOf]
end Go.Proofs.YtibkngjacdggpaaDoor
/- Slices of slices of bytes that are read. -/
namespace Go.Proofs.YtibkngjacdggpaaDoor
open Go.RowKit HP

/-- A slice of bytes as it stands in a cell, and what it reads. -/
structure BS where
  A : Option Addr
  n : Nat
  c : Nat
  xs : List UInt8
def BS.val (s : BS) : Value := .slice s.A s.n s.c
structure BS.Ok (w : World) (s : BS) : Prop where
  n : Hid (s.n = s.xs.length)
  c : s.n ≤ s.c
  rd : RD w s.A s.xs
def bsAll (l : List BS) : List UInt8 := l.flatMap BS.xs
/-- the row of slices at A -/
def PAt (w : World) (A : Option Addr) (l : List BS) : Prop := l ≠ [] → ∃ g o, A = some ⟨g, o, none⟩ ∧ ∀ j (h : j < l.length), w.cell? ⟨g, o + j, none⟩ = some l[j].val
/-- .. and what they read -/
def PRd (w : World) (A : Option Addr) (l : List BS) : Prop := PAt w A l ∧ ∀ s ∈ l, s.Ok w
theorem PRd.at_ {w : World} {A : Option Addr} {l : List BS} (h : PRd w A l) {j : Nat} (hj : j < l.length) : ∃ g o, A = some ⟨g, o, none⟩ ∧ w.cell? ⟨g, o + j, none⟩ = some (.slice l[j].A l[j].n l[j].c) ∧ l[j].Ok w := by
  obtain ⟨g, o, hA, hc⟩ := h.1 (by intro e; subst e; simp at hj)
  exact ⟨g, o, hA, hc j hj, h.2 _ (List.getElem_mem hj)⟩
theorem BS.Ok.kept {w w' : World} {s : BS} (h : s.Ok w) (hk : Kept w w' No) : s.Ok w' := ⟨h.n, h.c, h.rd.kept hk⟩
theorem PRd.kept {w w' : World} {A : Option Addr} {l : List BS} (h : PRd w A l) (hk : Kept w w' No) : PRd w' A l := by
  refine ⟨fun hl => ?_, fun s hs => (h.2 s hs).kept hk⟩
  obtain ⟨g, o, hA, hc⟩ := h.1 hl
  exact ⟨g, o, hA, fun j hj => by rw [hk.cell (block_lt_of_cell (hc j hj)) (fun h => h)]; exact hc j hj⟩
theorem bsAll_snoc {l : List BS} {j : Nat} (hj : j < l.length) : bsAll (l.take (j + 1)) = bsAll (l.take j) ++ l[j].xs := by
  unfold bsAll
  rw [List.take_succ_eq_append_getElem hj, List.flatMap_append]
  simp
theorem bsAll_take_le (l : List BS) (j : Nat) : (bsAll (l.take j)).length ≤ (bsAll l).length := by
  have : bsAll l = bsAll (l.take j) ++ bsAll (l.drop j) := by simp only [bsAll]; rw [← List.flatMap_append, List.take_append_drop]
  rw [this, List.length_append]; omega
/-- A block that is just a row of slices. -/
theorem PAt.of_blk {w : World} {g : Nat} {t : TypeId} {cs : Array Value} {l : List BS} (h : Blk w g t cs) (hc : cs = (l.map BS.val).toArray) : PAt w (some ⟨g, 0, none⟩) l := fun _ => by
  refine ⟨g, 0, rfl, fun j hj => ?_⟩
  rw [h.cell, hc, Nat.zero_add]
  simp [hj]
/-- what the pieces R tell of slices -/
theorem Ent.oks_nil {R : List HP} : Ent R fun w => ∀ s ∈ ([] : List BS), s.Ok w := fun _ _ _ hs => by cases hs
theorem Ent.oks {R : List HP} {A : Option Addr} {n c : Nat} {xs : List UInt8} {l : List BS} (hr : Ent R fun w => RD w A xs) (hn : Hid (n = xs.length)) (hc : n ≤ c) (h : Ent R fun w => ∀ s ∈ l, s.Ok w) : Ent R fun w => ∀ s ∈ (⟨A, n, c, xs⟩ :: l : List BS), s.Ok w := fun w hw s hs => by
  rcases List.mem_cons.1 hs with rfl | hs
  · exact ⟨hn, hc, hr w hw⟩
  · exact h w hw s hs
theorem Ent.parts {R : List HP} {g : Nat} {t : TypeId} {cs : Array Value} {l : List BS} (hc : cs = (l.map BS.val).toArray) (h : Ent R fun w => ∀ s ∈ l, s.Ok w) : Ent (HP.blk g t cs :: R) fun w => PRd w (some ⟨g, 0, none⟩) l := fun w hw =>
  ⟨PAt.of_blk hw.blk hc, h w hw.tail⟩
end Go.Proofs.YtibkngjacdggpaaDoor
/- Two arrays of 32 bytes, compared with ==. -/
namespace Go.Proofs.YtibkngjacdggpaaDoor
open Go.RowKit

theorem bc_get (a : List UInt8) (i : Nat) (h : i < a.length) : (bcs a).toArray[i]? = some (bc a[i]) := by
  simp [bcs, h]

theorem run_eqItems_b (d : Nat) (a b : List UInt8) (w : World) : ∀ (is : List Nat), (∀ i ∈ is, i < a.length ∧ i < b.length) →
    (Op.eqItems (d + 1) 5 1 (bcs a).toArray (bcs b).toArray is).run Tryd.prog w = .ok (is.all fun i => a[i]? == b[i]?) w
  | [], _ => by simp [Op.eqItems]
  | i :: is, h => by
    obtain ⟨ha, hb⟩ := h i (by simp)
    have pk : Tryd.prog.plainKey 5 = true := by kernel_rfl
    have p1 := run_part_plain (P := Tryd.prog) w pk (off := i * 1) (by rw [Nat.mul_one]; exact bc_get a i ha)
    have p2 := run_part_plain (P := Tryd.prog) w pk (off := i * 1) (by rw [Nat.mul_one]; exact bc_get b i hb)
    have p3 := run_equalIn_int (P := Tryd.prog) w d 5 .u8 .u8 (a[i].toNat : Int) (b[i].toNat : Int) Tryd.underlying5
    have ih := run_eqItems_b d a b w is (fun j hj => h j (by simp [hj]))
    have hq : (((a[i].toNat : Int) == (b[i].toNat : Int)) : Bool) = (a[i]? == b[i]?) := by
      rw [List.getElem?_eq_getElem ha, List.getElem?_eq_getElem hb, Bool.eq_iff_iff]
      simp only [beq_iff_eq, Option.some.injEq, Int.natCast_inj, ← UInt8.toNat_inj]
    simp only [Op.eqItems, Sem.run_bind, p1, p2, Result.andThen_ok]
    rw [show bc a[i] = .int .u8 (a[i].toNat : Int) from rfl, show bc b[i] = .int .u8 (b[i].toNat : Int) from rfl, p3, List.all_cons, ← hq]
    cases hv : ((a[i].toNat : Int) == (b[i].toNat : Int))
    · simp
    · simpa [hv] using ih

theorem all_range (a b : List UInt8) (n : Nat) (ha : a.length = n) (hb : b.length = n) : ((List.range n).all fun i => a[i]? == b[i]?) = (a == b) := by
  rw [Bool.eq_iff_iff, List.all_eq_true, beq_iff_eq]
  constructor
  · intro h
    apply List.ext_getElem? 
    intro i
    by_cases hi : i < n
    · simpa using h i (by simpa using hi)
    · rw [List.getElem?_eq_none (by omega), List.getElem?_eq_none (by omega)]
  · rintro rfl i _
    simp

theorem infoU8' : ∃ i, Tryd.prog.info? 5 = some i := by
  have h : (Tryd.prog.info? 5).isSome = true := by kernel_rfl
  exact Option.isSome_iff_exists.1 h

theorem run_equalIn_b (d : Nat) (a b : List UInt8) (ha : a.length = 32) (hb : b.length = 32) (w : World) :
    (Op.equalIn (d + 2) 22 (.agg (bcs a).toArray) (.agg (bcs b).toArray)).run Tryd.prog w = .ok (a == b) w := by
  obtain ⟨i, hi⟩ := infoU8'
  rw [run_equalIn_array (P := Tryd.prog) w (d + 1) _ _ Tryd.underlying22 hi, show Tryd.prog.cellsOf 5 = 1 by kernel_rfl, run_eqItems_b d a b w _ (by intro i hi; simp at hi; omega), all_range a b 32 ha hb]

@[go_sem] theorem run_eql_b (a b : List UInt8) (ha : a.length = 32) (hb : b.length = 32) (w : World) :
    (binOp .eql 22 (.agg (bcs a).toArray) (.agg (bcs b).toArray)).run Tryd.prog w = .ok (.bool (a == b)) w := by
  rw [run_eql_struct, run_equalIn_b 9998 a b ha hb]; rfl
@[go_sem] theorem run_neq_b (a b : List UInt8) (ha : a.length = 32) (hb : b.length = 32) (w : World) :
    (binOp .neq 22 (.agg (bcs a).toArray) (.agg (bcs b).toArray)).run Tryd.prog w = .ok (.bool (!(a == b))) w := by
  rw [run_neq_struct, run_equalIn_b 9998 a b ha hb]; rfl
@[go_sem] theorem run_equalIn_b' (a b : List UInt8) (ha : a.length = 32) (hb : b.length = 32) (w : World) :
    (Op.equalIn 10000 22 (.agg (bcs a).toArray) (.agg (bcs b).toArray)).run Tryd.prog w = .ok (a == b) w := run_equalIn_b 9998 a b ha hb w
/-- Against the zero array as `Op.build` leaves it. -/
@[go_sem] theorem run_equalIn_zero (a : List UInt8) (ha : a.length = 32) (w : World) :
    (Op.equalIn 10000 22 (.agg (bcs a).toArray) (.agg #[.int .u8 0, .int .u8 0, .int .u8 0, .int .u8 0, .int .u8 0, .int .u8 0, .int .u8 0, .int .u8 0, .int .u8 0, .int .u8 0, .int .u8 0, .int .u8 0, .int .u8 0, .int .u8 0, .int .u8 0, .int .u8 0, .int .u8 0, .int .u8 0, .int .u8 0, .int .u8 0, .int .u8 0, .int .u8 0, .int .u8 0, .int .u8 0, .int .u8 0, .int .u8 0, .int .u8 0, .int .u8 0, .int .u8 0, .int .u8 0, .int .u8 0, .int .u8 0])).run Tryd.prog w = .ok (a == zeros 32) w := by
  have h := run_equalIn_b 9998 a (zeros 32) ha (by simp [zeros]) w
  rwa [show (bcs (zeros 32)).toArray = #[.int .u8 0, .int .u8 0, .int .u8 0, .int .u8 0, .int .u8 0, .int .u8 0, .int .u8 0, .int .u8 0, .int .u8 0, .int .u8 0, .int .u8 0, .int .u8 0, .int .u8 0, .int .u8 0, .int .u8 0, .int .u8 0, .int .u8 0, .int .u8 0, .int .u8 0, .int .u8 0, .int .u8 0, .int .u8 0, .int .u8 0, .int .u8 0, .int .u8 0, .int .u8 0, .int .u8 0, .int .u8 0, .int .u8 0, .int .u8 0, .int .u8 0, .int .u8 0] from rfl] at h

/-- A whole row is read in a region that draws its order. -/
theorem takeH_load {P : Program} {md : Region.Mode} {l : List Oper} {Q : Exit → Act → World → Prop} {S : World → Prop} (i : Nat) {oi : Oper} {fuel : Nat} {listed : Array Bool} {a : Act} {w : World} (hi : nthOp l i = some oi)
    (hs : Region.noSelect l.toArray = true) (hf : Region.free md l.toArray listed i = true) (hr : (Region.ready md l.toArray listed).contains i = true)
    (hQ : ∀ v c a w, Q (.panic c) (a.put oi.dst v) w → Q (.panic c) a w) (hw : Region.wanted oi (yielded l.toArray a.tmps) = true) (hS : S w)
    (ty : TypeId) (x : Operand) (ho : oi.op = .load ty x) (b o : Nat) (hx : a.eval x = .pointer (some ⟨b, o, none⟩)) (cs : List Value) (d : TypeDesc) (hSr : ∀ w, S w → w.rangeAt b o cs)
    (hu : P.underlying ty = some d) (hd : d.isRow = true) (hin : (P.info? ty).map (·.size) = some cs.length)
    (h : wpAnyH P md l.toArray Q S fuel (listed.setIfInBounds i true) (a.put oi.dst (.agg cs.toArray)) w) : wpAnyH P md l.toArray Q S (fuel + 1) listed a w :=
  takeH i (.agg cs.toArray) hi hs hf hr (fun c a w => hQ _ c a w) hw hS (fun w hw' => by
    unfold execOp
    simp only [ho, hx, Instr.loadAt, Instr.sureAddr, Sem.run_bind, Sem.run_pure, Result.andThen_ok, run_loadVar_mid w b o ty cs d (hSr w hw') hu hd hin]) h
end Go.Proofs.YtibkngjacdggpaaDoor
/- []byte("..") of a constant: its block gets a mark. -/
namespace Go.Proofs.YtibkngjacdggpaaDoor
open Go.RowKit HP

theorem freeze_heap {w : World} {g : Nat} {C : Array Value} {e : TypeId} (hg : w.heap[g]? = some (.cells C e (0, 0))) (k : Nat) : (w.freeze ⟨g, k, none⟩ 1).heap[g]? = some (.cells C e (k, k + 1)) := by
  unfold World.freeze
  rw [if_neg (by decide)]
  simp [Array.getElem?_modify, hg]
theorem Kept.freeze (w : World) (g k : Nat) : Kept w (w.freeze ⟨g, k, none⟩ 1) (· = g) := by
  unfold World.freeze
  rw [if_neg (by decide)]
  refine ⟨rfl, rfl, rfl, by simp, fun j hj hn => ?_⟩
  simp [Array.getElem?_modify, show ¬ g = j from fun e => hn e.symm]
theorem run_convert_mark {P : Program} (w : World) (t e : TypeId) (g : Nat) (C : Array Value) (n c : Nat) (ht : P.underlying t = some (.slice e)) (he : P.underlying e = some (.int .u8)) (hg : w.heap[g]? = some (.cells C e (0, 0))) :
    (convert t t (.slice (some ⟨g, 0, none⟩) n c)).run P w = .ok (.slice (some ⟨g, 0, none⟩) n c) (w.freeze ⟨g, C.size, none⟩ 1) := by
  have hsh : w.shape? g = some (e, C.size) := by
    unfold World.shape?
    rw [hg]
  simp [convert, run_underlying ht, run_underlying he, markStringish, hsh]
/-- a constant's bytes, marked -/
theorem Holds.mark {w : World} {R : List HP} {g : Nat} {t : TypeId} {C : Array Value} {xs : List UInt8} (h : Holds w (HP.blk g t C :: R)) (hx : C.toList = bcs xs) : Holds (w.freeze ⟨g, C.size, none⟩ 1) (HP.rb (some ⟨g, 0, none⟩) xs :: R) := h.change fun S hS => by
  have hg := freeze_heap (w := w) (g := g) (C := C) (e := t) hS.1 C.size
  refine ⟨fun k => k = g ∧ xs ≠ [], ⟨g, fun _ => ⟨0, rfl, fun j hj => ?_⟩, fun _ => Iff.rfl⟩, (Kept.freeze w g C.size).mono (fun k _ e => (hS.2 k).2 e), fun k hk => .inl ((hS.2 k).2 hk.1)⟩
  rw [cell_of_row _ g _ C t _ hg, Nat.zero_add, ← Array.getElem?_toList, hx, bcs_get]
  simp [List.getD, hj]
theorem Holds.blk_heap {w : World} {R : List HP} {g : Nat} {t : TypeId} {C : Array Value} (h : Holds w (HP.blk g t C :: R)) : w.heap[g]? = some (.cells C t (0, 0)) := by
  obtain ⟨S, hS⟩ := h.head
  exact hS.1
end Go.Proofs.YtibkngjacdggpaaDoor
/- The stream laws' pieces: a type, a body, junk. -/
namespace Go.Proofs.YtibkngjacdggpaaDoor
open Go.RowKit HP

structure PC where
  t : UInt8
  A : Option Addr
  n : Nat
  c : Nat
  xs : List UInt8
  B : Option Addr
  m : Nat
  d : Nat
  ys : List UInt8
def PC.cells (p : PC) : List Value := [.int .u8 (p.t.toNat : Int), .slice p.A p.n p.c, .slice p.B p.m p.d]
structure PC.Ok (w : World) (p : PC) : Prop where
  n : Hid (p.n = p.xs.length)
  c : p.n ≤ p.c
  cm : p.c ≤ maxLen
  rd : RD w p.A p.xs
  m : Hid (p.m = p.ys.length)
  d : p.m ≤ p.d
  dm : p.d ≤ maxLen
  rd' : RD w p.B p.ys
/-- the row of pieces at A, and what they read -/
structure PcRd (w : World) (A : Option Addr) (l : List PC) : Prop where
  at_ : l ≠ [] → ∃ g o, A = some ⟨g, o, none⟩ ∧ ∀ j (h : j < l.length), w.cell? ⟨g, o + j * 3, none⟩ = some (.int .u8 (l[j].t.toNat : Int)) ∧ w.cell? ⟨g, o + j * 3 + 1, none⟩ = some (.slice l[j].A l[j].n l[j].c) ∧ w.cell? ⟨g, o + j * 3 + 2, none⟩ = some (.slice l[j].B l[j].m l[j].d)
  ok : ∀ p ∈ l, p.Ok w
theorem PC.Ok.kept {w w' : World} {p : PC} (h : p.Ok w) (hk : Kept w w' No) : p.Ok w' := ⟨h.n, h.c, h.cm, h.rd.kept hk, h.m, h.d, h.dm, h.rd'.kept hk⟩
theorem PcRd.kept {w w' : World} {A : Option Addr} {l : List PC} (h : PcRd w A l) (hk : Kept w w' No) : PcRd w' A l := by
  refine ⟨fun hl => ?_, fun p hp => (h.ok p hp).kept hk⟩
  obtain ⟨g, o, hA, hc⟩ := h.at_ hl
  refine ⟨g, o, hA, fun j hj => ?_⟩
  obtain ⟨h0, h1, h2⟩ := hc j hj
  exact ⟨by rw [hk.cell (block_lt_of_cell h0) (fun h => h)]; exact h0, by rw [hk.cell (block_lt_of_cell h1) (fun h => h)]; exact h1, by rw [hk.cell (block_lt_of_cell h2) (fun h => h)]; exact h2⟩
end Go.Proofs.YtibkngjacdggpaaDoor
/- max of a byte and one -/
namespace Go.Proofs.YtibkngjacdggpaaDoor
/-- max(t, 1) -/
def mx (t : UInt8) : UInt8 := if t = 0 then 1 else t
theorem mx_ne (t : UInt8) : mx t ≠ 0 := by unfold mx; split <;> simp_all
theorem mx_int (t : UInt8) : (if (t.toNat : Int) < 1 then 1 else (t.toNat : Int)) = ((mx t).toNat : Int) := by
  unfold mx
  by_cases h : t = 0
  · subst h; rfl
  · have : ¬ t.toNat = 0 := fun e => h (UInt8.toNat.inj (by simpa using e))
    rw [if_neg (by omega), if_neg h]
end Go.Proofs.YtibkngjacdggpaaDoor
/- A region that draws its order, in which several operations that write may come up in any order: an invariant over which of them have come. -/
namespace Go.Proofs.YtibkngjacdggpaaDoor
open Go.RowKit HP

/-- what a slot holds: v if the operation has come, u if not -/
def Fl (b : Bool) (v u : Value) : Value := if b then v else u
theorem Fl_true (v u : Value) : Fl true v u = v := rfl
theorem Fl_false (v u : Value) : Fl false v u = u := rfl
/-- a piece that is there, or not yet -/
def HP.opt (b : Bool) (P : HP) : HP := if b then P else emp
theorem HP.opt_true (P : HP) : HP.opt true P = P := rfl
theorem HP.opt_false (P : HP) : HP.opt false P = emp := rfl
theorem Holds.emp_tail {w : World} {R : List HP} (h : Holds w (emp :: R)) : Holds w R := h.tail
theorem Holds.emp_cons {w : World} {R : List HP} (h : Holds w R) : Holds w (emp :: R) := by
  obtain ⟨S, h⟩ := h
  exact ⟨S, fun _ => False, S, fun _ h => h, h, fun _ h => h.elim, fun k => by simp⟩
/-- how many have not come -/
def cf (l : Array Bool) : Nat := l.toList.count false
theorem cf_list : ∀ (l : List Bool) (i : Nat), l[i]?.getD true = false → (l.set i true).count false + 1 = l.count false
  | [], i, h => by simp at h
  | b :: l, 0, h => by
    obtain rfl : b = false := by simpa using h
    simp
  | b :: l, i + 1, h => by
    have := cf_list l i (by simpa using h)
    cases b <;> simp only [List.set_cons_succ, List.count_cons] <;> simp <;> omega
theorem cf_set {l : Array Bool} {i : Nat} (h : l.getD i true = false) : cf (l.setIfInBounds i true) + 1 = cf l := by
  unfold cf
  rw [Array.toList_setIfInBounds]
  refine cf_list _ _ ?_
  simpa using h
theorem cf_pos {l : Array Bool} {i : Nat} (h : l.getD i true = false) : 0 < cf l := by have := cf_set h; omega
/-- an operation waits for those ahead of it alone -/
def acyc : List Oper → Nat → Bool
  | [], _ => true
  | o :: r, i => o.after.toList.all (fun e => decide (e.on < i)) && acyc r (i + 1)
theorem acyc_at : ∀ (l : List Oper) (k : Nat), acyc l k = true → ∀ i o, l[i]? = some o → ∀ e ∈ o.after, e.on < k + i
  | [], _, _, i, o, h => by simp at h
  | x :: l, k, ha, 0, o, h => by
    obtain rfl : x = o := by simpa using h
    simp only [acyc, Bool.and_eq_true, List.all_eq_true, decide_eq_true_eq] at ha
    intro e he
    exact ha.1 e (by simpa using he)
  | x :: l, k, ha, i + 1, o, h => by
    simp only [acyc, Bool.and_eq_true] at ha
    intro e he
    have := acyc_at l (k + 1) ha.2 i o (by simpa using h) e he
    omega
section
variable {P : Program} {md : Region.Mode} {l : List Oper} {Q : Exit → Act → World → Prop} {S : World → Prop}
theorem ready_some (ha : acyc l 0 = true) {listed : Array Bool} (hs : listed.size = l.length) {i : Nat} (h : listed.getD i true = false) : Region.ready md l.toArray listed ≠ [] := by
  induction i using Nat.strongRecOn with
  | _ i ih =>
    by_cases hp : ∃ j, j < i ∧ listed.getD j true = false
    · obtain ⟨j, hj, hf⟩ := hp
      exact ih j hj hf
    · intro e
      have hi : i < l.length := by
        rw [← hs]
        rcases Nat.lt_or_ge i listed.size with h' | h'
        · exact h'
        · simp [Array.getElem?_eq_none h'] at h
      have : i ∈ Region.ready md l.toArray listed := by
        refine mem_ready.2 ⟨h, l[i], by simp [hi], fun e he _ => ?_⟩
        have hlt := acyc_at l 0 ha i l[i] (by simp [hi]) e he
        have hlt2 : e.on < listed.size := by omega
        have hn : ¬ listed.getD e.on true = false := fun h' => hp ⟨e.on, by omega, h'⟩
        simp [hlt2] at hn ⊢
        exact hn
      rw [e] at this
      cases this
/-- each operation that may come up keeps J -/
def EachOp (P : Program) (md : Region.Mode) (l : List Oper) (Q : Exit → Act → World → Prop) (J : Array Bool → Act → World → Prop) (full listed : Array Bool) (a : Act) (w : World) : List Oper → Nat → Prop
  | [], _ => True
  | o :: r, i => (listed ≠ full → listed.getD i true = false → (o.after.toList.all fun e => !Region.binds md e || listed.getD e.on false) = true →
      Region.wanted o (yielded l.toArray a.tmps) = true ∧ ∀ K' : Act → World → Prop, Shut (∀ a w, J (listed.setIfInBounds i true) a w → K' a w) → Oper.wp P o a w K' Q) ∧ EachOp P md l Q J full listed a w r (i + 1)
theorem EachOp.at_ {J : Array Bool → Act → World → Prop} {full listed : Array Bool} {a : Act} {w : World} : ∀ (r : List Oper) (k : Nat), EachOp P md l Q J full listed a w r k → ∀ i o, r[i]? = some o →
    (listed ≠ full → listed.getD (k + i) true = false → (o.after.toList.all fun e => !Region.binds md e || listed.getD e.on false) = true →
      Region.wanted o (yielded l.toArray a.tmps) = true ∧ ∀ K' : Act → World → Prop, Shut (∀ a w, J (listed.setIfInBounds (k + i) true) a w → K' a w) → Oper.wp P o a w K' Q)
  | [], _, _, i, o, h => by simp at h
  | x :: r, k, ha, 0, o, h => by
    obtain rfl : x = o := by simpa using h
    exact ha.1
  | x :: r, k, ha, i + 1, o, h => by
    have := EachOp.at_ r (k + 1) ha.2 i o (by simpa using h)
    rwa [show k + 1 + i = k + (i + 1) by omega] at this
theorem wpAnyH_phase (J : Array Bool → Act → World → Prop) (late : Nat) (full : Array Bool) (ha : acyc l 0 = true) (hJ : ∀ listed a w, J listed a w → listed.size = l.length ∧ listed.getD late true = false ∧ S w)
    (hend : ∀ a w, J full a w → wpAnyH P md l.toArray Q S (cf full) full a w) (hstep : ∀ listed a w, J listed a w → EachOp P md l Q J full listed a w l 0) :
    ∀ (fuel : Nat) (listed : Array Bool) (a : Act) (w : World), fuel = cf listed → J listed a w → wpAnyH P md l.toArray Q S fuel listed a w
  | 0, listed, a, w, hf, h => by
    have := cf_pos (hJ _ _ _ h).2.1
    omega
  | fuel + 1, listed, a, w, hf, h => by
    by_cases hfull : listed = full
    · subst hfull
      rw [hf]
      exact hend _ _ h
    · obtain ⟨hs, hl, _⟩ := hJ _ _ _ h
      refine ⟨fun e => absurd e (ready_some ha hs hl), fun i hi => ?_⟩
      obtain ⟨hu, o, ho, hd⟩ := mem_ready.1 hi
      have ho' : l[i]? = some o := by simpa using ho
      have hd' : (o.after.toList.all fun e => !Region.binds md e || listed.getD e.on false) = true := by
        rw [List.all_eq_true]
        intro e he
        cases hb : Region.binds md e
        · rfl
        · rw [hd e (by simpa using he) hb]; rfl
      have h1 := (hstep _ _ _ h).at_ l 0 i o ho' hfull (by rwa [Nat.zero_add]) hd'
      rw [Nat.zero_add] at h1
      refine wpOp_step ho (fun K' hK => ?_)
      rw [if_pos h1.1]
      exact h1.2 K' (fun a' w' h' => hK a' w' ⟨(hJ _ _ _ h').2.2, wpAnyH_phase J late full ha hJ hend hstep fuel _ a' w' (by have := cf_set hu; omega) h'⟩)
theorem wp_app_sl {o : Oper} {a : Act} {K : Act → World → Prop} {w : World} {R : List HP} (s x : Operand) (t : TypeId)
    (ho : o.op = .call { callee := .builtin .append, args := #[s, x], argTypes := #[t, t] }) (ht : P.underlying t = some (.slice 5)) (hi : (P.info? 5).map (fun i => (i.zero, i.size, i.bytes)) = some (some (.int .u8 0), 1, 1))
    (v : Value) (xs : List UInt8) (hh : Holds w (own v xs :: R)) (hs : a.eval s = v) (A : Option Addr) (ys : List UInt8) (n c : Nat) (hn : Hid (n = ys.length)) (hx : a.eval x = .slice A n c) (hr : RD w A ys) (hb : xs.length + ys.length ≤ 140737488355328)
    (h : ∀ v' w', Holds w' (own v' (xs ++ ys) :: R) → K (a.put o.dst v') w') : o.wp P a w K Q := by
  obtain ⟨g, hr⟩ := hr
  exact wp_app_b w s x t ho ht hi v xs hh.ob hs g A ys n c hn.out hx hr hb fun v' w' h2 h3 h4 => h v' w' (hh.app h2 h3 h4)
theorem wpList_app_sl {ops : Array Oper} {rest : List Oper} {o : Oper} {a : Act} {w : World} {R : List HP} (hgd : o.guard = none) (s x : Operand) (t : TypeId)
    (ho : o.op = .call { callee := .builtin .append, args := #[s, x], argTypes := #[t, t] }) (ht : P.underlying t = some (.slice 5)) (hi : (P.info? 5).map (fun i => (i.zero, i.size, i.bytes)) = some (some (.int .u8 0), 1, 1))
    (v : Value) (xs : List UInt8) (hh : Holds w (own v xs :: R)) (hs : a.eval s = v) (A : Option Addr) (ys : List UInt8) (n c : Nat) (hn : Hid (n = ys.length)) (hx : a.eval x = .slice A n c) (hr : RD w A ys) (hb : xs.length + ys.length ≤ 140737488355328)
    (h : ∀ v' w', Holds w' (own v' (xs ++ ys) :: R) → wpList P ops Q rest (a.put o.dst v') w') : wpList P ops Q (o :: rest) a w :=
  wpList_plain hgd fun _ hK => wp_app_sl s x t ho ht hi v xs hh hs A ys n c hn hx hr hb fun v' w' h2 => hK _ _ (h v' w' h2)
/-- .. J told by the activation at which it begins -/
theorem wpAnyH_phaseA (J : Act → Array Bool → Act → World → Prop) (late : Nat) (full : Array Bool) (m : Nat) {fuel : Nat} {listed : Array Bool} {a : Act} {w : World} (ha : acyc l 0 = true) (hf : fuel = cf listed) (hm : cf full = m) (h0 : J a listed a w)
    (hJ : ∀ listed' a' w', J a listed' a' w' → listed'.size = l.length ∧ listed'.getD late true = false ∧ S w')
    (hend : ∀ a' w', J a full a' w' → wpAnyH P md l.toArray Q S m full a' w') (hstep : ∀ listed' a' w', J a listed' a' w' → EachOp P md l Q (J a) full listed' a' w' l 0) :
    wpAnyH P md l.toArray Q S fuel listed a w := wpAnyH_phase (J a) late full ha hJ (by rw [hm]; exact hend) hstep fuel listed a w hf h0
end
end Go.Proofs.YtibkngjacdggpaaDoor
/- Rows of elements of any type, and append's law on them. -/
namespace Go.Proofs.YtibkngjacdggpaaDoor
open Go.RowKit HP

/-- the slice at A reads the cells cs -/
def RowRd (w : World) (A : Option Addr) (cs : List Value) : Prop := cs ≠ [] → ∃ g o, A = some ⟨g, o, none⟩ ∧ ∀ (j : Nat) (u : Value), cs[j]? = some u → w.cell? ⟨g, o + j, none⟩ = some u
section
variable {w w' : World} {A : Option Addr} {cs : List Value} {R : List HP} {E : TypeId} {sz n : Nat} {v : Value}
theorem RowRd.nil (w : World) (A : Option Addr) : RowRd w A [] := fun h => absurd rfl h
theorem RowRd.kept (h : RowRd w A cs) (hk : Kept w w' No) : RowRd w' A cs := fun hc => by
  obtain ⟨g, o, hA, hx⟩ := h hc
  exact ⟨g, o, hA, fun j u hu => by rw [hk.cell (block_lt_of_cell (hx j u hu)) (fun h => h)]; exact hx j u hu⟩
theorem Holds.row_form (h : Holds w (row E sz v n cs :: R)) : ∃ A c, v = .slice A n c ∧ n ≤ c ∧ cs.length = n * sz ∧ RowRd w A cs := by
  obtain ⟨S, hS, _⟩ := h.head
  rcases hS with ⟨hl, ⟨rfl, rfl⟩ | ⟨g, cap, cur, rfl, _, hgg, hnc, _, _, htk⟩⟩
  · exact ⟨none, 0, rfl, Nat.le_refl _, hl, fun hc => absurd (List.eq_nil_of_length_eq_zero (by rw [hl]; omega)) hc⟩
  · refine ⟨some ⟨g, 0, none⟩, cap, rfl, hnc, hl, fun _ => ⟨g, 0, rfl, fun j u hu => ?_⟩⟩
    rw [cell_of_row w g _ cur E (0, 0) hgg, Nat.zero_add]
    rw [← htk, List.getElem?_take] at hu
    split at hu
    · simpa using hu
    · cases hu
theorem Holds.row_rd {c : Nat} (h : Holds w (row E sz (.slice A n c) n cs :: R)) : RowRd w A cs := by
  obtain ⟨A', c', hv, _, _, hr⟩ := h.row_form
  simp only [Value.slice.injEq] at hv
  obtain ⟨rfl, _, rfl⟩ := hv
  exact hr
theorem Ent.row {c : Nat} : Ent (HP.row E sz (.slice A n c) n cs :: R) (fun w => RowRd w A cs) := fun _ hw => hw.row_rd
theorem Holds.blk_row {g : Nat} {t : TypeId} (h : Holds w (HP.blk g t cs.toArray :: R)) : RowRd w (some ⟨g, 0, none⟩) cs := fun _ => ⟨g, 0, rfl, fun j u hu => by rw [h.cells, Nat.zero_add, List.getElem?_toArray]; exact hu⟩
theorem Holds.app_row {w' : World} {v' : Value} {m : Nat} {news : List Value} (h : Holds w (row E sz v n cs :: R)) (ho : w'.ownsRow 0 E sz v' (n + m) (cs ++ news)) (hk : Kept w w' (fun k => some k = v.ownBlock)) (hp : Place w.heap.size v v') :
    Holds w' (row E sz v' (n + m) (cs ++ news) :: R) :=
  h.change fun S hS => ⟨fun k => v'.ownBlock = some k, ⟨ho, fun _ => Iff.rfl⟩, hk.mono (fun k _ e => (hS.2 k).2 e.symm), fun k hk => by
    rcases hp with e | ⟨g, hg, e⟩
    · exact .inl ((hS.2 k).2 (by rw [← e]; exact hk))
    · rw [e] at hk; cases hk; exact .inr hg⟩
end
section
variable {P : Program}
theorem run_app_row (w : World) (t ty E : TypeId) (z : Value) (sz bytes : Nat) (ht : P.underlying t = some (.slice E)) (hi : (P.info? E).map (fun i => (i.zero, i.size, i.bytes)) = some (some z, sz, bytes)) (hzs : z.cells.size = sz) (hsz : 0 < sz)
    (v : Value) (n : Nat) (cs : List Value) (hown : w.ownsRow 0 E sz v n cs) (A : Option Addr) (m c : Nat) (news : List Value) (hl : news.length = m * sz) (hr : RowRd w A news) (h1 : ∀ u ∈ news, u.oneCell' = true)
    (h63 : n + m ≤ maxLen) (hb : (n + m) * bytes ≤ 140737488355328) :
    ∃ v' w', (Builtin.append_ #[t, t] ty #[v, .slice A m c]).run P w = .ok v' w' ∧ w'.ownsRow 0 E sz v' (n + m) (cs ++ news) ∧ Kept w w' (fun k => some k = v.ownBlock) ∧ Place w.heap.size v v' := by
  obtain ⟨i, hi, hz, hs, hby⟩ := info_parts hi
  by_cases hn : news = []
  · subst hn
    obtain rfl : m = 0 := by
      rcases Nat.eq_zero_or_pos m with h | h
      · exact h
      · have := Nat.mul_pos h hsz; simp at hl; omega
    refine ⟨v, w, ?_, by simpa using hown, Kept.refl _ _, Place.refl _ _⟩
    rcases hown.2 with ⟨rfl, _⟩ | ⟨g, cap, cur, rfl, _, hg, h1, _⟩
    · rcases A with _ | ad <;> simp [Builtin.append_, run_underlying ht, sizeOf, typeInfo, hi, Builtin.lenOf, Builtin.firstCells, loadCells, loadCellsFrom]
    · rcases A with _ | ad <;> simp [Builtin.append_, run_underlying ht, sizeOf, typeInfo, hi, Builtin.lenOf, Builtin.firstCells, loadCells, loadCellsFrom, h1, storeCells]
  · obtain ⟨g, o, rfl, hc⟩ := hr hn
    obtain ⟨v', w', hrun, h2, h3, _, h5⟩ := run_append_own_at (P := P) w 0 t ty E i z sz bytes ht hi hz hs hby hzs hsz v n cs hown ⟨g, o, none⟩ m c news hl
      (fun j u hu => by rw [add_plain]; exact hc j u hu) h1 h63 hb (Nat.zero_le _)
    refine ⟨v', w', hrun, h2, ⟨h3.os, h3.tape, h3.output, h3.size, fun k hk hS => h3.block k hk hS⟩, ?_⟩
    rcases h5 with e | e
    · exact .inl e
    · exact .inr ⟨_, Nat.le_refl _, e⟩
theorem wp_app_row {o : Oper} {a : Act} {K : Act → World → Prop} {Q : Exit → Act → World → Prop} {w : World} {R : List HP} (s x : Operand) (t E : TypeId) (z : Value) (sz bytes : Nat)
    (ho : o.op = .call { callee := .builtin .append, args := #[s, x], argTypes := #[t, t] }) (ht : P.underlying t = some (.slice E)) (hi : (P.info? E).map (fun i => (i.zero, i.size, i.bytes)) = some (some z, sz, bytes)) (hzs : z.cells.size = sz) (hsz : 0 < sz)
    (v : Value) (n : Nat) (cs : List Value) (hh : Holds w (row E sz v n cs :: R)) (hs : a.eval s = v) (A : Option Addr) (m c : Nat) (news : List Value) (hl : news.length = m * sz) (hx : a.eval x = .slice A m c) (hr : RowRd w A news) (h1 : ∀ u ∈ news, u.oneCell' = true)
    (h63 : n + m ≤ maxLen) (hb : (n + m) * bytes ≤ 140737488355328)
    (h : ∀ v' w', Holds w' (row E sz v' (n + m) (cs ++ news) :: R) → K (a.put o.dst v') w') : o.wp P a w K Q := by
  obtain ⟨S, hS, _⟩ := hh.head
  obtain ⟨v', w', hrun, h2, h3, h4⟩ := run_app_row w t o.type E z sz bytes ht hi hzs hsz v n cs hS A m c news hl hr h1 h63 hb
  unfold Oper.wp execOp
  simp only [ho, resolve, invoke, builtin, Sem.run_bind, Sem.run_pure, Result.andThen_ok, List.map_toArray, List.map_cons, List.map_nil, hs, hx, hrun]
  exact h v' w' (hh.app_row h2 h3 h4)
theorem wpList_app_row {ops : Array Oper} {rest : List Oper} {o : Oper} {a : Act} {Q : Exit → Act → World → Prop} {w : World} {R : List HP} (hgd : o.guard = none) (s x : Operand) (t E : TypeId) (z : Value) (sz bytes : Nat)
    (ho : o.op = .call { callee := .builtin .append, args := #[s, x], argTypes := #[t, t] }) (ht : P.underlying t = some (.slice E)) (hi : (P.info? E).map (fun i => (i.zero, i.size, i.bytes)) = some (some z, sz, bytes)) (hzs : z.cells.size = sz) (hsz : 0 < sz)
    (v : Value) (n : Nat) (cs : List Value) (hh : Holds w (row E sz v n cs :: R)) (hs : a.eval s = v) (A : Option Addr) (m c : Nat) (news : List Value) (hl : news.length = m * sz) (hx : a.eval x = .slice A m c) (hr : RowRd w A news) (h1 : ∀ u ∈ news, u.oneCell' = true)
    (h63 : n + m ≤ maxLen) (hb : (n + m) * bytes ≤ 140737488355328)
    (h : ∀ v' w', Holds w' (row E sz v' (n + m) (cs ++ news) :: R) → wpList P ops Q rest (a.put o.dst v') w') : wpList P ops Q (o :: rest) a w :=
  wpList_plain hgd fun _ hK => wp_app_row s x t E z sz bytes ho ht hi hzs hsz v n cs hh hs A m c news hl hx hr h1 h63 hb fun v' w' h2 => hK _ _ (h v' w' h2)
end
/-- a piece that is dropped, of two -/
theorem Holds.map_head {w : World} {P Q : HP} {R : List HP} (h : Holds w (P :: R)) (hc : ∀ S, P.at_ S w → ∃ S', Q.at_ S' w ∧ ∀ k, S' k → S k) : Holds w (Q :: R) := h.turn hc
theorem Holds.all_mem {w : World} {l R : List HP} {P : HP} (h : Holds w (HP.all l :: R)) (hP : P ∈ l) : ∃ S, P.at_ S w := by
  obtain ⟨S, hS⟩ := h.head
  clear h
  induction l generalizing S with
  | nil => cases hP
  | cons Q l ih =>
    obtain ⟨S1, S2, h1, h2, _, _⟩ := hS
    rcases List.mem_cons.1 hP with rfl | hP
    · exact ⟨S1, h1⟩
    · exact ih hP S2 h2
theorem Holds.all_snoc {w : World} {l R : List HP} {P : HP} (h : Holds w (HP.all l :: P :: R)) : Holds w (HP.all (l ++ [P]) :: R) := by
  have h1 : Holds w (P :: HP.all l :: R) := h.perm (.swap _ _ _)
  have h2 : Holds w (HP.all (P :: l) :: R) := h1.join
  refine h2.turn fun S hS => ⟨S, HP.all_perm ?_ hS, fun _ h => h⟩
  exact (List.perm_append_comm (l₁ := l) (l₂ := [P])).symm
theorem Holds.all_append {w : World} {l l' R : List HP} (h : Holds w (HP.all l :: HP.all l' :: R)) : Holds w (HP.all (l ++ l') :: R) := by
  induction l' generalizing l with
  | nil => rw [List.append_nil]; exact h.drop 1 rfl
  | cons P l' ih =>
    have h1 : Holds w (HP.all (P :: l') :: HP.all l :: R) := h.perm (.swap _ _ _)
    have h2 : Holds w (P :: HP.all l' :: HP.all l :: R) := h1.sep_
    have h3 : Holds w (HP.all l :: P :: HP.all l' :: R) := h2.pull 2 rfl
    have h4 := ih (l := l ++ [P]) (h3.all_snoc)
    rwa [List.append_assoc] at h4
end Go.Proofs.YtibkngjacdggpaaDoor
