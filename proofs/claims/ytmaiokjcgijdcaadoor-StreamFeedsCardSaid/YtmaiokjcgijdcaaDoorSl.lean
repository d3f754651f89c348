/- What memory holds, piece by piece: a list of pieces that share no block; what a call changes is one piece, the others stay. -/
import Derived.Test.YtmaiokjcgijdcaaDoorArr
namespace Go.Proofs.YtmaiokjcgijdcaaDoor
open Go.RowKit

/-- w' has the blocks S as w had them. -/
structure Same (S : Nat → Prop) (w w' : World) : Prop where
  os : w'.os = w.os
  tape : w'.tape = w.tape
  output : w'.output = w.output
  size : w.heap.size ≤ w'.heap.size
  block : ∀ k, S k → w'.heap[k]? = w.heap[k]?
theorem Same.kept {S : Nat → Prop} {w w' : World} (h : Same S w w') : Kept w w' (fun k => ¬ S k) := ⟨h.os, h.tape, h.output, h.size, fun k _ hn => h.block k (Classical.not_not.1 hn)⟩
theorem Kept.same {L S : Nat → Prop} {w w' : World} (h : Kept w w' L) (hS : ∀ k, S k → k < w.heap.size ∧ ¬ L k) : Same S w w' := ⟨h.os, h.tape, h.output, h.size, fun k hk => h.block k (hS k hk).1 (hS k hk).2⟩
theorem Same.sub {S S' : Nat → Prop} {w w' : World} (h : Same S w w') (hs : ∀ k, S' k → S k) : Same S' w w' := ⟨h.os, h.tape, h.output, h.size, fun k hk => h.block k (hs k hk)⟩

/-- A piece of memory: the blocks that are its own, and what it says of them. -/
structure HP where
  at_ : (Nat → Prop) → World → Prop
  lt : ∀ {S w}, at_ S w → ∀ k, S k → k < w.heap.size
  fr : ∀ {S w w'}, at_ S w → Same S w w' → at_ S w'

namespace HP
/-- nothing -/
def emp : HP := ⟨fun S _ => ∀ k, ¬ S k, fun h k hk => absurd hk (h k), fun h _ => h⟩
/-- two pieces apart -/
def sep (P Q : HP) : HP := ⟨fun S w => ∃ S1 S2, P.at_ S1 w ∧ Q.at_ S2 w ∧ (∀ k, S1 k → ¬ S2 k) ∧ (∀ k, S k ↔ S1 k ∨ S2 k),
  fun ⟨_, _, h1, h2, _, hs⟩ k hk => ((hs k).1 hk).elim (P.lt h1 k) (Q.lt h2 k),
  fun ⟨S1, S2, h1, h2, hd, hs⟩ hw => ⟨S1, S2, P.fr h1 (hw.sub fun k hk => (hs k).2 (.inl hk)), Q.fr h2 (hw.sub fun k hk => (hs k).2 (.inr hk)), hd, hs⟩⟩
def ex {α : Type} (P : α → HP) : HP := ⟨fun S w => ∃ x, (P x).at_ S w, fun ⟨x, h⟩ => (P x).lt h, fun ⟨x, h⟩ hw => ⟨x, (P x).fr h hw⟩⟩
/-- a piece and a fact -/
def cond (p : Prop) (P : HP) : HP := ⟨fun S w => p ∧ P.at_ S w, fun h => P.lt h.2, fun h hw => ⟨h.1, P.fr h.2 hw⟩⟩
/-- block g, known whole -/
def blk (g : Nat) (t : TypeId) (cs : Array Value) : HP := ⟨fun S w => Blk w g t cs ∧ ∀ k, S k ↔ k = g, fun h k hk => by rw [(h.2 k).1 hk]; exact h.1.lt,
  fun h hw => ⟨(hw.block g ((h.2 g).2 rfl)).trans h.1, h.2⟩⟩
def mapb (g : Nat) (es : Array MapEntry) (cl : Nat) : HP := ⟨fun S w => MapB w g es cl ∧ ∀ k, S k ↔ k = g, fun h k hk => by rw [(h.2 k).1 hk]; exact h.1.lt,
  fun h hw => ⟨(hw.block g ((h.2 g).2 rfl)).trans h.1, h.2⟩⟩
/-- the slice v owns a row of n elements of type E, their cells cs -/
def row (E : TypeId) (sz : Nat) (v : Value) (n : Nat) (cs : List Value) : HP := ⟨fun S w => w.ownsRow 0 E sz v n cs ∧ ∀ k, S k ↔ v.ownBlock = some k,
  fun {S w} h k hk => by
    rcases h.1.2 with ⟨rfl, _⟩ | ⟨g, cap, cur, rfl, _, hgg, _⟩
    · have := (h.2 k).1 hk; simp [Value.ownBlock] at this
    · have := (h.2 k).1 hk; simp [Value.ownBlock] at this; subst this; exact lt_of_heap hgg,
  fun {S w w'} h hw => by
    refine ⟨⟨h.1.1, ?_⟩, h.2⟩
    rcases h.1.2 with hn | ⟨g, cap, cur, rfl, hb, hgg, rest⟩
    · exact .inl hn
    · exact .inr ⟨g, cap, cur, rfl, hb, (hw.block g ((h.2 g).2 (by simp [Value.ownBlock]))).trans hgg, rest⟩⟩
/-- the slice v owns a row of just the bytes xs -/
def own (v : Value) (xs : List UInt8) : HP := row 5 1 v xs.length (bcs xs)
/-- all that was there in w0 is there as it was -/
def since (w0 : World) : HP := ⟨fun S w => Kept w0 w No ∧ ∀ k, S k ↔ k < w0.heap.size, fun h k hk => by have := (h.2 k).1 hk; have := h.1.size; omega,
  fun h hw => ⟨⟨hw.os.trans h.1.os, hw.tape.trans h.1.tape, hw.output.trans h.1.output, Nat.le_trans h.1.size hw.size, fun k hk hn => (hw.block k ((h.2 k).2 hk)).trans (h.1.block k hk hn)⟩, h.2⟩⟩
/-- the slice at A reads the bytes xs, in a block of its own -/
def rb (A : Option Addr) (xs : List UInt8) : HP := ⟨fun S w => ∃ g, RB w g A xs ∧ ∀ k, S k ↔ (k = g ∧ xs ≠ []), fun ⟨g, h, hs⟩ k hk => by obtain ⟨rfl, hx⟩ := (hs k).1 hk; exact h.lt hx,
  fun {S w w'} ⟨g, h, hs⟩ hw => by
    refine ⟨g, fun hx => ?_, hs⟩
    exact (h.kept hw.kept (fun hn => hn ((hs g).2 ⟨rfl, hx⟩))) hx⟩
def all : List HP → HP
  | [] => emp
  | P :: l => sep P (all l)
end HP
open HP

/-- In w the pieces l stand apart (and perhaps more). -/
def Holds (w : World) (l : List HP) : Prop := ∃ S, (HP.all l).at_ S w

section
variable {w w' : World} {l R : List HP} {P Q : HP}
theorem Holds.start (w : World) : Holds w [since w] := ⟨fun k => k < w.heap.size, _, fun _ => False, ⟨Kept.refl _ _, fun k => Iff.rfl⟩, fun _ h => h, fun _ _ h => h, fun k => by simp⟩
theorem Holds.same (h : Holds w l) (hs : ∀ S : Nat → Prop, (∀ k, S k → k < w.heap.size) → Same S w w') : Holds w' l := by
  obtain ⟨S, h⟩ := h
  exact ⟨S, HP.fr _ h (hs S (HP.lt _ h))⟩
theorem Holds.kept (h : Holds w l) (hk : Kept w w' No) : Holds w' l := h.same fun _ hS => hk.same fun k hk => ⟨hS k hk, fun h => h⟩
theorem Holds.drew (h : Holds w l) : Holds w.drew l := h.kept (Kept.refl _ _).drew
theorem Holds.drewN (h : Holds w l) (n : Nat) : Holds (w.drewN n) l := h.kept ((Kept.refl _ _).drewN n)
theorem Holds.alloc_ (h : Holds w l) (o : Obj) : Holds (w.alloc o) l := h.kept ((Kept.refl _ _).alloc o)
/-- The one rule of change: the first piece turns into another one, in its own blocks and in new ones. -/
theorem Holds.change (h : Holds w (P :: R)) (hc : ∀ S, P.at_ S w → ∃ S', Q.at_ S' w' ∧ Kept w w' S ∧ (∀ k, S' k → S k ∨ w.heap.size ≤ k)) : Holds w' (Q :: R) := by
  obtain ⟨S, S1, S2, h1, h2, hd, hs⟩ := h
  obtain ⟨S1', h1', hk, hsub⟩ := hc S1 h1
  refine ⟨fun k => S1' k ∨ S2 k, S1', S2, h1', HP.fr _ h2 (hk.same fun k hk2 => ⟨HP.lt _ h2 k hk2, fun h => hd k h hk2⟩), fun k hk1 hk2 => ?_, fun k => Iff.rfl⟩
  rcases hsub k hk1 with h | h
  · exact hd k h hk2
  · have := HP.lt _ h2 k hk2; omega
/-- A new piece in new blocks. -/
theorem Holds.new_ (h : Holds w R) (hc : ∃ S', Q.at_ S' w' ∧ Kept w w' No ∧ (∀ k, S' k → w.heap.size ≤ k)) : Holds w' (Q :: R) := by
  obtain ⟨S', h1, hk, hn⟩ := hc
  have : Holds w (emp :: R) := by
    obtain ⟨S, h⟩ := h
    exact ⟨S, fun _ => False, S, fun _ h => h, h, fun _ h => h.elim, fun k => by simp⟩
  exact this.change fun S hS => ⟨S', h1, hk.mono (fun k _ h => h.elim), fun k hk => .inr (hn k hk)⟩
theorem Holds.turn (h : Holds w (P :: R)) (hc : ∀ S, P.at_ S w → ∃ S', Q.at_ S' w ∧ ∀ k, S' k → S k) : Holds w (Q :: R) := h.change fun S hS => by
  obtain ⟨S', h1, h2⟩ := hc S hS
  exact ⟨S', h1, Kept.refl _ _, fun k hk => .inl (h2 k hk)⟩
theorem Holds.head (h : Holds w (P :: R)) : ∃ S, P.at_ S w := by obtain ⟨_, S1, _, h1, _⟩ := h; exact ⟨S1, h1⟩
theorem Holds.tail (h : Holds w (P :: R)) : Holds w R := by obtain ⟨_, _, S2, _, h2, _⟩ := h; exact ⟨S2, h2⟩
theorem Holds.map_tail {l' : List HP} (h : Holds w (P :: l)) (hc : ∀ S, (HP.all l).at_ S w → ∃ S', (HP.all l').at_ S' w ∧ ∀ k, S' k → S k) : Holds w (P :: l') := by
  obtain ⟨_, S1, S2, h1, h2, hd, _⟩ := h
  obtain ⟨S2', h2', hsub⟩ := hc S2 h2
  exact ⟨fun k => S1 k ∨ S2' k, S1, S2', h1, h2', fun k a b => hd k a (hsub k b), fun k => Iff.rfl⟩
theorem HP.all_perm {l l' : List HP} (h : l.Perm l') : ∀ {S w}, (HP.all l).at_ S w → (HP.all l').at_ S w := by
  induction h with
  | nil => exact fun h => h
  | cons P _ ih => exact fun ⟨S1, S2, h1, h2, hd, hs⟩ => ⟨S1, S2, h1, ih h2, hd, hs⟩
  | swap P Q l =>
    rintro S w ⟨S1, S2, h1, ⟨S3, S4, h3, h4, hd2, hs2⟩, hd, hs⟩
    refine ⟨S3, fun k => S1 k ∨ S4 k, h3, ⟨S1, S4, h1, h4, fun k a b => hd k a ((hs2 k).2 (.inr b)), fun k => Iff.rfl⟩, fun k a b => ?_, fun k => ?_⟩
    · rcases b with b | b
      · exact hd k b ((hs2 k).2 (.inl a))
      · exact hd2 k a b
    · rw [hs, hs2]
      constructor
      · rintro (h | h | h)
        · exact .inr (.inl h)
        · exact .inl h
        · exact .inr (.inr h)
      · rintro (h | h | h)
        · exact .inr (.inl h)
        · exact .inl h
        · exact .inr (.inr h)
  | trans _ _ ih1 ih2 => exact fun h => ih2 (ih1 h)
theorem Holds.perm {l' : List HP} (h : Holds w l) (hp : l.Perm l') : Holds w l' := by
  obtain ⟨S, h⟩ := h
  exact ⟨S, HP.all_perm hp h⟩
theorem perm_pull : ∀ {l : List HP} {i : Nat} {P : HP}, l[i]? = some P → l.Perm (P :: l.eraseIdx i)
  | Q :: l, 0, P, h => by
    obtain rfl : Q = P := by simpa using h
    exact .refl _
  | Q :: l, i + 1, P, h => ((perm_pull (l := l) (i := i) (P := P) (by simpa using h)).cons Q).trans (.swap _ _ _)
/-- piece i goes ahead -/
theorem Holds.pull (h : Holds w l) (i : Nat) {P : HP} (hi : l[i]? = some P) : Holds w (P :: l.eraseIdx i) := h.perm (perm_pull hi)
theorem Holds.nth (h : Holds w l) (i : Nat) {P : HP} (hi : l[i]? = some P) : ∃ S, P.at_ S w := (h.pull i hi).head
theorem Holds.drop (h : Holds w l) (i : Nat) {P : HP} (hi : l[i]? = some P) : Holds w (l.eraseIdx i) := (h.pull i hi).tail
/-- back to its place -/
theorem Holds.push_ (h : Holds w (P :: R)) (i : Nat) (hi : i ≤ R.length) : Holds w (R.insertIdx i P) := h.perm (List.perm_insertIdx P R hi).symm

theorem Holds.sep_ (h : Holds w (sep P Q :: R)) : Holds w (P :: Q :: R) := by
  obtain ⟨S, S1, S2, ⟨S3, S4, h3, h4, hd2, hs2⟩, h2, hd, hs⟩ := h
  refine ⟨S, S3, fun k => S4 k ∨ S2 k, h3, ⟨S4, S2, h4, h2, fun k a b => hd k ((hs2 k).2 (.inr a)) b, fun k => Iff.rfl⟩, fun k a b => ?_, fun k => by rw [hs, hs2, or_assoc]⟩
  rcases b with b | b
  · exact hd2 k a b
  · exact hd k ((hs2 k).2 (.inl a)) b
theorem Holds.join (h : Holds w (P :: Q :: R)) : Holds w (sep P Q :: R) := by
  obtain ⟨S, S1, S2, h1, ⟨S3, S4, h3, h4, hd2, hs2⟩, hd, hs⟩ := h
  refine ⟨S, fun k => S1 k ∨ S3 k, S4, ⟨S1, S3, h1, h3, fun k a b => hd k a ((hs2 k).2 (.inl b)), fun k => Iff.rfl⟩, h4, fun k a b => ?_, fun k => by rw [hs, hs2, or_assoc]⟩
  rcases a with a | a
  · exact hd k a ((hs2 k).2 (.inr b))
  · exact hd2 k a b
theorem Holds.ex_ {α : Type} {P : α → HP} (h : Holds w (ex P :: R)) : ∃ x, Holds w (P x :: R) := by
  obtain ⟨S, S1, S2, ⟨x, h1⟩, h2, hd, hs⟩ := h
  exact ⟨x, S, S1, S2, h1, h2, hd, hs⟩
theorem Holds.mk_ex {α : Type} {P : α → HP} (x : α) (h : Holds w (P x :: R)) : Holds w (ex P :: R) := h.turn fun S hS => ⟨S, ⟨x, hS⟩, fun _ h => h⟩
theorem Holds.cond_ {p : Prop} (h : Holds w (cond p P :: R)) : p ∧ Holds w (P :: R) := by
  obtain ⟨S, S1, S2, ⟨hp, h1⟩, h2, hd, hs⟩ := h
  exact ⟨hp, S, S1, S2, h1, h2, hd, hs⟩
theorem Holds.mk_cond {p : Prop} (hp : p) (h : Holds w (P :: R)) : Holds w (cond p P :: R) := h.turn fun S hS => ⟨S, ⟨hp, hS⟩, fun _ h => h⟩

/-! ### blocks -/
variable {g : Nat} {t : TypeId} {cs : Array Value}
theorem Holds.blk (h : Holds w (blk g t cs :: R)) : Blk w g t cs := by obtain ⟨S, h, _⟩ := h.head; exact h
theorem Holds.cells (h : Holds w (HP.blk g t cs :: R)) : ∀ i, w.cell? ⟨g, i, none⟩ = cs[i]? := h.blk.cell
theorem Holds.free (h : Holds w (HP.blk g t cs :: R)) : ∀ i, w.frozen? ⟨g, i, none⟩ = false := h.blk.frozen
theorem Holds.set_ (h : Holds w (HP.blk g t cs :: R)) (i : Nat) (u : Value) : Holds (w.setCell ⟨g, i, none⟩ u) (HP.blk g t (cs.setIfInBounds i u) :: R) :=
  h.change fun S hS => ⟨S, ⟨hS.1.set_ i u, hS.2⟩, Kept.set_ (Kept.refl _ _) (p := ⟨g, i, none⟩) (.inl ((hS.2 g).2 rfl)) u, fun _ hk => .inl hk⟩
theorem Holds.alloc (h : Holds w R) (t : TypeId) (cs : Array Value) : Holds (w.alloc (.cells cs t)) (HP.blk w.heap.size t cs :: R) :=
  h.new_ ⟨fun k => k = w.heap.size, ⟨Blk.new w t cs, fun _ => Iff.rfl⟩, (Kept.refl _ _).alloc _, fun k hk => by omega⟩
theorem Holds.allocMap (h : Holds w R) : Holds (w.alloc (.map #[] 0)) (HP.mapb w.heap.size #[] 0 :: R) :=
  h.new_ ⟨fun k => k = w.heap.size, ⟨heap_alloc_new w _, fun _ => Iff.rfl⟩, (Kept.refl _ _).alloc _, fun k hk => by omega⟩
/-- the whole row of a block is stored anew -/
theorem Holds.reblk {cs' : Array Value} (h : Holds w (HP.blk g t cs :: R)) (hb : Blk w' g t cs') (hk : Kept w w' (· = g)) : Holds w' (HP.blk g t cs' :: R) :=
  h.change fun S hS => ⟨S, ⟨hb, hS.2⟩, hk.mono (fun k _ e => (hS.2 k).2 e), fun _ hk => .inl hk⟩
theorem Holds.blk_ne {g' : Nat} {t' : TypeId} {cs' : Array Value} (h : Holds w (HP.blk g t cs :: HP.blk g' t' cs' :: R)) : g ≠ g' := by
  obtain ⟨S, S1, S2, h1, ⟨S3, S4, h3, h4, hd2, hs2⟩, hd, hs⟩ := h
  intro e
  exact hd g ((h1.2 g).2 rfl) ((hs2 g).2 (.inl ((h3.2 g).2 e)))

/-! ### rows -/
variable {v : Value} {xs ys : List UInt8}
theorem Holds.ob (h : Holds w (own v xs :: R)) : OB w v xs := by obtain ⟨S, h, _⟩ := h.head; exact h
theorem Holds.nil_own (h : Holds w R) : Holds w (own (.slice none 0 0) [] :: R) :=
  h.new_ ⟨fun _ => False, ⟨OB.nil w, fun k => by simp [Value.ownBlock]⟩, Kept.refl _ _, fun _ h => h.elim⟩
theorem Holds.nil_row (h : Holds w R) (E : TypeId) (sz : Nat) : Holds w (row E sz (.slice none 0 0) 0 [] :: R) :=
  h.new_ ⟨fun _ => False, ⟨World.ownsRow_nil w 0 E sz, fun k => by simp [Value.ownBlock]⟩, Kept.refl _ _, fun _ h => h.elim⟩
/-- A block of just bytes is owned as a row. -/
theorem Holds.own_of_blk (h : Holds w (HP.blk g 5 (bcs xs).toArray :: R)) (hl : xs.length ≤ maxLen) : Holds w (own (.slice (some ⟨g, 0, none⟩) xs.length xs.length) xs :: R) :=
  h.turn fun S hS => ⟨S, ⟨⟨by simp, .inr ⟨g, xs.length, (bcs xs).toArray, rfl, Nat.zero_le _, hS.1, Nat.le_refl _, hl, by simp, by simp [List.take_of_length_le]⟩⟩, fun k => by simp [Value.ownBlock, hS.2, eq_comm]⟩, fun _ h => h⟩
/-- The slice at A reads the bytes xs. -/
def RD (w : World) (A : Option Addr) (xs : List UInt8) : Prop := ∃ g, RB w g A xs
theorem RD.kept {A : Option Addr} (h : RD w A xs) (hk : Kept w w' No) : RD w' A xs := by obtain ⟨g, h⟩ := h; exact ⟨g, h.kept hk (fun h => h)⟩
theorem RD.drew {A : Option Addr} (h : RD w A xs) : RD w.drew A xs := h
theorem RD.nil (w : World) (A : Option Addr) : RD w A [] := ⟨0, RB.nil _ _ _⟩
theorem RD.take {A : Option Addr} (h : RD w A xs) (k : Nat) : RD w A (xs.take k) := by obtain ⟨g, h⟩ := h; exact ⟨g, h.take k⟩
theorem RD.drop {A : Option Addr} (h : RD w A xs) {k c : Nat} (hk : k ≤ xs.length) (hc : xs.length ≤ c) : RD w (if c = k then A else A.map (·.add k)) (xs.drop k) := by obtain ⟨g, h⟩ := h; exact ⟨g, h.drop hk hc⟩
theorem Holds.own_form (h : Holds w (own v xs :: R)) : ∃ A n c, v = .slice A n c ∧ Hid (n = xs.length) ∧ n ≤ c ∧ RD w A xs := by
  obtain ⟨A, n, c, rfl, hn, hc, hr, _⟩ := h.ob.form
  exact ⟨A, n, c, rfl, hn, hc, _, hr⟩
theorem Holds.own_rd {A : Option Addr} {n c : Nat} (h : Holds w (own (.slice A n c) xs :: R)) : RD w A xs := by
  obtain ⟨A', n', c', e, hn, hc, hr⟩ := h.own_form
  cases e; exact hr
theorem Holds.rb_rd {A : Option Addr} (h : Holds w (rb A xs :: R)) : RD w A xs := by obtain ⟨S, g, h, _⟩ := h.head; exact ⟨g, h⟩
/-- append's law, as pieces -/
theorem Holds.app {v' : Value} (h : Holds w (own v xs :: R)) (ho : OB w' v' (xs ++ ys)) (hk : Kept w w' (fun k => some k = v.ownBlock)) (hp : Place w.heap.size v v') : Holds w' (own v' (xs ++ ys) :: R) :=
  h.change fun S hS => ⟨fun k => v'.ownBlock = some k, ⟨ho, fun _ => Iff.rfl⟩, hk.mono (fun k _ e => (hS.2 k).2 e.symm), fun k hk => by
    rcases hp with e | ⟨g, hg, e⟩
    · exact .inl ((hS.2 k).2 (by rw [← e]; exact hk))
    · rw [e] at hk; cases hk; exact .inr hg⟩
theorem Holds.fresh {v' : Value} (h : Holds w R) (hf : OB w' v' xs ∧ Kept w w' No ∧ (∀ k, v'.ownBlock = some k → w.heap.size ≤ k)) : Holds w' (own v' xs :: R) :=
  h.new_ ⟨fun k => v'.ownBlock = some k, ⟨hf.1, fun _ => Iff.rfl⟩, hf.2.1, fun k hk => hf.2.2 k hk⟩
/-- an owned row is read, and no more written -/
theorem Holds.own_rb {A : Option Addr} {n c : Nat} (h : Holds w (own (.slice A n c) xs :: R)) : Holds w (rb A xs :: R) := h.turn fun S hS => by
  obtain ⟨A', n', c', e, hn, hc, hr, ho⟩ := OB.form (w := w) (v := .slice A n c) (xs := xs) hS.1
  cases e
  refine ⟨fun k => k = (Value.slice A n c).ownBlock.getD 0 ∧ xs ≠ [], ⟨_, hr, fun _ => Iff.rfl⟩, fun k hk => (hS.2 k).2 ?_⟩
  obtain ⟨rfl, hx⟩ := hk
  cases hb : (Value.slice A n c).ownBlock with
  | none => exact absurd (ho.out hb).2 hx
  | some k => rfl

/-! ### since -/
theorem Holds.since_kept {w0 : World} (h : Holds w (since w0 :: R)) : Kept w0 w No := by obtain ⟨S, h, _⟩ := h.head; exact h

/-- What the pieces l tell of every world. -/
def Ent (l : List HP) (φ : World → Prop) : Prop := ∀ w, Holds w l → φ w
theorem Ent.cons {φ : World → Prop} (h : Ent l φ) (P : HP) : Ent (P :: l) φ := fun _ hw => h _ hw.tail
theorem Ent.since {w0 : World} {A : Option Addr} (h : RD w0 A xs) : Ent (HP.since w0 :: R) (fun w => RD w A xs) := fun _ hw => h.kept hw.since_kept
theorem Ent.own {A : Option Addr} {n c : Nat} : Ent (HP.own (.slice A n c) xs :: R) (fun w => RD w A xs) := fun _ hw => hw.own_rd
theorem Ent.rb {A : Option Addr} : Ent (HP.rb A xs :: R) (fun w => RD w A xs) := fun _ hw => hw.rb_rd
theorem Ent.perm {l' : List HP} {φ : World → Prop} (h : Ent l φ) (hp : l'.Perm l) : Ent l' φ := fun _ hw => h _ (hw.perm hp)
theorem Ent.pull {φ : World → Prop} (i : Nat) {P : HP} (hi : l[i]? = some P) (h : Ent (P :: l.eraseIdx i) φ) : Ent l φ := fun _ hw => h _ (hw.pull i hi)
end

/-- a block of bytes that is owned as the row of its first ones -/
theorem Holds.own_of_cells {w : World} {R : List HP} {g : Nat} {cur : Array Value} {xs : List UInt8} {n cap : Nat} (h : Holds w (HP.blk g 5 cur :: R)) (hn : n = xs.length) (hc : n ≤ cap) (hcap : cap ≤ maxLen) (hs : cur.size = cap) (hx : cur.toList.take n = bcs xs) :
    Holds w (HP.own (.slice (some ⟨g, 0, none⟩) n cap) xs :: R) := by
  subst hn
  exact h.turn fun S hS => ⟨S, ⟨⟨by simp, .inr ⟨g, cap, cur, rfl, Nat.zero_le _, hS.1, hc, hcap, by rw [Nat.mul_one]; exact hs, by rw [Nat.mul_one]; exact hx⟩⟩, fun k => by simp [Value.ownBlock, hS.2, eq_comm]⟩, fun _ h => h⟩

/-! ### one cell is stored -/
section
variable {P : Program}
theorem run_storeVar_one (w : World) (g off : Nat) (ty : TypeId) (v u : Value) (h1 : v.oneCell' = true) (hi : (P.info? ty).map (·.size) = some 1) (hc : w.cell? ⟨g, off, none⟩ = some u) (hf : w.frozen? ⟨g, off, none⟩ = false) :
    (storeVar ty ⟨g, off, none⟩ v).run P w = .ok () (w.setCell ⟨g, off, none⟩ v) := by
  cases hq : P.info? ty with
  | none => simp [hq] at hi
  | some i =>
    have hs : i.size = 1 := by simpa [hq] using hi
    have hcs : v.cells = #[v] := by cases v <;> first | rfl | cases h1
    have ha : (⟨g, off, none⟩ : Addr).add 0 = ⟨g, off, none⟩ := by simp [add_plain]
    simp only [storeVar, hcs, sizeOf, typeInfo, storeCells, ha]
    simp [run_store P w _ v _ h1, hc, hf, hs, hq]
theorem wp_store_one {o : Oper} {a : Act} {w : World} {K : Act → World → Prop} {Q : Exit → Act → World → Prop} (ty : TypeId) (x y : Operand) (ho : o.op = .store ty x y)
    (g off : Nat) (v : Value) (hx : a.eval x = .pointer (some ⟨g, off, none⟩)) (hy : a.eval y = v) (h1 : v.oneCell' = true) (hi : (P.info? ty).map (·.size) = some 1) (u : Value) (hc : w.cell? ⟨g, off, none⟩ = some u) (hf : w.frozen? ⟨g, off, none⟩ = false)
    (h : K (a.put o.dst undef) (w.setCell ⟨g, off, none⟩ v)) : o.wp P a w K Q := by
  unfold Oper.wp execOp
  simp only [ho, hx, hy, Instr.storeAt, Instr.sureAddr, Sem.run_bind, Sem.run_pure, Result.andThen_ok, run_storeVar_one w g off ty v u h1 hi hc hf]
  exact h
theorem wpList_store_one {ops : Array Oper} {rest : List Oper} {o : Oper} {a : Act} {w : World} {Q : Exit → Act → World → Prop} (hgd : o.guard = none) (ty : TypeId) (x y : Operand) (ho : o.op = .store ty x y)
    (g off : Nat) (v : Value) (hx : a.eval x = .pointer (some ⟨g, off, none⟩)) (hy : a.eval y = v) (h1 : v.oneCell' = true) (hi : (P.info? ty).map (·.size) = some 1) (u : Value) (hc : w.cell? ⟨g, off, none⟩ = some u) (hf : w.frozen? ⟨g, off, none⟩ = false)
    (h : wpList P ops Q rest (a.put o.dst undef) (w.setCell ⟨g, off, none⟩ v)) : wpList P ops Q (o :: rest) a w :=
  wpList_plain hgd fun _ hK => wp_store_one ty x y ho g off v hx hy h1 hi u hc hf (hK _ _ h)
end
end Go.Proofs.YtmaiokjcgijdcaaDoor
