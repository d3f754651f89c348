/- pack: the writer. -/
import Derived.Test.YtibkngjacdggpaaBase
namespace Go.Proofs.Ytibkngjacdggpaa
open Go.RowKit

/-- Can a number have so many bytes? -/
def szB (k : Int) : Bool := k == 1 || k == 2 || k == 4 || k == 8
theorem sized_ok (k : Int) (w : World) : Calls Try.prog 21 #[.int .i64 k] w fun e w' => e = .returned (.bool (szB k)) ∧ w = w' := by
  go_enter Try.func21, Try.ntmps21
  go_wp2
  all_goals go_ret
  all_goals first | exact ⟨rfl, rfl⟩ | (subst_vars; exact ⟨rfl, rfl⟩)







/-- What a writer's call may turn: its struct, its own row. -/
structure WStep (w w' : World) (b : Nat) (v v' : Value) : Prop where
  kept : Kept w w' (fun k => k = b ∨ some k = v.ownBlock)
  place : Place w.heap.size v v'
theorem WStep.refl (w : World) (b : Nat) (v : Value) : WStep w w b v v := ⟨Kept.refl _ _, Place.refl _ _⟩
theorem WStep.drew {w w' : World} {b : Nat} {v v' : Value} (h : WStep w w' b v v') : WStep w w'.drew b v v' := ⟨h.kept.drew, h.place⟩
theorem WStep.trans {w w1 w' : World} {b : Nat} {v v1 v' : Value} (h : WStep w w1 b v v1) (h' : WStep w1 w' b v1 v') : WStep w w' b v v' :=
  ⟨h.kept.trans h'.kept (fun k hk hh => by
    rcases hh with hh | hh | hh
    · exact hh
    · exact .inl hh
    · rcases h.place with e | ⟨g, hg, e⟩
      · exact .inr (by rw [← e]; exact hh)
      · rw [e] at hh; cases hh; omega), h.place.trans h'.place h.kept.size⟩






theorem Kept.of_alloc {w w2 : World} {L : Nat → Prop} {o : Obj} (h : Kept (w.alloc o) w2 L) : Kept w w2 L := ((Kept.refl w No).alloc o).trans h (by simp [No])
theorem Place.of_alloc {w : World} {o : Obj} {v v2 : Value} (h : Place (w.alloc o).heap.size v v2) : Place w.heap.size v v2 := by
  rcases h with e | ⟨g, hg, e⟩
  · exact .inl e
  · exact .inr ⟨g, by simp at hg; omega, e⟩















































/-- Does n fit into k bytes? -/
def fitsB (n : Nat) (k : Int) : Bool := k == 8 || n / 2 ^ (8 * k.toNat) == 0
/-- What Number does. -/
def wnum (s : List UInt8 × Bool) (n : Nat) (k : Int) : List UInt8 × Bool :=
  if s.2 then s else if szB k && fitsB n k then (s.1 ++ beL n k.toNat, false) else (s.1, true)
theorem szB_cases {k : Int} (h : szB k = true) : k = 1 ∨ k = 2 ∨ k = 4 ∨ k = 8 := by
  simp [szB] at h; omega







































































/-- What Truth does. -/
def wtruth (s : List UInt8 × Bool) (t : Bool) : List UInt8 × Bool := wnum s (if t then 1 else 0) 1





























/-- What Text does. -/
def wtext (s : List UInt8 × Bool) (t : List UInt8) : List UInt8 × Bool := if s.2 then s else if 65535 < t.length then (s.1, true) else (s.1 ++ beL t.length 2 ++ t, false)











































































/-- A slice of bytes of its own, in new memory. -/
def Fresh (w : World) (xs : List UInt8) (v : Value) (w' : World) : Prop := OB w' v xs ∧ Kept w w' No ∧ (∀ k, v.ownBlock = some k → w.heap.size ≤ k)
theorem Fresh.app {w w1 w2 : World} {xs ys : List UInt8} {v v2 : Value} (h : Fresh w xs v w1) (ho : OB w2 v2 ys) (hk : Kept w1 w2 (fun k => some k = v.ownBlock)) (hp : Place w1.heap.size v v2) : Fresh w ys v2 w2 := by
  obtain ⟨h1, h2, h3⟩ := h
  refine ⟨ho, h2.trans hk (fun g hg h => ?_), fun g hg => ?_⟩
  · rcases h with h | h
    · exact h
    · have := h3 g h.symm; omega
  · rcases hp with e | ⟨g', hg', e⟩
    · exact h3 g (by rw [← e]; exact hg)
    · rw [e] at hg; cases hg; have := h2.size; omega
theorem clone_any (A : Option Addr) (g n c : Nat) (xs : List UInt8) (w : World) (hn : Hid (n = xs.length)) (hr : RB w g A xs) (hb : xs.length ≤ 140737488355328) :
    Calls Try.prog 20 #[.slice A n c] w fun e w' => ∃ v, e = .returned v ∧ Fresh w xs v w' := by
  have hq := Lib.run_eql_slice_nil (P := Try.prog) w 22 5 A n c 0 0 Try.underlying22
  rcases A with _ | a
  · have hx : xs = [] := by
      by_cases h : xs = []
      · exact h
      · obtain ⟨o, ho, _⟩ := hr h; cases ho
    have HX := Lib.hid hx; clear hx
    go_enter Try.func20, Try.ntmps20
    go_wp2
    go_returns
    exact ⟨_, rfl, by rw [HX.out]; exact OB.nil w, Kept.refl _ _, fun k hk => by simp [Value.ownBlock] at hk⟩
  · go_enter Try.func20, Try.ntmps20
    have h0 := OB.new w [] (by simp [maxLen])
    go_wp2_with (at_builtin
                 refine wpList_app_b _ rfl (.tmp 5) (.tmp 6) 22 rfl Try.underlying22 Try.infoByte (.slice (some ⟨w.heap.size, 0, none⟩) 0 0) [] h0 rfl g (some a) xs n c hn.out rfl (hr.alloc _) (by simpa using hb) ?_
                 intro v2 w2 ho2 hk2 hp2
                 have HK := Lib.hid hk2; have HP := Lib.hid hp2; clear hk2 hp2
                 obtain ⟨A2, n2, m2, rfl, hn2, hc2, -, -⟩ := ho2.form)
    go_returns
    refine ⟨.slice A2 n2 m2, rfl, ho2, ?_, ?_⟩
    · refine ((Kept.refl w No).alloc (.cells #[] 5)).trans HK.out (fun k hk h => ?_)
      rcases h with h | h
      · exact h
      · simp [Value.ownBlock] at h; omega
    · intro k hk
      rcases HP.out with e | ⟨g', hg', e⟩
      · rw [e] at hk; simp [Value.ownBlock] at hk; omega
      · rw [e] at hk; cases hk; simp at hg'; omega























theorem Fresh.nil (w : World) : Fresh w [] (.slice none 0 0) w := ⟨OB.nil w, Kept.refl _ _, fun k hk => by simp [Value.ownBlock] at hk⟩
/-- What Bytes tells. -/
def wbytes (s : List UInt8 × Bool) : List UInt8 := if s.2 then [] else s.1







/-- What Hash does. -/
def whash (s : List UInt8 × Bool) (t : List UInt8) : List UInt8 × Bool := if s.2 then s else (s.1 ++ t, false)





































end Go.Proofs.Ytibkngjacdggpaa
