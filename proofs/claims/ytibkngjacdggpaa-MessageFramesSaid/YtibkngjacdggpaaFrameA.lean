import Derived.Test.YtibkngjacdggpaaShaOf
import Derived.Test.YtibkngjacdggpaaSl
import Derived.Test.YtibkngjacdggpaaFramePure
import Derived.Lib.AppendZeros
import Derived.Test.YtibkngjacdggpaaSlPack
/- slices' functions over bytes, and the sum of a frame. -/
namespace Go.Proofs.Ytibkngjacdggpaa
open Go.RowKit HP

/-- a block's first bytes are read -/
theorem Holds.rb_of_blk {w : World} {R : List HP} {g : Nat} {t : TypeId} {cs : Array Value} {xs : List UInt8} (h : Holds w (HP.blk g t cs :: R)) (hx : cs.toList.take xs.length = bcs xs) : Holds w (HP.rb (some ⟨g, 0, none⟩) xs :: R) := h.turn fun S hS => by
  refine ⟨fun k => k = g ∧ xs ≠ [], ⟨g, fun _ => ⟨0, rfl, fun j hj => ?_⟩, fun _ => Iff.rfl⟩, fun k hk => (hS.2 k).2 hk.1⟩
  rw [hS.1.cell, Nat.zero_add, ← Array.getElem?_toList]
  have h1 : (cs.toList.take xs.length)[j]? = cs.toList[j]? := by rw [List.getElem?_take, if_pos hj]
  rw [← h1, hx, bcs_get]
  simp [List.getD, hj]





























































































theorem clone_sl (A : Option Addr) (n c : Nat) (xs : List UInt8) (w : World) (R : List HP) (hh : Holds w R) (hr : Ent R fun w => RD w A xs) (hn : Hid (n = xs.length)) (hb : xs.length ≤ 140737488355328) :
    Calls Try.prog 20 #[.slice A n c] w fun e w' => ∃ v, e = .returned v ∧ Holds w' (own v xs :: R) := by
  obtain ⟨g, hrb⟩ := hr _ hh
  have hq := Lib.run_eql_slice_nil (P := Try.prog) w 22 5 A n c 0 0 Try.underlying22
  rcases A with _ | a
  · have hx : xs = [] := by
      by_cases h : xs = []
      · exact h
      · obtain ⟨o, ho, _⟩ := hrb h; cases ho
    subst hx
    have HH := Lib.hid hh.nil_own; clear hh
    go_enter Try.func20, Try.ntmps20
    go_wp2
    go_returns
    exact ⟨_, rfl, HH.out⟩
  · have h0 := (hh.alloc 5 #[]).own_of_cells (xs := []) (n := 0) (cap := 0) rfl (Nat.le_refl _) (by decide) rfl rfl
    have HH0 := Lib.hid h0
    have HRB := Lib.hid (hrb.alloc (.cells #[] 5))
    clear hh h0 hrb
    go_enter Try.func20, Try.ntmps20
    go_wp2_with (at_builtin
                 refine wpList_app_b _ rfl (.tmp 5) (.tmp 6) 22 rfl Try.underlying22 Try.infoByte _ _ HH0.out.ob rfl g (some a) xs n c hn.out rfl HRB.out (by simpa using hb) ?_
                 intro v2 w2 ho2 hk2 hp2
                 have HH1 := Lib.hid (HH0.out.app ho2 hk2 hp2)
                 clear ho2 hk2 hp2)
    go_returns
    exact ⟨_, rfl, HH1.out⟩





























end Go.Proofs.Ytibkngjacdggpaa
/- slices.Equal over bytes; a frame's length and its beginning. -/
namespace Go.Proofs.Ytibkngjacdggpaa
open Go.RowKit HP

theorem u8_ne {x y : UInt8} (h : x ≠ y) : (((x.toNat : Int) == (y.toNat : Int)) : Bool) = false := by
  rw [beq_eq_false_iff_ne]
  intro e
  exact h (UInt8.toNat.inj (by omega))
































































/-- xs[a:a+k] -/
theorem RB.mid {w : World} {g o : Nat} {xs : List UInt8} (h : RB w g (some ⟨g, o, none⟩) xs) (a k : Nat) : RB w g (some ⟨g, o + a, none⟩) ((xs.drop a).take k) := fun hx => by
  have hne : xs ≠ [] := by intro e; subst e; simp at hx
  obtain ⟨o', ho, hc⟩ := h hne
  obtain rfl : o = o' := by simpa using ho
  refine ⟨o + a, rfl, fun j hj => ?_⟩
  simp only [List.length_take, List.length_drop] at hj
  rw [Nat.add_assoc, hc (a + j) (by omega)]
  simp [List.getD, show j < k by omega]
/-- a slice that is not empty has its address -/
theorem RD.addr {w : World} {A : Option Addr} {xs : List UInt8} (h : RD w A xs) (hne : xs ≠ []) : ∃ g o, A = some ⟨g, o, none⟩ ∧ RB w g (some ⟨g, o, none⟩) xs := by
  obtain ⟨g, h⟩ := h
  obtain ⟨o, rfl, hc⟩ := h hne
  exact ⟨g, o, rfl, fun _ => ⟨o, rfl, hc⟩⟩
theorem ne_nil_of_len {n : Nat} {xs : List UInt8} (hn : Hid (n = xs.length)) (h : 0 < n) : xs ≠ [] := by
  intro e; subst e; have := hn.out; simp at this; omega
theorem rnum2 (xs : List UInt8) (h : xs.length = 2) : (rnum (xs, false) 2).1 = unbe xs := by
  simp [rnum, szB, rtake, h, List.take_of_length_le]




















end Go.Proofs.Ytibkngjacdggpaa
/- whether a frame may begin so -/
namespace Go.Proofs.Ytibkngjacdggpaa
open Go.RowKit HP

theorem magX (xs : List UInt8) (m : Nat) (hm : m ≤ 3) : ((strOf xs).toList == (ByteArray.extract { data := #[114, 100, 1] } 0 m).toList) = (xs == magB.take m) := by
  have h : (ByteArray.extract { data := #[114, 100, 1] } 0 m).toList = magB.take m := by
    obtain rfl | rfl | rfl | rfl : m = 0 ∨ m = 1 ∨ m = 2 ∨ m = 3 := by omega
    all_goals decide +kernel
  rw [h, strOf_list]
theorem begins3 {xs : List UInt8} (h : (xs.take 3 == magB.take 3) = false) (h3 : 3 ≤ xs.length) : beginsF xs = false := by
  unfold beginsF
  rw [show min xs.length 3 = 3 by omega, h]
  rfl
theorem begins_few {xs : List UInt8} (h3 : xs.length ≤ 3) : beginsF xs = (xs.take xs.length == magB.take xs.length) := by
  unfold beginsF
  rw [show min xs.length 3 = xs.length by omega, show decide (3 < xs.length) = false by simp; omega, if_neg (by omega), if_neg (by omega), List.take_of_length_le h3, List.take_length]
  simp
theorem begins_many {xs : List UInt8} (h : (xs.take 3 == magB.take 3) = true) (h4 : 4 ≤ xs.length) :
    beginsF xs = (!(xs.getD 3 0 == 0) && (if 6 ≤ xs.length then decide (lenF xs ≤ 1000) else if 4 < xs.length then decide ((xs.getD 4 0).toNat ≤ 3) else true)) := by
  unfold beginsF
  rw [show min xs.length 3 = 3 by omega, h, show decide (3 < xs.length) = true by simp; omega]
  simp
theorem u8_zero {x : UInt8} (h : x ≠ 0) : ¬ ((x.toNat : Int) = 0) := by
  intro e
  exact h (UInt8.toNat.inj (by simpa using e))



















































































































end Go.Proofs.Ytibkngjacdggpaa
