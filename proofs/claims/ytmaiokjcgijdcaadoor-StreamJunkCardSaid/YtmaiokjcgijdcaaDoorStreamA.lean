/- the stream: skip, drop, Dropped, Waits -/
import Derived.Test.YtmaiokjcgijdcaaDoorFrList
import Derived.Test.YtmaiokjcgijdcaaDoorStreamPure
import Derived.Test.YtmaiokjcgijdcaaDoorFrameD
namespace Go.Proofs.YtmaiokjcgijdcaaDoor
open Go.RowKit HP

/-- how many bytes ahead no frame begins with -/
def skipN : List UInt8 → Nat
  | [] => 0
  | x :: l => if beginsF (x :: l) = true then 0 else skipN l + 1
theorem skipN_le (l : List UInt8) : skipN l ≤ l.length := by
  induction l with
  | nil => exact Nat.le_refl _
  | cons x l ih => unfold skipN; split <;> simp <;> omega
theorem skipN_drop {l : List UInt8} {k : Nat} (hk : k < l.length) : skipN (l.drop k) = if beginsF (l.drop k) = true then 0 else skipN (l.drop (k + 1)) + 1 := by
  rw [List.drop_eq_getElem_cons hk, skipN]
theorem RD.from {w : World} {g o : Nat} {xs : List UInt8} (h : RD w (some ⟨g, o, none⟩) xs) (k : Nat) : RD w (some ⟨g, o + k, none⟩) (xs.drop k) := by
  have := h.mid k xs.length
  rwa [List.take_of_length_le (by simp)] at this
set_option maxRecDepth 100000 in
set_option maxHeartbeats 1000000 in
theorem skip_ok (A : Option Addr) (n c : Nat) (xs : List UInt8) (w : World) (R : List HP) (hh : Holds w R) (hr : Ent R fun w => RD w A xs) (hn : Hid (n = xs.length)) (hc : n ≤ c) (hb : n ≤ 140737488355328) :
    Calls Tryd.prog 47 #[.slice A n c] w fun e w' => e = .returned (.int .i64 (skipN xs : Nat)) ∧ Holds w' R := by
  have HR := Lib.hid hr; have HH := Lib.hid hh
  clear hr hh
  go_enter Tryd.func47, Tryd.ntmps47
  go_wp2
  go_loopw [6] (fun v wr => ∃ k : Nat, k ≤ n ∧ v = .int .i64 k ∧ Hid (skipN xs = k + skipN (xs.drop k)) ∧ Holds wr R) (fun v _ => n - (intOf v).toNat)
  case atStart => exact ⟨0, by omega, rfl, by unfold Hid; simp, HH.out⟩
  case round =>
    obtain ⟨k, hk, rfl, hsk, hq⟩ := hrel
    by_cases hlt : k < n
    · obtain ⟨g, o, rfl, -⟩ := (HR.out _ hq).addr (ne_nil_of_len hn (by omega))
      have hkl : k < xs.length := by rw [← hn.out]; exact hlt
      have hd := skipN_drop hkl
      have H1 : Hid (n - k = (xs.drop k).length) := by unfold Hid; rw [List.length_drop, ← hn.out]
      have HB := Lib.hid (begins_ok (some ⟨g, o + k, none⟩) (n - k) (c - k) (xs.drop k) wr R hq (fun w' h' => (HR.out _ h').from k) H1 (by omega) (by omega))
      have hck : ¬ c = k := by omega
      have hkc : (k : Int) ≤ c := by omega
      clear hq hkl
      cases hbg : beginsF (xs.drop k)
      · rw [hbg] at HB hd
        have HS : Hid (skipN xs = (k + 1) + skipN (xs.drop (k + 1))) := by unfold Hid; rw [hsk.out, hd]; simp; omega
        clear hd hbg
        go_wp2_with (go_at_call 18; (with_reducible refine HB.out.mono ?_); rintro e w1 ⟨rfl, hh1⟩; have HH1 := Lib.hid hh1; clear hh1)
        go_roundw
        case rel => exact ⟨k + 1, by omega, by go_num, HS, HH1.out⟩
        case measure => simp [intOf]; omega
      · rw [hbg] at HB hd
        have HS : Hid (skipN xs = k) := by unfold Hid; rw [hsk.out, hd]; simp
        clear hd hbg
        go_wp2_with (go_at_call 18; (with_reducible refine HB.out.mono ?_); rintro e w1 ⟨rfl, hh1⟩; have HH1 := Lib.hid hh1; clear hh1)
        go_returns
        exact ⟨by rw [HS.out]; rfl, HH1.out⟩
    · obtain rfl : k = n := by omega
      have HS : Hid (skipN xs = k) := by
        unfold Hid
        rw [hsk.out, List.drop_of_length_le (by rw [← hn.out]; omega)]
        rfl
      have HQ := Lib.hid hq; clear hq
      go_wp2
      go_returns
      exact ⟨by rw [HS.out]; rfl, HQ.out⟩

/-- a stream in block s: the bytes that wait, and how many were dropped -/
def StH (s : Nat) (b : List UInt8) (dr : Nat) : HP := ex fun x : Option Addr × Nat × Nat => cond (Hid (x.2.1 = b.length) ∧ x.2.1 ≤ x.2.2) (sep (HP.blk s 44 #[.slice x.1 x.2.1 x.2.2, .int .i64 dr]) (rb x.1 b))
section
variable {w : World} {R : List HP} {s dr : Nat} {b : List UInt8}
theorem Holds.st (h : Holds w (StH s b dr :: R)) : ∃ A n c, Hid (n = b.length) ∧ n ≤ c ∧ Holds w (HP.blk s 44 #[.slice A n c, .int .i64 dr] :: rb A b :: R) := by
  obtain ⟨⟨A, n, c⟩, h⟩ := h.ex_
  obtain ⟨⟨h1, h2⟩, h⟩ := h.cond_
  exact ⟨A, n, c, h1, h2, h.sep_⟩
theorem Holds.mk_st {A : Option Addr} {n c : Nat} (h : Holds w (HP.blk s 44 #[.slice A n c, .int .i64 dr] :: rb A b :: R)) (hn : Hid (n = b.length)) (hc : n ≤ c) : Holds w (StH s b dr :: R) := Holds.mk_ex (A, n, c) (Holds.mk_cond ⟨hn, hc⟩ h.join)
/-- a piece that reads bytes reads the last of them -/
theorem Holds.rb_from {g o : Nat} {xs : List UInt8} (h : Holds w (rb (some ⟨g, o, none⟩) xs :: R)) (k : Nat) : Holds w (rb (some ⟨g, o + k, none⟩) (xs.drop k) :: R) := h.turn fun S hS => by
  obtain ⟨g', hr, hs⟩ := hS
  by_cases hx : xs = []
  · subst hx
    refine ⟨fun _ => False, ⟨g, RB.nil _ _ _ |> (by simpa using ·), fun k => by simp⟩, fun _ h => h.elim⟩
  · obtain ⟨o', e, hc⟩ := hr hx
    obtain ⟨rfl, rfl⟩ : g = g' ∧ o = o' := by simpa using e
    have h1 : RB w g (some ⟨g, o + k, none⟩) (xs.drop k) := by
      have := hr.mid k xs.length
      rwa [List.take_of_length_le (by simp)] at this
    exact ⟨fun j => j = g ∧ xs.drop k ≠ [], ⟨g, h1, fun _ => Iff.rfl⟩, fun j hj => (hs j).2 ⟨hj.1, hx⟩⟩
theorem Holds.rb_nil {A : Option Addr} {xs : List UInt8} (h : Holds w (rb A xs :: R)) (A' : Option Addr) : Holds w (rb A' [] :: R) := h.turn fun S hS => ⟨fun _ => False, ⟨0, RB.nil _ _ _, fun k => by simp⟩, fun _ h => h.elim⟩
set_option maxRecDepth 100000 in
set_option maxHeartbeats 1000000 in
theorem sdrop_ok (k : Nat) (hk : k ≤ b.length) (h : Holds w (StH s b dr :: R)) (hb : b.length ≤ 140737488355328) (hd : dr ≤ 4611686018427387904) :
    Calls Tryd.prog 46 #[.pointer (some ⟨s, 0, none⟩), .int .i64 k] w fun e w' => e = .returned (.tuple #[]) ∧ Holds w' (StH s (b.drop k) (dr + k) :: R) := by
  obtain ⟨A, n, c, hn, hc, hh⟩ := h.st
  have c0 : w.cell? ⟨s, 0, none⟩ = some (.slice A n c) := (hh.cells 0).trans rfl
  have c1 : w.cell? ⟨s, 1, none⟩ = some (.int .i64 dr) := (hh.cells 1).trans rfl
  have f0 := hh.free 0; have f1 := hh.free 1
  have hkn : k ≤ n := by rw [hn.out]; exact hk
  have hnb : n ≤ 140737488355328 := by rw [hn.out]; exact hb
  have HN : Hid (n - k = (b.drop k).length) := by unfold Hid; rw [List.length_drop, ← hn.out]
  have HH := Lib.hid hh
  clear h hh
  by_cases hck : c = k
  · subst hck
    have hb0 : Hid (b.drop c = []) := List.drop_of_length_le (by rw [← hn.out]; omega)
    go_enter Tryd.func46, Tryd.ntmps46
    go_wp2
    go_end0
    refine ⟨rfl, Holds.mk_st (A := A) (n := 0) (c := 0) ?_ (by unfold Hid; rw [hb0.out]; rfl) (Nat.le_refl _)⟩
    have h1 := (HH.out.set_ 0 (.slice A 0 0)).set_ 1 (.int .i64 ((dr : Int) + (c : Int)))
    rw [hb0.out]
    have h2 := (h1.pull 1 rfl).rb_nil A
    have h3 := h2.pull 1 rfl
    rw [Int.natCast_add]
    exact h3
  · have hck2 : (k : Int) ≤ c := by omega
    by_cases hb0 : b = []
    · have hn0 : n = 0 := by rw [hn.out, hb0]; rfl
      obtain rfl : k = 0 := by omega
      subst hn0
      subst hb0
      clear hkn hck2 hk
      rcases A with _ | a
      · go_enter Tryd.func46, Tryd.ntmps46
        go_wp2
        go_end0
        refine ⟨rfl, Holds.mk_st (A := none) (n := 0) (c := c) ?_ HN (Nat.zero_le _)⟩
        exact (HH.out.set_ 0 (.slice none 0 c)).set_ 1 (.int .i64 dr)
      · go_enter Tryd.func46, Tryd.ntmps46
        go_wp2
        go_end0
        refine ⟨rfl, Holds.mk_st (A := some a) (n := 0) (c := c) ?_ HN (Nat.zero_le _)⟩
        exact (HH.out.set_ 0 (.slice (some a) 0 c)).set_ 1 (.int .i64 dr)
    · obtain ⟨g, o, rfl, -⟩ := (HH.out.tail.rb_rd).addr hb0
      go_enter Tryd.func46, Tryd.ntmps46
      go_wp2
      go_end0
      refine ⟨rfl, Holds.mk_st (A := some ⟨g, o + k, none⟩) (n := n - k) (c := c - k) ?_ HN (by omega)⟩
      have h1 := (HH.out.set_ 0 (.slice (some ⟨g, o + k, none⟩) (n - k) (c - k))).set_ 1 (.int .i64 ((dr : Int) + (k : Int)))
      have h2 := (h1.pull 1 rfl).rb_from k
      have h3 := h2.pull 1 rfl
      rw [Int.natCast_add]
      exact h3
end
end Go.Proofs.YtmaiokjcgijdcaaDoor
