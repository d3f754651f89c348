import Derived.Test.YtibkngjacdggpaaDoorOpen
import Derived.Test.YtibkngjacdggpaaDoorRecEq
import Derived.Test.YtibkngjacdggpaaDoorMsgA
/- What came in: records. -/
namespace Go.Proofs.YtibkngjacdggpaaDoor
open Go.RowKit Go.Deep Go.ChangeShapes Go.WideShapes

section
variable {H : Type} {enc : TypeId × Value → H} {w : World} {base : Nat} {spare : Nat → Bool} {held : Bool} {fuel : Nat}
theorem open_flagsC {cs : List Value} {x : DataW H × List MemPlace} (h : DataW.trod enc Tryd.prog w base spare held fuel 38 cs = some x) : ∃ q e : Bool, cs = [.bool q, .bool e] := by
  have hc : Tryd.prog.cellsOf 38 = 2 := by kernel_rfl
  obtain ⟨xs, m, rfl, rfl, hl, hxl, hx⟩ := DataW.trod_struct Tryd.underlying38 h
  rw [hc] at hl
  have e4 : Tryd.prog.cellsOf 4 = 1 := by kernel_rfl
  obtain ⟨y0, h0⟩ := trod_field hx hxl 0 0 1 rfl e4
  obtain ⟨y1, h1⟩ := trod_field hx hxl 1 1 1 rfl e4
  obtain ⟨k0, g0, _⟩ := DataW.trod_bool Tryd.underlying4 h0
  obtain ⟨k1, g1, _⟩ := DataW.trod_bool Tryd.underlying4 h1
  refine ⟨k0, k1, ?_⟩
  have key : cs = (cs.drop 0).take 1 ++ (cs.drop 1).take 1 := by
    have h5 : (cs.drop 1).take 1 = cs.drop 1 := List.take_of_length_le (by simp; omega)
    rw [h5]
    exact (List.take_append_drop 1 cs).symm
  rw [key, g0, g1]
  rfl
theorem strOf_back (k : ByteArray) : strOf k.data.toList = k := rfl
theorem open_editC {cs : List Value} {x : DataW H × List MemPlace} (h : DataW.trod enc Tryd.prog w base spare held fuel 40 cs = some x) : ∃ e : Ed, e.Wf ∧ cs = e.cells := by
  have hc : Tryd.prog.cellsOf 40 = 35 := by kernel_rfl
  obtain ⟨xs, m, rfl, rfl, hl, hxl, hx⟩ := DataW.trod_struct Tryd.underlying40 h
  rw [hc] at hl
  have e4 : Tryd.prog.cellsOf 38 = 2 := by kernel_rfl
  have e5 : Tryd.prog.cellsOf 9 = 1 := by kernel_rfl
  have e6 : Tryd.prog.cellsOf 22 = 32 := by kernel_rfl
  obtain ⟨y0, h0⟩ := trod_field hx hxl 0 0 1 rfl e5
  obtain ⟨y1, h1⟩ := trod_field hx hxl 1 1 2 rfl e4
  obtain ⟨y2, h2⟩ := trod_field hx hxl 2 3 32 rfl e6
  obtain ⟨k0, g0, _, w0⟩ := DataW.trod_string Tryd.underlying9 h0
  obtain ⟨q, e, g1⟩ := open_flagsC h1
  obtain ⟨hs, w2, g2⟩ := open_hashC h2
  refine ⟨⟨k0.data.toList, q, e, hs⟩, ⟨w2, ?_⟩, ?_⟩
  · show k0.data.toList.length ≤ maxLen
    rw [Array.length_toList]; exact w0
  have key : cs = (cs.drop 0).take 1 ++ ((cs.drop 1).take 2 ++ (cs.drop 3).take 32) := by
    have t : ∀ (n k : Nat), (cs.drop n).take k ++ cs.drop (n + k) = cs.drop n := fun n k => by
      rw [← List.drop_drop]; exact List.take_append_drop k (cs.drop n)
    have h5 : (cs.drop 3).take 32 = cs.drop 3 := List.take_of_length_le (by simp; omega)
    rw [h5, t 1 2, t 0 1]
    rfl
  rw [key, g0, g1, g2]
  rfl



























































end
end Go.Proofs.YtibkngjacdggpaaDoor
/- What came in: messages. -/
namespace Go.Proofs.YtibkngjacdggpaaDoor
open Go.RowKit Go.Deep Go.ChangeShapes Go.WideShapes

section
variable {H : Type} {enc : TypeId × Value → H} {w : World} {base : Nat} {spare : Nat → Bool} {held : Bool} {fuel : Nat}
theorem open_msgC {cs : List Value} {x : DataW H × List MemPlace} (h : DataW.trod enc Tryd.prog w base spare held fuel 42 cs = some x) : ∃ r : Msg, r.Wf ∧ cs = r.cells := by
  have hc : Tryd.prog.cellsOf 42 = 107 := by kernel_rfl
  have e1 : Tryd.prog.cellsOf 3 = 1 := by kernel_rfl
  have e2 : Tryd.prog.cellsOf 36 = 1 := by kernel_rfl
  have e3 : Tryd.prog.cellsOf 40 = 35 := by kernel_rfl
  have e4 : Tryd.prog.cellsOf 22 = 32 := by kernel_rfl
  have e5 : Tryd.prog.cellsOf 31 = 1 := by kernel_rfl
  have e6 : Tryd.prog.cellsOf 4 = 1 := by kernel_rfl
  have main : cs.length = 107 → (∃ y0, DataW.trod enc Tryd.prog w base spare held (fuel - 1) 3 ((cs.drop 0).take 1) = some y0) →
      (∃ y0, DataW.trod enc Tryd.prog w base spare held (fuel - 1) 3 ((cs.drop 1).take 1) = some y0) →
      (∃ y0, DataW.trod enc Tryd.prog w base spare held (fuel - 1) 3 ((cs.drop 2).take 1) = some y0) →
      (∃ y0, DataW.trod enc Tryd.prog w base spare held (fuel - 1) 36 ((cs.drop 3).take 1) = some y0) →
      (∃ y0, DataW.trod enc Tryd.prog w base spare held (fuel - 1) 36 ((cs.drop 4).take 1) = some y0) →
      (∃ y0, DataW.trod enc Tryd.prog w base spare held (fuel - 1) 40 ((cs.drop 5).take 35) = some y0) →
      (∃ y0, DataW.trod enc Tryd.prog w base spare held (fuel - 1) 4 ((cs.drop 40).take 1) = some y0) →
      (∃ y0, DataW.trod enc Tryd.prog w base spare held (fuel - 1) 31 ((cs.drop 41).take 1) = some y0) →
      (∃ y0, DataW.trod enc Tryd.prog w base spare held (fuel - 1) 22 ((cs.drop 42).take 32) = some y0) →
      (∃ y0, DataW.trod enc Tryd.prog w base spare held (fuel - 1) 22 ((cs.drop 74).take 32) = some y0) →
      (∃ y0, DataW.trod enc Tryd.prog w base spare held (fuel - 1) 4 ((cs.drop 106).take 1) = some y0) → ∃ r : Msg, r.Wf ∧ cs = r.cells := by
    rintro hl ⟨y0, h0⟩ ⟨y1, h1⟩ ⟨y2, h2⟩ ⟨y3, h3⟩ ⟨y4, h4⟩ ⟨y5, h5⟩ ⟨y6, h6⟩ ⟨y7, h7⟩ ⟨y8, h8⟩ ⟨y9, h9⟩ ⟨y10, h10⟩
    obtain ⟨k0, g0, _, w0⟩ := DataW.trod_int Tryd.underlying3 h0
    obtain ⟨k1, g1, _, w1⟩ := DataW.trod_int Tryd.underlying3 h1
    obtain ⟨k2, g2, _, w2⟩ := DataW.trod_int Tryd.underlying3 h2
    obtain ⟨k3, g3, _, w3⟩ := DataW.trod_int Tryd.underlying36 h3
    obtain ⟨k4, g4, _, w4⟩ := DataW.trod_int Tryd.underlying36 h4
    obtain ⟨e, w5, g5⟩ := open_editC h5
    obtain ⟨k6, g6, _⟩ := DataW.trod_bool Tryd.underlying4 h6
    obtain ⟨k7, g7, _, w7⟩ := DataW.trod_int Tryd.underlying31 h7
    obtain ⟨hs, w8, g8⟩ := open_hashC h8
    obtain ⟨rt, w9, g9⟩ := open_hashC h9
    obtain ⟨k10, g10, _⟩ := DataW.trod_bool Tryd.underlying4 h10
    obtain ⟨b3, rfl, hb3⟩ := u64_wf w3
    obtain ⟨b4, rfl, hb4⟩ := u64_wf w4
    have q0 := i64_wf w0
    have q1 := i64_wf w1
    have q2 := i64_wf w2
    have q7 := i64_wf w7
    refine ⟨⟨k0, k1, k2, b3, b4, e, k6, k7, hs, rt, k10⟩, ⟨⟨w5.ok, w8, w9⟩, w5, q0.1, q0.2, q1.1, q1.2, q2.1, q2.2, hb3, hb4, q7.1, q7.2⟩, ?_⟩
    have key : cs = (cs.drop 0).take 1 ++ ((cs.drop 1).take 1 ++ ((cs.drop 2).take 1 ++ ((cs.drop 3).take 1 ++ ((cs.drop 4).take 1 ++ ((cs.drop 5).take 35 ++ ((cs.drop 40).take 1 ++ ((cs.drop 41).take 1 ++ ((cs.drop 42).take 32 ++ ((cs.drop 74).take 32 ++ (cs.drop 106).take 1))))))))) := by
      have t : ∀ (n k : Nat), (cs.drop n).take k ++ cs.drop (n + k) = cs.drop n := fun n k => by
        rw [← List.drop_drop]; exact List.take_append_drop k (cs.drop n)
      have hh : (cs.drop 106).take 1 = cs.drop 106 := List.take_of_length_le (by simp; omega)
      rw [hh, t 74 32, t 42 32, t 41 1, t 40 1, t 5 35, t 4 1, t 3 1, t 2 1, t 1 1, t 0 1]
      rfl
    rw [key, g0, g1, g2, g3, g4, g5, g6, g7, g8, g9, g10]
    rfl
  obtain ⟨xs, m, rfl, rfl, hl, hxl, hx⟩ := DataW.trod_struct Tryd.underlying42 h
  rw [hc] at hl
  exact main hl (trod_field hx hxl 0 0 1 rfl e1) (trod_field hx hxl 1 1 1 rfl e1) (trod_field hx hxl 2 2 1 rfl e1) (trod_field hx hxl 3 3 1 rfl e2) (trod_field hx hxl 4 4 1 rfl e2) (trod_field hx hxl 5 5 35 rfl e3) (trod_field hx hxl 6 40 1 rfl e6) (trod_field hx hxl 7 41 1 rfl e5) (trod_field hx hxl 8 42 32 rfl e4) (trod_field hx hxl 9 74 32 rfl e4) (trod_field hx hxl 10 106 1 rfl e6)
theorem open_msg {v : Value} {d : DataW H} {ps : List MemPlace} (h : DataW.Trod enc Tryd.prog w base spare held 42 v d ps) : ∃ r : Msg, r.Wf ∧ v = .agg (flat r.segs).toArray := by
  obtain ⟨fuel, hf⟩ := h
  obtain ⟨r, hr, he⟩ := open_msgC hf
  refine ⟨r, hr, ?_⟩
  have hl := Msg.length_cells hr.ok
  cases v with
  | agg cs =>
    have : cs.toList = r.cells := he
    rw [Msg.flat_segs, ← this]
  | _ =>
    have h2 := congrArg List.length he
    rw [hl] at h2
    simp [Value.cells] at h2
end
end Go.Proofs.YtibkngjacdggpaaDoor
