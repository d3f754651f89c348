/- What came in: records. -/
import Derived.Test.YtaieonajialenaaOpen
import Derived.Test.YtaieonajialenaaRecEq
namespace Go.Proofs.Ytaieonajialenaa
open Go.RowKit Go.Deep Go.ChangeShapes Go.WideShapes

section
variable {H : Type} {enc : TypeId × Value → H} {w : World} {base : Nat} {spare : Nat → Bool} {held : Bool} {fuel : Nat}
theorem open_flagsC {cs : List Value} {x : DataW H × List MemPlace} (h : DataW.trod enc Try.prog w base spare held fuel 32 cs = some x) : ∃ q e : Bool, cs = [.bool q, .bool e] := by
  have hc : Try.prog.cellsOf 32 = 2 := by kernel_rfl
  obtain ⟨xs, m, rfl, rfl, hl, hxl, hx⟩ := DataW.trod_struct Try.underlying32 h
  rw [hc] at hl
  have e4 : Try.prog.cellsOf 4 = 1 := by kernel_rfl
  obtain ⟨y0, h0⟩ := trod_field hx hxl 0 0 1 rfl e4
  obtain ⟨y1, h1⟩ := trod_field hx hxl 1 1 1 rfl e4
  obtain ⟨k0, g0, _⟩ := DataW.trod_bool Try.underlying4 h0
  obtain ⟨k1, g1, _⟩ := DataW.trod_bool Try.underlying4 h1
  refine ⟨k0, k1, ?_⟩
  have key : cs = (cs.drop 0).take 1 ++ (cs.drop 1).take 1 := by
    have h5 : (cs.drop 1).take 1 = cs.drop 1 := List.take_of_length_le (by simp; omega)
    rw [h5]
    exact (List.take_append_drop 1 cs).symm
  rw [key, g0, g1]
  rfl
theorem strOf_back (k : ByteArray) : strOf k.data.toList = k := rfl
theorem open_editC {cs : List Value} {x : DataW H × List MemPlace} (h : DataW.trod enc Try.prog w base spare held fuel 35 cs = some x) : ∃ e : Ed, e.Wf ∧ cs = e.cells := by
  have hc : Try.prog.cellsOf 35 = 35 := by kernel_rfl
  obtain ⟨xs, m, rfl, rfl, hl, hxl, hx⟩ := DataW.trod_struct Try.underlying35 h
  rw [hc] at hl
  have e4 : Try.prog.cellsOf 32 = 2 := by kernel_rfl
  have e5 : Try.prog.cellsOf 9 = 1 := by kernel_rfl
  have e6 : Try.prog.cellsOf 33 = 32 := by kernel_rfl
  obtain ⟨y0, h0⟩ := trod_field hx hxl 0 0 1 rfl e5
  obtain ⟨y1, h1⟩ := trod_field hx hxl 1 1 2 rfl e4
  obtain ⟨y2, h2⟩ := trod_field hx hxl 2 3 32 rfl e6
  obtain ⟨k0, g0, _, w0⟩ := DataW.trod_string Try.underlying9 h0
  obtain ⟨q, e, g1⟩ := open_flagsC h1
  obtain ⟨hs, w2, g2⟩ := open_hashC h2
  refine ⟨⟨k0.data.toList, q, e, hs⟩, ⟨w2, ?_⟩, ?_⟩
  · show k0.data.toList.length ≤ maxLen
    rw [Array.length_toList]; exact w0
  have key : cs = (cs.drop 0).take 1 ++ ((cs.drop 1).take 2 ++ (cs.drop 3).take 32) := by
    have t : ∀ (n k : Nat), (cs.drop n).take k ++ cs.drop (n + k) = cs.drop n := fun n k => by
      rw [← List.drop_drop]; exact List.take_append_drop k (cs.drop n)
    have h5 : (cs.drop 3).take 32 = cs.drop 3 := List.take_of_length_le (by simp; omega)
    rw [h5, t 1 2, t 0 1]
    rfl
  rw [key, g0, g1, g2]
  rfl
theorem open_recC {T : TypeId} (hT : T = 37 ∨ T = 38) {cs : List Value} {x : DataW H × List MemPlace} (h : DataW.trod enc Try.prog w base spare held fuel T cs = some x) : ∃ r : Rec, r.Wf ∧ cs = r.cells := by
  have hc : Try.prog.cellsOf T = 74 := by rcases hT with rfl | rfl <;> kernel_rfl
  have e1 : Try.prog.cellsOf 3 = 1 := by kernel_rfl
  have e2 : Try.prog.cellsOf 23 = 1 := by kernel_rfl
  have e3 : Try.prog.cellsOf 35 = 35 := by kernel_rfl
  have e4 : Try.prog.cellsOf 33 = 32 := by kernel_rfl
  have e5 : Try.prog.cellsOf 27 = 1 := by kernel_rfl
  have e6 : Try.prog.cellsOf 4 = 1 := by kernel_rfl
  have e7 : Try.prog.cellsOf 9 = 1 := by kernel_rfl
  have main : cs.length = 74 → (∃ y0, DataW.trod enc Try.prog w base spare held (fuel - 1) 3 ((cs.drop 0).take 1) = some y0) → (∃ y0, DataW.trod enc Try.prog w base spare held (fuel - 1) 23 ((cs.drop 1).take 1) = some y0) →
      (∃ y0, DataW.trod enc Try.prog w base spare held (fuel - 1) 23 ((cs.drop 2).take 1) = some y0) → (∃ y0, DataW.trod enc Try.prog w base spare held (fuel - 1) 35 ((cs.drop 3).take 35) = some y0) →
      (∃ y0, DataW.trod enc Try.prog w base spare held (fuel - 1) 33 ((cs.drop 38).take 32) = some y0) → (∃ y0, DataW.trod enc Try.prog w base spare held (fuel - 1) 27 ((cs.drop 70).take 1) = some y0) →
      (∃ y0, DataW.trod enc Try.prog w base spare held (fuel - 1) 4 ((cs.drop 71).take 1) = some y0) → (∃ y0, DataW.trod enc Try.prog w base spare held (fuel - 1) 4 ((cs.drop 72).take 1) = some y0) →
      (∃ y0, DataW.trod enc Try.prog w base spare held (fuel - 1) 9 ((cs.drop 73).take 1) = some y0) → ∃ r : Rec, r.Wf ∧ cs = r.cells := by
    rintro hl ⟨y0, h0⟩ ⟨y1, h1⟩ ⟨y2, h2⟩ ⟨y3, h3⟩ ⟨y4, h4⟩ ⟨y5, h5⟩ ⟨y6, h6⟩ ⟨y7, h7⟩ ⟨y8, h8⟩
    obtain ⟨k0, g0, _, w0⟩ := DataW.trod_int Try.underlying3 h0
    obtain ⟨k1, g1, _, w1⟩ := DataW.trod_int Try.underlying23 h1
    obtain ⟨k2, g2, _, w2⟩ := DataW.trod_int Try.underlying23 h2
    obtain ⟨e, w3, g3⟩ := open_editC h3
    obtain ⟨hs, w4, g4⟩ := open_hashC h4
    obtain ⟨k5, g5, _, w5⟩ := DataW.trod_int Try.underlying27 h5
    obtain ⟨k6, g6, _⟩ := DataW.trod_bool Try.underlying4 h6
    obtain ⟨k7, g7, _⟩ := DataW.trod_bool Try.underlying4 h7
    obtain ⟨k8, g8, _, w8⟩ := DataW.trod_string Try.underlying9 h8
    obtain ⟨b1, rfl, hb1⟩ := u64_wf w1
    obtain ⟨b2, rfl, hb2⟩ := u64_wf w2
    have hk := i64_wf w0
    have hq := i64_wf w5
    refine ⟨⟨k0, b1, b2, e, hs, k5, k6, k7, k8.data.toList⟩, ⟨⟨w3.ok, w4⟩, w3, hk.1, hk.2, hb1, hb2, hq.1, hq.2, ?_⟩, ?_⟩
    · show k8.data.toList.length ≤ maxLen
      rw [Array.length_toList]; exact w8
    have key : cs = (cs.drop 0).take 1 ++ ((cs.drop 1).take 1 ++ ((cs.drop 2).take 1 ++ ((cs.drop 3).take 35 ++ ((cs.drop 38).take 32 ++ ((cs.drop 70).take 1 ++ ((cs.drop 71).take 1 ++ ((cs.drop 72).take 1 ++ (cs.drop 73).take 1))))))) := by
      have t : ∀ (n k : Nat), (cs.drop n).take k ++ cs.drop (n + k) = cs.drop n := fun n k => by
        rw [← List.drop_drop]; exact List.take_append_drop k (cs.drop n)
      have h5 : (cs.drop 73).take 1 = cs.drop 73 := List.take_of_length_le (by simp; omega)
      rw [h5, t 72 1, t 71 1, t 70 1, t 38 32, t 3 35, t 2 1, t 1 1, t 0 1]
      rfl
    rw [key, g0, g1, g2, g3, g4, g5, g6, g7, g8]
    rfl
  rcases hT with rfl | rfl
  · obtain ⟨xs, m, rfl, rfl, hl, hxl, hx⟩ := DataW.trod_struct Try.underlying37 h
    rw [hc] at hl
    exact main hl (trod_field hx hxl 0 0 1 rfl e1) (trod_field hx hxl 1 1 1 rfl e2) (trod_field hx hxl 2 2 1 rfl e2) (trod_field hx hxl 3 3 35 rfl e3) (trod_field hx hxl 4 38 32 rfl e4) (trod_field hx hxl 5 70 1 rfl e5) (trod_field hx hxl 6 71 1 rfl e6) (trod_field hx hxl 7 72 1 rfl e6) (trod_field hx hxl 8 73 1 rfl e7)
  · obtain ⟨xs, m, rfl, rfl, hl, hxl, hx⟩ := DataW.trod_struct Try.underlying38 h
    rw [hc] at hl
    exact main hl (trod_field hx hxl 0 0 1 rfl e1) (trod_field hx hxl 1 1 1 rfl e2) (trod_field hx hxl 2 2 1 rfl e2) (trod_field hx hxl 3 3 35 rfl e3) (trod_field hx hxl 4 38 32 rfl e4) (trod_field hx hxl 5 70 1 rfl e5) (trod_field hx hxl 6 71 1 rfl e6) (trod_field hx hxl 7 72 1 rfl e6) (trod_field hx hxl 8 73 1 rfl e7)
theorem open_rec {v : Value} {d : DataW H} {ps : List MemPlace} (h : DataW.Trod enc Try.prog w base spare held 38 v d ps) : ∃ r : Rec, r.Wf ∧ v = .agg r.cells.toArray := by
  obtain ⟨fuel, hf⟩ := h
  obtain ⟨r, hr, he⟩ := open_recC (.inr rfl) hf
  refine ⟨r, hr, ?_⟩
  have hl := Rec.length_cells hr.ok
  cases v with
  | agg cs =>
    have : cs.toList = r.cells := he
    rw [← this]
  | _ =>
    have h2 := congrArg List.length he
    rw [hl] at h2
    simp [Value.cells] at h2
end
end Go.Proofs.Ytaieonajialenaa
