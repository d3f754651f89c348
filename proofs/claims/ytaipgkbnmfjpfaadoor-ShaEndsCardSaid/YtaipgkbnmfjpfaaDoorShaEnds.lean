/- ShaEnds: the walk. -/
import Derived.Test.YtaipgkbnmfjpfaaDoorShaSums
namespace Go.Proofs.YtaipgkbnmfjpfaaDoor
open Go.RowKit HP

set_option maxRecDepth 100000 in
set_option maxHeartbeats 1000000 in
theorem shaEnds_walk (x : Int) (n : Nat) (hn : n < 256) (w : World) (hk : KF w) :
    Calls Tryd.prog 5 #[.int .u8 x, .int .u8 n] w fun e w' => e = .returned (.bool true) ∧ Kept w w' No := by
  have hk1 : Ent [since w] KF := Ent.sinceK hk
  have HAW := Lib.hid (shaawake_ok w _ (Holds.start w) hk1)
  obtain ⟨ib, hib, hz0, hz1, hz2⟩ := info_parts Tryd.infoByte
  have hmk : ∀ w, (Instr.makeSlice 22 (.int .u8 (n : Int)) (.int .u8 (n : Int))).run Tryd.prog w = .ok (.slice (some ⟨w.heap.size, 0, none⟩) n n) (w.alloc (.cells (bcs (zeros n)).toArray 5)) := by
    intro w
    have := run_make (P := Tryd.prog) w 22 5 ib _ Tryd.underlying22 hib hz0 .u8 .u8 (n : Int) (n : Int) (by omega) (by omega) (by rw [hz2]; omega) (by omega)
    rw [this, hz1, Int.toNat_natCast, Nat.mul_one, madeCells_zero]
  have HK1 := Lib.hid hk1
  have HSB := Lib.hid (fun (ys : List UInt8) (g : Nat) (hl : ys.length = n) w' (h : Holds w' (own (.slice (some ⟨g, 0, none⟩) n n) ys :: [since w])) => sumb_ok (some ⟨g, 0, none⟩) n n ys w' _ h Ent.own hl.symm (Nat.le_refl _) (hk1.cons _) (by omega))
  have HRS := Lib.hid (fun (ys : List UInt8) (g : Nat) (hl : ys.length = n) w' (h : Holds w' (own (.slice (some ⟨g, 0, none⟩) n n) ys :: [since w])) => rsum_ok (some ⟨g, 0, none⟩) n n ys w' _ h Ent.own hl.symm (by omega))
  clear hz0 hz1 hz2 hib hk hk1
  go_enter Tryd.func5, Tryd.ntmps5
  go_wp2_with (go_at_call 9; (with_reducible refine HAW.out.mono ?_); rintro e w1 ⟨rfl, hh⟩; have HH0 := Lib.hid hh; clear hh)
  go_loopw [13] (fun i wr => ∃ (j : Nat) (ys : List UInt8), j ≤ n ∧ i = .int .i64 j ∧ Hid (ys.length = n) ∧ Holds wr (blk w1.heap.size 5 (bcs ys).toArray :: [since w])) (fun i _ => n - (intOf i).toNat)
  case atStart => exact ⟨0, zeros n, by omega, rfl, by unfold Hid; simp, HH0.out.alloc _ _⟩
  case round =>
    obtain ⟨j, ys, hj, rfl, hl, hb⟩ := hrel
    by_cases hlt : j < n
    · have cj : wr.cell? ⟨w1.heap.size, j, none⟩ = some (bc (ys.getD j 0)) := (hb.cells j).trans (by simp [bcs, hl.out, hlt, List.getD])
      have fj := hb.free j
      have hj2 : j < ys.length := by rw [hl.out]; exact hlt
      go_wp2
      obtain ⟨y, hy⟩ : ∃ y : UInt8, (.int .u8 ((x + (j : Int)) % 256) : Value) = bc y :=
        ⟨UInt8.ofNat ((x + (j : Int)) % 256).toNat, by rw [bc_byte]; congr 1; omega⟩
      refine ⟨⟨j + 1, ys.set j y, by omega, by simp, by unfold Hid; rw [List.length_set]; exact hl.out, ?_⟩, by simp only [intOf, Int.toNat_natCast]; omega⟩
      have h2 := hb.set_ j (bc y)
      rw [List.setIfInBounds_toArray, show (bcs ys).set j (bc y) = bcs (ys.set j y) by simp [bcs, List.map_set]] at h2
      rw [hy]
      exact h2
    · have h2 := hb.own_of_cells (n := n) (cap := n) hl.out.symm (Nat.le_refl _) (by simp only [maxLen]; omega) (by simp [bcs, hl.out]) (by rw [← show (bcs ys).length = n by simp [bcs, hl.out]]; exact List.take_length)
      have HH1 := Lib.hid h2
      have HL := Lib.hid hl.out
      have h32 := length_shaL ys
      have HSB1 := Lib.hid (HSB.out ys w1.heap.size hl.out)
      have HRS1 := Lib.hid (HRS.out ys w1.heap.size hl.out)
      clear HSB HRS h2 hb hl
      generalize shaL ys = L at HSB1 HRS1 h32
      go_wp2_with (first
        | (go_at_call 10; (with_reducible refine (HSB1.out _ HH1.out).mono ?_); rintro e w2 ⟨rfl, hh⟩; have HH2 := Lib.hid hh; clear hh HH1)
        | (go_at_call 11; (with_reducible refine (HRS1.out _ HH2.out).mono ?_); rintro e w3 ⟨rfl, hh⟩; have HH3 := Lib.hid hh; clear hh HH2))
      go_returns
      exact ⟨rfl, HH3.out.tail.since_kept⟩
end Go.Proofs.YtaipgkbnmfjpfaaDoor
