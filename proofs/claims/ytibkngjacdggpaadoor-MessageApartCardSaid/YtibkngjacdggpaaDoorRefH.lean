/- the reference: a frame's bytes -/
import Derived.Test.YtibkngjacdggpaaDoorRefG
import Derived.Test.YtibkngjacdggpaaDoorSl
namespace Go.Proofs.YtibkngjacdggpaaDoor
open Go.RowKit HP

set_option maxRecDepth 100000 in
set_option maxHeartbeats 2000000 in
theorem rencode_ok (t : UInt8) (A : Option Addr) (n c : Nat) (xs : List UInt8) (w : World) (R : List HP) (hh : Holds w R) (hr : Ent R fun w => RD w A xs) (hn : Hid (n = xs.length)) (hc : n ≤ c) (hb : n ≤ 140737488355000) :
    Calls Tryd.prog 68 #[.agg #[.int .u8 (t.toNat : Int), .slice A n c]] w fun e w' => ∃ v, e = .returned (.tuple #[v, .int .i64 (encF t xs).2]) ∧ Holds w' (own v (encF t xs).1 :: R) := by
  have hh0 := hh.alloc 100 #[.int .u8 (t.toNat : Int), .slice A n c]
  have c0 : (w.alloc (.cells #[.int .u8 (t.toNat : Int), .slice A n c] 100)).cell? ⟨w.heap.size, 0, none⟩ = some (.int .u8 (t.toNat : Int)) := (hh0.cells 0).trans rfl
  have c1 : (w.alloc (.cells #[.int .u8 (t.toNat : Int), .slice A n c] 100)).cell? ⟨w.heap.size, 1, none⟩ = some (.slice A n c) := (hh0.cells 1).trans rfl
  by_cases h0 : t = 0
  · have HF : Hid (encF t xs = ([], 1)) := by unfold Hid encF; rw [if_pos h0]
    have h0I : (t.toNat : Int) = 0 := by rw [h0]; rfl
    have HH : Hid (Holds (w.alloc (.cells #[.int .u8 0, .slice A n c] 100)) (own (.slice none 0 0) [] :: R)) := by
      have := hh0.tail.nil_own
      rwa [h0I] at this
    clear hh hr hh0 h0
    go_enter Tryd.func68, Tryd.ntmps68
    go_wp2
    go_returns
    exact ⟨.slice none 0 0, by rw [HF.out]; rfl, by rw [HF.out]; exact HH.out⟩
  · have h0I := u8_zero h0
    by_cases h1 : 1000 < n
    · have HF : Hid (encF t xs = ([], 5)) := by unfold Hid encF; rw [if_neg h0, if_pos (by rw [← hn.out]; exact h1)]
      have HH := Lib.hid hh0.tail.nil_own
      clear hh hr hh0 h0
      go_enter Tryd.func68, Tryd.ntmps68
      go_wp2
      go_returns
      exact ⟨.slice none 0 0, by rw [HF.out]; rfl, by rw [HF.out]; exact HH.out⟩
    · have HF : Hid (encF t xs = (encB t xs, 0)) := by unfold Hid encF; rw [if_neg h0, if_neg (by rw [← hn.out]; exact h1)]
      have HCC := Lib.hid (fun w' (h : Holds w' (blk w.heap.size 100 #[.int .u8 (t.toNat : Int), .slice A n c] :: R)) => show w'.cell? ⟨w.heap.size, 0, none⟩ = some (.int .u8 (t.toNat : Int)) ∧ w'.cell? ⟨w.heap.size, 1, none⟩ = some (.slice A n c) from ⟨(h.cells 0).trans rfl, (h.cells 1).trans rfl⟩)
      have HR := Lib.hid hr
      have HH0 := Lib.hid hh0.drew
      have hu : IntKind.u64.wrap (n : Int) = n := by rw [IntKind.wrap_u64]; omega
      have HU := Lib.hid hu
      have e4 : ∀ g3 g4 A9 n9 c9 gs, bsAll [⟨some ⟨g3, 0, none⟩, 3, 3, magB⟩, ⟨some ⟨g4, 0, none⟩, 1, 1, [t]⟩, ⟨A9, n9, c9, beL n 2⟩, ⟨some ⟨gs, 0, none⟩, 4, 32, sumF (frontF t xs) xs⟩, ⟨A, n, c, xs⟩] = encB t xs := fun _ _ _ _ _ _ => by simp [bsAll, encB, frontF, hn.out]
      have E4 := Lib.hid e4
      have hT : ((t.toNat : Int) == 0) = false := by simpa using h0I
      clear hh hr hh0 h0 e4
      go_enter Tryd.func68, Tryd.ntmps68
      go_wp2_with fail
      refine wp_region_held_drew (S := (fun w' => Holds w' (blk w.heap.size 100 #[.int .u8 (t.toNat : Int), .slice A n c] :: R))) (by kernel_rfl) ?_ (fun hHeld => ?_)
      · exact HH0.out
      clear c0 c1
      refine takeH 2 ?_ rfl (by kernel_rfl) (by kernel_rfl) (by kernel_rfl) (fun _ _ _ h => h) (by kernel_rfl) (by assumption) (fun w hSw => ?_) ?_
      rotate_left
      · (try dsimp only at hSw); go_simp <;> (try with_reducible rfl)
      try simp only [Act.put, List.setIfInBounds_toArray, List.set_cons_zero, List.set_cons_succ]
      refine takeH 3 ?_ rfl (by kernel_rfl) (by kernel_rfl) (by kernel_rfl) (fun _ _ _ h => h) (by kernel_rfl) (by assumption) (fun w hSw => ?_) ?_
      rotate_left
      · obtain ⟨hca, hcb⟩ := HCC.out _ hSw
        clear hSw; go_simp <;> (try with_reducible rfl)
      try simp only [Act.put, List.setIfInBounds_toArray, List.set_cons_zero, List.set_cons_succ]
      refine takeH 5 ?_ rfl (by kernel_rfl) (by kernel_rfl) (by kernel_rfl) (fun _ _ _ h => h) (by kernel_rfl) (by assumption) (fun w hSw => ?_) ?_
      rotate_left
      · (try dsimp only at hSw); go_simp <;> (try with_reducible rfl)
      try simp only [Act.put, List.setIfInBounds_toArray, List.set_cons_zero, List.set_cons_succ]
      refine takeH 6 ?_ rfl (by kernel_rfl) (by kernel_rfl) (by kernel_rfl) (fun _ _ _ h => h) (by kernel_rfl) (by assumption) (fun w hSw => ?_) ?_
      rotate_left
      · obtain ⟨hca, hcb⟩ := HCC.out _ hSw
        clear hSw; go_simp <;> (try with_reducible rfl)
      try simp only [Act.put, List.setIfInBounds_toArray, List.set_cons_zero, List.set_cons_succ]
      refine takeH 7 ?_ rfl (by kernel_rfl) (by kernel_rfl) (by kernel_rfl) (fun _ _ _ h => h) (by kernel_rfl) (by assumption) (fun w hSw => ?_) ?_
      rotate_left
      · (try dsimp only at hSw); go_simp <;> (try with_reducible rfl)
      try simp only [Act.put, List.setIfInBounds_toArray, List.set_cons_zero, List.set_cons_succ]
      refine takeH 8 ?_ rfl (by kernel_rfl) (by kernel_rfl) (by kernel_rfl) (fun _ _ _ h => h) (by kernel_rfl) (by assumption) (fun w hSw => ?_) ?_
      rotate_left
      · (try dsimp only at hSw); go_simp <;> (try with_reducible rfl)
      try simp only [Act.put, List.setIfInBounds_toArray, List.set_cons_zero, List.set_cons_succ]
      refine takeH 10 ?_ rfl (by kernel_rfl) (by kernel_rfl) (by kernel_rfl) (fun _ _ _ h => h) (by kernel_rfl) (by assumption) (fun w hSw => ?_) ?_
      rotate_left
      · (try dsimp only at hSw); go_simp <;> (try with_reducible rfl)
      try simp only [Act.put, List.setIfInBounds_toArray, List.set_cons_zero, List.set_cons_succ]
      refine takeH 11 ?_ rfl (by kernel_rfl) (by kernel_rfl) (by kernel_rfl) (fun _ _ _ h => h) (by kernel_rfl) (by assumption) (fun w hSw => ?_) ?_
      rotate_left
      · obtain ⟨hca, hcb⟩ := HCC.out _ hSw
        clear hSw; go_simp <;> (try with_reducible rfl)
      try simp only [Act.put, List.setIfInBounds_toArray, List.set_cons_zero, List.set_cons_succ]
      refine takeH 12 ?_ rfl (by kernel_rfl) (by kernel_rfl) (by kernel_rfl) (fun _ _ _ h => h) (by kernel_rfl) (by assumption) (fun w hSw => ?_) ?_
      rotate_left
      · (try dsimp only at hSw); go_simp <;> (try with_reducible rfl)
      try simp only [Act.put, List.setIfInBounds_toArray, List.set_cons_zero, List.set_cons_succ]
      refine takeH 13 ?_ rfl (by kernel_rfl) (by kernel_rfl) (by kernel_rfl) (fun _ _ _ h => h) (by kernel_rfl) (by assumption) (fun w hSw => ?_) ?_
      rotate_left
      · obtain ⟨hca, hcb⟩ := HCC.out _ hSw
        clear hSw; go_simp <;> (try with_reducible rfl)
      try simp only [Act.put, List.setIfInBounds_toArray, List.set_cons_zero, List.set_cons_succ]
      refine takeH 15 ?_ rfl (by kernel_rfl) (by kernel_rfl) (by kernel_rfl) (fun _ _ _ h => h) (by kernel_rfl) (by assumption) (fun w hSw => ?_) ?_
      rotate_left
      · (try dsimp only at hSw); go_simp <;> (try with_reducible rfl)
      try simp only [Act.put, List.setIfInBounds_toArray, List.set_cons_zero, List.set_cons_succ]
      refine takeH 16 ?_ rfl (by kernel_rfl) (by kernel_rfl) (by kernel_rfl) (fun _ _ _ h => h) (by kernel_rfl) (by assumption) (fun w hSw => ?_) ?_
      rotate_left
      · obtain ⟨hca, hcb⟩ := HCC.out _ hSw
        clear hSw; go_simp <;> (try with_reducible rfl)
      try simp only [Act.put, List.setIfInBounds_toArray, List.set_cons_zero, List.set_cons_succ]
      refine wpAnyH_phaseA (fun a0 listed a w' => ∃ (b0 b1 b4 b9 b14 : Bool) (g0 g4 g14 n9 c9 : Nat) (A9 : Option Addr),
        listed = #[b0, b1, true, true, b4, true, true, true, true, b9, true, true, true, true, b14, true, true, false, false, false, false] ∧
        a = ((((a0.put (some 13) (Fl b0 (.slice (some ⟨g0, 0, none⟩) 3 3) undef)).put (some 14) (Fl b1 (.slice (some ⟨g0, 0, none⟩) 3 3) undef)).put (some 17) (Fl b4 (.slice (some ⟨g4, 0, none⟩) 1 1) undef)).put (some 22) (Fl b9 (.slice A9 n9 c9) undef)).put (some 27) (Fl b14 (.slice (some ⟨g14, 0, none⟩) 4 32) undef) ∧
        (b1 = true → b0 = true) ∧ Hid (n9 = (beL n 2).length) ∧ n9 ≤ c9 ∧
        Holds w' (opt b0 (if b1 = true then rb (some ⟨g0, 0, none⟩) magB else blk g0 5 #[.int .u8 114, .int .u8 100, .int .u8 1]) :: opt b4 (own (.slice (some ⟨g4, 0, none⟩) 1 1) [t]) :: opt b9 (own (.slice A9 n9 c9) (beL n 2)) :: opt b14 (rb (some ⟨g14, 0, none⟩) (sumF (frontF t xs) xs)) :: blk w.heap.size 100 #[.int .u8 (t.toNat : Int), .slice A n c] :: R))
        20 #[true, true, true, true, true, true, true, true, true, true, true, true, true, true, true, true, true, false, false, false, false] 4 (by kernel_rfl) (by kernel_rfl) (by kernel_rfl) ?h0 ?hJ ?hend ?hstep
      case h0 => exact ⟨false, false, false, false, false, 0, 0, 0, 2, 2, none, rfl, rfl, fun h => h, by unfold Hid; simp, by omega, HH0.out.emp_cons.emp_cons.emp_cons.emp_cons⟩
      case hJ =>
        rintro _ _ _ ⟨_, _, _, _, _, _, _, _, _, _, _, rfl, -, -, -, -, h⟩
        exact ⟨rfl, rfl, h.tail.tail.tail.tail⟩
      case hstep =>
        rintro _ _ w1 ⟨b0, b1, b4, b9, b14, g0, g4, g14, n9, c9, A9, rfl, rfl, h10, hn9, hc9, hh⟩
        refine ⟨fun hne hun hdep => ?_, fun hne hun hdep => ?_, fun hne hun hdep => ?_, fun hne hun hdep => ?_, fun hne hun hdep => ?_, fun hne hun hdep => ?_, fun hne hun hdep => ?_, fun hne hun hdep => ?_, fun hne hun hdep => ?_, fun hne hun hdep => ?_, fun hne hun hdep => ?_, fun hne hun hdep => ?_, fun hne hun hdep => ?_, fun hne hun hdep => ?_, fun hne hun hdep => ?_, fun hne hun hdep => ?_, fun hne hun hdep => ?_, fun hne hun hdep => ?_, fun hne hun hdep => ?_, fun hne hun hdep => ?_, fun hne hun hdep => ?_, trivial⟩
        all_goals (try exact Bool.noConfusion (show true = false from hun))
        · obtain rfl : b0 = false := hun
          obtain rfl : b1 = false := by cases b1 with | false => rfl | true => exact (h10 rfl).symm
          refine ⟨rfl, fun K hK => ?_⟩
          clear hne hdep
          simp only [Act.put, List.setIfInBounds_toArray, List.set_cons_zero, List.set_cons_succ]
          go_simp
          have hk := (hh.alloc 5 #[.int .u8 114, .int .u8 100, .int .u8 1]).drop 1 rfl
          exact hK.out _ _ ⟨true, false, b4, b9, b14, w1.heap.size, g4, g14, n9, c9, A9, rfl, rfl, fun _ => rfl, hn9, hc9, hk⟩
        · obtain rfl : b1 = false := hun
          obtain rfl : b0 = true := by cases b0 with | true => rfl | false => exact Bool.noConfusion (show false = true from hdep)
          refine ⟨rfl, fun K hK => ?_⟩
          clear hne hdep
          have hh' : Holds w1 (blk g0 5 #[.int .u8 114, .int .u8 100, .int .u8 1] :: _) := hh
          have hcm : (convert 23 23 (.slice (some ⟨g0, 0, none⟩) 3 3)).run Tryd.prog w1 = .ok (.slice (some ⟨g0, 0, none⟩) 3 3) (w1.freeze ⟨g0, 3, none⟩ 1) := run_convert_mark w1 23 5 g0 #[.int .u8 114, .int .u8 100, .int .u8 1] 3 3 Tryd.underlying23 Tryd.underlying5 hh'.blk_heap
          have hkm : Holds (w1.freeze ⟨g0, 3, none⟩ 1) _ := hh'.mark (xs := magB) rfl
          generalize w1.freeze ⟨g0, 3, none⟩ 1 = wb at hcm hkm
          simp only [Act.put, List.setIfInBounds_toArray, List.set_cons_zero, List.set_cons_succ, Fl_true]
          go_simp
          exact hK.out _ _ ⟨true, true, b4, b9, b14, g0, g4, g14, n9, c9, A9, rfl, rfl, fun _ => rfl, hn9, hc9, hkm⟩
        · obtain rfl : b4 = false := hun
          refine ⟨rfl, fun K hK => ?_⟩
          clear hne hdep
          simp only [Act.put, List.setIfInBounds_toArray, List.set_cons_zero, List.set_cons_succ]
          go_simp
          have hk := (((hh.alloc 5 (bcs [t]).toArray).own_of_blk (xs := [t]) (by simp [maxLen])).drop 2 rfl).push_ 1 (by simp)
          exact hK.out _ _ ⟨b0, b1, true, b9, b14, g0, w1.heap.size, g14, n9, c9, A9, rfl, rfl, h10, hn9, hc9, hk⟩
        · obtain rfl : b9 = false := hun
          refine ⟨rfl, fun K hK => ?_⟩
          clear hne hdep
          simp only [Act.put, List.setIfInBounds_toArray, List.set_cons_zero, List.set_cons_succ]
          go_simp
          refine (rnumb_at n 2 2 rfl (by omega) w1 _ hh).mono ?_
          rintro e w2 ⟨v2, rfl, hh2⟩
          obtain ⟨A2, n2, c2, rfl, hn2, hc2, -⟩ := hh2.own_form
          exact hK.out _ _ ⟨b0, b1, b4, true, b14, g0, g4, g14, n2, c2, A2, rfl, rfl, h10, hn2, hc2, (hh2.drop 3 rfl).push_ 2 (by simp)⟩
        · obtain rfl : b14 = false := hun
          refine ⟨rfl, fun K hK => ?_⟩
          clear hne hdep
          simp only [Act.put, List.setIfInBounds_toArray, List.set_cons_zero, List.set_cons_succ]
          go_simp
          refine (rsumf_ok t A n c xs w1 _ hh (HR.out.cons _ |>.cons _ |>.cons _ |>.cons _ |>.cons _) hn hc hb).mono ?_
          rintro e w2 ⟨g2, rfl, hh2⟩
          exact hK.out _ _ ⟨b0, b1, b4, b9, true, g0, g4, g2, n9, c9, A9, rfl, rfl, h10, hn9, hc9, (hh2.drop 4 rfl).push_ 3 (by simp)⟩
        all_goals
          exfalso
          clear hh
          revert hne hdep h10
          cases b0 <;> cases b1 <;> cases b4 <;> cases b9 <;> cases b14 <;> intro h10 hne hdep <;> first | exact absurd rfl hne | exact Bool.noConfusion (show false = true from hdep) | exact Bool.noConfusion (h10 rfl)
      case hend =>
        rintro _ w1 ⟨b0, b1, b4, b9, b14, g0, g4, g14, n9, c9, A9, hl, rfl, -, hn9, hc9, hh⟩
        simp only [Array.mk.injEq, List.cons.injEq, true_and, and_true] at hl
        obtain ⟨rfl, rfl, rfl, rfl, rfl⟩ := hl
        have hk2 : Holds w1 (rb (some ⟨g0, 0, none⟩) magB :: own (.slice (some ⟨g4, 0, none⟩) 1 1) [t] :: own (.slice A9 n9 c9) (beL n 2) :: rb (some ⟨g14, 0, none⟩) (sumF (frontF t xs) xs) :: blk w.heap.size 100 #[.int .u8 (t.toNat : Int), .slice A n c] :: R) := hh
        clear hh
        simp only [Act.put, List.setIfInBounds_toArray, List.set_cons_zero, List.set_cons_succ, Fl_true]
        refine effH 17 rfl (by kernel_rfl) (by kernel_rfl) (fun K hK => ?_)
        go_simp
        have hk3 := hk2.alloc 23 #[.slice (some ⟨g0, 0, none⟩) 3 3, .slice (some ⟨g4, 0, none⟩) 1 1, .slice A9 n9 c9, .slice (some ⟨g14, 0, none⟩) 4 32, .slice A n c]
        refine hK.out _ _ (hk3.tail.tail.tail.tail.tail) (fun hHeld => ?_)
        clear hK K hHeld
        refine effH 18 rfl (by kernel_rfl) (by kernel_rfl) (fun K hK => ?_)
        go_simp
        refine (join_ok (some ⟨w1.heap.size, 0, none⟩) 5 5 [⟨some ⟨g0, 0, none⟩, 3, 3, magB⟩, ⟨some ⟨g4, 0, none⟩, 1, 1, [t]⟩, ⟨A9, n9, c9, beL n 2⟩, ⟨some ⟨g14, 0, none⟩, 4, 32, sumF (frontF t xs) xs⟩, ⟨A, n, c, xs⟩] _ _ hk3 (Ent.parts rfl (Ent.oks Ent.rb rfl (by omega) (Ent.oks (Ent.own.cons _) rfl (by omega) (Ent.oks (Ent.own.cons _ |>.cons _) hn9 hc9 (Ent.oks (Ent.rb.cons _ |>.cons _ |>.cons _) (by simp [Hid]) (by omega) (Ent.oks (HR.out.cons _ |>.cons _ |>.cons _ |>.cons _ |>.cons _) hn hc Ent.oks_nil)))))) rfl (by omega) (by rw [E4.out, length_encB, ← hn.out]; omega)).mono ?_
        rintro e w9 ⟨v9, rfl, hh9⟩
        rw [E4.out] at hh9
        refine hK.out _ _ (hh9.tail.tail.tail.tail.tail.tail) (fun hHeld => ?_)
        clear hK K
        have HH9 := Lib.hid (hh9.drop 1 rfl |>.drop 1 rfl |>.drop 1 rfl |>.drop 1 rfl |>.drop 1 rfl |>.drop 1 rfl)
        clear hh9
        refine takeH 19 ?_ rfl (by kernel_rfl) (by kernel_rfl) (by kernel_rfl) (fun _ _ _ h => h) (by kernel_rfl) (by assumption) (fun w hSw => ?_) ?_
        rotate_left
        · (try dsimp only at hSw); go_simp <;> (try with_reducible rfl)
        try simp only [Act.put, List.setIfInBounds_toArray, List.set_cons_zero, List.set_cons_succ]
        refine takeH 20 ?_ rfl (by kernel_rfl) (by kernel_rfl) (by kernel_rfl) (fun _ _ _ h => h) (by kernel_rfl) (by assumption) (fun w hSw => ?_) ?_
        rotate_left
        · (try dsimp only at hSw); go_simp <;> (try with_reducible rfl)
        try simp only [Act.put, List.setIfInBounds_toArray, List.set_cons_zero, List.set_cons_succ]
        refine wpAnyH_done (by kernel_rfl) ?_ _
        go_wp2
        go_returns
        exact ⟨v9, by rw [HF.out]; rfl, by rw [HF.out]; exact HH9.out⟩
end Go.Proofs.YtibkngjacdggpaaDoor
