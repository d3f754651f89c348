/- PackNil: the walk. -/
import Derived.Test.YtaipgkbnmfjpfaaPackRef2
import Derived.Test.YtaipgkbnmfjpfaaEqHash
namespace Go.Proofs.Ytaipgkbnmfjpfaa
open Go.RowKit

theorem Try.sizeItem : (Try.prog.info? 38).map (·.size) = some 37 := by kernel_rfl
theorem Try.zeroItem : ∃ i z, Try.prog.info? 38 = some i ∧ i.zero = some z ∧ i.size = 37 := by
  have h : (Try.prog.info? 38).map (fun i => (i.zero.isSome, i.size)) = some (true, 37) := by kernel_rfl
  obtain ⟨i, hi, he⟩ := Option.map_eq_some_iff.1 h
  simp only [Prod.mk.injEq] at he
  obtain ⟨z, hz⟩ := Option.isSome_iff_exists.1 he.1
  exact ⟨i, z, hi, hz, he.2⟩
theorem run_one_item (x : Itm) (hx : x.Ok) (w : World) : (Instr.buildSlice 28 1 #[(0, .agg x.cells.toArray)]).run Try.prog w = .ok (.slice (some ⟨w.heap.size, 0, none⟩) 1 1) (w.alloc (.cells x.cells.toArray 38)) := by
  obtain ⟨i, z, hi, hz, hs⟩ := Try.zeroItem
  have hl := Itm.len x hx
  exact run_buildSlice_agg 28 38 i z x.cells.toArray Try.underlying28 hi hz (by simp [hs, hl]) (by simp [hl]) (by simp [hl])
theorem Items.one (w : World) (x : Itm) (hx : x.Ok) : Items (w.alloc (.cells x.cells.toArray 38)) w.heap.size (some ⟨w.heap.size, 0, none⟩) [x] := fun _ => ⟨0, rfl, fun j hj => by
  obtain rfl : j = 0 := by simp at hj; omega
  exact ⟨ItmAt.new w x, hx⟩⟩

set_option maxRecDepth 100000 in
set_option maxHeartbeats 2000000 in
theorem packNil_walk (x : Itm) (hx : x.Ok) (w : World) : Calls Try.prog 8 #[.agg x.cells.toArray] w fun e w' => e = .returned (.bool true) ∧ Kept w w' No := by
  have hst := (Kept.refl w No).alloc (.cells x.cells.toArray 38)
  have hI := ItmAt.new w x
  have hsz : (Try.prog.info? 38).map (·.size) = some x.cells.length := by rw [Try.sizeItem, Itm.len _ hx]
  have hbs := run_one_item x hx
  have hits := fun w => Items.one w x hx
  have hput := fun w => put_nil x hx w
  generalize hcs : x.cells = cs at hst hsz hbs hits hput hI ⊢
  have haw := packawake_ok (w.alloc (.cells cs.toArray 38))
  have HA := Lib.hid haw; have HT := Lib.hid hst; have HI := Lib.hid hI; have HS := Lib.hid hsz; have HIT := Lib.hid hits; have HP := Lib.hid hput; have HC := Lib.hid hcs
  clear haw hst hI hsz hits hput hcs
  cases hf : fewB [x] with
  | false =>
    have HF := Lib.hid hf; clear hf
    go_enter Try.func8, Try.ntmps8
    go_wp2_with fail
    refine HA.out.mono ?_
    rintro e w1 ⟨rfl, hk1⟩
    have hi1 := (HI.out.kept hk1 (fun h => h)).rg
    rw [HC.out] at hi1
    have HK1 := Lib.hid hk1; have HI1 := Lib.hid hi1; clear hk1 hi1
    go_wp2_with (first
      | (with_reducible refine wpList_load_midg (by kernel_rfl) 38 (.tmp 1) rfl w.heap.size 0 rfl cs _ HI1.out Try.underlying38 rfl HS.out ?_)
      | (with_reducible refine wpList_build1 (by kernel_rfl) 28 (.tmp 9) rfl (.agg cs.toArray) _ _ rfl (hbs _) ?_)
      | (go_at_call 13; refine (few_ok _ _ 1 1 [x] _ rfl (HIT.out _) (by omega)).mono ?_; rw [HF.out]; rintro e w2 ⟨rfl, rfl⟩)
      | (go_at_call 12; refine (packawake_ok _).mono ?_; rintro e w3 ⟨rfl, hk3⟩))
    go_returns
    exact ⟨rfl, ((HT.out.seq HK1.out).alloc _).seq hk3⟩
  | true =>
    have HF := Lib.hid hf; clear hf
    have hem : (strOf []).toList.isEmpty = true := by rw [strOf_list]; rfl
    go_enter Try.func8, Try.ntmps8
    go_wp2_with fail
    refine HA.out.mono ?_
    rintro e w1 ⟨rfl, hk1⟩
    have hi1 := (HI.out.kept hk1 (fun h => h))
    have hi1' := hi1.rg
    rw [HC.out] at hi1'
    have c2 := hi1.c2
    have HK1 := Lib.hid hk1; have HI1 := Lib.hid hi1'; have HII := Lib.hid hi1; clear hk1 hi1 hi1' c2
    go_wp2_with (first
      | (with_reducible refine wpList_load_midg (by kernel_rfl) 38 (.tmp 1) rfl w.heap.size 0 rfl cs _ HI1.out Try.underlying38 rfl HS.out ?_)
      | (with_reducible refine wpList_build1 (by kernel_rfl) 28 (.tmp 9) rfl (.agg cs.toArray) _ _ rfl (hbs _) ?_)
      | (go_at_call 13; refine (few_ok _ _ 1 1 [x] _ rfl (HIT.out _) (by omega)).mono ?_; rw [HF.out]; rintro e w2 ⟨rfl, rfl⟩
         have hi2 := (HII.out.kept ((Kept.refl w1 No).alloc (.cells cs.toArray 38)) (fun h => h)); have hi2' := hi2.rg; rw [HC.out] at hi2'; have HI2 := Lib.hid hi2; have HI2' := Lib.hid hi2'; clear hi2 hi2')
      | (with_reducible refine wpList_load_mid rfl 38 (.tmp 1) rfl w.heap.size 0 rfl cs _ HI2'.out Try.underlying38 rfl HS.out ?_)
      | (go_at_call 24; refine (HP.out _).mono ?_; rintro e w3 ⟨rfl, hk3⟩; have c2 := (HI2.out.kept hk3 (fun h => h)).c2; simp only [Nat.zero_add] at c2; have HK3 := Lib.hid hk3; clear hk3)
      | (go_at_call 15; refine (rnumber_nil _ _).mono ?_; rintro e w4 ⟨rfl, rfl⟩)
      | (go_at_call 26; refine (wbad_nil _).mono ?_; rintro e w4 ⟨rfl, rfl⟩)
      | (go_at_call 27; refine (bytes_nil _).mono ?_; rintro e w4 ⟨rfl, rfl⟩)
      | (go_at_call 17; refine (rtruth_nil _).mono ?_; rintro e w4 ⟨rfl, rfl⟩)
      | (go_at_call 18; refine (rtext_nil _).mono ?_; rintro e w4 ⟨rfl, rfl⟩)
      | (go_at_call 20; refine (rhash_nil _).mono ?_; rintro e w4 ⟨rfl, hk4⟩)
      | (go_at_call 21; refine (rbad_nil _).mono ?_; rintro e w4 ⟨rfl, rfl⟩)
      | (go_at_call 23; refine (rdone_nil _).mono ?_; rintro e w4 ⟨rfl, rfl⟩)
      | (go_at_call 22; refine (rleft_nil _).mono ?_; rintro e w4 ⟨rfl, rfl⟩))
    go_returns
    exact ⟨rfl, (((HT.out.seq HK1.out).alloc _).seq HK3.out).seq hk4⟩
end Go.Proofs.Ytaipgkbnmfjpfaa
