/- ShaNil: the walk. -/
import Derived.Test.YtaipgkbnmfjpfaaDoorShaSums
namespace Go.Proofs.YtaipgkbnmfjpfaaDoor
open Go.RowKit HP

set_option maxRecDepth 100000 in
set_option maxHeartbeats 2000000 in
theorem shaNil_walk (A : Option Addr) (n c : Nat) (xs : List UInt8) (w : World) (hr : RD w A xs) (hn : Hid (n = xs.length)) (hc : n ≤ c) (hb : n ≤ 140737488355200) (hk : KF w) :
    Calls Tryd.prog 7 #[.slice A n c] w fun e w' => e = .returned (.bool true) ∧ Kept w w' No := by
  have hk1 : Ent [since w] KF := Ent.sinceK hk
  have r1 : Ent [since w] fun w => RD w A xs := Ent.since hr
  have HAW := Lib.hid (shaawake_ok w _ (Holds.start w) hk1)
  have HR1 := Lib.hid r1; have HK1 := Lib.hid hk1
  have hsx : strOf (xs ++ [7]) = strOf xs ++ ⟨#[7]⟩ := strOf_append xs [7]
  have HSX := Lib.hid hsx
  clear hr hk hk1 r1 hsx
  go_enter Tryd.func7, Tryd.ntmps7
  go_wp2_with (first
    | (go_at_call 9; (with_reducible refine HAW.out.mono ?_); rintro e w1 ⟨rfl, hh⟩
       have hh2 := (hh.alloc 5 #[]).own_of_cells (xs := []) (n := 0) (cap := 0) rfl (Nat.le_refl _) (by decide) rfl rfl
       obtain ⟨g, hrb⟩ := HR1.out _ hh2.tail
       have HH0 := Lib.hid hh2; have HRB := Lib.hid hrb; clear hh hh2 hrb)
    | (go_at_call 16; (with_reducible refine (write_nil _ _ _ _).mono ?_); rintro e w2 ⟨rfl, rfl⟩)
    | (go_at_call 19; (with_reducible refine (reset_nil _).mono ?_); rintro e w3 ⟨rfl, rfl⟩)
    | (at_builtin
       refine wpList_app_b _ rfl (.tmp 12) (.tmp 13) 22 rfl Tryd.underlying22 Tryd.infoByte _ _ HH0.out.ob rfl g A xs n c hn.out rfl HRB.out (by simp; rw [← hn.out]; omega) ?_
       intro v3 w3 ho3 hk3 hp3
       have HH1 := Lib.hid (HH0.out.app ho3 hk3 hp3)
       clear ho3 hk3 hp3)
    | (at_builtin
       refine wpList_app_b _ rfl (.tmp 14) (.tmp 15) 22 rfl Tryd.underlying22 Tryd.infoByte _ _ (HH1.out.ob.alloc _) rfl w3.heap.size _ [7] 1 1 rfl rfl (RB.of_byte rfl) (by simp; rw [← hn.out]; omega) ?_
       intro v4 w4 ho4 hk4 hp4
       have HH2 := Lib.hid ((HH1.out.alloc_ _).app ho4 hk4 hp4)
       clear ho4 hk4 hp4))
  obtain ⟨A4, n4, c4, rfl, hn4, hc4, hr4⟩ := HH2.out.own_form
  have hk0 := HH2.out.drew
  have hln : n ≤ n4 := by rw [hn4.out, hn.out]; simp
  have hlc : n ≤ c4 := by omega
  refine wp_region_held_drew (S := (fun w' => Holds w' [own (.slice A4 n4 c4) ([] ++ xs ++ [7]), since w])) (by kernel_rfl) ?_ (fun hHeld => ?_)
  · exact hk0
  refine takeH 0 ?_ rfl (by kernel_rfl) (by kernel_rfl) (by kernel_rfl) (fun _ _ _ h => h) (by kernel_rfl) (by assumption) (fun w hSw => ?_) ?_
  rotate_left
  · (try dsimp only at hSw); go_simp <;> (try with_reducible rfl)
  try simp only [Act.put, List.setIfInBounds_toArray, List.set_cons_zero, List.set_cons_succ]
  refine takeH 1 ?_ rfl (by kernel_rfl) (by kernel_rfl) (by kernel_rfl) (fun _ _ _ h => h) (by kernel_rfl) (by assumption) (fun w hSw => ?_) ?_
  rotate_left
  · (try dsimp only at hSw); go_simp <;> (try with_reducible rfl)
  try simp only [Act.put, List.setIfInBounds_toArray, List.set_cons_zero, List.set_cons_succ]
  refine takeH 2 ?_ rfl (by kernel_rfl) (by kernel_rfl) (by kernel_rfl) (fun _ _ _ h => h) (by kernel_rfl) (by assumption) (fun w hSw => ?_) ?_
  rotate_left
  · (try dsimp only at hSw); go_simp <;> (try with_reducible rfl)
  try simp only [Act.put, List.setIfInBounds_toArray, List.set_cons_zero, List.set_cons_succ]
  refine takeH 3 ?_ rfl (by kernel_rfl) (by kernel_rfl) (by kernel_rfl) (fun _ _ _ h => h) (by kernel_rfl) (by assumption) (fun w hSw => ?_) ?_
  rotate_left
  · (try dsimp only at hSw); go_simp <;> (try with_reducible rfl)
  try simp only [Act.put, List.setIfInBounds_toArray, List.set_cons_zero, List.set_cons_succ]
  refine takeH 4 ?_ rfl (by kernel_rfl) (by kernel_rfl) (by kernel_rfl) (fun _ _ _ h => h) (by kernel_rfl) (by assumption) (fun w hSw => ?_) ?_
  rotate_left
  · (try dsimp only at hSw); go_simp <;> (try with_reducible rfl)
  try simp only [Act.put, List.setIfInBounds_toArray, List.set_cons_zero, List.set_cons_succ]
  refine takeH 5 ?_ rfl (by kernel_rfl) (by kernel_rfl) (by kernel_rfl) (fun _ _ _ h => h) (by kernel_rfl) (by assumption) (fun w hSw => ?_) ?_
  rotate_left
  · (try dsimp only at hSw); go_simp <;> (try with_reducible rfl)
  try simp only [Act.put, List.setIfInBounds_toArray, List.set_cons_zero, List.set_cons_succ]
  refine takeH 6 ?_ rfl (by kernel_rfl) (by kernel_rfl) (by kernel_rfl) (fun _ _ _ h => h) (by kernel_rfl) (by assumption) (fun w hSw => ?_) ?_
  rotate_left
  · (try dsimp only at hSw); go_simp <;> (try with_reducible rfl)
  try simp only [Act.put, List.setIfInBounds_toArray, List.set_cons_zero, List.set_cons_succ]
  refine takeH 7 ?_ rfl (by kernel_rfl) (by kernel_rfl) (by kernel_rfl) (fun _ _ _ h => h) (by kernel_rfl) (by assumption) (fun w hSw => ?_) ?_
  rotate_left
  · (try dsimp only at hSw); go_simp <;> (try with_reducible rfl)
  try simp only [Act.put, List.setIfInBounds_toArray, List.set_cons_zero, List.set_cons_succ]
  refine effH 8 rfl (by kernel_rfl) (by kernel_rfl) (fun K hK => ?_)
  go_simp
  have hk1 := hk0.alloc 22 #[.slice A4 n c4, .slice A4 n c4]
  refine hK.out _ _ hk1.tail (fun hHeld => ?_)
  clear hK K hHeld
  have hHeld := hk1
  refine wpAnyH_strong (S' := fun w' => Holds w' [blk w4.heap.size 22 #[.slice A4 n c4, .slice A4 n c4], own (.slice A4 n4 c4) ([] ++ xs ++ [7]), since w]) (fun w' h => h.tail) ?_
  refine effH 9 rfl (by kernel_rfl) (by kernel_rfl) (fun K hK => ?_)
  go_simp
  have hrx : Ent [own (.slice A4 n4 c4) ([] ++ xs ++ [7]), since w] fun w => RD w A4 xs := fun w' hw => by
    have := hw.own_rd.take n
    simpa [hn.out] using this
  refine (of_ok (some ⟨w4.heap.size, 0, none⟩) 2 2 [⟨A4, n, c4, xs⟩, ⟨A4, n, c4, xs⟩] _ _ hk1 (Ent.parts rfl (Ent.oks hrx hn hlc (Ent.oks hrx hn hlc Ent.oks_nil))) rfl (by omega) (HK1.out.cons _ |>.cons _) (by simp [bsAll]; rw [← hn.out]; omega)).mono ?_
  rintro e w5 ⟨rfl, hh5⟩
  refine hK.out _ _ hh5 (fun hHeld => ?_)
  clear hK K
  refine wpAnyH_done (by kernel_rfl) ?_ _
  have HH6 := Lib.hid hh5.tail
  have HCV := Lib.hid (fun w' (h : Holds w' [own (.slice A4 n4 c4) ([] ++ xs ++ [7]), since w]) => conv_rd (A := A4) (n := n4) (c := c4) hn4.out h.own_rd)
  have HCB := Lib.hid (fun w' (h : Holds w' [own (.slice A4 n4 c4) ([] ++ xs ++ [7]), since w]) => conv_rd (A := A) (n := n) (c := c) hn.out (HR1.out _ h.tail))
  have hstr := HSX.out
  have hsz : ¬ 9223372036854775807 < (strOf xs).size + 1 := by
    have : (strOf xs).size = xs.length := by simp [strOf, ByteArray.size]
    rw [this, ← hn.out]; omega
  clear hh5 hHeld hk1 hrx hk0 hr4
  generalize shaL (bsAll [⟨A4, n, c4, xs⟩, ⟨A4, n, c4, xs⟩]) = L
  go_wp2_with (first
    | (go_at_call 18; (with_reducible refine (len_nil _).mono ?_); rintro e w6 ⟨rfl, rfl⟩)
    | (go_at_call 17; (with_reducible refine (hsum_nil _ _ HH6.out).mono ?_); rintro e w7 ⟨rfl, hh7⟩
       have HH7 := Lib.hid hh7
       have hcv := HCV.out _ hh7
       have hcb := HCB.out _ hh7
       rw [List.nil_append] at hcv
       clear HH6 HCV HCB hh7))
  go_returns
  exact ⟨rfl, HH7.out.tail.since_kept⟩
end Go.Proofs.YtaipgkbnmfjpfaaDoor
