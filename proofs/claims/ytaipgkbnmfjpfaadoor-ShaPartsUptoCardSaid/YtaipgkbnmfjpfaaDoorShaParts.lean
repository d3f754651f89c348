/- ShaParts: the walk. -/
import Derived.Test.YtaipgkbnmfjpfaaDoorShaSums
namespace Go.Proofs.YtaipgkbnmfjpfaaDoor
open Go.RowKit HP

set_option maxRecDepth 100000 in
set_option maxHeartbeats 4000000 in
theorem shaParts_walk (A : Option Addr) (n c : Nat) (xs : List UInt8) (A' : Option Addr) (n' c' : Nat) (ys : List UInt8) (A'' : Option Addr) (n'' c'' : Nat) (zs : List UInt8) (w : World)
    (hr : RD w A xs) (hn : Hid (n = xs.length)) (hc : n ≤ c) (hr' : RD w A' ys) (hn' : Hid (n' = ys.length)) (hc' : n' ≤ c') (hr'' : RD w A'' zs) (hn'' : Hid (n'' = zs.length)) (hc'' : n'' ≤ c'') (hb : n + n' + n'' ≤ 4000000) (hk : KF w) :
    Calls Tryd.prog 4 #[.slice A n c, .slice A' n' c', .slice A'' n'' c''] w fun e w' => e = .returned (.bool true) ∧ Kept w w' No := by
  have hk1 : Ent [since w] KF := Ent.sinceK hk
  have r1 : Ent [since w] fun w => RD w A xs := Ent.since hr
  have r2 : Ent [since w] fun w => RD w A' ys := Ent.since hr'
  have r3 : Ent [since w] fun w => RD w A'' zs := Ent.since hr''
  have hlen : (xs ++ (ys ++ zs)).length ≤ 4000000 := by simp only [List.length_append]; rw [← hn.out, ← hn'.out, ← hn''.out]; omega
  have HAW := Lib.hid (shaawake_ok w _ (Holds.start w) hk1)
  have o3 : Ent [since w] fun w => ∀ s ∈ ([⟨A, n, c, xs⟩, ⟨A', n', c', ys⟩, ⟨A'', n'', c'', zs⟩] : List BS), s.Ok w := Ent.oks r1 hn hc (Ent.oks r2 hn' hc' (Ent.oks r3 hn'' hc'' Ent.oks_nil))
  have e3 : bsAll [⟨A, n, c, xs⟩, ⟨A', n', c', ys⟩, ⟨A'', n'', c'', zs⟩] = xs ++ (ys ++ zs) := by simp [bsAll]
  -- the three parts in a new row
  have HJ3 := Lib.hid (fun w' (h : Holds w' [since w]) => join_ok (some ⟨w'.heap.size, 0, none⟩) 3 3 [⟨A, n, c, xs⟩, ⟨A', n', c', ys⟩, ⟨A'', n'', c'', zs⟩] (w'.alloc (.cells #[.slice A n c, .slice A' n' c', .slice A'' n'' c''] 22)) _ (h.alloc 22 #[.slice A n c, .slice A' n' c', .slice A'' n'' c'']) (Ent.parts rfl o3) rfl (by omega) (by rw [e3]; omega))
  have hlx : xs.length + ys.length ≤ 4000000 := by rw [← hn.out, ← hn'.out]; omega
  have hly : ys.length + zs.length ≤ 4000000 := by rw [← hn'.out, ← hn''.out]; omega
  rw [e3] at HJ3
  have HRS := Lib.hid (fun A4 n4 c4 g w' (hn4 : Hid (n4 = (xs ++ (ys ++ zs)).length)) (h : Holds w' (own (.slice A4 n4 c4) (xs ++ (ys ++ zs)) :: g :: [since w])) => rsum_ok A4 n4 c4 (xs ++ (ys ++ zs)) w' _ h Ent.own hn4 (by rw [hn4.out]; omega))
  have h32 := length_shaL (xs ++ (ys ++ zs))
  have hL : ∃ L, Hid (shaL (xs ++ (ys ++ zs)) = L) := ⟨_, rfl⟩
  obtain ⟨L, hL⟩ := hL
  rw [hL.out] at HRS h32
  have HQ := Lib.hid (show (Tryd.prog.info? 24).map (·.size) = some (bcs L).toArray.size by rw [Tryd.sizeHash]; simp [h32])
  have HQ2 := Lib.hid (show (Tryd.prog.info? 24).map (·.size) = some (bcs L).length by rw [Tryd.sizeHash]; simp [h32])
  have H32 := Lib.hid h32
  have H1B := Lib.hid (show ∀ v ∈ (bcs L).toArray.toList, v.oneCell' = true from bcs_one)
  have HK1 := Lib.hid hk1
  have R1 := Lib.hid r1; have R2 := Lib.hid r2; have R3 := Lib.hid r3; have O3 := Lib.hid o3; have E3 := Lib.hid e3
  clear hr hr' hr'' hk hk1 r1 r2 r3 o3 e3
  go_enter Tryd.func4, Tryd.ntmps4
  go_wp2_with (first
    | (go_at_call 9; (with_reducible refine HAW.out.mono ?_); rintro e w1 ⟨rfl, hh⟩; have HH0 := Lib.hid hh; clear hh)
    | (go_at_call 13; (with_reducible refine (HJ3.out _ HH0.out).mono ?_); rintro e w2 ⟨v2, rfl, hh⟩
       obtain ⟨A4, n4, c4, rfl, hn4, hc4, -⟩ := hh.own_form
       have HH1 := Lib.hid hh; clear hh)
    | (go_at_call 11; (with_reducible refine (HRS.out _ _ _ _ _ hn4 HH1.out).mono ?_); rintro e w3 ⟨rfl, hh⟩; have HH2 := Lib.hid hh.tail.tail; clear hh HH1)
    | ((with_reducible refine (?_ : wpList _ _ _ [_] _ _)); refine wpList_store_blk rfl 24 (.tmp 7) (.tmp 15) rfl w3.heap.size 0 (bcs L).toArray rfl rfl 24 _ (Blk.new _ _ _) HQ.out (by rw [show (bcs L).toArray.size = 32 by simp [H32.out]]; exact Nat.le_refl _) H1B.out ?_; (
       intro w4 hb2 hk2
       rw [putA_all _ _ (by simp [H32.out])] at hb2
       have HH3 := Lib.hid ((HH2.out.alloc 24 _).reblk hb2 hk2)
       clear hb2 hk2)))
  have hk0 := HH3.out.drew
  have hq : ∀ w', Holds w' [blk w3.heap.size 24 (bcs L).toArray, since w] → w'.rangeAt w3.heap.size 0 (bcs L) := fun w' h j v hv => by
    rw [Nat.zero_add]; exact (h.cells j).trans (by simpa using hv)
  refine wp_region_held_drew (S := fun w' => Holds w' [blk w3.heap.size 24 (bcs L).toArray, since w]) (by kernel_rfl) ?_ (fun hHeld => ?_)
  · exact hk0
  refine takeH 0 ?_ rfl (by kernel_rfl) (by kernel_rfl) (by kernel_rfl) (fun _ _ _ h => h) (by kernel_rfl) (by assumption) (fun w hSw => ?_) ?_
  rotate_left
  · (try dsimp only at hSw); go_simp <;> (try with_reducible rfl)
  try simp only [Act.put, List.setIfInBounds_toArray, List.set_cons_zero, List.set_cons_succ]
  refine takeH 1 ?_ rfl (by kernel_rfl) (by kernel_rfl) (by kernel_rfl) (fun _ _ _ h => h) (by kernel_rfl) (by assumption) (fun w hSw => ?_) ?_
  rotate_left
  · (try dsimp only at hSw); go_simp <;> (try with_reducible rfl)
  try simp only [Act.put, List.setIfInBounds_toArray, List.set_cons_zero, List.set_cons_succ]
  refine takeH 2 ?_ rfl (by kernel_rfl) (by kernel_rfl) (by kernel_rfl) (fun _ _ _ h => h) (by kernel_rfl) (by assumption) (fun w hSw => ?_) ?_
  rotate_left
  · (try dsimp only at hSw); go_simp <;> (try with_reducible rfl)
  try simp only [Act.put, List.setIfInBounds_toArray, List.set_cons_zero, List.set_cons_succ]
  refine takeH_load 5 rfl (by kernel_rfl) (by kernel_rfl) (by kernel_rfl) (fun _ _ _ _ h => h) (by kernel_rfl) (by assumption) 24 (.tmp 7) rfl w3.heap.size 0 rfl (bcs L) _ hq Tryd.underlying24 rfl HQ2.out ?_
  try simp only [Act.put, List.setIfInBounds_toArray, List.set_cons_zero, List.set_cons_succ]
  refine effH 3 rfl (by kernel_rfl) (by kernel_rfl) (fun K hK => ?_)
  go_simp
  have hk1 := hk0.alloc 22 #[.slice A n c, .slice A' n' c', .slice A'' n'' c'']
  refine hK.out _ _ hk1.tail (fun hHeld => ?_)
  clear hK K hHeld
  refine effH 4 rfl (by kernel_rfl) (by kernel_rfl) (fun K hK => ?_)
  go_simp
  refine (of_ok (some ⟨w4.heap.size, 0, none⟩) 3 3 [⟨A, n, c, xs⟩, ⟨A', n', c', ys⟩, ⟨A'', n'', c'', zs⟩] _ _ hk1 (Ent.parts rfl (fun _ hw => O3.out _ hw.tail)) rfl (by omega) ((HK1.out.cons _).cons _) (by rw [E3.out]; omega)).mono ?_
  rintro e w5 ⟨rfl, hh5⟩
  rw [E3.out, hL.out]
  refine hK.out _ _ hh5.tail (fun hHeld => ?_)
  clear hK K hk1 hk0
  have hk0 := hh5.tail
  clear hh5
  refine takeH 6 ?_ rfl (by kernel_rfl) (by kernel_rfl) (by kernel_rfl) (fun _ _ _ h => h) (by kernel_rfl) (by assumption) (fun w hSw => ?_) ?_
  rotate_left
  · (try dsimp only at hSw); go_simp <;> (try with_reducible rfl)
  try simp only [Act.put, List.setIfInBounds_toArray, List.set_cons_zero, List.set_cons_succ]
  refine takeH 7 ?_ rfl (by kernel_rfl) (by kernel_rfl) (by kernel_rfl) (fun _ _ _ h => h) (by kernel_rfl) (by assumption) (fun w hSw => ?_) ?_
  rotate_left
  · (try dsimp only at hSw); go_simp <;> (try with_reducible rfl)
  try simp only [Act.put, List.setIfInBounds_toArray, List.set_cons_zero, List.set_cons_succ]
  refine takeH 8 ?_ rfl (by kernel_rfl) (by kernel_rfl) (by kernel_rfl) (fun _ _ _ h => h) (by kernel_rfl) (by assumption) (fun w hSw => ?_) ?_
  rotate_left
  · (try dsimp only at hSw); go_simp <;> (try with_reducible rfl)
  try simp only [Act.put, List.setIfInBounds_toArray, List.set_cons_zero, List.set_cons_succ]
  refine takeH 9 ?_ rfl (by kernel_rfl) (by kernel_rfl) (by kernel_rfl) (fun _ _ _ h => h) (by kernel_rfl) (by assumption) (fun w hSw => ?_) ?_
  rotate_left
  · (try dsimp only at hSw); go_simp <;> (try with_reducible rfl)
  try simp only [Act.put, List.setIfInBounds_toArray, List.set_cons_zero, List.set_cons_succ]
  refine takeH 12 ?_ rfl (by kernel_rfl) (by kernel_rfl) (by kernel_rfl) (fun _ _ _ h => h) (by kernel_rfl) (by assumption) (fun w hSw => ?_) ?_
  rotate_left
  · (try dsimp only at hSw); go_simp <;> (try with_reducible rfl)
  try simp only [Act.put, List.setIfInBounds_toArray, List.set_cons_zero, List.set_cons_succ]
  refine takeH_load 15 rfl (by kernel_rfl) (by kernel_rfl) (by kernel_rfl) (fun _ _ _ _ h => h) (by kernel_rfl) (by assumption) 24 (.tmp 7) rfl w3.heap.size 0 rfl (bcs L) _ hq Tryd.underlying24 rfl HQ2.out ?_
  try simp only [Act.put, List.setIfInBounds_toArray, List.set_cons_zero, List.set_cons_succ]
  refine effH 10 rfl (by kernel_rfl) (by kernel_rfl) (fun K hK => ?_)
  go_simp
  have hk1 := hk0.alloc 22 #[.slice A n c, .slice A' n' c']
  refine hK.out _ _ hk1.tail (fun hHeld => ?_)
  clear hK K hHeld
  refine effH 11 rfl (by kernel_rfl) (by kernel_rfl) (fun K hK => ?_)
  go_simp
  refine (join_ok (some ⟨w5.heap.size, 0, none⟩) 2 2 [⟨A, n, c, xs⟩, ⟨A', n', c', ys⟩] _ _ hk1 (Ent.parts rfl (Ent.oks (R1.out.cons _) hn hc (Ent.oks (R2.out.cons _) hn' hc' Ent.oks_nil))) rfl (by omega) (by simp [bsAll]; omega)).mono ?_
  rintro e w6 ⟨v6, rfl, hh6⟩
  obtain ⟨A6, n6, c6, rfl, hn6, hc6, -⟩ := hh6.own_form
  refine hK.out _ _ hh6.tail.tail (fun hHeld => ?_)
  clear hK K hHeld hk1 hk0
  have hk0 := hh6.drop 1 rfl
  clear hh6
  refine effH 13 rfl (by kernel_rfl) (by kernel_rfl) (fun K hK => ?_)
  go_simp
  have hk1 := hk0.alloc 22 #[.slice A6 n6 c6, .slice A'' n'' c'']
  refine hK.out _ _ hk1.tail.tail (fun hHeld => ?_)
  clear hK K hHeld
  have e21 : bsAll [⟨A6, n6, c6, bsAll [⟨A, n, c, xs⟩, ⟨A', n', c', ys⟩]⟩, ⟨A'', n'', c'', zs⟩] = xs ++ (ys ++ zs) := by simp [bsAll]
  refine effH 14 rfl (by kernel_rfl) (by kernel_rfl) (fun K hK => ?_)
  go_simp
  refine (of_ok (some ⟨w6.heap.size, 0, none⟩) 2 2 [⟨A6, n6, c6, bsAll [⟨A, n, c, xs⟩, ⟨A', n', c', ys⟩]⟩, ⟨A'', n'', c'', zs⟩] _ _ hk1 (Ent.parts rfl (Ent.oks Ent.own hn6 hc6 (Ent.oks ((R3.out.cons _).cons _) hn'' hc'' Ent.oks_nil))) rfl (by omega) (((HK1.out.cons _).cons _).cons _) (by rw [e21]; omega)).mono ?_
  rintro e w7 ⟨rfl, hh7⟩
  rw [e21, hL.out]
  refine hK.out _ _ hh7.tail.tail (fun hHeld => ?_)
  clear hK K hHeld hk1 hk0
  have hk0 := hh7.tail.tail
  have hHeld := hk0
  clear hh7 e21
  refine takeH 16 ?_ rfl (by kernel_rfl) (by kernel_rfl) (by kernel_rfl) (fun _ _ _ h => h) (by kernel_rfl) (by assumption) (fun w hSw => ?_) ?_
  rotate_left
  · (try dsimp only at hSw); go_simp <;> (try with_reducible rfl)
  try simp only [Act.put, List.setIfInBounds_toArray, List.set_cons_zero, List.set_cons_succ]
  refine takeH 17 ?_ rfl (by kernel_rfl) (by kernel_rfl) (by kernel_rfl) (fun _ _ _ h => h) (by kernel_rfl) (by assumption) (fun w hSw => ?_) ?_
  rotate_left
  · (try dsimp only at hSw); go_simp <;> (try with_reducible rfl)
  try simp only [Act.put, List.setIfInBounds_toArray, List.set_cons_zero, List.set_cons_succ]
  refine takeH 18 ?_ rfl (by kernel_rfl) (by kernel_rfl) (by kernel_rfl) (fun _ _ _ h => h) (by kernel_rfl) (by assumption) (fun w hSw => ?_) ?_
  rotate_left
  · (try dsimp only at hSw); go_simp <;> (try with_reducible rfl)
  try simp only [Act.put, List.setIfInBounds_toArray, List.set_cons_zero, List.set_cons_succ]
  refine takeH 19 ?_ rfl (by kernel_rfl) (by kernel_rfl) (by kernel_rfl) (fun _ _ _ h => h) (by kernel_rfl) (by assumption) (fun w hSw => ?_) ?_
  rotate_left
  · (try dsimp only at hSw); go_simp <;> (try with_reducible rfl)
  try simp only [Act.put, List.setIfInBounds_toArray, List.set_cons_zero, List.set_cons_succ]
  refine takeH 20 ?_ rfl (by kernel_rfl) (by kernel_rfl) (by kernel_rfl) (fun _ _ _ h => h) (by kernel_rfl) (by assumption) (fun w hSw => ?_) ?_
  rotate_left
  · (try dsimp only at hSw); go_simp <;> (try with_reducible rfl)
  try simp only [Act.put, List.setIfInBounds_toArray, List.set_cons_zero, List.set_cons_succ]
  refine takeH 21 ?_ rfl (by kernel_rfl) (by kernel_rfl) (by kernel_rfl) (fun _ _ _ h => h) (by kernel_rfl) (by assumption) (fun w hSw => ?_) ?_
  rotate_left
  · (try dsimp only at hSw); go_simp <;> (try with_reducible rfl)
  try simp only [Act.put, List.setIfInBounds_toArray, List.set_cons_zero, List.set_cons_succ]
  refine takeH_load 26 rfl (by kernel_rfl) (by kernel_rfl) (by kernel_rfl) (fun _ _ _ _ h => h) (by kernel_rfl) (by assumption) 24 (.tmp 7) rfl w3.heap.size 0 rfl (bcs L) _ hq Tryd.underlying24 rfl HQ2.out ?_
  try simp only [Act.put, List.setIfInBounds_toArray, List.set_cons_zero, List.set_cons_succ]
  refine effH 22 rfl (by kernel_rfl) (by kernel_rfl) (fun K hK => ?_)
  go_simp
  have hk1 := hk0.alloc 22 #[.slice A' n' c', .slice A'' n'' c'']
  refine hK.out _ _ hk1.tail (fun hHeld => ?_)
  clear hK K hHeld
  refine effH 23 rfl (by kernel_rfl) (by kernel_rfl) (fun K hK => ?_)
  go_simp
  refine (join_ok (some ⟨w7.heap.size, 0, none⟩) 2 2 [⟨A', n', c', ys⟩, ⟨A'', n'', c'', zs⟩] _ _ hk1 (Ent.parts rfl (Ent.oks (R2.out.cons _) hn' hc' (Ent.oks (R3.out.cons _) hn'' hc'' Ent.oks_nil))) rfl (by omega) (by simp [bsAll]; omega)).mono ?_
  rintro e w8 ⟨v8, rfl, hh8⟩
  obtain ⟨A8, n8, c8, rfl, hn8, hc8, -⟩ := hh8.own_form
  refine hK.out _ _ hh8.tail.tail (fun hHeld => ?_)
  clear hK K hHeld hk1 hk0
  have hk0 := hh8.drop 1 rfl
  clear hh8
  refine effH 24 rfl (by kernel_rfl) (by kernel_rfl) (fun K hK => ?_)
  go_simp
  have hk1 := hk0.alloc 22 #[.slice A n c, .slice A8 n8 c8]
  refine hK.out _ _ hk1.tail.tail (fun hHeld => ?_)
  clear hK K hHeld
  have e12 : bsAll [⟨A, n, c, xs⟩, ⟨A8, n8, c8, bsAll [⟨A', n', c', ys⟩, ⟨A'', n'', c'', zs⟩]⟩] = xs ++ (ys ++ zs) := by simp [bsAll]
  refine effH 25 rfl (by kernel_rfl) (by kernel_rfl) (fun K hK => ?_)
  go_simp
  refine (of_ok (some ⟨w8.heap.size, 0, none⟩) 2 2 [⟨A, n, c, xs⟩, ⟨A8, n8, c8, bsAll [⟨A', n', c', ys⟩, ⟨A'', n'', c'', zs⟩]⟩] _ _ hk1 (Ent.parts rfl (Ent.oks ((R1.out.cons _).cons _) hn hc (Ent.oks Ent.own hn8 hc8 Ent.oks_nil))) rfl (by omega) (((HK1.out.cons _).cons _).cons _) (by rw [e12]; omega)).mono ?_
  rintro e w9 ⟨rfl, hh9⟩
  rw [e12, hL.out]
  refine hK.out _ _ hh9.tail.tail (fun hHeld => ?_)
  clear hK K hHeld hk1 hk0
  have HH9 := Lib.hid hh9.tail.tail
  have hHeld := HH9.out
  clear hh9 e12
  refine takeH 27 ?_ rfl (by kernel_rfl) (by kernel_rfl) (by kernel_rfl) (fun _ _ _ h => h) (by kernel_rfl) (by assumption) (fun w hSw => ?_) ?_
  rotate_left
  · (try dsimp only at hSw); go_simp <;> (try with_reducible rfl)
  try simp only [Act.put, List.setIfInBounds_toArray, List.set_cons_zero, List.set_cons_succ]
  refine takeH 28 ?_ rfl (by kernel_rfl) (by kernel_rfl) (by kernel_rfl) (fun _ _ _ h => h) (by kernel_rfl) (by assumption) (fun w hSw => ?_) ?_
  rotate_left
  · (try dsimp only at hSw); go_simp <;> (try with_reducible rfl)
  try simp only [Act.put, List.setIfInBounds_toArray, List.set_cons_zero, List.set_cons_succ]
  refine takeH 29 ?_ rfl (by kernel_rfl) (by kernel_rfl) (by kernel_rfl) (fun _ _ _ h => h) (by kernel_rfl) (by assumption) (fun w hSw => ?_) ?_
  rotate_left
  · (try dsimp only at hSw); go_simp <;> (try with_reducible rfl)
  try simp only [Act.put, List.setIfInBounds_toArray, List.set_cons_zero, List.set_cons_succ]
  refine wpAnyH_done (by kernel_rfl) ?_ _
  go_wp2
  go_returns
  exact ⟨rfl, HH9.out.tail.since_kept⟩
end Go.Proofs.YtaipgkbnmfjpfaaDoor
