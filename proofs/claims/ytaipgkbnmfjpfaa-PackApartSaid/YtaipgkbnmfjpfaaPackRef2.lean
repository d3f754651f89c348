/- right at a text and at a hash; the law's first look; the plain reader. -/
import Derived.Test.YtaipgkbnmfjpfaaPackRef
namespace Go.Proofs.Ytaipgkbnmfjpfaa
open Go.RowKit

set_option maxRecDepth 100000 in
theorem right2_yes (x : Itm) (w : World) (k2 : x.kind = 2) (hs : ¬ 65535 < x.s.size) : Calls Try.prog 25 #[.agg x.cells.toArray] w (RightPost w (some (beL x.s.size 2 ++ x.s.data.toList))) := by
  have hI := ItmAt.new w x
  have hst := (Kept.refl w No).alloc (.cells x.cells.toArray 38)
  have hnum : ∀ w, Calls Try.prog 37 #[.int .u64 x.s.size, .int .i64 2] w fun e w' => ∃ v, e = .returned v ∧ Fresh w (beL x.s.size 2) v w' := fun w => refnumber_ok x.s.size 2 (by omega) w
  have c0 := hI.c0
  have c4 := hI.c4
  simp only [Nat.zero_add] at c4
  rw [k2] at c0
  have hlt := hI.c4
  generalize x.cells = cs at c0 c4 hst hI hlt ⊢
  generalize x.s = str at c4 hs hnum ⊢
  have HT := Lib.hid hst; have HN := Lib.hid hnum
  clear hst hI hlt hnum
  have hbd : (beL str.size 2).length + str.size ≤ 140737488355328 := by rw [length_beL]; omega
  go_enter Try.func25, Try.ntmps25
  have hwr : IntKind.u64.wrap (str.size : Int) = (str.size : Int) := IntWalk.u64_in _ (by omega)
  go_wp2_with fail
  go_region_held3 (fun w' => w'.cell? ⟨w.heap.size, 4, none⟩ = some (.string str)) (first | assumption | go_keep) (first
    | (go_at_call 37; refine (HN.out _).mono ?_; rintro e w1 ⟨v1, rfl, hf1⟩; have ho1 := hf1.1; have c41 := (hf1.2.1.cell (p := ⟨w.heap.size, 4, none⟩) (by simp) (fun h => h)).trans c4; have HF1 := Lib.hid hf1; clear hf1)
    | (refine step_app_s _ rfl (.tmp 59) (.tmp 61) 27 9 rfl Try.underlying27 Try.underlying9 Try.infoByte _ _ ho1 rfl str rfl hbd ?_
       intro v2 w2 ho2 hk2 hp2
       have c42 := (hk2.cell (p := ⟨w.heap.size, 4, none⟩) (World.block_lt_of_cell? _ _ c41) (fun e => absurd (HF1.out.2.2 w.heap.size e.symm) (by simp))).trans c41
       have HK2 := Lib.hid hk2; have HP2 := Lib.hid hp2; clear hk2 hp2))
  go_wp2
  go_returns
  exact RightPost.of_fresh (HF1.out.app ho2 HK2.out HP2.out) HT.out.drew

set_option maxRecDepth 100000 in
theorem right3 (x : Itm) (hx : x.Ok) (w : World) (k0 : ¬ x.kind = 0) (k1 : ¬ x.kind = 1) (k2 : ¬ x.kind = 2) : Calls Try.prog 25 #[.agg x.cells.toArray] w (RightPost w (some x.h)) := by
  have hI := ItmAt.new w x
  have hst := (Kept.refl w No).alloc (.cells x.cells.toArray 38)
  have k0' := u8_ne (n := 0) (by omega) k0
  have k1' := u8_ne (n := 1) (by omega) k1
  have k2' := u8_ne (n := 2) (by omega) k2
  have c0 := hI.c0
  have c5 := hI.c5
  simp only [Nat.zero_add] at c5
  have hr := RB.of_range c5
  have hl := hx.h
  generalize x.cells = cs at c0 hst hr ⊢
  generalize x.kind = kd at c0 k0' k1' k2'
  have HT := Lib.hid hst; have HR := Lib.hid hr; have HL := Lib.hid hl; clear hst hI hr c5 hl k0 k1 k2
  go_enter Try.func25, Try.ntmps25
  go_wp2
  go_returns
  exact ⟨_, _, _, w.heap.size, rfl, HL.out.symm, Nat.le_refl _, HR.out, HT.out, Nat.le_refl _⟩

theorem right_any (x : Itm) (hx : x.Ok) (w : World) : Calls Try.prog 25 #[.agg x.cells.toArray] w (RightPost w (encI x)) := by
  unfold encI
  by_cases k0 : x.kind = 0
  · rw [if_pos k0]
    by_cases h : (szB x.size && fitsB x.n x.size) = true
    · rw [if_pos h]
      simp only [Bool.and_eq_true] at h
      exact right0_yes x w k0 h.1 h.2
    · rw [if_neg h]
      refine right0_no x w k0 ?_
      cases h1 : szB x.size
      · exact .inl rfl
      · right; simpa [h1] using h
  rw [if_neg k0]
  by_cases k1 : x.kind = 1
  · rw [if_pos k1]
    exact right1 x w k1
  rw [if_neg k1]
  have hsz : x.s.data.toList.length = x.s.size := by rw [Array.length_toList]; rfl
  by_cases k2 : x.kind = 2
  · rw [if_pos k2]
    by_cases h : 65535 < x.s.data.toList.length
    · rw [if_pos h]
      exact right2_no x w k2 (by rw [← hsz]; exact h) hx.s
    · rw [if_neg h, hsz]
      exact right2_yes x w k2 (by rw [← hsz]; exact h)
  · rw [if_neg k2]
    exact right3 x hx w k0 k1 k2

/-! ### the law's first look -/
theorem Try.infoWriter : (Try.prog.info? 45).map (fun i => (i.zero, i.size)) = some (some (.agg #[.slice none 0 0, .bool false]), 2) := by kernel_rfl
theorem Wr.new (w : World) : Wr (w.alloc (.cells #[.slice none 0 0, .bool false] 45)) w.heap.size (.slice none 0 0) [] false := ⟨Blk.new _ _ _, OB.nil _⟩
set_option maxRecDepth 100000 in
theorem packawake_ok (w : World) : Calls Try.prog 12 #[] w fun e w' => e = .returned (.bool true) ∧ Kept w w' No := by
  have hw := Wr.new w
  have hst := (Kept.refl w No).alloc (.cells #[.slice none 0 0, .bool false] 45)
  have h1 : Calls Try.prog 30 #[.pointer (some ⟨w.heap.size, 0, none⟩), .int .u64 258, .int .i64 2] _ _ := number_any w.heap.size _ ([], false) 258 (by omega) 2 _ hw (by simp)
  rw [show wnum ([], false) 258 2 = ([1, 2], false) by decide] at h1
  have HN := Lib.hid h1; have HT := Lib.hid hst; clear h1 hw hst
  go_enter Try.func12, Try.ntmps12
  go_wp2_with fail
  refine HN.out.mono ?_
  rintro e w1 ⟨rfl, v1, hw1, hs1⟩
  have hk1 := HT.out.trans hs1.kept (L := No) (fun k hk h => by rcases h with h | h | h; exact h; omega; simp [Value.ownBlock] at h)
  have HK1 := Lib.hid hk1; clear hk1 hs1
  go_wp2_with fail
  refine (bytes_ok _ _ _ _ hw1 (by simp)).mono ?_
  rintro e w2 ⟨v2, rfl, hf2⟩
  obtain ⟨A2, n2, c2, rfl, hn2, hc2, hr2, -⟩ := hf2.1.form
  have hcv := run_conv_str (P := Try.prog) w2 27 9 Try.underlying27 Try.underlying5 Try.underlying9 _ A2 _ n2 c2 hn2.out hr2
  have htl : ((strOf [1, 2]).toList == [1, 2]) = true := by rw [strOf_list]; rfl
  have HF2 := Lib.hid hf2; clear hf2 hr2
  have hx := Blk.new w2 5 #[.int .u8 5]
  have hr := RB.of_blk (xs := [5]) hx rfl
  have HR := Lib.hid hr; clear hx hr
  go_wp2_with (first
    | (go_at_call 14; refine (read_any _ _ 1 1 [5] _ rfl HR.out (by simp)).mono ?_; rintro e w3 ⟨r, g', rfl, hrd, hk3, hr3, hg3⟩)
    | (go_at_call 15; refine (rnumber_any r g' ([5], false) 1 _ hrd (by simp)).mono ?_; rintro e w4 ⟨rfl, hrd4, hk4⟩))
  go_returns
  refine ⟨ret_bool (by rw [show (rnum ([5], false) 1).1 = 5 by decide]; rfl), ?_⟩
  obtain ⟨_, hkf, _⟩ := HF2.out
  have hsz := hkf.size
  have hsz1 := HK1.out.size
  have h3 : Kept w w3 No := ((HK1.out.seq hkf).alloc _).seq hk3
  exact h3.new_ hk4 (fun k e => by simp at hr3; omega)
end Go.Proofs.Ytaipgkbnmfjpfaa
