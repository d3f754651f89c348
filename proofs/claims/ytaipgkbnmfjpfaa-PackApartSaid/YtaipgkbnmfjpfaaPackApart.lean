/- PackApart: the walk. -/
import Derived.Test.YtaipgkbnmfjpfaaPackApartLaw
import Derived.Test.YtaipgkbnmfjpfaaSlPack
import Derived.Test.YtaipgkbnmfjpfaaEqHash
namespace Go.Proofs.Ytaipgkbnmfjpfaa
open Go.RowKit HP

theorem put_sl {w : World} {R : List HP} {b : Nat} {s : List UInt8 × Bool} (x : Itm) (hx : x.Ok) (h : Holds w (WrH b s :: R)) (hbd : s.1.length + 70000 ≤ 140737488355328) :
    Calls Try.prog 24 #[.pointer (some ⟨b, 0, none⟩), .agg x.cells.toArray] w fun e w' => e = .returned (.tuple #[]) ∧ Holds w' (WrH b (wput s x) :: R) := by
  obtain ⟨v, hw, hs⟩ := h.wr
  exact (put_any b v s x hx w hw hbd).mono fun e w' ⟨he, v', h1, h2⟩ => ⟨he, hs _ _ _ h1 h2⟩

theorem conv_rd {w : World} {A : Option Addr} {n c : Nat} {xs : List UInt8} (hn : n = xs.length) (h : RD w A xs) : (convert 27 9 (.slice A n c)).run Try.prog w = .ok (.string (strOf xs)) w := by
  obtain ⟨g, h⟩ := h
  exact run_conv_str w 27 9 Try.underlying27 Try.underlying5 Try.underlying9 g A xs n c hn h

set_option maxRecDepth 100000 in
set_option maxHeartbeats 1000000 in
theorem packApart_walk (A : Option Addr) (g n c : Nat) (l : List Itm) (A' : Option Addr) (g' n' c' : Nat) (l' : List Itm) (w : World) (hn : Hid (n = l.length)) (hl : Items w g A l) (hb : n ≤ 140737488355328)
    (hn' : Hid (n' = l'.length)) (hl' : Items w g' A' l') (hb' : n' ≤ 140737488355328) :
    Calls Try.prog 6 #[.slice A n c, .slice A' n' c'] w fun e w' => e = .returned (.bool true) ∧ Kept w w' No := by
  have haw := packawake_ok w
  have HA := Lib.hid haw; clear haw
  have HL := Lib.hid hl; have HL' := Lib.hid hl'; clear hl hl'
  by_cases hgo : fewB l = true ∧ fewB l' = true ∧ n = n'
  · obtain ⟨hf, hf', rfl⟩ := hgo
    have hle := fewB_le hf
    have hle' := fewB_le hf'
    go_enter Try.func6, Try.ntmps6
    go_wp2_with fail
    refine HA.out.mono ?_
    rintro e w1 ⟨rfl, hk1⟩
    have hfw := few_ok A g n c l w1 hn (HL.out.kept hk1 (fun h => h)) hb
    have hfw' := few_ok A' g' n c' l' w1 hn' (HL'.out.kept hk1 (fun h => h)) hb
    rw [hf] at hfw
    rw [hf'] at hfw'
    have HF := Lib.hid hfw; have HF' := Lib.hid hfw'; clear hfw hfw' hf hf'
    have HS := Lib.hid (((Holds.start w).kept hk1).alloc 45 #[.slice none 0 0, .bool false]).wr_new
    have hs2 := ((HS.out.alloc 45 #[.slice none 0 0, .bool false]).wr_new)
    rw [heap_size_alloc] at hs2
    have HS2 := Lib.hid hs2
    clear hk1 hs2
    go_wp2_with (first | (go_at_call 13; (with_reducible refine HF.out.mono ?_); rintro e w2 ⟨rfl, rfl⟩) | (go_at_call 13; (with_reducible refine HF'.out.mono ?_); rintro e w2 ⟨rfl, rfl⟩))
    have HN := Lib.hid (hn.out.symm.trans hn'.out)
    go_loopw [7, 31] (fun sm i wr => ∃ j : Nat, j ≤ n ∧ i = .int .i64 j ∧ sm = .bool (sameAll (l.take j) (l'.take j)) ∧ Hid (alikeAll (l.take j) (l'.take j)) ∧ Holds wr [WrH (w1.heap.size + 1) (wputs (l'.take j)), WrH w1.heap.size (wputs (l.take j)), since w]) (fun _ i _ => n - (intOf i).toNat)
    case atStart => exact ⟨0, by omega, rfl, rfl, trivial, HS2.out⟩
    case round =>
      obtain ⟨j, hj, rfl, rfl, hal, hh⟩ := hrel
      by_cases hlt : j < n
      · have hjl : j < l.length := by rw [← hn.out]; exact hlt
        have hjl' : j < l'.length := by rw [← hn'.out]; exact hlt
        have hbd := wputs_len HL.out.ok j
        have hbd' := wputs_len HL'.out.ok j
        have hbl : (l.take j).length ≤ 100 := by simp; omega
        have hbl' : (l'.take j).length ≤ 100 := by simp; omega
        have hk := (hh.drop 0 rfl).drop 0 rfl |>.since_kept
        obtain ⟨o, x, rfl, hi0, hok, hT⟩ := HL.out.next hjl
        obtain ⟨o', y, rfl, hi0', hok', hT'⟩ := HL'.out.next hjl'
        have hi := hi0.kept hk (fun h => h)
        have hi' := hi0'.kept hk (fun h => h)
        have HX := Lib.hid hi0; have HY := Lib.hid hi0'; clear hi0 hi0'
        have hsz : (Try.prog.info? 38).map (·.size) = some x.cells.length := by rw [Try.sizeItem, Itm.len _ hok]
        have hsz' : (Try.prog.info? 38).map (·.size) = some y.cells.length := by rw [Try.sizeItem, Itm.len _ hok']
        have hsn := sameAll_snoc (l := l.take j) (m := l'.take j) (x := x) (y := y) (by simp; omega)
        rw [← hT.out, ← hT'.out] at hsn
        have c0 := hi.c0
        have c0' := hi'.c0
        have c2 := hi.c2
        have c2' := hi'.c2
        have HSZ := Lib.hid hsz; have HSZ' := Lib.hid hsz'; have HH := Lib.hid hh; have HI := Lib.hid hi; have HI' := Lib.hid hi'; have HSN := Lib.hid hsn; have HBD := Lib.hid hbd; have HBD' := Lib.hid hbd'
        clear hsz hsz' hh hi hi' hsn hjl hjl' hk hbd hbd' hbl hbl'
        by_cases hkd : x.kind = y.kind
        · rw [← hkd] at c0'
          by_cases hz : x.size = y.size
          · rw [← hz] at c2'
            have HAL := Lib.hid (show alikeI x y from ⟨hkd, hz⟩)
            clear hz
            generalize hsm : sameAll (l.take j) (l'.take j) = sm at HSN ⊢
            clear hsm
            have hkc : x.kind = 0 ∨ x.kind = 1 ∨ x.kind = 2 ∨ (¬ x.kind = 0 ∧ ¬ x.kind = 1 ∧ ¬ x.kind = 2) := by
              by_cases h0 : x.kind = 0
              · exact .inl h0
              · by_cases h1 : x.kind = 1
                · exact .inr (.inl h1)
                · by_cases h2 : x.kind = 2
                  · exact .inr (.inr (.inl h2))
                  · exact .inr (.inr (.inr ⟨h0, h1, h2⟩))
            have hsy : sameI x y = if x.kind = 0 then x.n == y.n else if x.kind = 1 then x.b == y.b else if x.kind = 2 then x.s.data.toList == y.s.data.toList else x.h == y.h := rfl
            have HIq := Lib.hid (show ∀ k, (wr.drewN k).rangeAt g (o + j * 37) x.cells from fun _ => HI.out.rg)
            have hpx : ∀ k, Calls Try.prog 24 #[.pointer (some ⟨w1.heap.size, 0, none⟩), .agg x.cells.toArray] (wr.drewN k) fun e w' => e = .returned (.tuple #[]) ∧ Holds w' [WrH w1.heap.size (wputs (l.take (j + 1))), WrH (w1.heap.size + 1) (wputs (l'.take j)), since w] := fun k => by
              rw [hT.out, wputs_snoc]
              exact put_sl x hok ((HH.out.drewN k).pull 1 rfl) (by have := HBD.out; simp only [List.length_take] at this; omega)
            have hpy : ∀ w2, Holds w2 [WrH w1.heap.size (wputs (l.take (j + 1))), WrH (w1.heap.size + 1) (wputs (l'.take j)), since w] → Calls Try.prog 24 #[.pointer (some ⟨w1.heap.size + 1, 0, none⟩), .agg y.cells.toArray] w2 fun e w' => e = .returned (.tuple #[]) ∧ Holds w' [WrH (w1.heap.size + 1) (wputs (l'.take (j + 1))), WrH w1.heap.size (wputs (l.take (j + 1))), since w] := fun w2 h2 => by
              rw [hT'.out, wputs_snoc]
              exact put_sl y hok' (h2.pull 1 rfl) (by have := HBD'.out; simp only [List.length_take] at this; omega)
            have HPX := Lib.hid hpx; have HPY := Lib.hid hpy; have HSY := Lib.hid hsy; clear hpx hpy hsy hkd
            have hal2 := Lib.hid (show alikeAll (l.take (j + 1)) (l'.take (j + 1)) by rw [hT.out, hT'.out]; exact alikeAll_snoc hal.out HAL.out)
            have HOK := Lib.hid hok.h; have HOK' := Lib.hid hok'.h; clear hok hok' hal
            rcases hkc with hkc | hkc | hkc | hkc
            · have HKC := Lib.hid hkc; clear hkc
              rw [HKC.out] at c0 c0'
              go_wp2
              go_quiet (fail)
              go_wp2_with (first
                | (with_reducible refine wpList_load_midg (by kernel_rfl) 38 (.tmp 60) rfl g (o + j * 37) rfl x.cells _ (HIq.out _) Try.underlying38 rfl HSZ.out ?_)
                | (go_at_call 24; (with_reducible refine (HPX.out _).mono ?_); rintro e w2 ⟨rfl, hh2⟩
                   have hi2 := (HY.out.kept ((hh2.drop 0 rfl).drop 0 rfl).since_kept (fun h => h)).rg
                   have HH2 := Lib.hid hh2; have HI2 := Lib.hid hi2; clear hh2 hi2)
                | (with_reducible refine wpList_load_midg (by kernel_rfl) 38 (.tmp 65) rfl g' (o' + j * 37) rfl y.cells _ HI2.out Try.underlying38 rfl HSZ'.out ?_)
                | (go_at_call 24; (with_reducible refine (HPY.out _ HH2.out).mono ?_); rintro e w3 ⟨rfl, hh3⟩
                   have hk3 := ((hh3.drop 0 rfl).drop 0 rfl).since_kept
                   have hx3 := (HX.out.kept hk3 (fun h => h)).c0
                   have dx3 := (HX.out.kept hk3 (fun h => h)).c1
                   have dy3 := (HY.out.kept hk3 (fun h => h)).c1
                   rw [HKC.out] at hx3
                   have HK3 := Lib.hid hk3; have HH3 := Lib.hid hh3; clear hh3 hk3 HH2 HPX HPY HI2 HIq))
              cases sm
              all_goals
                go_quiet (fail)
                go_wp2
                go_roundw
                case rel =>
                  refine ⟨j + 1, by omega, by go_num, ?_, hal2, HH3.out.drewN _⟩
                  rw [HSN.out, HSY.out, HKC.out]
                  simp [castB, ByteArray.toList_eq]
                case measure => simp [intOf]; omega
            · have HKC := Lib.hid hkc; clear hkc
              rw [HKC.out] at c0 c0'
              go_wp2
              go_quiet (fail)
              go_wp2_with (first
                | (with_reducible refine wpList_load_midg (by kernel_rfl) 38 (.tmp 60) rfl g (o + j * 37) rfl x.cells _ (HIq.out _) Try.underlying38 rfl HSZ.out ?_)
                | (go_at_call 24; (with_reducible refine (HPX.out _).mono ?_); rintro e w2 ⟨rfl, hh2⟩
                   have hi2 := (HY.out.kept ((hh2.drop 0 rfl).drop 0 rfl).since_kept (fun h => h)).rg
                   have HH2 := Lib.hid hh2; have HI2 := Lib.hid hi2; clear hh2 hi2)
                | (with_reducible refine wpList_load_midg (by kernel_rfl) 38 (.tmp 65) rfl g' (o' + j * 37) rfl y.cells _ HI2.out Try.underlying38 rfl HSZ'.out ?_)
                | (go_at_call 24; (with_reducible refine (HPY.out _ HH2.out).mono ?_); rintro e w3 ⟨rfl, hh3⟩
                   have hk3 := ((hh3.drop 0 rfl).drop 0 rfl).since_kept
                   have hx3 := (HX.out.kept hk3 (fun h => h)).c0
                   have dx3 := (HX.out.kept hk3 (fun h => h)).c3
                   have dy3 := (HY.out.kept hk3 (fun h => h)).c3
                   rw [HKC.out] at hx3
                   have HK3 := Lib.hid hk3; have HH3 := Lib.hid hh3; clear hh3 hk3 HH2 HPX HPY HI2 HIq))
              cases sm
              all_goals
                go_quiet (fail)
                go_wp2
                go_roundw
                case rel =>
                  refine ⟨j + 1, by omega, by go_num, ?_, hal2, HH3.out.drewN _⟩
                  rw [HSN.out, HSY.out, HKC.out]
                  simp [castB, ByteArray.toList_eq]
                case measure => simp [intOf]; omega
            · have HKC := Lib.hid hkc; clear hkc
              rw [HKC.out] at c0 c0'
              go_wp2
              go_quiet (fail)
              go_wp2_with (first
                | (with_reducible refine wpList_load_midg (by kernel_rfl) 38 (.tmp 60) rfl g (o + j * 37) rfl x.cells _ (HIq.out _) Try.underlying38 rfl HSZ.out ?_)
                | (go_at_call 24; (with_reducible refine (HPX.out _).mono ?_); rintro e w2 ⟨rfl, hh2⟩
                   have hi2 := (HY.out.kept ((hh2.drop 0 rfl).drop 0 rfl).since_kept (fun h => h)).rg
                   have HH2 := Lib.hid hh2; have HI2 := Lib.hid hi2; clear hh2 hi2)
                | (with_reducible refine wpList_load_midg (by kernel_rfl) 38 (.tmp 65) rfl g' (o' + j * 37) rfl y.cells _ HI2.out Try.underlying38 rfl HSZ'.out ?_)
                | (go_at_call 24; (with_reducible refine (HPY.out _ HH2.out).mono ?_); rintro e w3 ⟨rfl, hh3⟩
                   have hk3 := ((hh3.drop 0 rfl).drop 0 rfl).since_kept
                   have hx3 := (HX.out.kept hk3 (fun h => h)).c0
                   have dx3 := (HX.out.kept hk3 (fun h => h)).c4
                   have dy3 := (HY.out.kept hk3 (fun h => h)).c4
                   rw [HKC.out] at hx3
                   have HK3 := Lib.hid hk3; have HH3 := Lib.hid hh3; clear hh3 hk3 HH2 HPX HPY HI2 HIq))
              cases sm
              all_goals
                go_quiet (fail)
                go_wp2
                go_roundw
                case rel =>
                  refine ⟨j + 1, by omega, by go_num, ?_, hal2, HH3.out.drewN _⟩
                  rw [HSN.out, HSY.out, HKC.out]
                  simp [castB, ByteArray.toList_eq]
                case measure => simp [intOf]; omega
            · have HKC := Lib.hid hkc; clear hkc
              have k0' : ((x.kind.toNat : Int) == 0) = false := u8_ne (n := 0) (by omega) HKC.out.1
              have k1' : ((x.kind.toNat : Int) == 1) = false := u8_ne (n := 1) (by omega) HKC.out.2.1
              have k2' : ((x.kind.toNat : Int) == 2) = false := u8_ne (n := 2) (by omega) HKC.out.2.2
              go_wp2
              go_quiet (fail)
              go_wp2_with (first
                | (with_reducible refine wpList_load_midg (by kernel_rfl) 38 (.tmp 60) rfl g (o + j * 37) rfl x.cells _ (HIq.out _) Try.underlying38 rfl HSZ.out ?_)
                | (go_at_call 24; (with_reducible refine (HPX.out _).mono ?_); rintro e w2 ⟨rfl, hh2⟩
                   have hi2 := (HY.out.kept ((hh2.drop 0 rfl).drop 0 rfl).since_kept (fun h => h)).rg
                   have HH2 := Lib.hid hh2; have HI2 := Lib.hid hi2; clear hh2 hi2)
                | (with_reducible refine wpList_load_midg (by kernel_rfl) 38 (.tmp 65) rfl g' (o' + j * 37) rfl y.cells _ HI2.out Try.underlying38 rfl HSZ'.out ?_)
                | (go_at_call 24; (with_reducible refine (HPY.out _ HH2.out).mono ?_); rintro e w3 ⟨rfl, hh3⟩
                   have hk3 := ((hh3.drop 0 rfl).drop 0 rfl).since_kept
                   have hx3 := (HX.out.kept hk3 (fun h => h)).c0
                   have dx3 := (HX.out.kept hk3 (fun h => h)).c5
                   have dy3 := (HY.out.kept hk3 (fun h => h)).c5
                   have DX := Lib.hid dx3; have DY := Lib.hid dy3; clear dx3 dy3
                   have HK3 := Lib.hid hk3; have HH3 := Lib.hid hh3; clear hh3 hk3 HH2 HPX HPY HI2 HIq))
              have HLEN := Lib.hid (show (Try.prog.info? 36).map (·.size) = some (bcs x.h).length by rw [Try.sizeHash]; simp [HOK.out])
              have HLEN' := Lib.hid (show (Try.prog.info? 36).map (·.size) = some (bcs y.h).length by rw [Try.sizeHash]; simp [HOK'.out])
              cases sm
              · go_quiet (fail)
                go_wp2
                go_roundw
                case rel =>
                  refine ⟨j + 1, by omega, by go_num, ?_, hal2, HH3.out.drewN _⟩
                  rw [HSN.out]
                  rfl
                case measure => simp [intOf]; omega
              · have hk0 : Kept w3 w3.drew No := (Kept.refl w3 No).drew
                have hq1 : ∀ w', Kept w3 w' No → w'.rangeAt g (o + j * 37 + 5) (bcs x.h) := fun w' h => rangeAt_kept DX.out h (fun h => h)
                have hq2 : ∀ w', Kept w3 w' No → w'.rangeAt g' (o' + j * 37 + 5) (bcs y.h) := fun w' h => rangeAt_kept DY.out h (fun h => h)
                have hx32 := HOK.out
                have hy32 := HOK'.out
                refine wp_region_held_drew (S := (fun w' => Kept w3 w' No)) (by kernel_rfl) ?_ (fun hHeld => ?_)
                · exact hk0
                refine takeH 0 ?_ rfl (by kernel_rfl) (by kernel_rfl) (by kernel_rfl) (fun _ _ _ h => h) (by kernel_rfl) (by assumption) (fun w hSw => ?_) ?_
                rotate_left
                · (try dsimp only at hSw); go_simp <;> (try with_reducible rfl)
                try simp only [Act.put, List.setIfInBounds_toArray, List.set_cons_zero, List.set_cons_succ]
                refine takeH 1 ?_ rfl (by kernel_rfl) (by kernel_rfl) (by kernel_rfl) (fun _ _ _ h => h) (by kernel_rfl) (by assumption) (fun w hSw => ?_) ?_
                rotate_left
                · (try dsimp only at hSw); go_simp <;> (try with_reducible rfl)
                try simp only [Act.put, List.setIfInBounds_toArray, List.set_cons_zero, List.set_cons_succ]
                refine takeH 2 ?_ rfl (by kernel_rfl) (by kernel_rfl) (by kernel_rfl) (fun _ _ _ h => h) (by kernel_rfl) (by assumption) (fun w hSw => ?_) ?_
                rotate_left
                · (try dsimp only at hSw); go_simp <;> (try with_reducible rfl)
                try simp only [Act.put, List.setIfInBounds_toArray, List.set_cons_zero, List.set_cons_succ]
                refine takeH 3 ?_ rfl (by kernel_rfl) (by kernel_rfl) (by kernel_rfl) (fun _ _ _ h => h) (by kernel_rfl) (by assumption) (fun w hSw => ?_) ?_
                rotate_left
                · (try dsimp only at hSw); go_simp <;> (try with_reducible rfl)
                try simp only [Act.put, List.setIfInBounds_toArray, List.set_cons_zero, List.set_cons_succ]
                refine takeH 4 ?_ rfl (by kernel_rfl) (by kernel_rfl) (by kernel_rfl) (fun _ _ _ h => h) (by kernel_rfl) (by assumption) (fun w hSw => ?_) ?_
                rotate_left
                · (try dsimp only at hSw); go_simp <;> (try with_reducible rfl)
                try simp only [Act.put, List.setIfInBounds_toArray, List.set_cons_zero, List.set_cons_succ]
                refine takeH 5 ?_ rfl (by kernel_rfl) (by kernel_rfl) (by kernel_rfl) (fun _ _ _ h => h) (by kernel_rfl) (by assumption) (fun w hSw => ?_) ?_
                rotate_left
                · (try dsimp only at hSw); go_simp <;> (try with_reducible rfl)
                try simp only [Act.put, List.setIfInBounds_toArray, List.set_cons_zero, List.set_cons_succ]
                refine takeH_load 6 rfl (by kernel_rfl) (by kernel_rfl) (by kernel_rfl) (fun _ _ _ _ h => h) (by kernel_rfl) (by assumption) 36 (.tmp 78) rfl g (o + j * 37 + 5) rfl (bcs x.h) _ hq1 Try.underlying36 rfl HLEN.out ?_
                try simp only [Act.put, List.setIfInBounds_toArray, List.set_cons_zero, List.set_cons_succ]
                refine takeH 7 ?_ rfl (by kernel_rfl) (by kernel_rfl) (by kernel_rfl) (fun _ _ _ h => h) (by kernel_rfl) (by assumption) (fun w hSw => ?_) ?_
                rotate_left
                · (try dsimp only at hSw); go_simp <;> (try with_reducible rfl)
                try simp only [Act.put, List.setIfInBounds_toArray, List.set_cons_zero, List.set_cons_succ]
                refine takeH 8 ?_ rfl (by kernel_rfl) (by kernel_rfl) (by kernel_rfl) (fun _ _ _ h => h) (by kernel_rfl) (by assumption) (fun w hSw => ?_) ?_
                rotate_left
                · (try dsimp only at hSw); go_simp <;> (try with_reducible rfl)
                try simp only [Act.put, List.setIfInBounds_toArray, List.set_cons_zero, List.set_cons_succ]
                refine takeH 9 ?_ rfl (by kernel_rfl) (by kernel_rfl) (by kernel_rfl) (fun _ _ _ h => h) (by kernel_rfl) (by assumption) (fun w hSw => ?_) ?_
                rotate_left
                · (try dsimp only at hSw); go_simp <;> (try with_reducible rfl)
                try simp only [Act.put, List.setIfInBounds_toArray, List.set_cons_zero, List.set_cons_succ]
                refine takeH 10 ?_ rfl (by kernel_rfl) (by kernel_rfl) (by kernel_rfl) (fun _ _ _ h => h) (by kernel_rfl) (by assumption) (fun w hSw => ?_) ?_
                rotate_left
                · (try dsimp only at hSw); go_simp <;> (try with_reducible rfl)
                try simp only [Act.put, List.setIfInBounds_toArray, List.set_cons_zero, List.set_cons_succ]
                refine takeH_load 11 rfl (by kernel_rfl) (by kernel_rfl) (by kernel_rfl) (fun _ _ _ _ h => h) (by kernel_rfl) (by assumption) 36 (.tmp 83) rfl g' (o' + j * 37 + 5) rfl (bcs y.h) _ hq2 Try.underlying36 rfl HLEN'.out ?_
                try simp only [Act.put, List.setIfInBounds_toArray, List.set_cons_zero, List.set_cons_succ]
                refine takeH 12 ?_ rfl (by kernel_rfl) (by kernel_rfl) (by kernel_rfl) (fun _ _ _ h => h) (by kernel_rfl) (by assumption) (fun w hSw => ?_) ?_
                rotate_left
                · (try dsimp only at hSw); go_simp <;> (try with_reducible rfl)
                try simp only [Act.put, List.setIfInBounds_toArray, List.set_cons_zero, List.set_cons_succ]
                refine takeH 13 ?_ rfl (by kernel_rfl) (by kernel_rfl) (by kernel_rfl) (fun _ _ _ h => h) (by kernel_rfl) (by assumption) (fun w hSw => ?_) ?_
                rotate_left
                · (try dsimp only at hSw); go_simp <;> (try with_reducible rfl)
                try simp only [Act.put, List.setIfInBounds_toArray, List.set_cons_zero, List.set_cons_succ]
                refine takeH 14 ?_ rfl (by kernel_rfl) (by kernel_rfl) (by kernel_rfl) (fun _ _ _ h => h) (by kernel_rfl) (by assumption) (fun w hSw => ?_) ?_
                rotate_left
                · (try dsimp only at hSw); go_simp <;> (try with_reducible rfl)
                try simp only [Act.put, List.setIfInBounds_toArray, List.set_cons_zero, List.set_cons_succ]
                refine wpAnyH_done (by kernel_rfl) ?_ _
                go_wp2
                go_roundw
                case rel =>
                  refine ⟨j + 1, by omega, by go_num, ?_, hal2, HH3.out.drew⟩
                  rw [HSN.out, HSY.out, if_neg HKC.out.1, if_neg HKC.out.2.1, if_neg HKC.out.2.2]
                  simp
                case measure => simp [intOf]; omega
          · clear hkd
            have hz' : ((x.size : Int) != y.size) = true := by simpa using hz
            clear hz
            go_wp2
            go_quiet (fail)
            go_wp2
            go_returns
            exact ⟨rfl, ((HH.out.drop 0 rfl).drop 0 rfl).since_kept.drewN _⟩
        · have hkd' : ((x.kind.toNat : Int) != (y.kind.toNat : Int)) = true := by
            simp only [bne_iff_ne, ne_eq, Int.natCast_inj]
            exact fun e => hkd (UInt8.toNat_inj.1 e)
          clear hkd
          go_wp2
          go_quiet (fail)
          go_wp2
          go_returns
          exact ⟨rfl, ((HH.out.drop 0 rfl).drop 0 rfl).since_kept.drewN _⟩
      · have hlj : l.take j = l := List.take_of_length_le (by rw [← hn.out]; omega)
        have hlj' : l'.take j = l' := List.take_of_length_le (by rw [← hn'.out]; omega)
        have hb1 := (wputs_spec l j).1
        have hb2 := (wputs_spec l' j).1
        have he1 := (wputs_spec l j).2
        have he2 := (wputs_spec l' j).2
        have hbd := wputs_len HL.out.ok j
        have hbd' := wputs_len HL'.out.ok j
        rw [hlj] at hb1 he1 hbd
        rw [hlj'] at hb2 he2 hbd'
        rw [hlj, hlj'] at hal
        have hh' : Holds wr [WrH (w1.heap.size + 1) (wputs l'), WrH w1.heap.size (wputs l), since w] := by rw [← hlj, ← hlj']; simpa [hlj, hlj'] using hh
        have hap := apart_eq HL.out.ok HL'.out.ok hal.out
        rw [hlj, hlj']
        generalize sameAll l l' = sm at hap ⊢
        have cx : wr.cell? ⟨w1.heap.size, 1, none⟩ = some (.bool (badAll l)) := hb1 ▸ (hh'.pull 1 rfl).wr_c1
        have cy : wr.cell? ⟨w1.heap.size + 1, 1, none⟩ = some (.bool (badAll l')) := hb2 ▸ hh'.wr_c1
        have hk := (hh'.drop 0 rfl).drop 0 rfl |>.since_kept
        have HK := Lib.hid hk; have HH := Lib.hid hh'; have HAP := Lib.hid hap
        clear hk hh hh' hap hlj hlj'
        go_wp2
        cases hbx : badAll l with
        | true =>
          rw [hbx] at cx
          go_quiet ((go_at_call 26; exact quiet_same (wbad_ok w1.heap.size true _ cx)))
          go_wp2
          go_returns
          exact ⟨rfl, HK.out.drewN _⟩
        | false =>
          cases hby : badAll l' with
          | true =>
            rw [hbx] at cx
            rw [hby] at cy
            have QX := fun k => quiet_same (n := k) (wbad_ok w1.heap.size false (wr.drewN k) cx)
            have QY := fun k => quiet_same (n := k) (wbad_ok (w1.heap.size + 1) true (wr.drewN k) cy)
            have QX' := Lib.hid QX; have QY' := Lib.hid QY; clear QX QY
            go_quiet (first | (go_at_call 26; with_reducible exact QX'.out _) | (go_at_call 26; with_reducible exact QY'.out _))
            go_wp2
            go_returns
            exact ⟨rfl, HK.out.drewN _⟩
          | false =>
            have e1 := he1 hbx
            have e2 := he2 hby
            have hap := HAP.out hbx hby
            rw [e1] at hbd
            rw [e2] at hbd'
            rw [hbx] at cx hb1
            rw [hby] at cy hb2
            have p1 : wputs l = (encAll l, false) := Prod.ext e1 hb1
            have p2 : wputs l' = (encAll l', false) := Prod.ext e2 hb2
            have hh := HH.out
            rw [p1, p2] at hh
            have HH' := Lib.hid hh
            have HB := Lib.hid hbd; have HB' := Lib.hid hbd'; have HAP' := Lib.hid hap
            clear hh hbd hbd' hap HAP HH e1 e2 he1 he2 hb1 hb2 p1 p2 hbx hby hal
            generalize encAll l = xs at HH' HB HAP'
            generalize encAll l' = ys at HH' HB' HAP'
            have hk0 := HH'.out.drew
            refine wp_region_held_drew (S := (fun w' => Holds w' [WrH (w1.heap.size + 1) (ys, false), WrH w1.heap.size (xs, false), since w])) (by kernel_rfl) ?_ (fun hHeld => ?_)
            · exact hk0
            refine effH 0 rfl (by kernel_rfl) (by kernel_rfl) (fun K hK => ?_)
            go_simp
            refine (wbad_ok w1.heap.size false wr.drew cx).mono ?_
            rintro e w2 ⟨rfl, rfl⟩
            refine hK.out _ _ hk0 (fun hHeld => ?_)
            clear hK K
            refine takeH 1 ?_ rfl (by kernel_rfl) (by kernel_rfl) (by kernel_rfl) (fun _ _ _ h => h) (by kernel_rfl) (by assumption) (fun w hSw => ?_) ?_
            rotate_left
            · (try dsimp only at hSw); go_simp <;> (try with_reducible rfl)
            try simp only [Act.put, List.setIfInBounds_toArray, List.set_cons_zero, List.set_cons_succ]
            refine effH 2 rfl (by kernel_rfl) (by kernel_rfl) (fun K hK => ?_)
            go_simp
            refine (wbad_ok (w1.heap.size + 1) false wr.drew cy).mono ?_
            rintro e w2 ⟨rfl, rfl⟩
            refine hK.out _ _ hk0 (fun hHeld => ?_)
            clear hK K
            refine takeH 3 ?_ rfl (by kernel_rfl) (by kernel_rfl) (by kernel_rfl) (fun _ _ _ h => h) (by kernel_rfl) (by assumption) (fun w hSw => ?_) ?_
            rotate_left
            · (try dsimp only at hSw); go_simp <;> (try with_reducible rfl)
            try simp only [Act.put, List.setIfInBounds_toArray, List.set_cons_zero, List.set_cons_succ]
            refine takeH 4 ?_ rfl (by kernel_rfl) (by kernel_rfl) (by kernel_rfl) (fun _ _ _ h => h) (by kernel_rfl) (by assumption) (fun w hSw => ?_) ?_
            rotate_left
            · (try dsimp only at hSw); go_simp <;> (try with_reducible rfl)
            try simp only [Act.put, List.setIfInBounds_toArray, List.set_cons_zero, List.set_cons_succ]
            refine takeH 10 ?_ rfl (by kernel_rfl) (by kernel_rfl) (by kernel_rfl) (fun _ _ _ h => h) (by kernel_rfl) (by assumption) (fun w hSw => ?_) ?_
            rotate_left
            · (try dsimp only at hSw); go_simp <;> (try with_reducible rfl)
            try simp only [Act.put, List.setIfInBounds_toArray, List.set_cons_zero, List.set_cons_succ]
            refine effH 5 rfl (by kernel_rfl) (by kernel_rfl) (fun K hK => ?_)
            go_simp
            refine (bytes_sl (s := (xs, false)) (hk0.pull 1 rfl) (by have := HB.out; simp only at this ⊢; omega)).mono ?_
            rintro e w2 ⟨v2, rfl, hh2⟩
            obtain ⟨A2, n2, c2, rfl, hn2, hc2, hr2⟩ := hh2.own_form
            refine hK.out _ _ (hh2.tail.perm (.swap _ _ _)) (fun hHeld => ?_)
            clear hK K hHeld
            refine wpAnyH_strong (S' := fun w' => Holds w' [own (.slice A2 n2 c2) xs, WrH w1.heap.size (xs, false), WrH (w1.heap.size + 1) (ys, false), since w]) (fun w' h => h.tail.perm (.swap _ _ _)) ?_
            have hc2' : ∀ w', Holds w' [own (.slice A2 n2 c2) xs, WrH w1.heap.size (xs, false), WrH (w1.heap.size + 1) (ys, false), since w] → (convert 27 9 (.slice A2 n2 c2)).run Try.prog w' = .ok (.string (strOf xs)) w' := fun w' h => conv_rd hn2.out h.own_rd
            have hHeld := hh2
            refine takeH 6 ?_ rfl (by kernel_rfl) (by kernel_rfl) (by kernel_rfl) (fun _ _ _ h => h) (by kernel_rfl) (by assumption) (fun w hSw => ?_) ?_
            rotate_left
            · (try dsimp only at hSw); go_simp <;> (try with_reducible rfl)
            try simp only [Act.put, List.setIfInBounds_toArray, List.set_cons_zero, List.set_cons_succ]
            refine effH 7 rfl (by kernel_rfl) (by kernel_rfl) (fun K hK => ?_)
            go_simp
            refine (bytes_sl (s := (ys, false)) (hh2.pull 2 rfl) (by have := HB'.out; simp only at this ⊢; omega)).mono ?_
            rintro e w3 ⟨v3, rfl, hh3⟩
            obtain ⟨A3, n3, c3, rfl, hn3, hc3, hr3⟩ := hh3.own_form
            refine hK.out _ _ (hh3.tail.pull 1 rfl |>.perm (.cons _ (.swap _ _ _))) (fun hHeld => ?_)
            clear hK K hHeld
            have hHeld := hh3
            refine wpAnyH_strong (S' := fun w' => Holds w' [own (.slice A3 n3 c3) ys, WrH (w1.heap.size + 1) (ys, false), own (.slice A2 n2 c2) xs, WrH w1.heap.size (xs, false), since w]) (fun w' h => h.tail.pull 1 rfl |>.perm (.cons _ (.swap _ _ _))) ?_
            have hc3' : ∀ w', Holds w' [own (.slice A3 n3 c3) ys, WrH (w1.heap.size + 1) (ys, false), own (.slice A2 n2 c2) xs, WrH w1.heap.size (xs, false), since w] → (convert 27 9 (.slice A3 n3 c3)).run Try.prog w' = .ok (.string (strOf ys)) w' := fun w' h => conv_rd hn3.out h.own_rd
            refine takeH 8 ?_ rfl (by kernel_rfl) (by kernel_rfl) (by kernel_rfl) (fun _ _ _ h => h) (by kernel_rfl) (by assumption) (fun w hSw => ?_) ?_
            rotate_left
            · (try dsimp only at hSw); go_simp <;> (try with_reducible rfl)
            try simp only [Act.put, List.setIfInBounds_toArray, List.set_cons_zero, List.set_cons_succ]
            refine takeH 9 ?_ rfl (by kernel_rfl) (by kernel_rfl) (by kernel_rfl) (fun _ _ _ h => h) (by kernel_rfl) (by assumption) (fun w hSw => ?_) ?_
            rotate_left
            · (try dsimp only at hSw); go_simp <;> (try with_reducible rfl)
            try simp only [Act.put, List.setIfInBounds_toArray, List.set_cons_zero, List.set_cons_succ]
            refine takeH 11 ?_ rfl (by kernel_rfl) (by kernel_rfl) (by kernel_rfl) (fun _ _ _ h => h) (by kernel_rfl) (by assumption) (fun w hSw => ?_) ?_
            rotate_left
            · (try dsimp only at hSw); go_simp <;> (try with_reducible rfl)
            try simp only [Act.put, List.setIfInBounds_toArray, List.set_cons_zero, List.set_cons_succ]
            refine takeH 12 ?_ rfl (by kernel_rfl) (by kernel_rfl) (by kernel_rfl) (fun _ _ _ h => h) (by kernel_rfl) (by assumption) (fun w hSw => ?_) ?_
            rotate_left
            · (try dsimp only at hSw); go_simp <;> (try with_reducible rfl)
            try simp only [Act.put, List.setIfInBounds_toArray, List.set_cons_zero, List.set_cons_succ]
            refine takeH 13 ?_ rfl (by kernel_rfl) (by kernel_rfl) (by kernel_rfl) (fun _ _ _ h => h) (by kernel_rfl) (by assumption) (fun w hSw => ?_) ?_
            rotate_left
            · (try dsimp only at hSw); go_simp <;> (try with_reducible rfl)
            try simp only [Act.put, List.setIfInBounds_toArray, List.set_cons_zero, List.set_cons_succ]
            refine wpAnyH_done (by kernel_rfl) ?_ _
            go_wp2
            have hh4 : Holds w3 [own (.slice A3 n3 c3) ys, WrH (w1.heap.size + 1) (ys, false), own (.slice A2 n2 c2) xs, WrH w1.heap.size (xs, false), since w] := by assumption
            go_returns
            refine ⟨ret_bool ?_, (hh4.drop 0 rfl |>.drop 0 rfl |>.drop 0 rfl |>.drop 0 rfl).since_kept⟩
            have := HAP'.out
            simpa [strOf_list] using this
  · have hcs : fewB l = false ∨ (fewB l = true ∧ fewB l' = false) ∨ (fewB l = true ∧ fewB l' = true ∧ ((n : Int) != (n' : Int)) = true) := by
      cases h1 : fewB l
      · exact .inl rfl
      · cases h2 : fewB l'
        · exact .inr (.inl ⟨rfl, rfl⟩)
        · refine .inr (.inr ⟨rfl, rfl, ?_⟩)
          simp only [bne_iff_ne, ne_eq, Int.natCast_inj]
          exact fun e => hgo ⟨h1, h2, e⟩
    clear hgo
    rcases hcs with hf | ⟨hf, hf'⟩ | ⟨hf, hf', hne⟩
    all_goals
      go_enter Try.func6, Try.ntmps6
      go_wp2_with fail
      refine HA.out.mono ?_
      rintro e w1 ⟨rfl, hk1⟩
      have hfw := few_ok A g n c l w1 hn (HL.out.kept hk1 (fun h => h)) hb
      have hfw' := few_ok A' g' n' c' l' w1 hn' (HL'.out.kept hk1 (fun h => h)) hb'
      (try rw [hf] at hfw)
      (try rw [hf'] at hfw')
      have HF := Lib.hid hfw; have HF' := Lib.hid hfw'; have HK1 := Lib.hid hk1; have HA2 := Lib.hid (packawake_ok w1); clear hfw hfw' hf hk1
      (try clear hf')
      go_wp2_with (first
        | (go_at_call 13; (with_reducible refine HF.out.mono ?_); rintro e w2 ⟨rfl, rfl⟩)
        | (go_at_call 13; (with_reducible refine HF'.out.mono ?_); rintro e w2 ⟨rfl, rfl⟩)
        | (go_at_call 12; refine HA2.out.mono ?_; rintro e w2 ⟨rfl, hk2⟩))
      go_returns
      exact ⟨rfl, HK1.out.seq hk2⟩
end Go.Proofs.Ytaipgkbnmfjpfaa
