/- PackBack: the walk. -/
import Derived.Test.YtaipgkbnmfjpfaaPackLaw
import Derived.Test.YtaipgkbnmfjpfaaEqHash
namespace Go.Proofs.Ytaipgkbnmfjpfaa
open Go.RowKit

/-- What holds at each round's head. -/
structure BkInv (w wr : World) (B : Nat) (l : List Itm) : Prop where
  writer : ∃ vw, Wr wr B vw (wputs l).1 (wputs l).2 ∧ (∀ k, vw.ownBlock = some k → w.heap.size ≤ k)
  kept : Kept w wr No
theorem BkInv.next {w wr w2 : World} {B : Nat} {vw vw2 : Value} (hB : w.heap.size ≤ B) (hk : Kept w wr No) (hr : ∀ k, vw.ownBlock = some k → w.heap.size ≤ k) (hst : WStep wr w2 B vw vw2) :
    (∀ k, vw2.ownBlock = some k → w.heap.size ≤ k) ∧ Kept w w2 No := by
  have hs1 := hk.size
  refine ⟨fun k hk2 => ?_, hk.new_ hst.kept (fun k h => h.elim (fun h => by omega) (fun h => (hr k h.symm)))⟩
  rcases hst.place with e | ⟨g, hg, e⟩
  · exact hr k (by rw [← e]; exact hk2)
  · rw [e] at hk2; cases hk2; omega

/-- Nothing left lies anywhere. -/
theorem Rd.place {T : TypeId} {w : World} {r g g' : Nat} {s : List UInt8 × Bool} (h : Rd T w r g s) (hr : g' ≠ r) (hg : g' < w.heap.size) : ∃ k, Rd T w r k s ∧ k < w.heap.size := by
  obtain ⟨hne, A, n, c, hB, hm, hc, hx⟩ := h
  obtain ⟨xs, bad⟩ := s
  by_cases he : xs = []
  · subst he
    exact ⟨g', ⟨hr, A, n, c, hB, hm, hc, RB.nil _ _ _⟩, hg⟩
  · exact ⟨g, ⟨hne, A, n, c, hB, hm, hc, hx⟩, hx.lt he⟩

set_option maxRecDepth 100000 in
set_option maxHeartbeats 4000000 in
theorem packBack_walk (A : Option Addr) (g n c : Nat) (l : List Itm) (w : World) (hn : Hid (n = l.length)) (hl : Items w g A l) (hb : n ≤ 140737488355328) (hg : l ≠ [] → g < w.heap.size) :
    Calls Try.prog 7 #[.slice A n c] w fun e w' => e = .returned (.bool true) ∧ Kept w w' No := by
  have haw := packawake_ok w
  have HA := Lib.hid haw; clear haw
  have HL := Lib.hid hl; clear hl
  cases hf : fewB l with
  | false =>
    go_enter Try.func7, Try.ntmps7
    go_wp2_with fail
    refine HA.out.mono ?_
    rintro e w1 ⟨rfl, hk1⟩
    have hl1 : Items w1 g A l := HL.out.kept hk1 (fun h => h)
    have HK1 := Lib.hid hk1; clear hk1
    have hfw := few_ok A g n c l w1 hn hl1 hb
    rw [hf] at hfw
    have HF := Lib.hid hfw; have HA2 := Lib.hid (packawake_ok w1); clear hfw hl1 hf
    go_wp2_with (first | (go_at_call 13; refine HF.out.mono ?_; rintro e w2 ⟨rfl, rfl⟩) | (go_at_call 12; refine HA2.out.mono ?_; rintro e w2 ⟨rfl, hk2⟩))
    go_returns
    exact ⟨rfl, HK1.out.seq hk2⟩
  | true =>
    have hle := fewB_le hf
    go_enter Try.func7, Try.ntmps7
    go_wp2_with fail
    refine HA.out.mono ?_
    rintro e w1 ⟨rfl, hk1⟩
    have hl1 : Items w1 g A l := HL.out.kept hk1 (fun h => h)
    have HK1 := Lib.hid hk1; clear hk1
    have hfw := few_ok A g n c l w1 hn hl1 hb
    rw [hf] at hfw
    have HF := Lib.hid hfw; clear hfw hl1 hf
    go_wp2_with (go_at_call 13; refine HF.out.mono ?_; rintro e w2 ⟨rfl, rfl⟩)
    have hB := HK1.out.size
    go_loopw [19] (fun i wr => ∃ j : Nat, j ≤ n ∧ i = .int .i64 j ∧ BkInv w wr w1.heap.size (l.take j)) (fun i _ => n - (intOf i).toNat)
    case atStart =>
      exact ⟨0, by omega, rfl, ⟨⟨.slice none 0 0, Wr.new w1, fun k hk => by simp [Value.ownBlock] at hk⟩, HK1.out.alloc _⟩⟩
    case round =>
      obtain ⟨j, hj, rfl, hinv⟩ := hrel
      by_cases hlt : j < n
      · have hjl : j < l.length := by rw [← hn.out]; exact hlt
        have hgB : g < w.heap.size := hg (by intro e; rw [e] at hjl; simp at hjl)
        have hbd := wputs_len HL.out.ok j
        have hbl : (l.take j).length ≤ 100 := by simp; omega
        obtain ⟨o, x, rfl, hi, hok, hT⟩ := (HL.out.kept hinv.kept (fun h => h)).next hjl
        obtain ⟨vw, hwr, hrow⟩ := hinv.writer
        have hput := put_any w1.heap.size vw _ x hok wr hwr (by omega)
        have hsz : (Try.prog.info? 38).map (·.size) = some x.cells.length := by rw [Try.sizeItem, Itm.len _ hok]
        have HI := Lib.hid hi.rg; have HP := Lib.hid hput; have HS := Lib.hid hsz; have HR := Lib.hid hrow; have HV := Lib.hid hinv
        clear hjl hi hput hsz hwr hrow hinv hbd hbl hok
        go_wp2_with (first
            | (with_reducible refine wpList_load_midg (by kernel_rfl) 38 (.tmp 24) rfl g (o + j * 37) rfl x.cells _ HI.out Try.underlying38 rfl HS.out ?_)
            | (go_at_call 24; refine HP.out.mono ?_; rintro e w2 ⟨rfl, vw2, hwr2, hst2⟩; have HW2 := Lib.hid hwr2; have HST := Lib.hid hst2; clear hwr2 hst2))
        go_roundw
        case rel =>
          obtain ⟨h1, h2⟩ := BkInv.next hB HV.out.kept HR.out HST.out
          exact ⟨j + 1, by omega, by go_num, ⟨⟨vw2, by rw [hT.out, wputs_snoc]; exact HW2.out, h1⟩, h2⟩⟩
        case measure => simp [intOf]; omega
      · have hlj : l.take j = l := List.take_of_length_le (by rw [← hn.out]; omega)
        rw [hlj] at hinv
        have hbd := wputs_len HL.out.ok n
        rw [List.take_of_length_le (by rw [← hn.out]; omega)] at hbd
        obtain ⟨⟨vw, hwr, hrow⟩, hk⟩ := hinv
        have hbb := wputs_spec l n
        rw [List.take_of_length_le (by rw [← hn.out]; omega)] at hbb
        obtain ⟨hb1, hb2⟩ := hbb
        rw [hb1] at hwr
        have c1 := hwr.c1
        have HW := Lib.hid hwr; have HR := Lib.hid hrow; have HK := Lib.hid hk
        clear hwr hrow hk
        cases hbad : badAll l with
        | true =>
          rw [hbad] at c1
          go_wp2_with (first
            | (go_at_call 26; refine (wbad_ok w1.heap.size _ _ c1).mono ?_; rintro e w5 ⟨rfl, rfl⟩)
            | (go_at_call 27; refine (bytes_bad w1.heap.size _ c1).mono ?_; rintro e w5 ⟨rfl, rfl⟩))
          go_returns
          exact ⟨rfl, HK.out⟩
        | false =>
          have hen := hb2 hbad
          rw [hen, hbad] at HW
          rw [hbad] at c1
          rw [hen] at hbd
          have hby := bytes_ok w1.heap.size vw _ wr HW.out (by omega)
          have HBY := Lib.hid hby; have HEN := Lib.hid hen
          clear hby hen hb1 hb2
          go_wp2_with (first
            | (go_at_call 26; refine (wbad_ok w1.heap.size _ _ c1).mono ?_; rintro e w5 ⟨rfl, rfl⟩)
            | (go_at_call 27; refine HBY.out.mono ?_; rintro e w5 ⟨v5, rfl, hf5⟩; obtain ⟨A5, n5, c5, rfl, hn5, hc5, hrb5, -⟩ := hf5.1.form)
            | (go_at_call 14; refine (read_any A5 _ n5 c5 _ _ hn5 hrb5 (by omega)).mono ?_; rintro e w6 ⟨r, g6, rfl, hrd, hk6, hr6, hg6⟩))
          have hk5 : Kept w w6 No := (HK.out.new_ hf5.2.1 (fun k h => h.elim)).seq hk6
          have hlt5 : w1.heap.size < w5.heap.size := Nat.lt_of_lt_of_le HW.out.1.lt hf5.2.1.size
          obtain ⟨g7, hrd7, hg7⟩ := hrd.place (g' := w1.heap.size) (by omega) (by have := hk6.size; omega)
          have hr6' : w.heap.size ≤ r := by omega
          have HK5 := Lib.hid hk5; have HRD := Lib.hid hrd7
          clear hf5 hk5 hk6 hrd hrb5 hn5 hc5 hr6 hg6 c1 HBY HW HR HK hlj hj hlt
          go_loopw [36] (fun i wr => ∃ j : Nat, j ≤ n ∧ i = .int .i64 j ∧ Rd 61 wr r g7 (encAll (l.drop j), false) ∧ Kept w wr No ∧ g7 < wr.heap.size) (fun i _ => n - (intOf i).toNat)
          case atStart => exact ⟨0, by omega, rfl, HRD.out, HK5.out, hg7⟩
          case round =>
            obtain ⟨j, hj, rfl, hrd, hk, hgw⟩ := hrel
            by_cases hlt : j < n
            · have hjl : j < l.length := by rw [← hn.out]; exact hlt
              have hgB : g < w.heap.size := hg (by intro e; rw [e] at hjl; simp at hjl)
              obtain ⟨o, x, rfl, hi, hok, hT⟩ := (HL.out.kept hk (fun h => h)).next hjl
              obtain ⟨b, he, hd⟩ : ∃ b, encI x = some b ∧ encAll (l.drop j) = b ++ encAll (l.drop (j + 1)) := by
                obtain ⟨b, he, hd⟩ := enc_drop hbad hjl
                have : x = l[j] := by
                  have h1 := hT.out
                  rw [take_snocI hjl] at h1
                  exact (List.cons.inj (List.append_cancel_left h1)).1.symm
                exact ⟨b, by rw [this]; exact he, hd⟩
              have hbd2 : (encAll (l.drop j)).length ≤ 140737488355328 := by
                have := encAll_len (l := l.drop j) (fun y hy => HL.out.ok y (List.mem_of_mem_drop hy))
                simp only [List.length_drop] at this
                omega
              rw [hd] at hrd hbd2
              generalize hrest : encAll (l.drop (j + 1)) = rest at hrd hbd2
              have HREST := Lib.hid hrest; clear hrest
              have hsz : (Try.prog.info? 38).map (·.size) = some x.cells.length := by rw [Try.sizeItem, Itm.len _ hok]
              have hsz2 : (Try.prog.info? 38).map (·.size) = some x.cells.toArray.size := by rw [Try.sizeItem]; simp [Itm.len _ hok]
              have hlen := Itm.len _ hok
              have hrw : r < wr.heap.size := by obtain ⟨_, A, n, c, hB, _⟩ := hrd; exact hB.lt
              have HI := Lib.hid hi.rg; have HS := Lib.hid hsz; have HS2 := Lib.hid hsz2; have HLEN := Lib.hid hlen; have HONE := Lib.hid (show ∀ v ∈ x.cells.toArray.toList, v.oneCell' = true from Itm.one x); have HRD2 := Lib.hid hrd; have HK2 := Lib.hid hk; have HD := Lib.hid hd; have HE := Lib.hid he; have HOK := Lib.hid hok
              clear hi hsz hsz2 hlen hrd hk hd he HL HK5 HRD HEN HK1 HF HA hok hbad hB hle hlt5 hg7 hrd7 hbd
              have hkd : x.kind = 0 ∨ x.kind = 1 ∨ x.kind = 2 ∨ ∃ kd, x.kind = kd ∧ ¬ kd = 0 ∧ ¬ kd = 1 ∧ ¬ kd = 2 := by
                by_cases h0 : x.kind = 0
                · exact .inl h0
                · by_cases h1 : x.kind = 1
                  · exact .inr (.inl h1)
                  · by_cases h2 : x.kind = 2
                    · exact .inr (.inr (.inl h2))
                    · exact .inr (.inr (.inr ⟨_, rfl, h0, h1, h2⟩))
              rcases hkd with hkd | hkd | hkd | ⟨kd, hkd, k0, k1, k2⟩
              · have HKD := Lib.hid hkd; clear hkd
                go_wp2_with (first
                    | (with_reducible refine wpList_load_midg (by kernel_rfl) 38 (.tmp 41) rfl g (o + j * 37) rfl x.cells _ HI.out Try.underlying38 rfl HS.out ?_)
                    | (with_reducible refine wpList_store_blk rfl 38 (.tmp 7) (.tmp 42) rfl wr.heap.size 0 x.cells.toArray rfl rfl 38 _ (Blk.new _ _ _) HS2.out (by simp [HLEN.out]) HONE.out ?_
                       (
                       intro w3 hB3 hk3
                       have hB4 : Blk w3 wr.heap.size 38 x.cells.toArray := by
                         rw [putA_all _ _ (by rw [show x.cells.toArray.toList = x.cells from rfl, HLEN.out]; rfl)] at hB3
                         exact hB3
                       have hI3 : ItmAt w3 wr.heap.size 0 x := hB4.range
                       have hk4 : Kept wr w3 No := ((Kept.refl wr No).alloc _).new_ hk3 (fun k h => by omega)
                       have c0 := hI3.c0
                       rw [HKD.out] at c0
                       have HI3 := Lib.hid hI3; have HK4 := Lib.hid hk4
                       clear hB3 hk3 hB4 hI3 hk4)))
                have hrs : wr.heap.size ≠ r := by omega
                have hk0 : Kept w3 w3.drew (· = r) := (Kept.refl _ _).drew
                have hrd3 : Rd 61 w3.drew r g7 (b ++ rest, false) := (HRD2.out.kept HK4.out (fun h => h) (fun h => h)).kept (Kept.refl w3 No).drew (fun h => h) (fun h => h)
                have hc2 : ∀ w', Kept w3 w' (· = r) → w'.cell? ⟨wr.heap.size, 2, none⟩ = some (.int .i64 x.size) := fun w' h => by
                  have := (HI3.out.kept h hrs).c2
                  rwa [Nat.zero_add] at this
                have hc1 : ∀ w', Kept w3 w' (· = r) → w'.cell? ⟨wr.heap.size, 1, none⟩ = some (.int .u64 x.n) := fun w' h => by
                  have := (HI3.out.kept h hrs).c1
                  rwa [Nat.zero_add] at this
                have hcall := rnumber_any r g7 (b ++ rest, false) x.size w3.drew hrd3 hbd2
                rw [back0 HOK.out HE.out HKD.out rest] at hcall
                have HN := Lib.hid hcall; have HK0 := Lib.hid hk0; clear hcall hrd3 c0
                refine wp_region_held_drew (S := (fun w' => Kept w3 w' (· = r))) (by kernel_rfl) ?_ (fun hHeld => ?_)
                · exact HK0.out
                refine takeH 0 ?_ rfl (by kernel_rfl) (by kernel_rfl) (by kernel_rfl) (fun _ _ _ h => h) (by kernel_rfl) (by assumption) (fun w hSw => ?_) ?_
                rotate_left
                · (try dsimp only at hSw); go_simp <;> (try with_reducible rfl)
                try simp only [Act.put, List.setIfInBounds_toArray, List.set_cons_zero, List.set_cons_succ]
                refine takeH 1 ?_ rfl (by kernel_rfl) (by kernel_rfl) (by kernel_rfl) (fun _ _ _ h => h) (by kernel_rfl) (by assumption) (fun w hSw => ?_) ?_
                rotate_left
                · (try dsimp only at hSw); go_simp <;> (try with_reducible rfl)
                try simp only [Act.put, List.setIfInBounds_toArray, List.set_cons_zero, List.set_cons_succ]
                refine takeH 2 ?_ rfl (by kernel_rfl) (by kernel_rfl) (by kernel_rfl) (fun _ _ _ h => h) (by kernel_rfl) (by assumption) (fun w hSw => ?_) ?_
                rotate_left
                · (try dsimp only at hSw); go_simp <;> (try with_reducible rfl)
                try simp only [Act.put, List.setIfInBounds_toArray, List.set_cons_zero, List.set_cons_succ]
                refine takeH 4 ?_ rfl (by kernel_rfl) (by kernel_rfl) (by kernel_rfl) (fun _ _ _ h => h) (by kernel_rfl) (by assumption) (fun w hSw => ?_) ?_
                rotate_left
                · (try dsimp only at hSw); go_simp <;> (try with_reducible rfl)
                try simp only [Act.put, List.setIfInBounds_toArray, List.set_cons_zero, List.set_cons_succ]
                refine takeH 5 ?_ rfl (by kernel_rfl) (by kernel_rfl) (by kernel_rfl) (fun _ _ _ h => h) (by kernel_rfl) (by assumption) (fun w hSw => ?_) ?_
                rotate_left
                · (try dsimp only at hSw); go_simp <;> (try with_reducible rfl)
                try simp only [Act.put, List.setIfInBounds_toArray, List.set_cons_zero, List.set_cons_succ]
                refine effH 3 rfl (by kernel_rfl) (by kernel_rfl) (fun K hK => ?_)
                go_simp
                refine HN.out.mono ?_
                rintro e w4 ⟨rfl, hrd4, hk4⟩
                have hk5 := HK0.out.trans (L := (· = r)) hk4 (fun _ _ h => h.elim id id)
                refine hK.out _ _ hk5 (fun hHeld => ?_)
                clear hK K
                refine takeH 6 ?_ rfl (by kernel_rfl) (by kernel_rfl) (by kernel_rfl) (fun _ _ _ h => h) (by kernel_rfl) (by assumption) (fun w hSw => ?_) ?_
                rotate_left
                · (try dsimp only at hSw); go_simp <;> (try with_reducible rfl)
                try simp only [Act.put, List.setIfInBounds_toArray, List.set_cons_zero, List.set_cons_succ]
                refine takeH 7 ?_ rfl (by kernel_rfl) (by kernel_rfl) (by kernel_rfl) (fun _ _ _ h => h) (by kernel_rfl) (by assumption) (fun w hSw => ?_) ?_
                rotate_left
                · (try dsimp only at hSw); go_simp <;> (try with_reducible rfl)
                try simp only [Act.put, List.setIfInBounds_toArray, List.set_cons_zero, List.set_cons_succ]
                refine wpAnyH_done (by kernel_rfl) ?_ _
                have c4 := hrd4.c1
                have HRD4 := Lib.hid hrd4; have HK5 := Lib.hid hk5; clear hrd4 hk5 hk4 hHeld
                go_wp2_with (go_at_call 21; refine (rbad_ok r _ _ c4).mono ?_; rintro e w5 ⟨rfl, rfl⟩)
                go_roundw
                case rel => exact ⟨j + 1, by omega, by go_num, HREST.out ▸ HRD4.out, (HK2.out.seq HK4.out).new_ HK5.out (fun k h => by omega), by have h1 := HK4.out.size; have h2 := HK5.out.size; omega⟩
                case measure => simp [intOf]; omega
              · have HKD := Lib.hid hkd; clear hkd
                go_wp2_with (first
                    | (with_reducible refine wpList_load_midg (by kernel_rfl) 38 (.tmp 41) rfl g (o + j * 37) rfl x.cells _ HI.out Try.underlying38 rfl HS.out ?_)
                    | (with_reducible refine wpList_store_blk rfl 38 (.tmp 7) (.tmp 42) rfl wr.heap.size 0 x.cells.toArray rfl rfl 38 _ (Blk.new _ _ _) HS2.out (by simp [HLEN.out]) HONE.out ?_
                       (
                       intro w3 hB3 hk3
                       have hB4 : Blk w3 wr.heap.size 38 x.cells.toArray := by
                         rw [putA_all _ _ (by rw [show x.cells.toArray.toList = x.cells from rfl, HLEN.out]; rfl)] at hB3
                         exact hB3
                       have hI3 : ItmAt w3 wr.heap.size 0 x := hB4.range
                       have hk4 : Kept wr w3 No := ((Kept.refl wr No).alloc _).new_ hk3 (fun k h => by omega)
                       have c0 := hI3.c0
                       rw [HKD.out] at c0
                       have HI3 := Lib.hid hI3; have HK4 := Lib.hid hk4
                       clear hB3 hk3 hB4 hI3 hk4)))
                have hrs : wr.heap.size ≠ r := by omega
                have hk0 : Kept w3 w3.drew (· = r) := (Kept.refl _ _).drew
                have hrd3 : Rd 61 w3.drew r g7 (b ++ rest, false) := (HRD2.out.kept HK4.out (fun h => h) (fun h => h)).kept (Kept.refl w3 No).drew (fun h => h) (fun h => h)
                have hc3 : ∀ w', Kept w3 w' (· = r) → w'.cell? ⟨wr.heap.size, 3, none⟩ = some (.bool x.b) := fun w' h => by
                  have := (HI3.out.kept h hrs).c3
                  rwa [Nat.zero_add] at this
                have hcall := rtruth_any r g7 (b ++ rest, false) w3.drew hrd3 hbd2
                rw [back1 HE.out HKD.out rest] at hcall
                have HN := Lib.hid hcall; have HK0 := Lib.hid hk0; clear hcall hrd3 c0
                refine wp_region_held_drew (S := (fun w' => Kept w3 w' (· = r))) (by kernel_rfl) ?_ (fun hHeld => ?_)
                · exact HK0.out
                refine takeH 0 ?_ rfl (by kernel_rfl) (by kernel_rfl) (by kernel_rfl) (fun _ _ _ h => h) (by kernel_rfl) (by assumption) (fun w hSw => ?_) ?_
                rotate_left
                · (try dsimp only at hSw); go_simp <;> (try with_reducible rfl)
                try simp only [Act.put, List.setIfInBounds_toArray, List.set_cons_zero, List.set_cons_succ]
                refine takeH 2 ?_ rfl (by kernel_rfl) (by kernel_rfl) (by kernel_rfl) (fun _ _ _ h => h) (by kernel_rfl) (by assumption) (fun w hSw => ?_) ?_
                rotate_left
                · (try dsimp only at hSw); go_simp <;> (try with_reducible rfl)
                try simp only [Act.put, List.setIfInBounds_toArray, List.set_cons_zero, List.set_cons_succ]
                refine takeH 3 ?_ rfl (by kernel_rfl) (by kernel_rfl) (by kernel_rfl) (fun _ _ _ h => h) (by kernel_rfl) (by assumption) (fun w hSw => ?_) ?_
                rotate_left
                · (try dsimp only at hSw); go_simp <;> (try with_reducible rfl)
                try simp only [Act.put, List.setIfInBounds_toArray, List.set_cons_zero, List.set_cons_succ]
                refine effH 1 rfl (by kernel_rfl) (by kernel_rfl) (fun K hK => ?_)
                go_simp
                refine HN.out.mono ?_
                rintro e w4 ⟨rfl, hrd4, hk4⟩
                have hk5 := HK0.out.trans (L := (· = r)) hk4 (fun _ _ h => h.elim id id)
                refine hK.out _ _ hk5 (fun hHeld => ?_)
                clear hK K
                refine takeH 4 ?_ rfl (by kernel_rfl) (by kernel_rfl) (by kernel_rfl) (fun _ _ _ h => h) (by kernel_rfl) (by assumption) (fun w hSw => ?_) ?_
                rotate_left
                · (try dsimp only at hSw); go_simp <;> (try with_reducible rfl)
                try simp only [Act.put, List.setIfInBounds_toArray, List.set_cons_zero, List.set_cons_succ]
                refine takeH 5 ?_ rfl (by kernel_rfl) (by kernel_rfl) (by kernel_rfl) (fun _ _ _ h => h) (by kernel_rfl) (by assumption) (fun w hSw => ?_) ?_
                rotate_left
                · (try dsimp only at hSw); go_simp <;> (try with_reducible rfl)
                try simp only [Act.put, List.setIfInBounds_toArray, List.set_cons_zero, List.set_cons_succ]
                refine wpAnyH_done (by kernel_rfl) ?_ _
                have c4 := hrd4.c1
                have HRD4 := Lib.hid hrd4; have HK5 := Lib.hid hk5; clear hrd4 hk5 hk4 hHeld
                go_wp2_with (go_at_call 21; refine (rbad_ok r _ _ c4).mono ?_; rintro e w5 ⟨rfl, rfl⟩)
                go_roundw
                case rel => exact ⟨j + 1, by omega, by go_num, HREST.out ▸ HRD4.out, (HK2.out.seq HK4.out).new_ HK5.out (fun k h => by omega), by have h1 := HK4.out.size; have h2 := HK5.out.size; omega⟩
                case measure => simp [intOf]; omega
              · have HKD := Lib.hid hkd; clear hkd
                go_wp2_with (first
                    | (with_reducible refine wpList_load_midg (by kernel_rfl) 38 (.tmp 41) rfl g (o + j * 37) rfl x.cells _ HI.out Try.underlying38 rfl HS.out ?_)
                    | (with_reducible refine wpList_store_blk rfl 38 (.tmp 7) (.tmp 42) rfl wr.heap.size 0 x.cells.toArray rfl rfl 38 _ (Blk.new _ _ _) HS2.out (by simp [HLEN.out]) HONE.out ?_
                       (
                       intro w3 hB3 hk3
                       have hB4 : Blk w3 wr.heap.size 38 x.cells.toArray := by
                         rw [putA_all _ _ (by rw [show x.cells.toArray.toList = x.cells from rfl, HLEN.out]; rfl)] at hB3
                         exact hB3
                       have hI3 : ItmAt w3 wr.heap.size 0 x := hB4.range
                       have hk4 : Kept wr w3 No := ((Kept.refl wr No).alloc _).new_ hk3 (fun k h => by omega)
                       have c0 := hI3.c0
                       rw [HKD.out] at c0
                       have HI3 := Lib.hid hI3; have HK4 := Lib.hid hk4
                       clear hB3 hk3 hB4 hI3 hk4)))
                have hrs : wr.heap.size ≠ r := by omega
                have hk0 : Kept w3 w3.drew (· = r) := (Kept.refl _ _).drew
                have hrd3 : Rd 61 w3.drew r g7 (b ++ rest, false) := (HRD2.out.kept HK4.out (fun h => h) (fun h => h)).kept (Kept.refl w3 No).drew (fun h => h) (fun h => h)
                have hc4 : ∀ w', Kept w3 w' (· = r) → w'.cell? ⟨wr.heap.size, 4, none⟩ = some (.string x.s) := fun w' h => by
                  have := (HI3.out.kept h hrs).c4
                  rwa [Nat.zero_add] at this
                have hcall := rtext_any r g7 (b ++ rest, false) w3.drew hrd3 hbd2
                rw [back2 HE.out HKD.out rest, strOf_data] at hcall
                have HN := Lib.hid hcall; have HK0 := Lib.hid hk0; clear hcall hrd3 c0
                refine wp_region_held_drew (S := (fun w' => Kept w3 w' (· = r))) (by kernel_rfl) ?_ (fun hHeld => ?_)
                · exact HK0.out
                refine takeH 0 ?_ rfl (by kernel_rfl) (by kernel_rfl) (by kernel_rfl) (fun _ _ _ h => h) (by kernel_rfl) (by assumption) (fun w hSw => ?_) ?_
                rotate_left
                · (try dsimp only at hSw); go_simp <;> (try with_reducible rfl)
                try simp only [Act.put, List.setIfInBounds_toArray, List.set_cons_zero, List.set_cons_succ]
                refine takeH 2 ?_ rfl (by kernel_rfl) (by kernel_rfl) (by kernel_rfl) (fun _ _ _ h => h) (by kernel_rfl) (by assumption) (fun w hSw => ?_) ?_
                rotate_left
                · (try dsimp only at hSw); go_simp <;> (try with_reducible rfl)
                try simp only [Act.put, List.setIfInBounds_toArray, List.set_cons_zero, List.set_cons_succ]
                refine takeH 3 ?_ rfl (by kernel_rfl) (by kernel_rfl) (by kernel_rfl) (fun _ _ _ h => h) (by kernel_rfl) (by assumption) (fun w hSw => ?_) ?_
                rotate_left
                · (try dsimp only at hSw); go_simp <;> (try with_reducible rfl)
                try simp only [Act.put, List.setIfInBounds_toArray, List.set_cons_zero, List.set_cons_succ]
                refine effH 1 rfl (by kernel_rfl) (by kernel_rfl) (fun K hK => ?_)
                go_simp
                refine HN.out.mono ?_
                rintro e w4 ⟨rfl, hrd4, hk4⟩
                have hk5 := HK0.out.trans (L := (· = r)) hk4 (fun _ _ h => h.elim id id)
                refine hK.out _ _ hk5 (fun hHeld => ?_)
                clear hK K
                refine takeH 4 ?_ rfl (by kernel_rfl) (by kernel_rfl) (by kernel_rfl) (fun _ _ _ h => h) (by kernel_rfl) (by assumption) (fun w hSw => ?_) ?_
                rotate_left
                · (try dsimp only at hSw); go_simp <;> (try with_reducible rfl)
                try simp only [Act.put, List.setIfInBounds_toArray, List.set_cons_zero, List.set_cons_succ]
                refine takeH 5 ?_ rfl (by kernel_rfl) (by kernel_rfl) (by kernel_rfl) (fun _ _ _ h => h) (by kernel_rfl) (by assumption) (fun w hSw => ?_) ?_
                rotate_left
                · (try dsimp only at hSw); go_simp <;> (try with_reducible rfl)
                try simp only [Act.put, List.setIfInBounds_toArray, List.set_cons_zero, List.set_cons_succ]
                refine wpAnyH_done (by kernel_rfl) ?_ _
                have c4 := hrd4.c1
                have HRD4 := Lib.hid hrd4; have HK5 := Lib.hid hk5; clear hrd4 hk5 hk4 hHeld
                go_wp2_with (go_at_call 21; refine (rbad_ok r _ _ c4).mono ?_; rintro e w5 ⟨rfl, rfl⟩)
                go_roundw
                case rel => exact ⟨j + 1, by omega, by go_num, HREST.out ▸ HRD4.out, (HK2.out.seq HK4.out).new_ HK5.out (fun k h => by omega), by have h1 := HK4.out.size; have h2 := HK5.out.size; omega⟩
                case measure => simp [intOf]; omega
              · have HKD := Lib.hid hkd; clear hkd
                have k0' := u8_ne (n := 0) (by omega) k0; have k1' := u8_ne (n := 1) (by omega) k1; have k2' := u8_ne (n := 2) (by omega) k2
                go_wp2_with (first
                    | (with_reducible refine wpList_load_midg (by kernel_rfl) 38 (.tmp 41) rfl g (o + j * 37) rfl x.cells _ HI.out Try.underlying38 rfl HS.out ?_)
                    | (with_reducible refine wpList_store_blk rfl 38 (.tmp 7) (.tmp 42) rfl wr.heap.size 0 x.cells.toArray rfl rfl 38 _ (Blk.new _ _ _) HS2.out (by simp [HLEN.out]) HONE.out ?_
                       (
                       intro w3 hB3 hk3
                       have hB4 : Blk w3 wr.heap.size 38 x.cells.toArray := by
                         rw [putA_all _ _ (by rw [show x.cells.toArray.toList = x.cells from rfl, HLEN.out]; rfl)] at hB3
                         exact hB3
                       have hI3 : ItmAt w3 wr.heap.size 0 x := hB4.range
                       have hk4 : Kept wr w3 No := ((Kept.refl wr No).alloc _).new_ hk3 (fun k h => by omega)
                       have c0 := hI3.c0
                       rw [HKD.out] at c0
                       have HI3 := Lib.hid hI3; have HK4 := Lib.hid hk4
                       clear hB3 hk3 hB4 hI3 hk4)))
                have hrs : wr.heap.size ≠ r := by omega
                have hk0 : Kept w3 w3.drew (· = r) := (Kept.refl _ _).drew
                have hrd3 : Rd 61 w3.drew r g7 (b ++ rest, false) := (HRD2.out.kept HK4.out (fun h => h) (fun h => h)).kept (Kept.refl w3 No).drew (fun h => h) (fun h => h)
                have hc5 : ∀ w', Kept w3 w' (· = r) → w'.rangeAt wr.heap.size 5 (bcs x.h) := fun w' h => by
                  have := (HI3.out.kept h hrs).c5
                  rwa [Nat.zero_add] at this
                have hgw3 : g7 < w3.drew.heap.size := by have := HK4.out.size; have := hk0.size; omega
                have hsz3 : (Try.prog.info? 36).map (·.size) = some (bcs x.h).length := by rw [Try.sizeHash]; simp [HOK.out.h]
                have HS3 := Lib.hid hsz3; have hxl : x.h.length = 32 := HOK.out.h
                have hcall := rhash_any r g7 (b ++ rest, false) w3.drew hrd3 hbd2 hgw3
                rw [back3 HOK.out HE.out (by rw [HKD.out]; exact k0) (by rw [HKD.out]; exact k1) (by rw [HKD.out]; exact k2) rest] at hcall
                have HN := Lib.hid hcall; have HK0 := Lib.hid hk0; clear hcall hrd3 c0
                refine wp_region_held_drew (S := (fun w' => Kept w3 w' (· = r))) (by kernel_rfl) ?_ (fun hHeld => ?_)
                · exact HK0.out
                refine takeH 0 ?_ rfl (by kernel_rfl) (by kernel_rfl) (by kernel_rfl) (fun _ _ _ h => h) (by kernel_rfl) (by assumption) (fun w hSw => ?_) ?_
                rotate_left
                · (try dsimp only at hSw); go_simp <;> (try with_reducible rfl)
                try simp only [Act.put, List.setIfInBounds_toArray, List.set_cons_zero, List.set_cons_succ]
                refine takeH 2 ?_ rfl (by kernel_rfl) (by kernel_rfl) (by kernel_rfl) (fun _ _ _ h => h) (by kernel_rfl) (by assumption) (fun w hSw => ?_) ?_
                rotate_left
                · (try dsimp only at hSw); go_simp <;> (try with_reducible rfl)
                try simp only [Act.put, List.setIfInBounds_toArray, List.set_cons_zero, List.set_cons_succ]
                refine takeH_load 3 rfl (by kernel_rfl) (by kernel_rfl) (by kernel_rfl) (fun _ _ _ _ h => h) (by kernel_rfl) (by assumption) 36 (.tmp 47) rfl wr.heap.size 5 rfl (bcs x.h) _ hc5 Try.underlying36 rfl HS3.out ?_
                try simp only [Act.put, List.setIfInBounds_toArray, List.set_cons_zero, List.set_cons_succ]
                refine effH 1 rfl (by kernel_rfl) (by kernel_rfl) (fun K hK => ?_)
                go_simp
                refine HN.out.mono ?_
                rintro e w4 ⟨rfl, hrd4, hk4⟩
                have hk5 := HK0.out.trans (L := (· = r)) hk4 (fun _ _ h => h.elim id id)
                refine hK.out _ _ hk5 (fun hHeld => ?_)
                clear hK K
                refine takeH 4 ?_ rfl (by kernel_rfl) (by kernel_rfl) (by kernel_rfl) (fun _ _ _ h => h) (by kernel_rfl) (by assumption) (fun w hSw => ?_) ?_
                rotate_left
                · (try dsimp only at hSw); go_simp <;> (try with_reducible rfl)
                try simp only [Act.put, List.setIfInBounds_toArray, List.set_cons_zero, List.set_cons_succ]
                refine takeH 5 ?_ rfl (by kernel_rfl) (by kernel_rfl) (by kernel_rfl) (fun _ _ _ h => h) (by kernel_rfl) (by assumption) (fun w hSw => ?_) ?_
                rotate_left
                · (try dsimp only at hSw); go_simp <;> (try with_reducible rfl)
                try simp only [Act.put, List.setIfInBounds_toArray, List.set_cons_zero, List.set_cons_succ]
                refine wpAnyH_done (by kernel_rfl) ?_ _
                have c4 := hrd4.c1
                have HRD4 := Lib.hid hrd4; have HK5 := Lib.hid hk5; clear hrd4 hk5 hk4 hHeld
                go_wp2_with (go_at_call 21; refine (rbad_ok r _ _ c4).mono ?_; rintro e w5 ⟨rfl, rfl⟩)
                go_roundw
                case rel => exact ⟨j + 1, by omega, by go_num, HREST.out ▸ HRD4.out, (HK2.out.seq HK4.out).new_ HK5.out (fun k h => by omega), by have h1 := HK4.out.size; have h2 := HK5.out.size; omega⟩
                case measure => simp [intOf]; omega
            · have hdj : l.drop j = [] := List.drop_eq_nil_of_le (by rw [← hn.out]; omega)
              rw [hdj] at hrd
              have hd := rdone_any r g7 _ wr hrd
              have hl := rleft_any r g7 _ wr hrd
              simp only [encAll, List.flatMap_nil, List.length_nil, Bool.false_eq_true, if_false, Bool.not_false, Bool.true_and, beq_self_eq_true] at hd hl
              have HD := Lib.hid hd; have HLF := Lib.hid hl; have HK2 := Lib.hid hk
              clear hd hl hk hrd hdj
              go_wp2_with (first
                | (go_at_call 23; refine HD.out.mono ?_; rintro e w5 ⟨rfl, rfl⟩)
                | (go_at_call 22; refine HLF.out.mono ?_; rintro e w5 ⟨rfl, rfl⟩))
              go_returns
              exact ⟨rfl, HK2.out⟩
end Go.Proofs.Ytaipgkbnmfjpfaa
