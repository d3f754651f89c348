/- PackReads: the walk. -/
import Derived.Test.YtaipgkbnmfjpfaaPackPlain
import Derived.Test.YtaipgkbnmfjpfaaPackAll
import Derived.Test.YtaipgkbnmfjpfaaEqHash
namespace Go.Proofs.Ytaipgkbnmfjpfaa
open Go.RowKit

theorem Rd.lt {T : TypeId} {w : World} {r g : Nat} {s : List UInt8 × Bool} (h : Rd T w r g s) : r < w.heap.size := by obtain ⟨_, A, n, c, hB, _⟩ := h; exact hB.lt
theorem Rd.new {T : TypeId} {w w' : World} {r g : Nat} {s : List UInt8 × Bool} {L : Nat → Prop} (h : Rd T w r g s) (hk : Kept w w' L) (hL : ∀ k, L k → w.heap.size ≤ k) : Rd T w' r g s := by
  obtain ⟨hne, A, n, c, hB, hm, hc, hx⟩ := h
  refine ⟨hne, A, n, c, hB.kept hk (fun e => by have := hL _ e; have := hB.lt; omega), hm, hc, ?_⟩
  by_cases he : s.1 = []
  · rw [he]; exact RB.nil _ _ _
  · exact hx.kept hk (fun e => by have := hL _ e; have := hx.lt he; omega)
theorem Rd.setB {T : TypeId} {w : World} {r g : Nat} {s : List UInt8 × Bool} (h : Rd T w r g s) (b : Bool) : Rd T (w.setCell ⟨r, 1, none⟩ (.bool b)) r g (s.1, b) ∧ Kept w (w.setCell ⟨r, 1, none⟩ (.bool b)) (· = r) := by
  obtain ⟨hn, A, n, c, hb, hl, hc, hx⟩ := h
  exact ⟨⟨hn, A, n, c, hb.set_ 1 _, hl, hc, hx.far hn _⟩, (Kept.refl w (· = r)).set1 1 _⟩
/-- Nothing lies anywhere. -/
theorem Rd.any {T : TypeId} {w : World} {r g g' : Nat} {s : List UInt8 × Bool} (h : Rd T w r g s) (he : s.1 = []) (hr : g' ≠ r) : Rd T w r g' s := by
  obtain ⟨hne, A, n, c, hB, hm, hc, hx⟩ := h
  exact ⟨hr, A, n, c, hB, hm, hc, by rw [he]; exact RB.nil _ _ _⟩
theorem rleft_f (r g : Nat) (rest : List UInt8) (n : Nat) (w : World) (hn : Hid (n = rest.length)) (h : Rd 61 w r g (rest, false)) : Calls Try.prog 22 #[.pointer (some ⟨r, 0, none⟩)] w fun e w' => e = .returned (.int .i64 n) ∧ w = w' := by
  rw [hn.out]; exact rleft_any r g _ w h
theorem rleft_t (r g : Nat) (rest : List UInt8) (w : World) (h : Rd 61 w r g (rest, true)) : Calls Try.prog 22 #[.pointer (some ⟨r, 0, none⟩)] w fun e w' => e = .returned (.int .i64 0) ∧ w = w' := rleft_any r g _ w h
theorem rdone_f (r g : Nat) (rest : List UInt8) (n : Nat) (w : World) (hn : Hid (n = rest.length)) (h : Rd 61 w r g (rest, false)) : Calls Try.prog 23 #[.pointer (some ⟨r, 0, none⟩)] w fun e w' => e = .returned (.bool ((n : Int) == 0)) ∧ w = w' := by
  have := rdone_any r g _ w h
  rw [show ((!(rest, false).2 && (rest, false).1.length == 0) : Bool) = ((n : Int) == (0 : Nat)) by rw [castB, hn.out]; rfl] at this
  exact this
theorem rdone_t (r g : Nat) (rest : List UInt8) (w : World) (h : Rd 61 w r g (rest, true)) : Calls Try.prog 23 #[.pointer (some ⟨r, 0, none⟩)] w fun e w' => e = .returned (.bool false) ∧ w = w' := rdone_any r g _ w h

/-- What stands at each round's head. -/
structure RdInv (w wr : World) (r b g1 g2 m : Nat) (s : List UInt8 × Bool) : Prop where
  rd : Rd 61 wr r g1 s
  pl : Rd 34 wr b g2 s
  len : s.1.length ≤ m
  kept : Kept w wr No

set_option maxRecDepth 100000 in
set_option maxHeartbeats 4000000 in
theorem packReads_walk (B : Option Addr) (gb m cb : Nat) (xs : List UInt8) (A : Option Addr) (g n c : Nat) (l : List Itm) (w : World) (hm : Hid (m = xs.length)) (hx : RB w gb B xs) (hmb : m ≤ 140737488355328) (hcb : Hid (m ≤ cb)) (hn : Hid (n = l.length)) (hl : Items w g A l) (hb : n ≤ 140737488355328) (hg : l ≠ [] → g < w.heap.size) :
    Calls Try.prog 4 #[.slice B m cb, .slice A n c] w fun e w' => e = .returned (.bool true) ∧ Kept w w' No := by
  have haw := packawake_ok w
  have HA := Lib.hid haw; clear haw
  have HL := Lib.hid hl; have HX := Lib.hid hx; have HCB := hcb; clear hl hx hcb
  by_cases h5 : 5000 < m
  · go_enter Try.func4, Try.ntmps4
    go_wp2_with fail
    refine HA.out.mono ?_
    rintro e w1 ⟨rfl, hk1⟩
    have HK1 := Lib.hid hk1; have HA2 := Lib.hid (packawake_ok w1); clear hk1
    go_wp2_with (first | (go_at_call 12; refine HA2.out.mono ?_; rintro e w2 ⟨rfl, hk2⟩))
    go_returns
    exact ⟨rfl, HK1.out.seq hk2⟩
  cases hf : fewB l with
  | false =>
    go_enter Try.func4, Try.ntmps4
    go_wp2_with fail
    refine HA.out.mono ?_
    rintro e w1 ⟨rfl, hk1⟩
    have hl1 : Items w1 g A l := HL.out.kept hk1 (fun h => h)
    have HK1 := Lib.hid hk1; clear hk1
    have hfw := few_ok A g n c l w1 hn hl1 hb
    rw [hf] at hfw
    have HF := Lib.hid hfw; have HA2 := Lib.hid (packawake_ok w1); clear hfw hl1 hf
    go_wp2_with (first | (go_at_call 13; refine HF.out.mono ?_; rintro e w2 ⟨rfl, rfl⟩) | (go_at_call 12; refine HA2.out.mono ?_; rintro e w2 ⟨rfl, hk2⟩))
    go_returns
    exact ⟨rfl, HK1.out.seq hk2⟩
  | true =>
    go_enter Try.func4, Try.ntmps4
    go_wp2_with fail
    refine HA.out.mono ?_
    rintro e w1 ⟨rfl, hk1⟩
    have hl1 : Items w1 g A l := HL.out.kept hk1 (fun h => h)
    have hx1 : RB w1 gb B xs := HX.out.kept hk1 (fun h => h)
    have hrd := read_any B gb m cb xs w1 hm hx1 (by rw [← hm.out]; exact hmb)
    have HK1 := Lib.hid hk1; have HX1 := Lib.hid hx1; clear hk1 hx1
    have hfw := few_ok A g n c l w1 hn hl1 hb
    rw [hf] at hfw
    have HF := Lib.hid hfw; have HRD := Lib.hid hrd; clear hfw hl1 hf hrd
    go_wp2_with (first
      | (go_at_call 13; refine HF.out.mono ?_; rintro e w2 ⟨rfl, rfl⟩)
      | (go_at_call 14; refine HRD.out.mono ?_; rintro e w2 ⟨r, gr, rfl, hrd, hk2, hr2, hg2⟩))
    have hr0 : w.heap.size ≤ r := by have := HK1.out.size; omega
    have hrw2 := hrd.lt
    have hset : ∃ g1 g2, g1 ≠ w2.heap.size ∧ g2 ≠ r ∧ RdInv w (w2.alloc (.cells #[.slice B m cb, .bool false] 34)) r w2.heap.size g1 g2 m (xs, false) := by
      have hk3 : Kept w (w2.alloc (.cells #[.slice B m cb, .bool false] 34)) No := (HK1.out.seq hk2).alloc _
      have hrd3 := hrd.new ((Kept.refl w2 No).alloc (.cells #[.slice B m cb, .bool false] 34)) (fun _ h => h.elim)
      have hB := Blk.new w2 34 #[.slice B m cb, .bool false]
      have hx3 : RB (w2.alloc (.cells #[.slice B m cb, .bool false] 34)) gb B xs := HX.out.kept hk3 (fun h => h)
      have hcb : m ≤ cb := HCB.out
      by_cases he : xs = []
      · refine ⟨w2.heap.size + r + 1, w2.heap.size + r + 1, by omega, by omega, hrd3.any he (by omega), ⟨by omega, B, m, cb, hB, hm, hcb, by rw [he]; exact RB.nil _ _ _⟩, by rw [hm.out]; exact Nat.le_refl _, hk3⟩
      · have h1 : gr < w2.heap.size := by obtain ⟨_, A, n, c, _, _, _, hx⟩ := hrd; exact hx.lt he
        have h2 : gb < w.heap.size := HX.out.lt he
        exact ⟨gr, gb, by omega, by omega, hrd3, ⟨by omega, B, m, cb, hB, hm, hcb, hx3⟩, by rw [hm.out]; exact Nat.le_refl _, hk3⟩
    obtain ⟨g1, g2, hg1, hg2', hset⟩ := hset
    have hb0 : w.heap.size ≤ w2.heap.size := by omega
    generalize w2.heap.size = pb at *
    have HSET := Lib.hid hset
    clear hset hrd hk2 hr2 hg2 HF HRD HK1 HX1 HA HX
    go_loopw [33] (fun i wr => ∃ (j : Nat) (s : List UInt8 × Bool), j ≤ n ∧ i = .int .i64 j ∧ RdInv w wr r pb g1 g2 m s) (fun i _ => n - (intOf i).toNat)
    case atStart => exact ⟨0, _, by omega, rfl, HSET.out⟩
    case round =>
      obtain ⟨j, s, hj, rfl, hinv⟩ := hrel
      by_cases hlt : j < n
      · have hjl : j < l.length := by rw [← hn.out]; exact hlt
        have hgB : g < w.heap.size := hg (by intro e; rw [e] at hjl; simp at hjl)
        obtain ⟨o, x, rfl, hi, hok, hT⟩ := (HL.out.kept hinv.kept (fun h => h)).next hjl
        have hs0 : s.1.length ≤ 140737488355328 := by have := hinv.len; omega
        have hs1 := hinv.len
        have HV := Lib.hid hinv; have HI := Lib.hid hi; have HOK := Lib.hid hok; clear hinv hok hjl hT
        have c0 := hi.c0
        clear hi
        have hkd : x.kind = 0 ∨ x.kind = 1 ∨ x.kind = 2 ∨ ∃ kd, x.kind = kd ∧ ¬ kd = 0 ∧ ¬ kd = 1 ∧ ¬ kd = 2 := by
          by_cases h0 : x.kind = 0
          · exact .inl h0
          · by_cases h1 : x.kind = 1
            · exact .inr (.inl h1)
            · by_cases h2 : x.kind = 2
              · exact .inr (.inr (.inl h2))
              · exact .inr (.inr (.inr ⟨_, rfl, h0, h1, h2⟩))
        rcases hkd with hkd | hkd | hkd | ⟨kd, hkd, k0, k1, k2⟩
        · rw [hkd] at c0
          have hc2 : ∀ w', Kept wr w' (fun k => k = r ∨ k = pb) → w'.cell? ⟨g, o + j * 37 + 2, none⟩ = some (.int .i64 x.size) := fun w' h => (HI.out.kept h (by omega)).c2
          have hn1 := rnumber_any r g1 s x.size wr.drew (HV.out.rd.kept (Kept.refl wr No).drew (fun h => h) (fun h => h)) hs0
          have hpl := fun w' => plnumber_any pb g2 s x.size w'
          have hlen := rnum_len s x.size
          generalize rnum s x.size = o1 at hn1 hpl hlen
          have HN := Lib.hid hn1; have HP := Lib.hid hpl; clear hn1 hpl
          go_wp2_with fail
          refine wp_region_held_drew (S := (fun w' => Kept wr w' (fun k => k = r ∨ k = pb))) (by kernel_rfl) ?_ (fun hHeld => ?_)
          · exact (Kept.refl _ _).drew
          refine takeH 0 ?_ rfl (by kernel_rfl) (by kernel_rfl) (by kernel_rfl) (fun _ _ _ h => h) (by kernel_rfl) (by assumption) (fun w hSw => ?_) ?_
          rotate_left
          · (try dsimp only at hSw); go_simp <;> (try with_reducible rfl)
          try simp only [Act.put, List.setIfInBounds_toArray, List.set_cons_zero, List.set_cons_succ]
          refine takeH 1 ?_ rfl (by kernel_rfl) (by kernel_rfl) (by kernel_rfl) (fun _ _ _ h => h) (by kernel_rfl) (by assumption) (fun w hSw => ?_) ?_
          rotate_left
          · (try dsimp only at hSw); go_simp <;> (try with_reducible rfl)
          try simp only [Act.put, List.setIfInBounds_toArray, List.set_cons_zero, List.set_cons_succ]
          refine takeH 2 ?_ rfl (by kernel_rfl) (by kernel_rfl) (by kernel_rfl) (fun _ _ _ h => h) (by kernel_rfl) (by assumption) (fun w hSw => ?_) ?_
          rotate_left
          · (try dsimp only at hSw); go_simp <;> (try with_reducible rfl)
          try simp only [Act.put, List.setIfInBounds_toArray, List.set_cons_zero, List.set_cons_succ]
          refine takeH 3 ?_ rfl (by kernel_rfl) (by kernel_rfl) (by kernel_rfl) (fun _ _ _ h => h) (by kernel_rfl) (by assumption) (fun w hSw => ?_) ?_
          rotate_left
          · (try dsimp only at hSw); go_simp <;> (try with_reducible rfl)
          try simp only [Act.put, List.setIfInBounds_toArray, List.set_cons_zero, List.set_cons_succ]
          refine takeH 4 ?_ rfl (by kernel_rfl) (by kernel_rfl) (by kernel_rfl) (fun _ _ _ h => h) (by kernel_rfl) (by assumption) (fun w hSw => ?_) ?_
          rotate_left
          · (try dsimp only at hSw); go_simp <;> (try with_reducible rfl)
          try simp only [Act.put, List.setIfInBounds_toArray, List.set_cons_zero, List.set_cons_succ]
          refine takeH 5 ?_ rfl (by kernel_rfl) (by kernel_rfl) (by kernel_rfl) (fun _ _ _ h => h) (by kernel_rfl) (by assumption) (fun w hSw => ?_) ?_
          rotate_left
          · (try dsimp only at hSw); go_simp <;> (try with_reducible rfl)
          try simp only [Act.put, List.setIfInBounds_toArray, List.set_cons_zero, List.set_cons_succ]
          refine takeH 7 ?_ rfl (by kernel_rfl) (by kernel_rfl) (by kernel_rfl) (fun _ _ _ h => h) (by kernel_rfl) (by assumption) (fun w hSw => ?_) ?_
          rotate_left
          · (try dsimp only at hSw); go_simp <;> (try with_reducible rfl)
          try simp only [Act.put, List.setIfInBounds_toArray, List.set_cons_zero, List.set_cons_succ]
          refine takeH 8 ?_ rfl (by kernel_rfl) (by kernel_rfl) (by kernel_rfl) (fun _ _ _ h => h) (by kernel_rfl) (by assumption) (fun w hSw => ?_) ?_
          rotate_left
          · (try dsimp only at hSw); go_simp <;> (try with_reducible rfl)
          try simp only [Act.put, List.setIfInBounds_toArray, List.set_cons_zero, List.set_cons_succ]
          refine takeH 9 ?_ rfl (by kernel_rfl) (by kernel_rfl) (by kernel_rfl) (fun _ _ _ h => h) (by kernel_rfl) (by assumption) (fun w hSw => ?_) ?_
          rotate_left
          · (try dsimp only at hSw); go_simp <;> (try with_reducible rfl)
          try simp only [Act.put, List.setIfInBounds_toArray, List.set_cons_zero, List.set_cons_succ]
          refine takeH 10 ?_ rfl (by kernel_rfl) (by kernel_rfl) (by kernel_rfl) (fun _ _ _ h => h) (by kernel_rfl) (by assumption) (fun w hSw => ?_) ?_
          rotate_left
          · (try dsimp only at hSw); go_simp <;> (try with_reducible rfl)
          try simp only [Act.put, List.setIfInBounds_toArray, List.set_cons_zero, List.set_cons_succ]
          refine takeH 11 ?_ rfl (by kernel_rfl) (by kernel_rfl) (by kernel_rfl) (fun _ _ _ h => h) (by kernel_rfl) (by assumption) (fun w hSw => ?_) ?_
          rotate_left
          · (try dsimp only at hSw); go_simp <;> (try with_reducible rfl)
          try simp only [Act.put, List.setIfInBounds_toArray, List.set_cons_zero, List.set_cons_succ]
          refine takeH 12 ?_ rfl (by kernel_rfl) (by kernel_rfl) (by kernel_rfl) (fun _ _ _ h => h) (by kernel_rfl) (by assumption) (fun w hSw => ?_) ?_
          rotate_left
          · (try dsimp only at hSw); go_simp <;> (try with_reducible rfl)
          try simp only [Act.put, List.setIfInBounds_toArray, List.set_cons_zero, List.set_cons_succ]
          refine effH 6 rfl (by kernel_rfl) (by kernel_rfl) (fun K hK => ?_)
          go_simp
          refine HN.out.mono ?_
          rintro e w4 ⟨rfl, hrd4, hk4⟩
          have hk4' : Kept wr w4 (· = r) := (Kept.refl wr No).drew.trans hk4 (fun _ _ h => h.elim (fun h => h.elim) id)
          refine hK.out _ _ (hk4'.mono (fun _ _ h => .inl h)) (fun hHeld => ?_)
          clear hK K hHeld
          have hpl4 := HP.out w4 (HV.out.pl.kept hk4' (by omega) (fun e => hg2' e)) hs0
          have hHeld : Kept wr w4 (fun k => k = r ∨ k = pb) := hk4'.mono (fun _ _ h => .inl h)
          have HP4 := Lib.hid hpl4; have HRD4 := Lib.hid hrd4; have HK4 := Lib.hid hk4'; clear hpl4 hrd4 hk4 hk4'
          refine effH 13 rfl (by kernel_rfl) (by kernel_rfl) (fun K hK => ?_)
          go_simp
          refine HP4.out.mono ?_
          rintro e w5 ⟨rfl, hpl5, hk5⟩
          have hk45 : Kept wr w5 (fun k => k = r ∨ k = pb) := HK4.out.trans hk5 (fun _ _ h => h)
          refine hK.out _ _ hk45 (fun hHeld => ?_)
          clear hK K hHeld
          have hHeld : Kept wr w5 (fun k => k = r ∨ k = pb) := hk45
          refine takeH 14 ?_ rfl (by kernel_rfl) (by kernel_rfl) (by kernel_rfl) (fun _ _ _ h => h) (by kernel_rfl) (by assumption) (fun w hSw => ?_) ?_
          rotate_left
          · (try dsimp only at hSw); go_simp <;> (try with_reducible rfl)
          try simp only [Act.put, List.setIfInBounds_toArray, List.set_cons_zero, List.set_cons_succ]
          refine takeH 15 ?_ rfl (by kernel_rfl) (by kernel_rfl) (by kernel_rfl) (fun _ _ _ h => h) (by kernel_rfl) (by assumption) (fun w hSw => ?_) ?_
          rotate_left
          · (try dsimp only at hSw); go_simp <;> (try with_reducible rfl)
          try simp only [Act.put, List.setIfInBounds_toArray, List.set_cons_zero, List.set_cons_succ]
          refine wpAnyH_done (by kernel_rfl) ?_ _
          have HPL5 := Lib.hid hpl5
          have HRD5 := Lib.hid (HRD4.out.kept hk5 (by omega) (fun e => hg1 e))
          have HK5 := Lib.hid (HV.out.kept.new_ hk45 (fun k h => by rcases h with h | h <;> omega))
          clear hk45 hk5 hpl5 hHeld hc2
          obtain ⟨v1, s'⟩ := o1
          have hlen5 : s'.1.length ≤ m := by have : s'.1.length ≤ s.1.length := hlen; omega
          obtain ⟨rest, bad⟩ := s'
          have hp5 := HPL5.out
          obtain ⟨-, A5, n5, c5, hB5, hn5, -, -⟩ := hp5
          have pc0 : w5.cell? ⟨pb, 0, none⟩ = some (.slice A5 n5 c5) := hB5.cell_ rfl
          have pc1 : w5.cell? ⟨pb, 1, none⟩ = some (.bool bad) := hB5.cell_ rfl
          have rc1 := HRD5.out.c1
          clear hB5
          cases bad with
          | false =>
            have hl5 := fun k => rleft_f r g1 rest n5 (w5.drewN k) hn5 (HRD5.out.kept ((Kept.refl w5 No).drewN k) (fun h => h) (fun h => h))
            have hd5 := fun k => rdone_f r g1 rest n5 (w5.drewN k) hn5 (HRD5.out.kept ((Kept.refl w5 No).drewN k) (fun h => h) (fun h => h))
            have HLF := Lib.hid hl5; have HDN := Lib.hid hd5; clear hl5 hd5
            go_wp2_with fail
            go_quiet (first
              | (go_at_call 21; exact quiet_same (rbad_ok r _ _ rc1))
              | (go_at_call 22; exact quiet_same (HLF.out _))
              | (go_at_call 23; exact quiet_same (HDN.out _)))
            go_wp2
            go_roundw
            case rel => exact ⟨j + 1, (rest, false), by omega, by go_num, HRD5.out.kept ((Kept.refl w5 No).drewN _) (fun h => h) (fun h => h), HPL5.out.kept ((Kept.refl w5 No).drewN _) (fun h => h) (fun h => h), hlen5, HK5.out.drewN _⟩
            case measure => simp [intOf]; omega
          | true =>
            have hl5 := fun k => rleft_t r g1 rest (w5.drewN k) (HRD5.out.kept ((Kept.refl w5 No).drewN k) (fun h => h) (fun h => h))
            have hd5 := fun k => rdone_t r g1 rest (w5.drewN k) (HRD5.out.kept ((Kept.refl w5 No).drewN k) (fun h => h) (fun h => h))
            have HLF := Lib.hid hl5; have HDN := Lib.hid hd5; clear hl5 hd5
            go_wp2_with fail
            go_quiet (first
              | (go_at_call 21; exact quiet_same (rbad_ok r _ _ rc1))
              | (go_at_call 22; exact quiet_same (HLF.out _))
              | (go_at_call 23; exact quiet_same (HDN.out _)))
            go_wp2
            go_roundw
            case rel => exact ⟨j + 1, (rest, true), by omega, by go_num, HRD5.out.kept ((Kept.refl w5 No).drewN _) (fun h => h) (fun h => h), HPL5.out.kept ((Kept.refl w5 No).drewN _) (fun h => h) (fun h => h), hlen5, HK5.out.drewN _⟩
            case measure => simp [intOf]; omega
        · rw [hkd] at c0
          have hn1 := plnumber_any pb g2 s 1 wr HV.out.pl hs0
          have hrt : rtruth s = ((rnum s 1).1 == 1, if 1 < (rnum s 1).1 then ((rnum s 1).2.1, true) else (rnum s 1).2) := rfl
          have hlen := rnum_len s 1
          generalize rnum s 1 = o1 at hn1 hlen hrt
          obtain ⟨v1, rest1, bad1⟩ := o1
          have hlenr : rest1.length ≤ m := by have : rest1.length ≤ s.1.length := hlen; omega
          have HN := Lib.hid hn1; clear hn1 hlen
          have hend : ∃ s', rtruth s = ((v1 == 1), s') ∧ s' = (rest1, bad1 || decide (1 < v1)) := by
            refine ⟨_, hrt, ?_⟩
            by_cases h1 : 1 < v1 <;> simp [h1]
          obtain ⟨s', hrt', hs'⟩ := hend
          clear hrt
          have hcast : ((v1 : Int) == 1) = (v1 == 1) := castB v1 1
          have hgt : decide ((1 : Int) < (v1 : Int)) = decide (1 < v1) := by
            rw [Bool.eq_iff_iff]; simp only [decide_eq_true_eq]; omega
          generalize hq1 : (v1 == 1) = q1 at hrt' hcast
          generalize hq2 : decide (1 < v1) = q2 at hs' hgt
          have HRT := Lib.hid hrt'; have HS' := Lib.hid hs'; have HC := Lib.hid hcast; have HG := Lib.hid hgt; clear hrt' hs' hcast hgt hq1 hq2
          have htr := fun w' h => rtruth_any r g1 s w' h hs0
          rw [HRT.out] at htr
          have HT := Lib.hid htr; clear htr
          go_wp2_with fail
          refine HN.out.mono ?_
          rintro e w3 ⟨rfl, hpl3, hk3⟩
          have c1p := hpl3.c1
          have f1p := hpl3.f1
          have hB3 := fun b => hpl3.setB b
          have hrd3 := HV.out.rd.kept hk3 (by omega) (fun e => hg1 e)
          have HPL3 := Lib.hid hB3; have HRD3 := Lib.hid hrd3; have HK3 := Lib.hid hk3; clear hB3 hpl3 hrd3 hk3
          have hc := HC.out
          clear HC
          cases bad1 <;> cases q1
          · go_wp2_with fail
            obtain ⟨hp4, hk4⟩ := HPL3.out (decide ((1 : Int) < (v1 : Int)))
            have hrd4 := HRD3.out.kept hk4 (by omega) (fun e => hg1 e)
            have hk34 := HV.out.kept.new_ (HK3.out.trans (L := (· = pb)) hk4 (fun _ _ h => h.elim id id)) (fun k h => by omega)
            refine (HT.out _ hrd4).mono ?_
            rintro e w5 ⟨rfl, hrd5, hk5⟩
            have hpl5 : Rd 34 w5 pb g2 s' := by
              have := hp4.kept hk5 (by omega) (fun e => hg2' e)
              rw [HS'.out, ← HG.out]; exact this
            have HRD5 := Lib.hid hrd5; have HPL5 := Lib.hid hpl5
            have HK5 := Lib.hid (hk34.new_ hk5 (fun k h => by omega))
            have hlen5 : s'.1.length ≤ m := by rw [HS'.out]; exact hlenr
            clear hp4 hk4 hrd4 hk34 hrd5 hk5 hpl5 HS' HG HPL3 HRD3 HK3 HT HRT HN
            obtain ⟨rest, bad⟩ := s'
            have hp5 := HPL5.out
            obtain ⟨-, A5, n5, c5, hB5, hn5, -, -⟩ := hp5
            have pc0 : w5.cell? ⟨pb, 0, none⟩ = some (.slice A5 n5 c5) := hB5.cell_ rfl
            have pc1 : w5.cell? ⟨pb, 1, none⟩ = some (.bool bad) := hB5.cell_ rfl
            have rc1 := HRD5.out.c1
            clear hB5
            cases bad with
            | false =>
              have hl5 := fun k => rleft_f r g1 rest n5 (w5.drewN k) hn5 (HRD5.out.kept ((Kept.refl w5 No).drewN k) (fun h => h) (fun h => h))
              have hd5 := fun k => rdone_f r g1 rest n5 (w5.drewN k) hn5 (HRD5.out.kept ((Kept.refl w5 No).drewN k) (fun h => h) (fun h => h))
              have HLF := Lib.hid hl5; have HDN := Lib.hid hd5; clear hl5 hd5
              go_wp2_with fail
              go_quiet (first
                | (go_at_call 21; exact quiet_same (rbad_ok r _ _ rc1))
                | (go_at_call 22; exact quiet_same (HLF.out _))
                | (go_at_call 23; exact quiet_same (HDN.out _)))
              go_wp2
              go_roundw
              case rel => exact ⟨j + 1, (rest, false), by omega, by go_num, HRD5.out.kept ((Kept.refl w5 No).drewN _) (fun h => h) (fun h => h), HPL5.out.kept ((Kept.refl w5 No).drewN _) (fun h => h) (fun h => h), hlen5, HK5.out.drewN _⟩
              case measure => simp [intOf]; omega
            | true =>
              have hl5 := fun k => rleft_t r g1 rest (w5.drewN k) (HRD5.out.kept ((Kept.refl w5 No).drewN k) (fun h => h) (fun h => h))
              have hd5 := fun k => rdone_t r g1 rest (w5.drewN k) (HRD5.out.kept ((Kept.refl w5 No).drewN k) (fun h => h) (fun h => h))
              have HLF := Lib.hid hl5; have HDN := Lib.hid hd5; clear hl5 hd5
              go_wp2_with fail
              go_quiet (first
                | (go_at_call 21; exact quiet_same (rbad_ok r _ _ rc1))
                | (go_at_call 22; exact quiet_same (HLF.out _))
                | (go_at_call 23; exact quiet_same (HDN.out _)))
              go_wp2
              go_roundw
              case rel => exact ⟨j + 1, (rest, true), by omega, by go_num, HRD5.out.kept ((Kept.refl w5 No).drewN _) (fun h => h) (fun h => h), HPL5.out.kept ((Kept.refl w5 No).drewN _) (fun h => h) (fun h => h), hlen5, HK5.out.drewN _⟩
              case measure => simp [intOf]; omega
          · go_wp2_with fail
            obtain ⟨hp4, hk4⟩ := HPL3.out (decide ((1 : Int) < (v1 : Int)))
            have hrd4 := HRD3.out.kept hk4 (by omega) (fun e => hg1 e)
            have hk34 := HV.out.kept.new_ (HK3.out.trans (L := (· = pb)) hk4 (fun _ _ h => h.elim id id)) (fun k h => by omega)
            refine (HT.out _ hrd4).mono ?_
            rintro e w5 ⟨rfl, hrd5, hk5⟩
            have hpl5 : Rd 34 w5 pb g2 s' := by
              have := hp4.kept hk5 (by omega) (fun e => hg2' e)
              rw [HS'.out, ← HG.out]; exact this
            have HRD5 := Lib.hid hrd5; have HPL5 := Lib.hid hpl5
            have HK5 := Lib.hid (hk34.new_ hk5 (fun k h => by omega))
            have hlen5 : s'.1.length ≤ m := by rw [HS'.out]; exact hlenr
            clear hp4 hk4 hrd4 hk34 hrd5 hk5 hpl5 HS' HG HPL3 HRD3 HK3 HT HRT HN
            obtain ⟨rest, bad⟩ := s'
            have hp5 := HPL5.out
            obtain ⟨-, A5, n5, c5, hB5, hn5, -, -⟩ := hp5
            have pc0 : w5.cell? ⟨pb, 0, none⟩ = some (.slice A5 n5 c5) := hB5.cell_ rfl
            have pc1 : w5.cell? ⟨pb, 1, none⟩ = some (.bool bad) := hB5.cell_ rfl
            have rc1 := HRD5.out.c1
            clear hB5
            cases bad with
            | false =>
              have hl5 := fun k => rleft_f r g1 rest n5 (w5.drewN k) hn5 (HRD5.out.kept ((Kept.refl w5 No).drewN k) (fun h => h) (fun h => h))
              have hd5 := fun k => rdone_f r g1 rest n5 (w5.drewN k) hn5 (HRD5.out.kept ((Kept.refl w5 No).drewN k) (fun h => h) (fun h => h))
              have HLF := Lib.hid hl5; have HDN := Lib.hid hd5; clear hl5 hd5
              go_wp2_with fail
              go_quiet (first
                | (go_at_call 21; exact quiet_same (rbad_ok r _ _ rc1))
                | (go_at_call 22; exact quiet_same (HLF.out _))
                | (go_at_call 23; exact quiet_same (HDN.out _)))
              go_wp2
              go_roundw
              case rel => exact ⟨j + 1, (rest, false), by omega, by go_num, HRD5.out.kept ((Kept.refl w5 No).drewN _) (fun h => h) (fun h => h), HPL5.out.kept ((Kept.refl w5 No).drewN _) (fun h => h) (fun h => h), hlen5, HK5.out.drewN _⟩
              case measure => simp [intOf]; omega
            | true =>
              have hl5 := fun k => rleft_t r g1 rest (w5.drewN k) (HRD5.out.kept ((Kept.refl w5 No).drewN k) (fun h => h) (fun h => h))
              have hd5 := fun k => rdone_t r g1 rest (w5.drewN k) (HRD5.out.kept ((Kept.refl w5 No).drewN k) (fun h => h) (fun h => h))
              have HLF := Lib.hid hl5; have HDN := Lib.hid hd5; clear hl5 hd5
              go_wp2_with fail
              go_quiet (first
                | (go_at_call 21; exact quiet_same (rbad_ok r _ _ rc1))
                | (go_at_call 22; exact quiet_same (HLF.out _))
                | (go_at_call 23; exact quiet_same (HDN.out _)))
              go_wp2
              go_roundw
              case rel => exact ⟨j + 1, (rest, true), by omega, by go_num, HRD5.out.kept ((Kept.refl w5 No).drewN _) (fun h => h) (fun h => h), HPL5.out.kept ((Kept.refl w5 No).drewN _) (fun h => h) (fun h => h), hlen5, HK5.out.drewN _⟩
              case measure => simp [intOf]; omega
          · go_wp2_with fail
            obtain ⟨hp4, hk4⟩ := HPL3.out (true)
            have hrd4 := HRD3.out.kept hk4 (by omega) (fun e => hg1 e)
            have hk34 := HV.out.kept.new_ (HK3.out.trans (L := (· = pb)) hk4 (fun _ _ h => h.elim id id)) (fun k h => by omega)
            refine (HT.out _ hrd4).mono ?_
            rintro e w5 ⟨rfl, hrd5, hk5⟩
            have hpl5 : Rd 34 w5 pb g2 s' := by
              have := hp4.kept hk5 (by omega) (fun e => hg2' e)
              rw [HS'.out, ← HG.out]; exact this
            have HRD5 := Lib.hid hrd5; have HPL5 := Lib.hid hpl5
            have HK5 := Lib.hid (hk34.new_ hk5 (fun k h => by omega))
            have hlen5 : s'.1.length ≤ m := by rw [HS'.out]; exact hlenr
            clear hp4 hk4 hrd4 hk34 hrd5 hk5 hpl5 HS' HG HPL3 HRD3 HK3 HT HRT HN
            obtain ⟨rest, bad⟩ := s'
            have hp5 := HPL5.out
            obtain ⟨-, A5, n5, c5, hB5, hn5, -, -⟩ := hp5
            have pc0 : w5.cell? ⟨pb, 0, none⟩ = some (.slice A5 n5 c5) := hB5.cell_ rfl
            have pc1 : w5.cell? ⟨pb, 1, none⟩ = some (.bool bad) := hB5.cell_ rfl
            have rc1 := HRD5.out.c1
            clear hB5
            cases bad with
            | false =>
              have hl5 := fun k => rleft_f r g1 rest n5 (w5.drewN k) hn5 (HRD5.out.kept ((Kept.refl w5 No).drewN k) (fun h => h) (fun h => h))
              have hd5 := fun k => rdone_f r g1 rest n5 (w5.drewN k) hn5 (HRD5.out.kept ((Kept.refl w5 No).drewN k) (fun h => h) (fun h => h))
              have HLF := Lib.hid hl5; have HDN := Lib.hid hd5; clear hl5 hd5
              go_wp2_with fail
              go_quiet (first
                | (go_at_call 21; exact quiet_same (rbad_ok r _ _ rc1))
                | (go_at_call 22; exact quiet_same (HLF.out _))
                | (go_at_call 23; exact quiet_same (HDN.out _)))
              go_wp2
              go_roundw
              case rel => exact ⟨j + 1, (rest, false), by omega, by go_num, HRD5.out.kept ((Kept.refl w5 No).drewN _) (fun h => h) (fun h => h), HPL5.out.kept ((Kept.refl w5 No).drewN _) (fun h => h) (fun h => h), hlen5, HK5.out.drewN _⟩
              case measure => simp [intOf]; omega
            | true =>
              have hl5 := fun k => rleft_t r g1 rest (w5.drewN k) (HRD5.out.kept ((Kept.refl w5 No).drewN k) (fun h => h) (fun h => h))
              have hd5 := fun k => rdone_t r g1 rest (w5.drewN k) (HRD5.out.kept ((Kept.refl w5 No).drewN k) (fun h => h) (fun h => h))
              have HLF := Lib.hid hl5; have HDN := Lib.hid hd5; clear hl5 hd5
              go_wp2_with fail
              go_quiet (first
                | (go_at_call 21; exact quiet_same (rbad_ok r _ _ rc1))
                | (go_at_call 22; exact quiet_same (HLF.out _))
                | (go_at_call 23; exact quiet_same (HDN.out _)))
              go_wp2
              go_roundw
              case rel => exact ⟨j + 1, (rest, true), by omega, by go_num, HRD5.out.kept ((Kept.refl w5 No).drewN _) (fun h => h) (fun h => h), HPL5.out.kept ((Kept.refl w5 No).drewN _) (fun h => h) (fun h => h), hlen5, HK5.out.drewN _⟩
              case measure => simp [intOf]; omega
          · go_wp2_with fail
            obtain ⟨hp4, hk4⟩ := HPL3.out (true)
            have hrd4 := HRD3.out.kept hk4 (by omega) (fun e => hg1 e)
            have hk34 := HV.out.kept.new_ (HK3.out.trans (L := (· = pb)) hk4 (fun _ _ h => h.elim id id)) (fun k h => by omega)
            refine (HT.out _ hrd4).mono ?_
            rintro e w5 ⟨rfl, hrd5, hk5⟩
            have hpl5 : Rd 34 w5 pb g2 s' := by
              have := hp4.kept hk5 (by omega) (fun e => hg2' e)
              rw [HS'.out, ← HG.out]; exact this
            have HRD5 := Lib.hid hrd5; have HPL5 := Lib.hid hpl5
            have HK5 := Lib.hid (hk34.new_ hk5 (fun k h => by omega))
            have hlen5 : s'.1.length ≤ m := by rw [HS'.out]; exact hlenr
            clear hp4 hk4 hrd4 hk34 hrd5 hk5 hpl5 HS' HG HPL3 HRD3 HK3 HT HRT HN
            obtain ⟨rest, bad⟩ := s'
            have hp5 := HPL5.out
            obtain ⟨-, A5, n5, c5, hB5, hn5, -, -⟩ := hp5
            have pc0 : w5.cell? ⟨pb, 0, none⟩ = some (.slice A5 n5 c5) := hB5.cell_ rfl
            have pc1 : w5.cell? ⟨pb, 1, none⟩ = some (.bool bad) := hB5.cell_ rfl
            have rc1 := HRD5.out.c1
            clear hB5
            cases bad with
            | false =>
              have hl5 := fun k => rleft_f r g1 rest n5 (w5.drewN k) hn5 (HRD5.out.kept ((Kept.refl w5 No).drewN k) (fun h => h) (fun h => h))
              have hd5 := fun k => rdone_f r g1 rest n5 (w5.drewN k) hn5 (HRD5.out.kept ((Kept.refl w5 No).drewN k) (fun h => h) (fun h => h))
              have HLF := Lib.hid hl5; have HDN := Lib.hid hd5; clear hl5 hd5
              go_wp2_with fail
              go_quiet (first
                | (go_at_call 21; exact quiet_same (rbad_ok r _ _ rc1))
                | (go_at_call 22; exact quiet_same (HLF.out _))
                | (go_at_call 23; exact quiet_same (HDN.out _)))
              go_wp2
              go_roundw
              case rel => exact ⟨j + 1, (rest, false), by omega, by go_num, HRD5.out.kept ((Kept.refl w5 No).drewN _) (fun h => h) (fun h => h), HPL5.out.kept ((Kept.refl w5 No).drewN _) (fun h => h) (fun h => h), hlen5, HK5.out.drewN _⟩
              case measure => simp [intOf]; omega
            | true =>
              have hl5 := fun k => rleft_t r g1 rest (w5.drewN k) (HRD5.out.kept ((Kept.refl w5 No).drewN k) (fun h => h) (fun h => h))
              have hd5 := fun k => rdone_t r g1 rest (w5.drewN k) (HRD5.out.kept ((Kept.refl w5 No).drewN k) (fun h => h) (fun h => h))
              have HLF := Lib.hid hl5; have HDN := Lib.hid hd5; clear hl5 hd5
              go_wp2_with fail
              go_quiet (first
                | (go_at_call 21; exact quiet_same (rbad_ok r _ _ rc1))
                | (go_at_call 22; exact quiet_same (HLF.out _))
                | (go_at_call 23; exact quiet_same (HDN.out _)))
              go_wp2
              go_roundw
              case rel => exact ⟨j + 1, (rest, true), by omega, by go_num, HRD5.out.kept ((Kept.refl w5 No).drewN _) (fun h => h) (fun h => h), HPL5.out.kept ((Kept.refl w5 No).drewN _) (fun h => h) (fun h => h), hlen5, HK5.out.drewN _⟩
              case measure => simp [intOf]; omega
        · rw [hkd] at c0
          have hn1 := plnumber_any pb g2 s 2 wr HV.out.pl hs0
          have hlt2 : (rnum s 2).1 < 65536 := rnum_lt s 2
          have hlen := rnum_len s 2
          have hrt : rtext s = rtake (rnum s 2).2 (rnum s 2).1 := rfl
          have htx := fun w' h => rtext_any r g1 s w' h hs0
          rw [hrt] at htx
          clear hrt
          generalize rnum s 2 = o1 at hn1 hlen htx hlt2
          obtain ⟨v1, s1⟩ := o1
          simp only at hn1 hlen htx hlt2
          have htl := rtake_len s1 v1
          have htk := fun w' h => pltake_any pb g2 s1 v1 w' h (by omega) (by omega)
          generalize rtake s1 v1 = ot at htx htk htl
          obtain ⟨tx, s'⟩ := ot
          have hlen5 : s'.1.length ≤ m := by have : s'.1.length ≤ s1.1.length := htl; omega
          have HN := Lib.hid hn1; have HT := Lib.hid htx; have HTK := Lib.hid htk; clear hn1 htx htk htl hlen
          go_wp2_with fail
          refine HN.out.mono ?_
          rintro e w3 ⟨rfl, hpl3, hk3⟩
          have hrd3 := HV.out.rd.kept hk3 (by omega) (fun e => hg1 e)
          have HPL3 := Lib.hid hpl3; have HRD3 := Lib.hid hrd3; have HK3 := Lib.hid hk3; clear hpl3 hrd3 hk3
          go_wp2_with fail
          refine (HT.out _ HRD3.out).mono ?_
          rintro e w4 ⟨rfl, hrd4, hk4⟩
          have hpl4 := HPL3.out.kept hk4 (by omega) (fun e => hg2' e)
          have HPL4 := Lib.hid hpl4; have HRD4 := Lib.hid hrd4; have HK4 := Lib.hid hk4; clear hpl4 hrd4 hk4
          go_wp2_with fail
          refine (HTK.out _ HPL4.out).mono ?_
          rintro e w5 ⟨A6, m6, c6, rfl, hm6, hc6, hx6, hpl5, hk5⟩
          have hcv := run_conv_str (P := Try.prog) w5 27 9 Try.underlying27 Try.underlying5 Try.underlying9 g2 A6 _ m6 c6 hm6.out hx6
          have HPL5 := Lib.hid hpl5
          have HRD5 := Lib.hid (HRD4.out.kept hk5 (by omega) (fun e => hg1 e))
          have HK5 := Lib.hid (((HV.out.kept.new_ HK3.out (fun k h => by omega)).new_ HK4.out (fun k h => by omega)).new_ hk5 (fun k h => by omega))
          simp only at hcv
          clear hpl5 hk5 hx6 hm6 HN HT HTK HPL3 HRD3 HK3 HPL4 HRD4 HK4
          obtain ⟨rest, bad⟩ := s'
          have hp5 := HPL5.out
          obtain ⟨-, A5, n5, c5, hB5, hn5, -, -⟩ := hp5
          have pc0 : w5.cell? ⟨pb, 0, none⟩ = some (.slice A5 n5 c5) := hB5.cell_ rfl
          have pc1 : w5.cell? ⟨pb, 1, none⟩ = some (.bool bad) := hB5.cell_ rfl
          have rc1 := HRD5.out.c1
          clear hB5
          cases bad with
          | false =>
            have hl5 := fun k => rleft_f r g1 rest n5 (w5.drewN k) hn5 (HRD5.out.kept ((Kept.refl w5 No).drewN k) (fun h => h) (fun h => h))
            have hd5 := fun k => rdone_f r g1 rest n5 (w5.drewN k) hn5 (HRD5.out.kept ((Kept.refl w5 No).drewN k) (fun h => h) (fun h => h))
            have HLF := Lib.hid hl5; have HDN := Lib.hid hd5; clear hl5 hd5
            go_wp2_with fail
            go_quiet (first
              | (go_at_call 21; exact quiet_same (rbad_ok r _ _ rc1))
              | (go_at_call 22; exact quiet_same (HLF.out _))
              | (go_at_call 23; exact quiet_same (HDN.out _)))
            go_wp2
            go_roundw
            case rel => exact ⟨j + 1, (rest, false), by omega, by go_num, HRD5.out.kept ((Kept.refl w5 No).drewN _) (fun h => h) (fun h => h), HPL5.out.kept ((Kept.refl w5 No).drewN _) (fun h => h) (fun h => h), hlen5, HK5.out.drewN _⟩
            case measure => simp [intOf]; omega
          | true =>
            have hl5 := fun k => rleft_t r g1 rest (w5.drewN k) (HRD5.out.kept ((Kept.refl w5 No).drewN k) (fun h => h) (fun h => h))
            have hd5 := fun k => rdone_t r g1 rest (w5.drewN k) (HRD5.out.kept ((Kept.refl w5 No).drewN k) (fun h => h) (fun h => h))
            have HLF := Lib.hid hl5; have HDN := Lib.hid hd5; clear hl5 hd5
            go_wp2_with fail
            go_quiet (first
              | (go_at_call 21; exact quiet_same (rbad_ok r _ _ rc1))
              | (go_at_call 22; exact quiet_same (HLF.out _))
              | (go_at_call 23; exact quiet_same (HDN.out _)))
            go_wp2
            go_roundw
            case rel => exact ⟨j + 1, (rest, true), by omega, by go_num, HRD5.out.kept ((Kept.refl w5 No).drewN _) (fun h => h) (fun h => h), HPL5.out.kept ((Kept.refl w5 No).drewN _) (fun h => h) (fun h => h), hlen5, HK5.out.drewN _⟩
            case measure => simp [intOf]; omega
        · rw [hkd] at c0
          have k0' := u8_ne (n := 0) (by omega) k0; have k1' := u8_ne (n := 1) (by omega) k1; have k2' := u8_ne (n := 2) (by omega) k2
          have hret : ∃ h1 h2, h1 ≠ wr.heap.size ∧ h1 ≠ pb ∧ h2 ≠ wr.heap.size ∧ h2 ≠ r ∧ Rd 61 wr r h1 s ∧ Rd 34 wr pb h2 s ∧ (∀ w' (s' : List UInt8 × Bool), s'.1.length ≤ s.1.length → Rd 61 w' r h1 s' → Rd 61 w' r g1 s') ∧ (∀ w' (s' : List UInt8 × Bool), s'.1.length ≤ s.1.length → Rd 34 w' pb h2 s' → Rd 34 w' pb g2 s') := by
            have hlr := HV.out.rd.lt
            have hlp := HV.out.pl.lt
            by_cases he : s.1 = []
            · have he' : ∀ s' : List UInt8 × Bool, s'.1.length ≤ s.1.length → s'.1 = [] := fun s' h => by
                rw [he] at h; exact List.eq_nil_of_length_eq_zero (by simpa using h)
              exact ⟨wr.heap.size + 1, wr.heap.size + 1, by omega, by omega, by omega, by omega, HV.out.rd.any he (by omega), HV.out.pl.any he (by omega), fun w' s' h h2 => h2.any (he' s' h) HV.out.rd.1, fun w' s' h h2 => h2.any (he' s' h) HV.out.pl.1⟩
            · have h1 : g1 < wr.heap.size := by obtain ⟨_, A, n, c, _, _, _, hx⟩ := HV.out.rd; exact hx.lt he
              have h2 : g2 < wr.heap.size := by obtain ⟨_, A, n, c, _, _, _, hx⟩ := HV.out.pl; exact hx.lt he
              exact ⟨g1, g2, by omega, hg1, by omega, hg2', HV.out.rd, HV.out.pl, fun _ _ _ h => h, fun _ _ _ h => h⟩
          obtain ⟨h1, h2, n1, n2, n3, n4, hrdv, hplv, hback1, hback2⟩ := hret
          have hlr := hrdv.lt
          have hgr : g1 ≠ r := HV.out.rd.1
          have hlp := hplv.lt
          have hkA := (Kept.refl wr No).alloc (.cells (bcs (zeros 32)).toArray 36)
          have hB := Blk.new wr 36 (bcs (zeros 32)).toArray
          have ht := pltake_any pb h2 s 32 (wr.alloc (.cells (bcs (zeros 32)).toArray 36)).drew (hplv.kept hkA.drew (fun h => h) (fun h => h)) hs0 (by omega)
          have hrdA := hrdv.kept hkA (fun h => h) (fun h => h)
          have hle := rtake_le s 32
          have hrh : rhash s = (padTo 32 (rtake s 32).1, (rtake s 32).2) := rfl
          have hltk := rtake_len s 32
          have hhash := fun hh w' h hg => rhash_any r hh s w' h hs0 hg
          rw [hrh] at hhash
          generalize rtake s 32 = o1 at ht hle hhash hltk
          have HT := Lib.hid ht; have HB := Lib.hid hB; have HKA := Lib.hid hkA; have HRA := Lib.hid hrdA; have HH := Lib.hid hhash; have HB1 := Lib.hid hback1; have HB2 := Lib.hid hback2
          have HKW := Lib.hid (HV.out.kept.seq hkA)
          clear ht hB hkA hrdA hhash hback1 hback2 hrdv hplv hrh HV
          go_wp2_with fail
          change Code.wp _ _ _ _ (wr.alloc (.cells (bcs (zeros 32)).toArray 36))
          generalize hWs : wr.alloc (.cells (bcs (zeros 32)).toArray 36) = W at HT HB HKA HRA HKW ⊢
          have hWsz : wr.heap.size < W.heap.size := HB.out.lt
          clear hWs
          have hfit : ∀ {m : Nat}, 0 + min m 32 ≤ (bcs (zeros 32)).toArray.size := by intro m; simp; omega
          have hrs : r ≠ wr.heap.size := by omega
          have hps : pb ≠ wr.heap.size := by omega
          go_region_held3 (fun _ => True) (trivial) (first
            | (go_at_call 19; refine HT.out.mono ?_; rintro e w1 ⟨A6, m6, c6, rfl, hm6, hc6, hx6, hpl6, hkk⟩)
            | (refine step_copy_b rfl (.tmp 41) (.tmp 43) 27 27 rfl Try.underlying27 Try.infoByte wr.heap.size 0 (some ⟨wr.heap.size, 0, none⟩) 32 32 rfl 36 _ ((HB.out.drew).kept hkk (fun e => hps e.symm)) h2 A6 o1.1 m6 c6 rfl hm6.out hx6 (fun _ => rfl) hfit ?_
               intro w2 hB2 hk2))
          rw [List.take_of_length_le hle] at hB2
          rw [show putA (bcs (zeros 32)).toArray 0 (bcs o1.1) = (bcs (padTo 32 o1.1)).toArray by have := putA_pad 32 o1.1; rwa [List.take_of_length_le hle] at this] at hB2
          have hl32 := length_padTo hle
          have hrd2 : Rd 61 w2.drew r h1 s := (((HRA.out.kept (Kept.refl W No).drew (fun h => h) (fun h => h)).kept hkk (by omega) n2).kept hk2 hrs n1).kept (Kept.refl w2 No).drew (fun h => h) (fun h => h)
          have hpl2 : Rd 34 w2 pb h2 o1.2 := hpl6.kept hk2 hps n3
          have hkw2 : Kept w w2 No := ((HKW.out.drew).new_ hkk (fun k h => by omega)).new_ hk2 (fun k h => by have := HKA.out; have := hb0; omega)
          have hre : ∃ h3, h3 ≠ w2.drew.heap.size ∧ Rd 61 w2.drew r h3 s ∧ (∀ w' (s' : List UInt8 × Bool), s'.1.length ≤ s.1.length → Rd 61 w' r h3 s' → Rd 61 w' r g1 s') := by
            by_cases he : s.1 = []
            · have he' : ∀ s' : List UInt8 × Bool, s'.1.length ≤ s.1.length → s'.1 = [] := fun s' h => by
                rw [he] at h; exact List.eq_nil_of_length_eq_zero (by simpa using h)
              exact ⟨pb, Nat.ne_of_lt (hpl2.kept (Kept.refl w2 No).drew (fun h => h) (fun h => h)).lt, hrd2.any he (by omega), fun w' s' h h2 => h2.any (he' s' h) hgr⟩
            · have h9 : h1 < w2.drew.heap.size := by obtain ⟨_, A, n, c, _, _, _, hx⟩ := hrd2; exact hx.lt he
              exact ⟨h1, by omega, hrd2, HB1.out⟩
          obtain ⟨h3, n5, hrd3, hback3⟩ := hre
          have hn := HH.out h3 w2.drew hrd3 n5
          generalize hout : padTo 32 o1.1 = out at hB2 hl32 hn
          have hc5 : ∀ w', Kept w2 w' (· = r) → w'.rangeAt wr.heap.size 0 (bcs out) := fun w' h => (hB2.kept h (fun e => hrs e.symm)).range
          have hsz3 : (Try.prog.info? 36).map (·.size) = some (bcs out).length := by rw [Try.sizeHash]; simp [hl32]
          have HS3 := Lib.hid hsz3; have HN := Lib.hid hn; have HPL2 := Lib.hid hpl2; have HKW2 := Lib.hid hkw2; have HB3 := Lib.hid hback3
          clear hsz3 hn hpl2 hkw2 hback3 hrd3 hrd2 hB2 hk2 hkk hpl6 hx6 hm6 hout HT HB HKA HRA HH HB1 HKW hle
          have hk0 : Kept w2 w2.drew (· = r) := (Kept.refl _ _).drew
          obtain ⟨b1, s'⟩ := o1
          simp only at HN HPL2 hltk
          go_wp2_with fail
          refine wp_region_held_drew (S := (fun w' => Kept w2 w' (· = r))) (by kernel_rfl) ?_ (fun hHeld => ?_)
          · exact hk0
          refine takeH 0 ?_ rfl (by kernel_rfl) (by kernel_rfl) (by kernel_rfl) (fun _ _ _ h => h) (by kernel_rfl) (by assumption) (fun w hSw => ?_) ?_
          rotate_left
          · (try dsimp only at hSw); go_simp <;> (try with_reducible rfl)
          try simp only [Act.put, List.setIfInBounds_toArray, List.set_cons_zero, List.set_cons_succ]
          refine takeH_load 2 rfl (by kernel_rfl) (by kernel_rfl) (by kernel_rfl) (fun _ _ _ _ h => h) (by kernel_rfl) (by assumption) 36 (.tmp 11) rfl wr.heap.size 0 rfl (bcs out) _ hc5 Try.underlying36 rfl HS3.out ?_
          try simp only [Act.put, List.setIfInBounds_toArray, List.set_cons_zero, List.set_cons_succ]
          refine effH 1 rfl (by kernel_rfl) (by kernel_rfl) (fun K hK => ?_)
          go_simp
          refine HN.out.mono ?_
          rintro e w5 ⟨rfl, hrd5, hk5⟩
          have hk25 := hk0.trans (L := (· = r)) hk5 (fun _ _ h => h.elim id id)
          refine hK.out _ _ hk25 (fun hHeld => ?_)
          clear hK K
          refine takeH 3 ?_ rfl (by kernel_rfl) (by kernel_rfl) (by kernel_rfl) (fun _ _ _ h => h) (by kernel_rfl) (by assumption) (fun w hSw => ?_) ?_
          rotate_left
          · (try dsimp only at hSw); go_simp <;> (try with_reducible rfl)
          try simp only [Act.put, List.setIfInBounds_toArray, List.set_cons_zero, List.set_cons_succ]
          refine takeH 4 ?_ rfl (by kernel_rfl) (by kernel_rfl) (by kernel_rfl) (fun _ _ _ h => h) (by kernel_rfl) (by assumption) (fun w hSw => ?_) ?_
          rotate_left
          · (try dsimp only at hSw); go_simp <;> (try with_reducible rfl)
          try simp only [Act.put, List.setIfInBounds_toArray, List.set_cons_zero, List.set_cons_succ]
          refine wpAnyH_done (by kernel_rfl) ?_ _
          have HRD5 := Lib.hid (HB3.out _ _ hltk hrd5)
          have HPL5 := Lib.hid (HB2.out _ _ hltk (HPL2.out.kept hk25 (by omega) n4))
          have HK5 := Lib.hid (HKW2.out.new_ hk25 (fun k h => by omega))
          have hlen5 : s'.1.length ≤ m := by have : s'.1.length ≤ s.1.length := hltk; omega
          clear hk25 hk5 hrd5 hHeld hc5 HN HPL2 HKW2 HB3 HB2 hltk hk0
          obtain ⟨rest, bad⟩ := s'
          have hp5 := HPL5.out
          obtain ⟨-, A5, n5, c5, hB5, hn5, -, -⟩ := hp5
          have pc0 : w5.cell? ⟨pb, 0, none⟩ = some (.slice A5 n5 c5) := hB5.cell_ rfl
          have pc1 : w5.cell? ⟨pb, 1, none⟩ = some (.bool bad) := hB5.cell_ rfl
          have rc1 := HRD5.out.c1
          clear hB5
          cases bad with
          | false =>
            have hl5 := fun k => rleft_f r g1 rest n5 (w5.drewN k) hn5 (HRD5.out.kept ((Kept.refl w5 No).drewN k) (fun h => h) (fun h => h))
            have hd5 := fun k => rdone_f r g1 rest n5 (w5.drewN k) hn5 (HRD5.out.kept ((Kept.refl w5 No).drewN k) (fun h => h) (fun h => h))
            have HLF := Lib.hid hl5; have HDN := Lib.hid hd5; clear hl5 hd5
            go_wp2_with fail
            go_quiet (first
              | (go_at_call 21; exact quiet_same (rbad_ok r _ _ rc1))
              | (go_at_call 22; exact quiet_same (HLF.out _))
              | (go_at_call 23; exact quiet_same (HDN.out _)))
            go_wp2
            go_roundw
            case rel => exact ⟨j + 1, (rest, false), by omega, by go_num, HRD5.out.kept ((Kept.refl w5 No).drewN _) (fun h => h) (fun h => h), HPL5.out.kept ((Kept.refl w5 No).drewN _) (fun h => h) (fun h => h), hlen5, HK5.out.drewN _⟩
            case measure => simp [intOf]; omega
          | true =>
            have hl5 := fun k => rleft_t r g1 rest (w5.drewN k) (HRD5.out.kept ((Kept.refl w5 No).drewN k) (fun h => h) (fun h => h))
            have hd5 := fun k => rdone_t r g1 rest (w5.drewN k) (HRD5.out.kept ((Kept.refl w5 No).drewN k) (fun h => h) (fun h => h))
            have HLF := Lib.hid hl5; have HDN := Lib.hid hd5; clear hl5 hd5
            go_wp2_with fail
            go_quiet (first
              | (go_at_call 21; exact quiet_same (rbad_ok r _ _ rc1))
              | (go_at_call 22; exact quiet_same (HLF.out _))
              | (go_at_call 23; exact quiet_same (HDN.out _)))
            go_wp2
            go_roundw
            case rel => exact ⟨j + 1, (rest, true), by omega, by go_num, HRD5.out.kept ((Kept.refl w5 No).drewN _) (fun h => h) (fun h => h), HPL5.out.kept ((Kept.refl w5 No).drewN _) (fun h => h) (fun h => h), hlen5, HK5.out.drewN _⟩
            case measure => simp [intOf]; omega
      · have HK2 := Lib.hid hinv.kept
        clear hinv
        go_wp2
        go_returns
        exact ⟨rfl, HK2.out⟩
end Go.Proofs.Ytaipgkbnmfjpfaa
