/- the reference: Sum. -/
import Derived.Test.YtibkngjacdggpaaDoorRefK
namespace Go.Proofs.YtibkngjacdggpaaDoor
open Go.RowKit HP

theorem padB_eq (n : Nat) : 128 :: List.replicate ((119 - n % 64) % 64) 0 ++ beL (n * 8) 8 = padB n := by
  unfold padB beL
  rfl
theorem padded_length (xs : List UInt8) : (xs ++ padB xs.length).length % 64 = 0 := by simp [padB]; omega
/-- four bytes as a word -/
theorem wordL_unbe (b : List UInt8) (h : b.length = 4) : (wordL b).toNat = unbe b := by
  match b, h with
  | [a, b, c, d], _ =>
    have ha := a.toNat_lt
    have hb := b.toNat_lt
    have hc := c.toNat_lt
    have hd := d.toNat_lt
    have e : wordL [a, b, c, d] = (((shl32 a.toUInt32 24 ||| shl32 b.toUInt32 16) ||| shl32 c.toUInt32 8) ||| d.toUInt32) := rfl
    rw [e, UInt32.toNat_or, UInt32.toNat_or, UInt32.toNat_or, shl32_toNat _ 24 (by omega), shl32_toNat _ 16 (by omega), shl32_toNat _ 8 (by omega)]
    simp only [UInt8.toNat_toUInt32]
    rw [Nat.mod_eq_of_lt (by omega : a.toNat * 2 ^ 24 < 4294967296), Nat.mod_eq_of_lt (by omega : b.toNat * 2 ^ 16 < 4294967296), Nat.mod_eq_of_lt (by omega : c.toNat * 2 ^ 8 < 4294967296)]
    have e1 : a.toNat * 2 ^ 24 ||| b.toNat * 2 ^ 16 = a.toNat * 2 ^ 24 + b.toNat * 2 ^ 16 := by
      rw [Nat.mul_comm a.toNat, ← Nat.two_pow_add_eq_or_of_lt (by omega)]
    have e2 : (a.toNat * 2 ^ 24 + b.toNat * 2 ^ 16) ||| c.toNat * 2 ^ 8 = a.toNat * 2 ^ 24 + b.toNat * 2 ^ 16 + c.toNat * 2 ^ 8 := by
      rw [show a.toNat * 2 ^ 24 + b.toNat * 2 ^ 16 = 2 ^ 16 * (a.toNat * 256 + b.toNat) by omega, ← Nat.two_pow_add_eq_or_of_lt (by omega)]
    have e3 : (a.toNat * 2 ^ 24 + b.toNat * 2 ^ 16 + c.toNat * 2 ^ 8) ||| d.toNat = a.toNat * 2 ^ 24 + b.toNat * 2 ^ 16 + c.toNat * 2 ^ 8 + d.toNat := by
      rw [show a.toNat * 2 ^ 24 + b.toNat * 2 ^ 16 + c.toNat * 2 ^ 8 = 2 ^ 8 * (a.toNat * 65536 + b.toNat * 256 + c.toNat) by omega, ← Nat.two_pow_add_eq_or_of_lt (by omega)]
    rw [e1, e2, e3]
    simp [unbe]
    omega
theorem conv_word (b : List UInt8) (h : b.length = 4) (w : World) : (convert 36 89 (.int .u64 (unbe b : Nat))).run Tryd.prog w = .ok (wc (wordL b)) w := by
  have hl := unbe_lt8 b 4 (by omega)
  have h2 : (256 : Nat) ^ 4 = 4294967296 := by decide
  rw [h2] at hl
  have hw : IntKind.u32.wrap ((unbe b : Nat) : Int) = (unbe b : Nat) := by rw [wrap_u32]; omega
  simp [convert, run_underlying Tryd.underlying36, run_underlying Tryd.underlying89, Conv.intToInt, hw, wc, wordL_unbe b h]
theorem rturn_same (x : UInt32) (n : Nat) (hn : n ∈ [2, 6, 7, 11, 13, 17, 18, 19, 22, 25]) (k : Int) (hk : k = n) (w : World) :
    Calls Tryd.prog 63 #[wc x, .int .u64 k] w fun e w' => e = .returned (wc (rotr x n)) ∧ w' = w := (rturn_ok x n hn k hk w).mono fun _ _ ⟨h1, h2⟩ => ⟨h1, h2.symm⟩
theorem rturn_quiet (x : UInt32) (n : Nat) (hn : n ∈ [2, 6, 7, 11, 13, 17, 18, 19, 22, 25]) (k : Int) (hk : k = n) (w : World) (m : Nat) :
    Calls Tryd.prog 63 #[wc x, .int .u64 k] (w.drewN m) fun e w' => e = .returned (wc (rotr x n)) ∧ ∃ m', w' = w.drewN m' := quiet_same (rturn_ok x n hn k hk (w.drewN m))
theorem rturn_quiet2 (x : UInt32) (n : Nat) (hn : n ∈ [2, 6, 7, 11, 13, 17, 18, 19, 22, 25]) (k : Int) (hk : k = n) (w : World) (a m : Nat) :
    Calls Tryd.prog 63 #[wc x, .int .u64 k] (w.drewN (a + m)) fun e w' => e = .returned (wc (rotr x n)) ∧ ∃ m', w' = w.drewN (a + m') :=
  (rturn_ok x n hn k hk (w.drewN (a + m))).mono fun _ _ ⟨h1, h2⟩ => ⟨h1, m, h2.symm⟩
theorem Tryd.infoA8 : (Tryd.prog.info? 90).map (fun i => (i.zero, i.size)) = some (some (.agg (wcs (List.replicate 8 0)).toArray), 8) := by kernel_rfl
theorem Tryd.sizeA8 : (Tryd.prog.info? 90).map (·.size) = some 8 := by kernel_rfl
theorem foldB_step (s : St) (M : List UInt8) (q : Nat) (h : 64 * (q + 1) ≤ M.length) : foldB s (M.take (64 * (q + 1))) = turnS (foldB s (M.take (64 * q))) ((M.drop (64 * q)).take 64) := by
  have e : M.take (64 * (q + 1)) = M.take (64 * q) ++ (M.drop (64 * q)).take 64 := by rw [show 64 * (q + 1) = 64 * q + 64 by omega, List.take_add]
  have hl : (M.take (64 * q)).length = 64 * q := by rw [List.length_take]; omega
  have hl2 : ((M.drop (64 * q)).take 64).length = 64 := by rw [List.length_take, List.length_drop]; omega
  rw [e, foldB_app q s _ _ hl, foldB_ge _ ((M.drop (64 * q)).take 64) (by omega), foldB_lt _ (((M.drop (64 * q)).take 64).drop 64) (by rw [List.length_drop]; omega), List.take_take, Nat.min_self]

set_option maxRecDepth 100000 in
set_option maxHeartbeats 4000000 in
theorem rsum_ok (A : Option Addr) (n c : Nat) (xs : List UInt8) (w : World) (R : List HP) (hh : Holds w R) (hr : Ent R fun w => RD w A xs) (hn : Hid (n = xs.length)) (hbd : n ≤ 140737488355200) :
    Calls Tryd.prog 34 #[.slice A n c] w fun e w' => e = .returned (.agg (bcs (shaL xs)).toArray) ∧ Holds w' R := by
  have h0 := hh.alloc 22 (bcs (zeros 32)).toArray
  have h1 := h0.alloc 90 (wcs begS.list).toArray
  rw [heap_size_alloc] at h1
  have H1 := Lib.hid h1; clear hh h0 h1
  have HQ := Lib.hid (show (Tryd.prog.info? 91).map (·.size) = some (wcs kList).toArray.size from Tryd.sizeA64)
  have H1B := Lib.hid (show ∀ v ∈ (wcs kList).toArray.toList, v.oneCell' = true from wcs_one)
  have HKS := Lib.hid (show (wcs kList).toArray.size = 64 from rfl)
  have hkg : ∀ i, i < 64 → (wcs kList).toArray[i]? = some (wc (kList.getD i 0)) := fun i hi => by simp [wcs, List.getD, show i < kList.length from hi]
  have HKG := Lib.hid hkg; clear hkg
  have hpl := padded_length xs
  go_enter Tryd.func34, Tryd.ntmps34
  go_wp2_with (first
    | (go_at_call 60; refine (rk256_ok _ _ H1.out).mono ?_; generalize (wcs kList).toArray = KA at HQ H1B HKS HKG ⊢; rintro e w1 ⟨rfl, hh1⟩; have HH1 := Lib.hid hh1; clear hh1)
    | ((with_reducible refine (?_ : wpList _ _ _ [_] _ _)); refine wpList_store_blk rfl 91 (.tmp 4) (.tmp 21) rfl w1.heap.size 0 KA rfl rfl 91 _ (Blk.new _ _ _) HQ.out (by rw [HKS.out]; exact Nat.le_refl _) H1B.out ?_; (
       intro w2 hb2 hk2
       rw [putA_all _ KA.toList (by rw [Array.length_toList, HKS.out]; rfl), Array.toArray_toList] at hb2
       have hh2 : Holds w2 (blk w1.heap.size 91 KA :: blk (w.heap.size + 1) 90 (wcs begS.list).toArray :: blk w.heap.size 22 (bcs (zeros 32)).toArray :: R) := (HH1.out.alloc 91 _).reblk hb2 hk2
       have hh3 := (hh2.alloc 5 #[]).own_of_cells (xs := []) (n := 0) (cap := 0) rfl (Nat.le_refl _) (by decide) rfl rfl
       obtain ⟨g, hrb⟩ := hr _ hh3.tail.tail.tail.tail
       have HH3 := Lib.hid hh3; have HRB := Lib.hid hrb
       clear hb2 hk2 hh2 hh3 hrb))
    | (at_builtin
       refine wpList_app_b _ rfl (.tmp 22) (.tmp 23) 23 rfl Tryd.underlying23 Tryd.infoByte _ _ HH3.out.ob rfl g A xs n c hn.out rfl HRB.out (by simp; rw [← hn.out]; omega) ?_
       intro v3 w3 ho3 hk3 hp3
       have HH4 := Lib.hid (HH3.out.app ho3 hk3 hp3)
       clear ho3 hk3 hp3)
    | (at_builtin
       refine wpList_app_b _ rfl (.tmp 24) (.tmp 25) 23 rfl Tryd.underlying23 Tryd.infoByte _ _ (HH4.out.ob.alloc _) rfl w3.heap.size _ [128] 1 1 rfl rfl (RB.of_byte rfl) (by simp; rw [← hn.out]; omega) ?_
       intro v4 w4 ho4 hk4 hp4
       have HH5 := Lib.hid ((HH4.out.alloc_ _).app ho4 hk4 hp4)
       clear ho4 hk4 hp4))
  obtain ⟨z, hz⟩ : ∃ z : Nat, z = (119 - xs.length % 64) % 64 := ⟨_, rfl⟩
  have hz63 : z ≤ 63 := by omega
  have HZ := Lib.hid hz; clear hz
  go_loopw [5] (fun v wr => ∃ i : Nat, i ≤ z ∧ Holds wr (own v (xs ++ 128 :: List.replicate i 0) :: blk w1.heap.size 91 KA :: blk (w.heap.size + 1) 90 (wcs begS.list).toArray :: blk w.heap.size 22 (bcs (zeros 32)).toArray :: R)) (fun v _ => match v with | .slice _ n _ => xs.length + 66 - n | _ => 0)
  case atStart => exact ⟨0, by omega, by simpa using HH5.out⟩
  case round =>
    obtain ⟨i, hi, hb⟩ := hrel
    obtain ⟨A2, n2, c2, rfl, hn2, hc2, -⟩ := hb.own_form
    have hn2' : n2 = n + 1 + i := by rw [hn2.out, hn.out]; simp; omega
    have hn2b : n2 ≤ 140737488355300 := by omega
    by_cases hlt : i < z
    · have hne : ((n2 : Int) % 64 != 56) = true := by
        have := HZ.out
        have := hn.out
        simp only [bne_iff_ne, ne_eq]
        omega
      have HN2 := Lib.hid hn2'; have HB := Lib.hid hb; clear hn2' hb
      go_wp2_with (at_builtin
                   refine wpList_app_b _ rfl (.tmp 31) (.tmp 32) 23 rfl Tryd.underlying23 Tryd.infoByte _ _ (HB.out.ob.alloc _) rfl wr.heap.size _ [0] 1 1 rfl rfl (RB.of_byte rfl) (by rw [← hn2.out]; simp; omega) ?_
                   intro v3 w3' ho3 hk3 hp3
                   have HA := Lib.hid ((HB.out.alloc_ _).app ho3 hk3 hp3)
                   obtain ⟨A3, n3, c3, rfl, hn3, hc3, -⟩ := HA.out.own_form
                   clear ho3 hk3 hp3)
      go_roundw
      case rel => exact ⟨i + 1, by omega, by rw [List.replicate_succ', ← List.cons_append, ← List.append_assoc]; exact HA.out⟩
      case measure => have h1 := hn3.out; have h2 := hn2.out; have h3 := HN2.out; have h4 := hn.out; simp at h1 h2 ⊢; omega
    · obtain rfl : i = z := by omega
      have hne : ((n2 : Int) % 64 != 56) = false := by
        have := HZ.out
        have := hn.out
        simp only [bne_eq_false_iff_eq]
        omega
      have hn64 : IntKind.u64.wrap ((n : Int) * 8) = ((n * 8 : Nat) : Int) := by
        simp [IntKind.wrap, IntKind.signed, IntKind.bits]; omega
      have hnum := rnumb_ok (n * 8) 8 (by omega) wr _ hb
      have HNUM := Lib.hid hnum
      have HB := Lib.hid hb; clear hb hnum hn2'
      go_wp2_with (first
        | (go_at_call 61; refine HNUM.out.mono ?_; rintro e w3 ⟨v3, rfl, hh3⟩
           obtain ⟨A3, n3, c3, rfl, hn3, hc3, g3, hr3⟩ := hh3.own_form
           have HH6 := Lib.hid (hh3.pull 1 rfl); have HR3 := Lib.hid hr3; clear hh3 hr3)
        | (at_builtin
           refine wpList_app_b _ rfl (.tmp 34) (.tmp 39) 23 rfl Tryd.underlying23 Tryd.infoByte _ _ HH6.out.ob rfl g3 A3 (beL (n * 8) 8) n3 c3 hn3.out rfl HR3.out (by rw [← hn2.out, length_beL]; omega) ?_
           intro v5 w5 ho5 hk5 hp5
           have HH7 := Lib.hid (HH6.out.app ho5 hk5 hp5)
           clear ho5 hk5 hp5))
      have hM : (xs ++ 128 :: List.replicate i 0) ++ beL (n * 8) 8 = xs ++ padB xs.length := by
        rw [← padB_eq, ← HZ.out, hn.out, List.append_assoc]
      have hh8 : Holds w5 (own v5 (xs ++ padB xs.length) :: blk w1.heap.size 91 KA :: blk (w.heap.size + 1) 90 (wcs begS.list).toArray :: blk w.heap.size 22 (bcs (zeros 32)).toArray :: R) := by
        rw [← hM]; exact HH7.out.drop 1 rfl
      have hMn : (xs ++ padB xs.length).length ≤ 140737488355300 := by simp [padB]; have := hn.out; omega
      obtain ⟨m, hm⟩ : ∃ m, (xs ++ padB xs.length).length = 64 * m := ⟨(xs ++ padB xs.length).length / 64, by omega⟩
      have hsl : shaL xs = outS (foldB begS (xs ++ padB xs.length)) := rfl
      generalize xs ++ padB xs.length = M at hh8 hMn hm hsl
      obtain ⟨A5, n5, c5, rfl, hn5, hc5, -⟩ := hh8.own_form
      have hc5n : n5 ≤ 140737488355300 := by rw [hn5.out]; exact hMn
      have HH8 := Lib.hid ((hh8.pull 2 rfl)); have HM := Lib.hid hm; have HSL := Lib.hid hsl
      clear hh8 hMn hm hsl hM hpl HNUM HB HH7 HH6 HR3 hne
      go_loopw [6] (fun v wr => ∃ q a : Nat, q ≤ m ∧ Hid (a = 64 * q) ∧ v = .int .i64 a ∧ Holds wr (blk (w.heap.size + 1) 90 (wcs (foldB begS (M.take (64 * q))).list).toArray :: own (.slice A5 n5 c5) M :: blk w1.heap.size 91 KA :: blk w.heap.size 22 (bcs (zeros 32)).toArray :: R)) (fun v _ => n5 - (intOf v).toNat)
      case atStart => exact ⟨0, 0, by omega, rfl, rfl, by rw [Nat.mul_zero, List.take_zero, foldB_lt _ _ (by simp)]; exact HH8.out⟩
      case round =>
        obtain ⟨q, a, hq, haq, rfl, hb⟩ := hrel
        by_cases hlq : q < m
        · have han : a + 64 ≤ n5 := by have := HM.out; have := hn5.out; have := haq.out; omega
          have hbl : ((M.drop (64 * q)).take 64).length = 64 := by rw [List.length_take, List.length_drop, HM.out]; omega
          have hfs := foldB_step begS M q (by rw [HM.out]; omega)
          obtain ⟨g5, hr5⟩ := hb.tail.own_rd
          obtain ⟨o5, rfl, -⟩ := hr5 (by intro e; have := hn5.out; rw [e] at this; simp at this; omega)
          generalize foldB begS (M.take (64 * q)) = st at hb hfs
          have hsub : ∀ i, i < 16 → ∀ w', Holds w' (own (.slice (some ⟨g5, o5, none⟩) n5 c5) M :: blk w1.heap.size 91 KA :: blk w.heap.size 22 (bcs (zeros 32)).toArray :: R) → RD w' (some ⟨g5, o5 + (a + 4 * i), none⟩) ((((M.drop (64 * q)).take 64).drop (4 * i)).take 4) := by
            intro i hi w' hw'
            have h1 := hw'.own_rd.drop (k := a + 4 * i) (c := c5) (by rw [← hn5.out]; omega) (by rw [← hn5.out]; exact hc5)
            rw [if_neg (by omega), Option.map_some, add_plain] at h1
            have h2 := h1.take 4
            rw [List.drop_take, List.take_take, List.drop_drop, ← haq.out, Nat.min_eq_left (by omega)]
            exact h2
          generalize (M.drop (64 * q)).take 64 = bq at hbl hfs hsub
          have HB := Lib.hid hb; have HBL := Lib.hid hbl; have HFS := Lib.hid hfs; have HSUB := Lib.hid hsub
          clear hb hbl hfs hsub hr5
          have hdq : decide (a < n5) = true := decide_eq_true (by omega)
          have HW0 := Lib.hid (show Holds (wr.alloc (.cells (wcs (List.replicate 64 0)).toArray 91)) (blk wr.heap.size 91 (schedA bq 0) :: blk (w.heap.size + 1) 90 (wcs st.list).toArray :: own (.slice (some ⟨g5, o5, none⟩) n5 c5) M :: blk w1.heap.size 91 KA :: blk w.heap.size 22 (bcs (zeros 32)).toArray :: R) from HB.out.alloc 91 (schedA bq 0))
          obtain ⟨wo, rfl⟩ : ∃ wo : World, wo = wr := ⟨_, rfl⟩
          go_wp2
          go_loopw [47] (fun v wr => ∃ i : Nat, i ≤ 64 ∧ v = .int .i64 i ∧ Holds wr (blk wo.heap.size 91 (schedA bq i) :: blk (w.heap.size + 1) 90 (wcs st.list).toArray :: own (.slice (some ⟨g5, o5, none⟩) n5 c5) M :: blk w1.heap.size 91 KA :: blk w.heap.size 22 (bcs (zeros 32)).toArray :: R)) (fun v _ => 64 - (intOf v).toNat)
          case atStart => exact ⟨0, by omega, rfl, HW0.out⟩
          case round =>
            obtain ⟨i, hi, rfl, hbi⟩ := hrel
            by_cases hli : i < 64
            · have cj : _ = some (wc 0) := (hbi.cells i).trans (schedA_get0 bq i hli)
              have fj := hbi.free i
              have i12 : (0 : Int) ≤ (i : Int) := by omega
              have i11 : (i : Int) < 64 := by omega
              by_cases h16 : i < 16
              · have hrd := HSUB.out i h16 _ hbi.tail.tail
                have hl4 : ((bq.drop (4 * i)).take 4).length = 4 := by rw [List.length_take, List.length_drop, HBL.out]; omega
                have hcv := conv_word ((bq.drop (4 * i)).take 4) hl4
                have hwe : wordL ((bq.drop (4 * i)).take 4) = wordL (bq.drop (4 * i)) := by
                  unfold wordL
                  simp [List.getD]
                have HNX := Lib.hid (show nextW bq (schedN bq i) = wordL ((bq.drop (4 * i)).take 4) by unfold nextW; rw [length_schedN, if_pos h16, hwe])
                generalize (bq.drop (4 * i)).take 4 = b4 at hrd hl4 hcv HNX
                have hof := fun w => rof_ok (some ⟨g5, o5 + (a + 4 * i), none⟩) 4 (c5 - (a + 4 * i)) b4 w
                have HRD := Lib.hid hrd; have HL4 := Lib.hid hl4.symm; have HBI := Lib.hid hbi; have HOF := Lib.hid hof
                clear hrd hl4 hbi hwe hof
                have k1 : (a : Int) + 4 * (i : Int) + 4 ≤ (n5 : Int) := by omega
                have k2 : (a : Int) + 4 * (i : Int) + 4 ≤ (c5 : Int) := by omega
                go_wp2_with (go_at_call 62; (with_reducible refine (HOF.out _ HRD.out HL4 (by omega)).mono ?_); rintro e w' ⟨rfl, rfl⟩)
                go_simp
                go_wp2
                go_roundw
                case rel =>
                  refine ⟨i + 1, by omega, by go_num, ?_⟩
                  have h2 := HBI.out.set_ i (wc (nextW bq (schedN bq i)))
                  rw [schedA_set bq i hli, HNX.out] at h2
                  exact h2
                case measure => simp [intOf]; omega
              · have c16 := (hbi.cells (i - 16)).trans (schedA_get bq i (i - 16) (by omega) (by omega))
                have c15 := (hbi.cells (i - 15)).trans (schedA_get bq i (i - 15) (by omega) (by omega))
                have c7 := (hbi.cells (i - 7)).trans (schedA_get bq i (i - 7) (by omega) (by omega))
                have c2 := (hbi.cells (i - 2)).trans (schedA_get bq i (i - 2) (by omega) (by omega))
                have HNX := Lib.hid (show nextW bq (schedN bq i) = _ by unfold nextW; rw [length_schedN, if_neg h16])
                generalize (schedN bq i).getD (i - 16) 0 = x16 at c16 HNX
                generalize (schedN bq i).getD (i - 15) 0 = x15 at c15 HNX
                generalize (schedN bq i).getD (i - 7) 0 = x7 at c7 HNX
                generalize (schedN bq i).getD (i - 2) 0 = x2 at c2 HNX
                have HBI := Lib.hid hbi; clear hbi
                have i1 : (0 : Int) ≤ (i : Int) - 15 := by omega
                have i2 : (0 : Int) ≤ (i : Int) - 2 := by omega
                go_wp2
                go_quiet (fail)
                rename_i nq
                have i3 : (0 : Int) ≤ (i : Int) - 16 := by omega
                have i4 : (0 : Int) ≤ (i : Int) - 7 := by omega
                have i5 : ((i : Int) - 16).toNat = i - 16 := by omega
                have i6 : ((i : Int) - 7).toNat = i - 7 := by omega
                have i7 : IntKind.i64.wrap ((i : Int) - 16) = (i : Int) - 16 := IntWalk.i64_in _ (by omega)
                have i8 : IntKind.i64.wrap ((i : Int) - 7) = (i : Int) - 7 := IntWalk.i64_in _ (by omega)
                have i9 : (i : Int) - 16 < 64 := by omega
                have i10 : (i : Int) - 7 < 64 := by omega
                have i13 : (16 : Int) ≤ (i : Int) := by omega
                have i14 : (7 : Int) ≤ (i : Int) := by omega
                have C7 := Lib.hid (show ∀ w, Calls Tryd.prog 63 #[wc x15, .int .u64 7] w fun e w' => e = .returned (wc (rotr x15 7)) ∧ w' = w from fun w => rturn_same x15 7 (by decide) 7 rfl w)
                have C18 := Lib.hid (show ∀ w, Calls Tryd.prog 63 #[wc x15, .int .u64 18] w fun e w' => e = .returned (wc (rotr x15 18)) ∧ w' = w from fun w => rturn_same x15 18 (by decide) 18 rfl w)
                have C17 := Lib.hid (show ∀ w, Calls Tryd.prog 63 #[wc x2, .int .u64 17] w fun e w' => e = .returned (wc (rotr x2 17)) ∧ w' = w from fun w => rturn_same x2 17 (by decide) 17 rfl w)
                have C19 := Lib.hid (show ∀ w, Calls Tryd.prog 63 #[wc x2, .int .u64 19] w fun e w' => e = .returned (wc (rotr x2 19)) ∧ w' = w from fun w => rturn_same x2 19 (by decide) 19 rfl w)
                go_wp2
                refine wp_region_still_tail 29 (by kernel_rfl) (by kernel_rfl) ?_
                change wpStill _ _ (World.drew _) _ _ _
                simp only [List.take_succ_cons, List.take_zero, List.drop_succ_cons, List.drop_zero]
                repeat (first
                  | still_step
                  | (refine wpStill_step (fun K hK => ?_)
                     go_simp
                     (first | with_reducible refine ⟨_, C7.out _, hK _ ?_⟩ | with_reducible refine ⟨_, C18.out _, hK _ ?_⟩ | with_reducible refine ⟨_, C17.out _, hK _ ?_⟩ | with_reducible refine ⟨_, C19.out _, hK _ ?_⟩)
                     clear hK K))
                refine wpStill_nil ?_
                change wpList _ _ _ _ _ (World.drew _)
                (try simp only [World.drew_drewN])
                refine wpList_store_one rfl 89 (.tmp 103) (.tmp 102) rfl wo.heap.size i _ rfl rfl rfl (by kernel_rfl) (wc 0) cj fj ?_
                go_wp2
                go_roundw
                case rel =>
                  refine ⟨i + 1, by omega, by go_num, ?_⟩
                  have h2 := (HBI.out.drewN (nq + 1)).set_ i (wc (nextW bq (schedN bq i)))
                  rw [schedA_set bq i hli, HNX.out] at h2
                  exact h2
                case measure => simp [intOf]; omega
            · obtain rfl : i = 64 := by omega
              rw [show ((64 : Nat) : Int) = 64 from rfl]
              have hgw := fun j (hj : j < 64) => schedA_get bq 64 j hj (by omega)
              have hst8 : (wcs st.list).toArray.size = 8 := rfl
              have hst1 : ∀ v ∈ (wcs st.list).toArray.toList, v.oneCell' = true := wcs_one
              generalize schedA bq 64 = F at hbi hgw
              have hsq : (Tryd.prog.info? 90).map (·.size) = some (wcs st.list).toArray.size := Tryd.sizeA8
              have hbh : wr.heap[w.heap.size + 1]? = some (.cells (wcs st.list).toArray 90 (0, 0)) := hbi.tail.blk
              have HBI := Lib.hid hbi; have HGW := Lib.hid hgw; have HST8 := Lib.hid hst8; have HST1 := Lib.hid hst1; have HSQ := Lib.hid hsq; have HBH := Lib.hid hbh
              clear hbi hli hgw hst8 hst1 hsq hbh HW0 HB HSUB
              obtain ⟨wi, rfl⟩ : ∃ wi : World, wi = wr := ⟨_, rfl⟩
              go_wp2_with (first
                | (with_reducible refine wpList_load_row rfl 90 (.tmp 3) rfl (w.heap.size + 1) rfl 90 (wcs st.list).toArray (0, 0) _ HBH.out Tryd.underlying90 rfl HSQ.out ?_)
                | ((with_reducible refine (?_ : wpList _ _ _ [_] _ _)); refine wpList_store_blk rfl 90 (.tmp 11) (.tmp 105) rfl wi.heap.size 0 (wcs st.list).toArray rfl rfl 90 _ (Blk.new _ _ _) HSQ.out (by rw [HST8.out]; exact Nat.le_refl _) HST1.out ?_; (
                   intro w6 hb6 hk6
                   rw [putA_all _ _ (by rfl)] at hb6
                   have hh6 : Holds w6 (blk wi.heap.size 90 (wcs st.list).toArray :: blk wo.heap.size 91 F :: blk (w.heap.size + 1) 90 (wcs st.list).toArray :: own (.slice (some ⟨g5, o5, none⟩) n5 c5) M :: blk w1.heap.size 91 KA :: blk w.heap.size 22 (bcs (zeros 32)).toArray :: R) := (HBI.out.alloc 90 _).reblk hb6 hk6
                   have HH6 := Lib.hid hh6
                   clear hb6 hk6 hh6)))
              go_loopw [106] (fun v wr => ∃ (j : Nat) (u : St), j ≤ 64 ∧ v = .int .i64 j ∧ Hid (u = roundsN bq st j) ∧ Holds wr (blk wi.heap.size 90 (wcs u.list).toArray :: blk wo.heap.size 91 F :: blk (w.heap.size + 1) 90 (wcs st.list).toArray :: own (.slice (some ⟨g5, o5, none⟩) n5 c5) M :: blk w1.heap.size 91 KA :: blk w.heap.size 22 (bcs (zeros 32)).toArray :: R)) (fun v _ => 64 - (intOf v).toNat)
              case atStart => exact ⟨0, st, by omega, rfl, rfl, HH6.out⟩
              case round =>
                obtain ⟨j, u, hj, rfl, hu, hbu⟩ := hrel
                by_cases hlj : j < 64
                · have s0 : wr.cell? ⟨wi.heap.size, 0, none⟩ = some (wc u.a) := hbu.cells 0
                  have s1 : wr.cell? ⟨wi.heap.size, 1, none⟩ = some (wc u.c) := hbu.cells 1
                  have s2 : wr.cell? ⟨wi.heap.size, 2, none⟩ = some (wc u.d) := hbu.cells 2
                  have s3 : wr.cell? ⟨wi.heap.size, 3, none⟩ = some (wc u.e) := hbu.cells 3
                  have s4 : wr.cell? ⟨wi.heap.size, 4, none⟩ = some (wc u.f) := hbu.cells 4
                  have s5 : wr.cell? ⟨wi.heap.size, 5, none⟩ = some (wc u.g) := hbu.cells 5
                  have s6 : wr.cell? ⟨wi.heap.size, 6, none⟩ = some (wc u.h) := hbu.cells 6
                  have s7 : wr.cell? ⟨wi.heap.size, 7, none⟩ = some (wc u.k) := hbu.cells 7
                  have cw := (hbu.tail.cells j).trans (HGW.out j hlj)
                  have ck := (hbu.tail.tail.tail.tail.cells j).trans (HKG.out j hlj)
                  have HN := Lib.hid (show roundsN bq st (j + 1) = roundS (roundsN bq st j) (kList.getD j 0) ((schedN bq 64).getD j 0) from rfl)
                  rw [← hu.out] at HN
                  generalize kList.getD j 0 = kk at ck HN
                  generalize (schedN bq 64).getD j 0 = ww at cw HN
                  have HBU := Lib.hid hbu; clear hbu
                  have i1 : (0 : Int) ≤ (j : Int) := by omega
                  have i2 : (j : Int) < 64 := by omega
                  have Q6 := Lib.hid (rturn_quiet2 u.f 6 (by decide) 6 rfl wr)
                  have Q11 := Lib.hid (rturn_quiet2 u.f 11 (by decide) 11 rfl wr)
                  have Q25 := Lib.hid (rturn_quiet2 u.f 25 (by decide) 25 rfl wr)
                  have Q2 := Lib.hid (rturn_quiet2 u.a 2 (by decide) 2 rfl wr)
                  have Q13 := Lib.hid (rturn_quiet2 u.a 13 (by decide) 13 rfl wr)
                  have Q22 := Lib.hid (rturn_quiet2 u.a 22 (by decide) 22 rfl wr)
                  go_wp2
                  go_quiet (fail)
                  go_wp2
                  go_quiet (first | (go_at_call 63; with_reducible exact Q6.out _ _) | (go_at_call 63; with_reducible exact Q11.out _ _) | (go_at_call 63; with_reducible exact Q25.out _ _))
                  go_wp2
                  go_quiet (first | (go_at_call 63; with_reducible exact Q2.out _ _) | (go_at_call 63; with_reducible exact Q13.out _ _) | (go_at_call 63; with_reducible exact Q22.out _ _))
                  have HSQ2 := Lib.hid (show (Tryd.prog.info? 90).map (·.size) = some (wcs (roundS u kk ww).list).toArray.size from Tryd.sizeA8)
                  have HFT := Lib.hid (show 0 + (wcs (roundS u kk ww).list).toArray.size ≤ (wcs u.list).toArray.size from Nat.le_refl 8)
                  have HO1 := Lib.hid (show ∀ v ∈ (wcs (roundS u kk ww).list).toArray.toList, v.oneCell' = true from wcs_one)
                  go_wp2_with ((with_reducible refine (?_ : wpList _ _ _ [_] _ _)); refine wpList_store_blk rfl 90 (.tmp 11) (.tmp 186) rfl wi.heap.size 0 (wcs (roundS u kk ww).list).toArray rfl rfl 90 (wcs u.list).toArray (HBU.out.blk.drewN _) HSQ2.out HFT.out HO1.out ?_; (
                     intro w7 hb7 hk7
                     rw [putA_all _ _ (by rfl)] at hb7
                     have hh7 := (HBU.out.drewN _).reblk hb7 hk7
                     have HH7 := Lib.hid hh7
                     clear hb7 hk7 hh7))
                  go_roundw
                  case rel => exact ⟨j + 1, _, by omega, by go_num, HN.out.symm, HH7.out⟩
                  case measure => simp [intOf]; omega
                · obtain rfl : j = 64 := by omega
                  rw [show ((64 : Nat) : Int) = 64 from rfl]
                  have HBU := Lib.hid (hbu.pull 2 rfl); clear hbu hlj
                  have HU := Lib.hid (show turnS st bq = addS st u by rw [hu.out]; rfl)
                  go_wp2
                  go_loopw [188] (fun v wr => ∃ j : Nat, j ≤ 8 ∧ v = .int .i64 j ∧ Holds wr (blk (w.heap.size + 1) 90 (wcs (mixL st u j)).toArray :: blk wi.heap.size 90 (wcs u.list).toArray :: blk wo.heap.size 91 F :: own (.slice (some ⟨g5, o5, none⟩) n5 c5) M :: blk w1.heap.size 91 KA :: blk w.heap.size 22 (bcs (zeros 32)).toArray :: R)) (fun v _ => 8 - (intOf v).toNat)
                  case atStart => exact ⟨0, by omega, rfl, HBU.out⟩
                  case round =>
                    obtain ⟨j, hj, rfl, hbm⟩ := hrel
                    by_cases hlj : j < 8
                    · have cj : wr.cell? ⟨w.heap.size + 1, j, none⟩ = some (wc (st.list.getD j 0)) := (hbm.cells j).trans (by rw [List.getElem?_toArray, wcs_get, ← mixL_get st u j hlj]; simp [List.getD, mixL_len st u j hj, hlj])
                      have cu : wr.cell? ⟨wi.heap.size, j, none⟩ = some (wc (u.list.getD j 0)) := (hbm.tail.cells j).trans (by rw [List.getElem?_toArray, wcs_get]; simp [List.getD, show j < u.list.length from hlj])
                      have fj := hbm.free j
                      have HMX := Lib.hid (mixL_step st u j hlj)
                      generalize st.list.getD j 0 = x at cj HMX
                      generalize u.list.getD j 0 = y at cu HMX
                      have HBM := Lib.hid hbm; clear hbm
                      have i1 : (0 : Int) ≤ (j : Int) := by omega
                      have i2 : (j : Int) < 8 := by omega
                      go_wp2
                      refine wp_region_still_tail 9 (by kernel_rfl) (by kernel_rfl) ?_
                      change wpStill _ _ (World.drew _) _ _ _
                      simp only [List.take_succ_cons, List.take_zero, List.drop_succ_cons, List.drop_zero]
                      repeat still_step
                      refine wpStill_nil ?_
                      change wpList _ _ _ _ _ (World.drew _)
                      (try simp only [World.drew_drewN])
                      refine wpList_store_one rfl 89 (.tmp 199) (.tmp 198) rfl (w.heap.size + 1) j _ rfl rfl rfl (by kernel_rfl) _ cj fj ?_
                      go_wp2
                      go_roundw
                      case rel =>
                        refine ⟨j + 1, by omega, by go_num, ?_⟩
                        have h2 := HBM.out.drew.set_ j (wc (x + y))
                        rw [List.setIfInBounds_toArray, show (wcs (mixL st u j)).set j (wc (x + y)) = wcs ((mixL st u j).set j (x + y)) by simp [wcs, List.map_set], HMX.out] at h2
                        exact h2
                      case measure => simp [intOf]; omega
                    · obtain rfl : j = 8 := by omega
                      have hfin := hbm.drop 1 rfl |>.drop 1 rfl
                      have HFIN := Lib.hid hfin; clear hbm hfin hlj
                      go_wp2
                      go_roundw
                      case rel => exact ⟨q + 1, a + 64, by omega, by unfold Hid; have := haq.out; omega, by go_num, by rw [HFS.out, HU.out]; exact HFIN.out⟩
                      case measure => simp [intOf]; omega
        · obtain rfl : q = m := by omega
          rw [List.take_of_length_le (by rw [HM.out]; omega)] at hb
          have HB := Lib.hid hb
          have han : ¬ a < n5 := by have := HM.out; have := hn5.out; have := haq.out; omega
          clear hb hlq
          have hgx := fun i j => outS_get (foldB begS M) i j
          have hL32 := length_outS (foldB begS M)
          rw [← HSL.out] at hgx hL32
          have hlen8 : (foldB begS M).list.length = 8 := rfl
          generalize (foldB begS M).list = sl at HB hgx hlen8
          generalize hLo : shaL xs = Lo at hgx hL32
          have HLO := Lib.hid hLo; clear hLo
          have HW := Lib.hid (show Holds (wr.alloc (.cells (bcs (zeros 32)).toArray 22)) (blk wr.heap.size 22 (outA Lo 0) :: blk (w.heap.size + 1) 90 (wcs sl).toArray :: own (.slice A5 n5 c5) M :: blk w1.heap.size 91 KA :: blk w.heap.size 22 (bcs (zeros 32)).toArray :: R) by rw [outA_zero]; exact HB.out.alloc 22 _)
          have HGX := Lib.hid hgx; have HL32 := Lib.hid hL32; have HL8 := Lib.hid hlen8
          clear hgx hL32 hlen8
          obtain ⟨wo, rfl⟩ : ∃ wo : World, wo = wr := ⟨_, rfl⟩
          go_wp2
          go_loopw [201] (fun v wr => ∃ j : Nat, j ≤ 32 ∧ v = .int .i64 j ∧ Holds wr (blk wo.heap.size 22 (outA Lo j) :: blk (w.heap.size + 1) 90 (wcs sl).toArray :: own (.slice A5 n5 c5) M :: blk w1.heap.size 91 KA :: blk w.heap.size 22 (bcs (zeros 32)).toArray :: R)) (fun v _ => 32 - (intOf v).toNat)
          case atStart => exact ⟨0, by omega, rfl, HW.out⟩
          case round =>
            obtain ⟨j, hj, rfl, hbo⟩ := hrel
            by_cases hlj : j < 32
            · have cj := (hbo.cells j).trans (outA_get Lo j HL32.out hlj)
              have fj := hbo.free j
              have ch : wr.cell? ⟨w.heap.size + 1, j / 4, none⟩ = some (wc (sl.getD (j / 4) 0)) := (hbo.tail.cells (j / 4)).trans (by rw [List.getElem?_toArray, wcs_get]; simp [List.getD, HL8.out, show j / 4 < 8 by omega])
              have hst := hbo.set_ j (bc (Lo.getD j 0))
              have hgj := HGX.out (j / 4) (j % 4) (by omega) (by omega)
              rw [show 4 * (j / 4) + j % 4 = j by omega] at hgj
              rw [outA_set Lo j HL32.out hlj, hgj] at hst
              generalize sl.getD (j / 4) 0 = x at ch hst
              have HST := Lib.hid hst; clear hst hbo hgj
              have k0 : (0 : Int) ≤ (j : Int) := by omega
              have k1 : (0 : Int) ≤ 24 - 8 * ((j : Int) % 4) := by omega
              have k2 : 8 * ((j : Int) % 4) ≤ 24 := by omega
              have k3 : (24 : Int) - 8 * ((j : Int) % 4) < 32 := by omega
              have k4 : ((24 : Int) - 8 * ((j : Int) % 4)).toNat = 24 - 8 * (j % 4) := by omega
              have k5 : (0 : Int) ≤ (j : Int) / 4 := by omega
              have k6 : (j : Int) / 4 < 8 := by omega
              go_wp2
              go_simp
              go_wp2
              go_roundw
              case rel => exact ⟨j + 1, by omega, by go_num, HST.out⟩
              case measure => simp [intOf]; omega
            · obtain rfl : j = 32 := by omega
              rw [outA_all Lo HL32.out] at hbo
              have hsz : (Tryd.prog.info? 22).map (·.size) = some (bcs Lo).toArray.size := by rw [Tryd.sizeHash]; simp [HL32.out]
              have HSZ := Lib.hid hsz; have HBO := Lib.hid hbo; have HBL := Lib.hid (hbo.pull 4 rfl).blk; have HPU := Lib.hid (hbo.pull 4 rfl)
              have HSZ2 := Lib.hid (show (Tryd.prog.info? 22).map (·.size) = some (bcs Lo).length by rw [Tryd.sizeHash]; simp [HL32.out])
              have HPA := Lib.hid (show putA (bcs (zeros 32)).toArray 0 (bcs Lo).toArray.toList = (bcs Lo).toArray from putA_all _ _ (by simp [HL32.out]))
              have HZL := Lib.hid (show 0 + (bcs Lo).toArray.size ≤ (bcs (zeros 32)).toArray.size by simp [HL32.out]); have H1C := Lib.hid (show ∀ v ∈ (bcs Lo).toArray.toList, v.oneCell' = true from bcs_one)
              clear hbo hsz hlj
              go_wp2_with (first
                | (with_reducible refine wpList_load_mid rfl 22 (.tmp 18) rfl wo.heap.size 0 rfl (bcs Lo) _ HBO.out.blk.range Tryd.underlying22 rfl HSZ2.out ?_)
                | (with_reducible refine wpList_store_blk rfl 22 (.tmp 2) (.tmp 217) rfl w.heap.size 0 (bcs Lo).toArray rfl rfl 22 (bcs (zeros 32)).toArray HBL.out HSZ.out HZL.out H1C.out ?_
                   (
                   intro w9 hb9 hk9
                   rw [HPA.out] at hb9
                   have hh9 := HPU.out.reblk hb9 hk9
                   have hcc : w9.heap[w.heap.size]? = some (.cells (bcs Lo).toArray 22 (0, 0)) := hb9
                   have HH9 := Lib.hid hh9; have HCC := Lib.hid hcc
                   clear hb9 hk9 hh9 hcc)))
              refine bodyPost_ret (results_cell_row rfl _ _ w.heap.size 22 (bcs Lo).toArray (0, 0) _ rfl HCC.out Tryd.underlying22 rfl HSZ.out) rfl ?_
              exact ⟨by rw [HLO.out], HH9.out.tail.tail.tail.tail.tail⟩
end Go.Proofs.YtibkngjacdggpaaDoor
