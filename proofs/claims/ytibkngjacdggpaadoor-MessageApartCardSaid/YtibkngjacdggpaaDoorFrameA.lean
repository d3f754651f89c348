import Derived.Test.YtibkngjacdggpaaDoorShaOf
import Derived.Test.YtibkngjacdggpaaDoorSl
import Derived.Test.YtibkngjacdggpaaDoorFramePure
import Derived.Lib.AppendZeros
import Derived.Test.YtibkngjacdggpaaDoorSlPack
/- slices' functions over bytes, and the sum of a frame. -/
namespace Go.Proofs.YtibkngjacdggpaaDoor
open Go.RowKit HP

/-- a block's first bytes are read -/
theorem Holds.rb_of_blk {w : World} {R : List HP} {g : Nat} {t : TypeId} {cs : Array Value} {xs : List UInt8} (h : Holds w (HP.blk g t cs :: R)) (hx : cs.toList.take xs.length = bcs xs) : Holds w (HP.rb (some ⟨g, 0, none⟩) xs :: R) := h.turn fun S hS => by
  refine ⟨fun k => k = g ∧ xs ≠ [], ⟨g, fun _ => ⟨0, rfl, fun j hj => ?_⟩, fun _ => Iff.rfl⟩, fun k hk => (hS.2 k).2 hk.1⟩
  rw [hS.1.cell, Nat.zero_add, ← Array.getElem?_toList]
  have h1 : (cs.toList.take xs.length)[j]? = cs.toList[j]? := by rw [List.getElem?_take, if_pos hj]
  rw [← h1, hx, bcs_get]
  simp [List.getD, hj]
set_option maxRecDepth 100000 in
theorem grow_ok (k : Nat) (hk : k ≤ 140737488355328) (w : World) (R : List HP) (hh : Holds w R) :
    Calls Tryd.prog 101 #[.slice none 0 0, .int .i64 k] w fun e w' => ∃ v, e = .returned v ∧ Holds w' (own v [] :: R) := by
  rcases Nat.eq_zero_or_pos k with rfl | hpos
  · have HH := Lib.hid hh.nil_own; clear hh
    go_enter Tryd.func101, Tryd.ntmps101
    go_wp2
    go_returns
    exact ⟨_, rfl, HH.out⟩
  · obtain ⟨ib, hib, hz0, hz1, hz2⟩ := info_parts Tryd.infoByte
    have hap := Lib.run_append_nil_zeros (P := Tryd.prog) w 23 3 23 5 ib _ .i64 .i64 Tryd.underlying23 (by kernel_rfl) hib hz0 k hpos (by rw [hz1]; decide) (by omega) (by rw [hz2]; omega)
    have hge := grownCap_ge w k 0 5
    have hle := grownCap_le_maxLen w k 0 5 (by simp only [maxLen]; omega)
    generalize grownCap w k 0 5 = cap at hap hge hle
    have hcs : (Builtin.zeroCells (Value.int .u8 0).cells k ++ Builtin.zeroCells (Value.int .u8 0).cells (cap - k)).size = cap := by
      simp [size_zeroCells, Value.cells]; omega
    generalize Builtin.zeroCells (Value.int .u8 0).cells k ++ Builtin.zeroCells (Value.int .u8 0).cells (cap - k) = cs at hap hcs
    have hh2 := (hh.drew.alloc 5 cs).own_of_cells (xs := []) (n := 0) (cap := cap) rfl (Nat.zero_le _) hle hcs (by simp [bcs])
    have HH := Lib.hid hh2
    have HAP := Lib.hid hap
    clear hh hh2 hap
    go_enter Tryd.func101, Tryd.ntmps101
    go_wp2_with (at_builtin; refine Lib.wpList_append_run _ rfl (.tmp 20) (.tmp 21) _ _ rfl _ _ rfl rfl _ _ HAP.out ?_)
    go_returns
    exact ⟨_, rfl, HH.out⟩

theorem concat_ok (A : Option Addr) (n c : Nat) (l : List BS) (w : World) (R : List HP) (hh : Holds w R) (hp : Ent R fun w => PRd w A l) (hn : Hid (n = l.length)) (hnb : n ≤ 140737488355328) (hbd : (bsAll l).length ≤ 140737488355328) :
    Calls Tryd.prog 81 #[.slice A n c] w fun e w' => ∃ v, e = .returned v ∧ Holds w' (own v (bsAll l) :: R) := by
  have HH := Lib.hid hh; have HBD := Lib.hid hbd; have HP := Lib.hid hp
  have hpw := hp _ hh
  clear hh hbd hp
  go_enter Tryd.func81, Tryd.ntmps81
  go_wp2
  go_loop [3, 11] (fun t i => ∃ j m : Nat, j ≤ n ∧ i = .int .i64 j ∧ t = .int .i64 m ∧ Hid (m = (bsAll (l.take j)).length)) (fun _ i => n - (intOf i).toNat)
  case atStart => exact ⟨0, 0, by omega, rfl, rfl, by unfold Hid; simp [bsAll]⟩
  case round =>
    obtain ⟨j, m, hj, rfl, rfl, hm⟩ := hrel
    by_cases hlt : j < n
    · have hjl : j < l.length := by rw [← hn.out]; exact hlt
      obtain ⟨g, o, rfl, cj, hok⟩ := hpw.at_ hjl
      have hm2 : m + l[j].n = (bsAll (l.take (j + 1))).length := by rw [bsAll_snoc hjl, List.length_append, hm.out, hok.n.out]
      have hle : m + l[j].n ≤ 140737488355328 := by rw [hm2]; exact Nat.le_trans (bsAll_take_le l (j + 1)) HBD.out
      have HM2 := Lib.hid hm2
      generalize l[j].A = Aj at cj
      generalize l[j].n = nj at cj HM2 hle
      generalize l[j].c = ccj at cj
      clear hm2 hok hm hpw
      go_wp2
      all_goals
        go_round
        case rel => exact ⟨j + 1, m + nj, by omega, by go_num, by go_num, HM2.out⟩
        case measure => simp [intOf]; omega
    · have hlj : l.take j = l := List.take_of_length_le (by rw [← hn.out]; omega)
      rw [hlj] at hm
      have hmb : m ≤ 140737488355328 := by rw [hm.out]; exact HBD.out
      have HG := Lib.hid (grow_ok m hmb w R HH.out)
      clear hlj hm hpw
      go_wp2_with (go_at_call 101; refine HG.out.mono ?_; rintro e w1 ⟨v1, rfl, hh1⟩; have HH1 := Lib.hid hh1; clear hh1)
      go_loopw [6, 27] (fun v i wr => ∃ j : Nat, j ≤ n ∧ i = .int .i64 j ∧ Holds wr (own v (bsAll (l.take j)) :: R)) (fun _ i _ => n - (intOf i).toNat)
      case atStart => exact ⟨0, by omega, rfl, by rw [show bsAll (l.take 0) = [] by simp [bsAll]]; exact HH1.out⟩
      case round =>
        obtain ⟨j, hj, rfl, hb⟩ := hrel
        by_cases hlt : j < n
        · have hjl : j < l.length := by rw [← hn.out]; exact hlt
          obtain ⟨g, o, rfl, cj, hok⟩ := (HP.out _ hb.tail).at_ hjl
          obtain ⟨gs, hrb⟩ := hok.rd
          have hlen : (bsAll (l.take j)).length + l[j].xs.length ≤ 140737488355328 := by
            have h1 := bsAll_take_le l (j + 1)
            rw [bsAll_snoc hjl, List.length_append] at h1
            have := HBD.out; omega
          have hsn := bsAll_snoc hjl
          have HNJ := hok.n
          generalize l[j].A = Aj at cj hrb
          generalize l[j].n = nj at cj HNJ
          generalize l[j].c = ccj at cj
          generalize l[j].xs = xj at hrb hlen hsn HNJ
          have HRB := Lib.hid hrb; have HSN := Lib.hid hsn; have HB := Lib.hid hb
          clear hrb hsn hok hjl hb
          go_wp2_with (at_builtin
                       refine wpList_app_b _ rfl (.tmp 31) (.tmp 32) 23 rfl Tryd.underlying23 Tryd.infoByte _ _ HB.out.ob rfl gs Aj xj nj ccj HNJ.out rfl HRB.out hlen ?_
                       intro v2 w2 ho2 hk2 hp2
                       have HA := Lib.hid (HB.out.app ho2 hk2 hp2)
                       clear ho2 hk2 hp2)
          go_roundw
          case rel => exact ⟨j + 1, by omega, by go_num, by rw [HSN.out]; exact HA.out⟩
          case measure => simp [intOf]; omega
        · have hlj : l.take j = l := List.take_of_length_le (by rw [← hn.out]; omega)
          rw [hlj] at hb
          have HB := Lib.hid hb; clear hb hlj
          go_wp2
          go_returns
          exact ⟨_, rfl, HB.out⟩

theorem clone_sl (A : Option Addr) (n c : Nat) (xs : List UInt8) (w : World) (R : List HP) (hh : Holds w R) (hr : Ent R fun w => RD w A xs) (hn : Hid (n = xs.length)) (hb : xs.length ≤ 140737488355328) :
    Calls Tryd.prog 57 #[.slice A n c] w fun e w' => ∃ v, e = .returned v ∧ Holds w' (own v xs :: R) := by
  obtain ⟨g, hrb⟩ := hr _ hh
  have hq := Lib.run_eql_slice_nil (P := Tryd.prog) w 23 5 A n c 0 0 Tryd.underlying23
  rcases A with _ | a
  · have hx : xs = [] := by
      by_cases h : xs = []
      · exact h
      · obtain ⟨o, ho, _⟩ := hrb h; cases ho
    subst hx
    have HH := Lib.hid hh.nil_own; clear hh
    go_enter Tryd.func57, Tryd.ntmps57
    go_wp2
    go_returns
    exact ⟨_, rfl, HH.out⟩
  · have h0 := (hh.alloc 5 #[]).own_of_cells (xs := []) (n := 0) (cap := 0) rfl (Nat.le_refl _) (by decide) rfl rfl
    have HH0 := Lib.hid h0
    have HRB := Lib.hid (hrb.alloc (.cells #[] 5))
    clear hh h0 hrb
    go_enter Tryd.func57, Tryd.ntmps57
    go_wp2_with (at_builtin
                 refine wpList_app_b _ rfl (.tmp 5) (.tmp 6) 23 rfl Tryd.underlying23 Tryd.infoByte _ _ HH0.out.ob rfl g (some a) xs n c hn.out rfl HRB.out (by simpa using hb) ?_
                 intro v2 w2 ho2 hk2 hp2
                 have HH1 := Lib.hid (HH0.out.app ho2 hk2 hp2)
                 clear ho2 hk2 hp2)
    go_returns
    exact ⟨_, rfl, HH1.out⟩

theorem fsum_ok (A : Option Addr) (n c : Nat) (xs : List UInt8) (A' : Option Addr) (n' c' : Nat) (ys : List UInt8) (w : World) (R : List HP) (hh : Holds w R) (hr : Ent R fun w => RD w A xs) (hn : Hid (n = xs.length)) (hc : n ≤ c)
    (hr' : Ent R fun w => RD w A' ys) (hn' : Hid (n' = ys.length)) (hc' : n' ≤ c') (hk : Ent R KF) (hb : n + n' ≤ 1152921504606846976) :
    Calls Tryd.prog 82 #[.slice A n c, .slice A' n' c'] w fun e w' => ∃ g, e = .returned (.slice (some ⟨g, 0, none⟩) 4 32) ∧ Holds w' (rb (some ⟨g, 0, none⟩) (sumF xs ys) :: R) := by
  have e2 : bsAll [⟨A, n, c, xs⟩, ⟨A', n', c', ys⟩] = xs ++ ys := by simp [bsAll]
  have HOF := Lib.hid (of_ok (some ⟨w.heap.size, 0, none⟩) 2 2 [⟨A, n, c, xs⟩, ⟨A', n', c', ys⟩] (w.alloc (.cells #[.slice A n c, .slice A' n' c'] 23)) _ (hh.alloc 23 #[.slice A n c, .slice A' n' c'])
    (Ent.parts rfl (Ent.oks hr hn hc (Ent.oks hr' hn' hc' Ent.oks_nil))) rfl (by omega) (hk.cons _) (by rw [e2, List.length_append, ← hn.out, ← hn'.out]; exact hb))
  rw [e2] at HOF
  have h32 : (shaL (xs ++ ys)).length = 32 := length_shaL' _
  have hs : sumF xs ys = (shaL (xs ++ ys)).take 4 := rfl
  generalize shaL (xs ++ ys) = L at HOF h32 hs
  have HS := Lib.hid hs
  have HQ := Lib.hid (show (Tryd.prog.info? 22).map (·.size) = some (bcs L).toArray.size by rw [Tryd.sizeHash]; simp [h32])
  have H32 := Lib.hid h32
  have H1B := Lib.hid (show ∀ v ∈ (bcs L).toArray.toList, v.oneCell' = true from bcs_one)
  clear hh hr hr' hk e2 hs
  go_enter Tryd.func82, Tryd.ntmps82
  go_wp2_with (first
    | (go_at_call 52; (with_reducible refine HOF.out.mono ?_); rintro e w1 ⟨rfl, hh1⟩; have HH1 := Lib.hid hh1.tail; clear hh1)
    | ((with_reducible refine (?_ : wpList _ _ _ [_] _ _)); refine wpList_store_blk rfl 22 (.tmp 5) (.tmp 9) rfl w1.heap.size 0 (bcs L).toArray rfl rfl 22 _ (Blk.new _ _ _) HQ.out (by rw [show (bcs L).toArray.size = 32 by simp [H32.out]]; exact Nat.le_refl _) H1B.out ?_; (
       intro w2 hb2 hk2
       rw [putA_all _ _ (by simp [H32.out])] at hb2
       have HH2 := Lib.hid ((HH1.out.alloc 22 _).reblk hb2 hk2)
       clear hb2 hk2)))
  go_returns
  refine ⟨_, rfl, ?_⟩
  refine HH2.out.rb_of_blk ?_
  rw [HS.out]
  simp [bcs, H32.out, List.map_take]
end Go.Proofs.YtibkngjacdggpaaDoor
/- slices.Equal over bytes; a frame's length and its beginning. -/
namespace Go.Proofs.YtibkngjacdggpaaDoor
open Go.RowKit HP

theorem u8_ne {x y : UInt8} (h : x ≠ y) : (((x.toNat : Int) == (y.toNat : Int)) : Bool) = false := by
  rw [beq_eq_false_iff_ne]
  intro e
  exact h (UInt8.toNat.inj (by omega))
set_option maxRecDepth 100000 in
theorem equal_ok (A : Option Addr) (n c : Nat) (xs : List UInt8) (A' : Option Addr) (n' c' : Nat) (ys : List UInt8) (w : World) (hr : RD w A xs) (hn : Hid (n = xs.length)) (hr' : RD w A' ys) (hn' : Hid (n' = ys.length)) (hb : n ≤ 140737488355328) (hb' : n' ≤ 140737488355328) :
    Calls Tryd.prog 93 #[.slice A n c, .slice A' n' c'] w fun e w' => e = .returned (.bool (xs == ys)) ∧ ∃ q, w' = w.drewN q := by
  by_cases hnm : n = n'
  · subst hnm
    obtain ⟨g, hx⟩ := hr
    obtain ⟨g', hy⟩ := hr'
    go_enter Tryd.func93, Tryd.ntmps93
    go_wp2
    go_loopw [13] (fun i wr => ∃ k q : Nat, k ≤ n ∧ i = .int .i64 k ∧ wr = w.drewN q ∧ Hid (xs.take k = ys.take k)) (fun i _ => n - (intOf i).toNat)
    case atStart => exact ⟨0, 0, by omega, rfl, rfl, by unfold Hid; simp⟩
    case round =>
      obtain ⟨k, q, hk, rfl, rfl, heq⟩ := hrel
      by_cases hlt : k < n
      · obtain ⟨o, rfl, g1⟩ := hx.cell (j := k) (by rw [← hn.out]; exact hlt)
        obtain ⟨o', rfl, g2⟩ := hy.cell (j := k) (by rw [← hn'.out]; exact hlt)
        have h1 := Lib.hid (take_snoc (xs := xs) (j := k) (by rw [← hn.out]; exact hlt))
        have h2 := Lib.hid (take_snoc (xs := ys) (j := k) (by rw [← hn'.out]; exact hlt))
        have HX := Lib.hid hx; have HY := Lib.hid hy
        generalize xs.getD k 0 = x at g1 h1
        generalize ys.getD k 0 = y at g2 h2
        clear hx hy
        simp only [bc] at g1 g2
        by_cases hxy : x = y
        · subst hxy
          go_wp2_with fail
          go_quiet (fail)
          go_wp2
          refine ⟨⟨k + 1, _, by omega, by simp, rfl, by unfold Hid; rw [h1.out, h2.out, heq.out]⟩, by simp only [intOf, Int.toNat_natCast]; omega⟩
        · have hne := u8_ne hxy
          have HF : Hid ((xs == ys) = false) := by
            unfold Hid
            rw [beq_eq_false_iff_ne]
            intro e
            rw [e, h2.out] at h1
            have := List.append_cancel_left h1.out
            exact hxy (by simpa using this.symm)
          have hneI : ((x.toNat : Int) ≠ (y.toNat : Int)) := by simpa using hne
          clear hxy
          go_wp2_with fail
          go_quiet (fail)
          go_wp2
          go_returns
          exact ⟨by rw [HF.out]; rfl, _, World.drewN_drewN _ _ _⟩
      · obtain rfl : k = n := by omega
        have HF : Hid ((xs == ys) = true) := by
          unfold Hid
          rw [beq_iff_eq]
          have := heq.out
          rwa [List.take_of_length_le (by rw [← hn.out]; omega), List.take_of_length_le (by rw [← hn'.out]; omega)] at this
        go_wp2
        go_returns
        exact ⟨by rw [HF.out]; rfl, q, rfl⟩
  · have HF : Hid ((xs == ys) = false) := by
      unfold Hid
      rw [beq_eq_false_iff_ne]
      intro e
      exact hnm (by rw [hn.out, hn'.out, e])
    have hnI : ¬ ((n : Int) = (n' : Int)) := by omega
    go_enter Tryd.func93, Tryd.ntmps93
    go_wp2
    go_returns
    exact ⟨by rw [HF.out]; rfl, 0, rfl⟩

/-- xs[a:a+k] -/
theorem RB.mid {w : World} {g o : Nat} {xs : List UInt8} (h : RB w g (some ⟨g, o, none⟩) xs) (a k : Nat) : RB w g (some ⟨g, o + a, none⟩) ((xs.drop a).take k) := fun hx => by
  have hne : xs ≠ [] := by intro e; subst e; simp at hx
  obtain ⟨o', ho, hc⟩ := h hne
  obtain rfl : o = o' := by simpa using ho
  refine ⟨o + a, rfl, fun j hj => ?_⟩
  simp only [List.length_take, List.length_drop] at hj
  rw [Nat.add_assoc, hc (a + j) (by omega)]
  simp [List.getD, show j < k by omega]
/-- a slice that is not empty has its address -/
theorem RD.addr {w : World} {A : Option Addr} {xs : List UInt8} (h : RD w A xs) (hne : xs ≠ []) : ∃ g o, A = some ⟨g, o, none⟩ ∧ RB w g (some ⟨g, o, none⟩) xs := by
  obtain ⟨g, h⟩ := h
  obtain ⟨o, rfl, hc⟩ := h hne
  exact ⟨g, o, rfl, fun _ => ⟨o, rfl, hc⟩⟩
theorem ne_nil_of_len {n : Nat} {xs : List UInt8} (hn : Hid (n = xs.length)) (h : 0 < n) : xs ≠ [] := by
  intro e; subst e; have := hn.out; simp at this; omega
theorem rnum2 (xs : List UInt8) (h : xs.length = 2) : (rnum (xs, false) 2).1 = unbe xs := by
  simp [rnum, szB, rtake, h, List.take_of_length_le]
set_option maxRecDepth 100000 in
theorem flen_ok (A : Option Addr) (n c : Nat) (xs : List UInt8) (w : World) (R : List HP) (hh : Holds w R) (hr : RD w A xs) (hn : Hid (n = xs.length)) (hc : n ≤ c) (h6 : 6 ≤ n) (hb : n ≤ 140737488355328) :
    Calls Tryd.prog 92 #[.slice A n c] w fun e w' => e = .returned (.int .i64 (lenF xs)) ∧ Holds w' R := by
  obtain ⟨g, o, rfl, hx⟩ := hr.addr (ne_nil_of_len hn (by omega))
  have h2 : ((xs.drop 4).take 2).length = 2 := by have := hn.out; simp; omega
  have HRE := Lib.hid (read_sl (some ⟨g, o + 4, none⟩) 2 (c - 4) ((xs.drop 4).take 2) hh h2.symm ⟨g, hx.mid 4 2⟩ (by omega))
  have HRN := Lib.hid (fun r w' (h : Holds w' (RdH 134 r ((xs.drop 4).take 2, false) :: R)) => rnumber_sl 2 h (by simp only; omega))
  have hlt : lenF xs < 65536 := by
    have := unbe_lt ((xs.drop 4).take 2)
    rw [h2] at this
    exact this
  rw [show (rnum ((xs.drop 4).take 2, false) 2).1 = lenF xs from rnum2 _ h2] at HRN
  generalize lenF xs = m at HRN hlt
  clear hh hx hr
  go_enter Tryd.func92, Tryd.ntmps92
  go_wp2_with (first
    | (go_at_call 94; (with_reducible refine HRE.out.mono ?_); rintro e w1 ⟨r, rfl, hh1⟩; have HH1 := Lib.hid hh1; clear hh1)
    | (go_at_call 95; (with_reducible refine (HRN.out _ _ HH1.out).mono ?_); rintro e w2 ⟨rfl, hh2⟩; have HH2 := Lib.hid hh2.tail; clear hh2))
  go_returns
  exact ⟨rfl, HH2.out⟩
end Go.Proofs.YtibkngjacdggpaaDoor
/- whether a frame may begin so -/
namespace Go.Proofs.YtibkngjacdggpaaDoor
open Go.RowKit HP

theorem magX (xs : List UInt8) (m : Nat) (hm : m ≤ 3) : ((strOf xs).toList == (ByteArray.extract { data := #[114, 100, 1] } 0 m).toList) = (xs == magB.take m) := by
  have h : (ByteArray.extract { data := #[114, 100, 1] } 0 m).toList = magB.take m := by
    obtain rfl | rfl | rfl | rfl : m = 0 ∨ m = 1 ∨ m = 2 ∨ m = 3 := by omega
    all_goals decide +kernel
  rw [h, strOf_list]
theorem begins3 {xs : List UInt8} (h : (xs.take 3 == magB.take 3) = false) (h3 : 3 ≤ xs.length) : beginsF xs = false := by
  unfold beginsF
  rw [show min xs.length 3 = 3 by omega, h]
  rfl
theorem begins_few {xs : List UInt8} (h3 : xs.length ≤ 3) : beginsF xs = (xs.take xs.length == magB.take xs.length) := by
  unfold beginsF
  rw [show min xs.length 3 = xs.length by omega, show decide (3 < xs.length) = false by simp; omega, if_neg (by omega), if_neg (by omega), List.take_of_length_le h3, List.take_length]
  simp
theorem begins_many {xs : List UInt8} (h : (xs.take 3 == magB.take 3) = true) (h4 : 4 ≤ xs.length) :
    beginsF xs = (!(xs.getD 3 0 == 0) && (if 6 ≤ xs.length then decide (lenF xs ≤ 1000) else if 4 < xs.length then decide ((xs.getD 4 0).toNat ≤ 3) else true)) := by
  unfold beginsF
  rw [show min xs.length 3 = 3 by omega, h, show decide (3 < xs.length) = true by simp; omega]
  simp
theorem u8_zero {x : UInt8} (h : x ≠ 0) : ¬ ((x.toNat : Int) = 0) := by
  intro e
  exact h (UInt8.toNat.inj (by simpa using e))
set_option maxRecDepth 100000 in
theorem begins_ok (A : Option Addr) (n c : Nat) (xs : List UInt8) (w : World) (R : List HP) (hh : Holds w R) (hr : Ent R fun w => RD w A xs) (hn : Hid (n = xs.length)) (hc : n ≤ c) (hb : n ≤ 140737488355328) :
    Calls Tryd.prog 91 #[.slice A n c] w fun e w' => e = .returned (.bool (beginsF xs)) ∧ Holds w' R := by
  have hrw := hr _ hh
  have hcv : ∀ m k, m ≤ n → (convert 23 9 (.slice A m c)).run Tryd.prog (w.drewN k) = .ok (.string (strOf (xs.take m))) (w.drewN k) := fun m k hm =>
    conv_rd (w := w.drewN k) (by rw [List.length_take, ← hn.out]; omega) ((hr _ (hh.drewN k)).take m)
  have HH := Lib.hid hh
  rcases Nat.lt_or_ge n 4 with h3 | h3
  · have hx := magX (xs.take n) n (by omega)
    have hcvn := fun k => hcv n k (Nat.le_refl n)
    have hbf := begins_few (xs := xs) (by rw [← hn.out]; omega)
    rw [← hn.out] at hbf
    clear hcv hh hr hrw hn
    have hx0 : (strOf []).toList.isEmpty = true := by rw [strOf_list]; rfl
    cases hp : (xs.take n == magB.take n)
    · rw [hp] at hx hbf
      have HF := Lib.hid hbf
      have hn0 : n ≠ 0 := by intro e; subst e; simp at hp
      clear hbf hp
      obtain rfl | rfl | rfl : n = 1 ∨ n = 2 ∨ n = 3 := by omega
      all_goals
        go_enter Tryd.func91, Tryd.ntmps91
        go_wp2_with fail
        go_quiet (fail)
        go_wp2
        go_returns
        exact ⟨by rw [HF.out]; rfl, HH.out.drewN _⟩
    · rw [hp] at hx hbf
      have HF := Lib.hid hbf
      clear hbf hp
      obtain rfl | rfl | rfl | rfl : n = 0 ∨ n = 1 ∨ n = 2 ∨ n = 3 := by omega
      all_goals
        go_enter Tryd.func91, Tryd.ntmps91
        go_wp2_with fail
        go_quiet (fail)
        go_wp2
        go_returns
        exact ⟨by rw [HF.out]; rfl, HH.out.drewN _⟩
  · have hcv3 := fun k => hcv 3 k (by omega)
    have hc3 : 3 ≤ c := by omega
    have hx := magX (xs.take 3) 3 (by omega)
    have hl4 : 4 ≤ xs.length := by rw [← hn.out]; exact h3
    have hnI : (3 : Int) < n := by omega
    have hnI2 : ¬ ((n : Int) ≤ 3) := by omega
    have HR := Lib.hid hr
    obtain ⟨g, o, rfl, hrb⟩ := hrw.addr (ne_nil_of_len hn (by omega))
    clear hcv hr hrw hh
    cases hp : (xs.take 3 == magB.take 3)
    · rw [hp] at hx
      have HF := Lib.hid (begins3 hp (by omega))
      clear hp hl4 hrb
      go_enter Tryd.func91, Tryd.ntmps91
      go_wp2_with fail
      go_quiet (fail)
      go_wp2
      go_returns
      exact ⟨by rw [HF.out]; rfl, HH.out.drewN _⟩
    · rw [hp] at hx
      have hbm := begins_many hp hl4
      rw [← hn.out] at hbm
      obtain ⟨o', ho, c3⟩ := hrb.cell (j := 3) (by omega)
      obtain rfl : o = o' := by simpa using ho
      simp only [bc] at c3
      clear hp ho
      by_cases h0 : xs.getD 3 0 = 0
      · rw [h0] at c3 hbm
        have HF : Hid (beginsF xs = false) := by unfold Hid; rw [hbm]; rfl
        clear hbm hrb
        go_enter Tryd.func91, Tryd.ntmps91
        go_wp2_with fail
        go_quiet (fail)
        go_wp2
        go_returns
        exact ⟨by rw [HF.out]; rfl, HH.out.drewN _⟩
      · have h0I := u8_zero h0
        rw [show (xs.getD 3 0 == 0) = false from beq_eq_false_iff_ne.2 h0] at hbm
        generalize xs.getD 3 0 = x3 at c3 h0I
        clear h0
        rcases Nat.lt_or_ge n 6 with h6 | h6
        · obtain rfl | rfl : n = 4 ∨ n = 5 := by omega
          · have HF : Hid (beginsF xs = true) := by unfold Hid; rw [hbm]; rfl
            clear hbm hrb
            go_enter Tryd.func91, Tryd.ntmps91
            go_wp2_with fail
            go_quiet (fail)
            go_wp2
            go_returns
            exact ⟨by rw [HF.out]; rfl, HH.out.drewN _⟩
          · obtain ⟨o', ho, c4⟩ := hrb.cell (j := 4) (by have := hn.out; omega)
            obtain rfl : o = o' := by simpa using ho
            simp only [bc] at c4
            have HF : Hid (beginsF xs = decide ((xs.getD 4 0).toNat ≤ 3)) := by unfold Hid; rw [hbm]; rfl
            clear hbm hrb ho
            generalize xs.getD 4 0 = x4 at c4 HF
            have hx4 : (x4.toNat : Int) < 256 := by have := x4.toNat_lt; omega
            go_enter Tryd.func91, Tryd.ntmps91
            go_wp2_with fail
            go_quiet (fail)
            go_wp2
            go_returns
            refine ⟨?_, HH.out.drewN _⟩
            rw [HF.out]
            exact ret_bool (decide_eq_decide.2 (by omega))
        · have HL := Lib.hid (fun k => flen_ok (some ⟨g, o, none⟩) n c xs (w.drewN k) R (HH.out.drewN k) (HR.out _ (HH.out.drewN k)) hn hc h6 hb)
          have HF : Hid (beginsF xs = decide (lenF xs ≤ 1000)) := by unfold Hid; rw [hbm, if_pos h6]; simp
          clear hbm hrb
          generalize lenF xs = m at HL HF
          go_enter Tryd.func91, Tryd.ntmps91
          go_wp2_with fail
          go_quiet (fail)
          go_wp2_with (go_at_call 92; (with_reducible refine (HL.out _).mono ?_); rintro e w1 ⟨rfl, hh1⟩; have HH1 := Lib.hid hh1; clear hh1)
          go_returns
          refine ⟨?_, HH1.out⟩
          rw [HF.out]
          exact ret_bool (decide_eq_decide.2 (by omega))
end Go.Proofs.YtibkngjacdggpaaDoor
