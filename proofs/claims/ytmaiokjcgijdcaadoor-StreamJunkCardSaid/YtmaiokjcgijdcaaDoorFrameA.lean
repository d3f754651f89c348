/- slices' functions over bytes, and the sum of a frame. -/
import Derived.Test.YtmaiokjcgijdcaaDoorShaOf
import Derived.Test.YtmaiokjcgijdcaaDoorSl
import Derived.Test.YtmaiokjcgijdcaaDoorFramePure
import Derived.Lib.AppendZeros
namespace Go.Proofs.YtmaiokjcgijdcaaDoor
open Go.RowKit HP

/-- a block's first bytes are read -/
theorem Holds.rb_of_blk {w : World} {R : List HP} {g : Nat} {t : TypeId} {cs : Array Value} {xs : List UInt8} (h : Holds w (HP.blk g t cs :: R)) (hx : cs.toList.take xs.length = bcs xs) : Holds w (HP.rb (some ⟨g, 0, none⟩) xs :: R) := h.turn fun S hS => by
  refine ⟨fun k => k = g ∧ xs ≠ [], ⟨g, fun _ => ⟨0, rfl, fun j hj => ?_⟩, fun _ => Iff.rfl⟩, fun k hk => (hS.2 k).2 hk.1⟩
  rw [hS.1.cell, Nat.zero_add, ← Array.getElem?_toList]
  have h1 : (cs.toList.take xs.length)[j]? = cs.toList[j]? := by rw [List.getElem?_take, if_pos hj]
  rw [← h1, hx, bcs_get]
  simp [List.getD, hj]
set_option maxRecDepth 100000 in
theorem grow_ok (k : Nat) (hk : k ≤ 140737488355328) (w : World) (R : List HP) (hh : Holds w R) :
    Calls Tryd.prog 41 #[.slice none 0 0, .int .i64 k] w fun e w' => ∃ v, e = .returned v ∧ Holds w' (own v [] :: R) := by
  rcases Nat.eq_zero_or_pos k with rfl | hpos
  · have HH := Lib.hid hh.nil_own; clear hh
    go_enter Tryd.func41, Tryd.ntmps41
    go_wp2
    go_returns
    exact ⟨_, rfl, HH.out⟩
  · obtain ⟨ib, hib, hz0, hz1, hz2⟩ := info_parts Tryd.infoByte
    have hap := Lib.run_append_nil_zeros (P := Tryd.prog) w 22 3 22 5 ib _ .i64 .i64 Tryd.underlying22 (by kernel_rfl) hib hz0 k hpos (by rw [hz1]; decide) (by omega) (by rw [hz2]; omega)
    have hge := grownCap_ge w k 0 5
    have hle := grownCap_le_maxLen w k 0 5 (by simp only [maxLen]; omega)
    generalize grownCap w k 0 5 = cap at hap hge hle
    have hcs : (Builtin.zeroCells (Value.int .u8 0).cells k ++ Builtin.zeroCells (Value.int .u8 0).cells (cap - k)).size = cap := by
      simp [size_zeroCells, Value.cells]; omega
    generalize Builtin.zeroCells (Value.int .u8 0).cells k ++ Builtin.zeroCells (Value.int .u8 0).cells (cap - k) = cs at hap hcs
    have hh2 := (hh.drew.alloc 5 cs).own_of_cells (xs := []) (n := 0) (cap := cap) rfl (Nat.zero_le _) hle hcs (by simp [bcs])
    have HH := Lib.hid hh2
    have HAP := Lib.hid hap
    clear hh hh2 hap
    go_enter Tryd.func41, Tryd.ntmps41
    go_wp2_with (at_builtin; refine Lib.wpList_append_run _ rfl (.tmp 20) (.tmp 21) _ _ rfl _ _ rfl rfl _ _ HAP.out ?_)
    go_returns
    exact ⟨_, rfl, HH.out⟩

theorem concat_ok (A : Option Addr) (n c : Nat) (l : List BS) (w : World) (R : List HP) (hh : Holds w R) (hp : Ent R fun w => PRd w A l) (hn : Hid (n = l.length)) (hnb : n ≤ 140737488355328) (hbd : (bsAll l).length ≤ 140737488355328) :
    Calls Tryd.prog 29 #[.slice A n c] w fun e w' => ∃ v, e = .returned v ∧ Holds w' (own v (bsAll l) :: R) := by
  have HH := Lib.hid hh; have HBD := Lib.hid hbd; have HP := Lib.hid hp
  have hpw := hp _ hh
  clear hh hbd hp
  go_enter Tryd.func29, Tryd.ntmps29
  go_wp2
  go_loop [3, 11] (fun t i => ∃ j m : Nat, j ≤ n ∧ i = .int .i64 j ∧ t = .int .i64 m ∧ Hid (m = (bsAll (l.take j)).length)) (fun _ i => n - (intOf i).toNat)
  case atStart => exact ⟨0, 0, by omega, rfl, rfl, by unfold Hid; simp [bsAll]⟩
  case round =>
    obtain ⟨j, m, hj, rfl, rfl, hm⟩ := hrel
    by_cases hlt : j < n
    · have hjl : j < l.length := by rw [← hn.out]; exact hlt
      obtain ⟨g, o, rfl, cj, hok⟩ := hpw.at_ hjl
      have hm2 : m + l[j].n = (bsAll (l.take (j + 1))).length := by rw [bsAll_snoc hjl, List.length_append, hm.out, hok.n.out]
      have hle : m + l[j].n ≤ 140737488355328 := by rw [hm2]; exact Nat.le_trans (bsAll_take_le l (j + 1)) HBD.out
      have HM2 := Lib.hid hm2
      generalize l[j].A = Aj at cj
      generalize l[j].n = nj at cj HM2 hle
      generalize l[j].c = ccj at cj
      clear hm2 hok hm hpw
      go_wp2
      all_goals
        go_round
        case rel => exact ⟨j + 1, m + nj, by omega, by go_num, by go_num, HM2.out⟩
        case measure => simp [intOf]; omega
    · have hlj : l.take j = l := List.take_of_length_le (by rw [← hn.out]; omega)
      rw [hlj] at hm
      have hmb : m ≤ 140737488355328 := by rw [hm.out]; exact HBD.out
      have HG := Lib.hid (grow_ok m hmb w R HH.out)
      clear hlj hm hpw
      go_wp2_with (go_at_call 41; refine HG.out.mono ?_; rintro e w1 ⟨v1, rfl, hh1⟩; have HH1 := Lib.hid hh1; clear hh1)
      go_loopw [6, 27] (fun v i wr => ∃ j : Nat, j ≤ n ∧ i = .int .i64 j ∧ Holds wr (own v (bsAll (l.take j)) :: R)) (fun _ i _ => n - (intOf i).toNat)
      case atStart => exact ⟨0, by omega, rfl, by rw [show bsAll (l.take 0) = [] by simp [bsAll]]; exact HH1.out⟩
      case round =>
        obtain ⟨j, hj, rfl, hb⟩ := hrel
        by_cases hlt : j < n
        · have hjl : j < l.length := by rw [← hn.out]; exact hlt
          obtain ⟨g, o, rfl, cj, hok⟩ := (HP.out _ hb.tail).at_ hjl
          obtain ⟨gs, hrb⟩ := hok.rd
          have hlen : (bsAll (l.take j)).length + l[j].xs.length ≤ 140737488355328 := by
            have h1 := bsAll_take_le l (j + 1)
            rw [bsAll_snoc hjl, List.length_append] at h1
            have := HBD.out; omega
          have hsn := bsAll_snoc hjl
          have HNJ := hok.n
          generalize l[j].A = Aj at cj hrb
          generalize l[j].n = nj at cj HNJ
          generalize l[j].c = ccj at cj
          generalize l[j].xs = xj at hrb hlen hsn HNJ
          have HRB := Lib.hid hrb; have HSN := Lib.hid hsn; have HB := Lib.hid hb
          clear hrb hsn hok hjl hb
          go_wp2_with (at_builtin
                       refine wpList_app_b _ rfl (.tmp 31) (.tmp 32) 22 rfl Tryd.underlying22 Tryd.infoByte _ _ HB.out.ob rfl gs Aj xj nj ccj HNJ.out rfl HRB.out hlen ?_
                       intro v2 w2 ho2 hk2 hp2
                       have HA := Lib.hid (HB.out.app ho2 hk2 hp2)
                       clear ho2 hk2 hp2)
          go_roundw
          case rel => exact ⟨j + 1, by omega, by go_num, by rw [HSN.out]; exact HA.out⟩
          case measure => simp [intOf]; omega
        · have hlj : l.take j = l := List.take_of_length_le (by rw [← hn.out]; omega)
          rw [hlj] at hb
          have HB := Lib.hid hb; clear hb hlj
          go_wp2
          go_returns
          exact ⟨_, rfl, HB.out⟩

theorem clone_sl (A : Option Addr) (n c : Nat) (xs : List UInt8) (w : World) (R : List HP) (hh : Holds w R) (hr : Ent R fun w => RD w A xs) (hn : Hid (n = xs.length)) (hb : xs.length ≤ 140737488355328) :
    Calls Tryd.prog 36 #[.slice A n c] w fun e w' => ∃ v, e = .returned v ∧ Holds w' (own v xs :: R) := by
  obtain ⟨g, hrb⟩ := hr _ hh
  have hq := Lib.run_eql_slice_nil (P := Tryd.prog) w 22 5 A n c 0 0 Tryd.underlying22
  rcases A with _ | a
  · have hx : xs = [] := by
      by_cases h : xs = []
      · exact h
      · obtain ⟨o, ho, _⟩ := hrb h; cases ho
    subst hx
    have HH := Lib.hid hh.nil_own; clear hh
    go_enter Tryd.func36, Tryd.ntmps36
    go_wp2
    go_returns
    exact ⟨_, rfl, HH.out⟩
  · have h0 := (hh.alloc 5 #[]).own_of_cells (xs := []) (n := 0) (cap := 0) rfl (Nat.le_refl _) (by decide) rfl rfl
    have HH0 := Lib.hid h0
    have HRB := Lib.hid (hrb.alloc (.cells #[] 5))
    clear hh h0 hrb
    go_enter Tryd.func36, Tryd.ntmps36
    go_wp2_with (at_builtin
                 refine wpList_app_b _ rfl (.tmp 5) (.tmp 6) 22 rfl Tryd.underlying22 Tryd.infoByte _ _ HH0.out.ob rfl g (some a) xs n c hn.out rfl HRB.out (by simpa using hb) ?_
                 intro v2 w2 ho2 hk2 hp2
                 have HH1 := Lib.hid (HH0.out.app ho2 hk2 hp2)
                 clear ho2 hk2 hp2)
    go_returns
    exact ⟨_, rfl, HH1.out⟩

theorem fsum_ok (A : Option Addr) (n c : Nat) (xs : List UInt8) (A' : Option Addr) (n' c' : Nat) (ys : List UInt8) (w : World) (R : List HP) (hh : Holds w R) (hr : Ent R fun w => RD w A xs) (hn : Hid (n = xs.length)) (hc : n ≤ c)
    (hr' : Ent R fun w => RD w A' ys) (hn' : Hid (n' = ys.length)) (hc' : n' ≤ c') (hk : Ent R KF) (hb : n + n' ≤ 1152921504606846976) :
    Calls Tryd.prog 30 #[.slice A n c, .slice A' n' c'] w fun e w' => ∃ g, e = .returned (.slice (some ⟨g, 0, none⟩) 4 32) ∧ Holds w' (rb (some ⟨g, 0, none⟩) (sumF xs ys) :: R) := by
  have e2 : bsAll [⟨A, n, c, xs⟩, ⟨A', n', c', ys⟩] = xs ++ ys := by simp [bsAll]
  have HOF := Lib.hid (of_ok (some ⟨w.heap.size, 0, none⟩) 2 2 [⟨A, n, c, xs⟩, ⟨A', n', c', ys⟩] (w.alloc (.cells #[.slice A n c, .slice A' n' c'] 22)) _ (hh.alloc 22 #[.slice A n c, .slice A' n' c'])
    (Ent.parts rfl (Ent.oks hr hn hc (Ent.oks hr' hn' hc' Ent.oks_nil))) rfl (by omega) (hk.cons _) (by rw [e2, List.length_append, ← hn.out, ← hn'.out]; exact hb))
  rw [e2] at HOF
  have h32 : (shaL (xs ++ ys)).length = 32 := length_shaL' _
  have hs : sumF xs ys = (shaL (xs ++ ys)).take 4 := rfl
  generalize shaL (xs ++ ys) = L at HOF h32 hs
  have HS := Lib.hid hs
  have HQ := Lib.hid (show (Tryd.prog.info? 77).map (·.size) = some (bcs L).toArray.size by rw [Tryd.sizeHash]; simp [h32])
  have H32 := Lib.hid h32
  have H1B := Lib.hid (show ∀ v ∈ (bcs L).toArray.toList, v.oneCell' = true from bcs_one)
  clear hh hr hr' hk e2 hs
  go_enter Tryd.func30, Tryd.ntmps30
  go_wp2_with (first
    | (go_at_call 42; (with_reducible refine HOF.out.mono ?_); rintro e w1 ⟨rfl, hh1⟩; have HH1 := Lib.hid hh1.tail; clear hh1)
    | ((with_reducible refine (?_ : wpList _ _ _ [_] _ _)); refine wpList_store_blk rfl 77 (.tmp 5) (.tmp 9) rfl w1.heap.size 0 (bcs L).toArray rfl rfl 77 _ (Blk.new _ _ _) HQ.out (by rw [show (bcs L).toArray.size = 32 by simp [H32.out]]; exact Nat.le_refl _) H1B.out ?_; (
       intro w2 hb2 hk2
       rw [putA_all _ _ (by simp [H32.out])] at hb2
       have HH2 := Lib.hid ((HH1.out.alloc 77 _).reblk hb2 hk2)
       clear hb2 hk2)))
  go_returns
  refine ⟨_, rfl, ?_⟩
  refine HH2.out.rb_of_blk ?_
  rw [HS.out]
  simp [bcs, H32.out, List.map_take]
end Go.Proofs.YtmaiokjcgijdcaaDoor
