import Derived.Test.YtibkngjacdggpaaDoorShaTurn
/- sha: what a Hash holds behind the bytes that it has taken. -/
namespace Go.Proofs.YtibkngjacdggpaaDoor
open Go.RowKit HP

theorem foldB_lt (s : St) (b : List UInt8) (h : b.length < 64) : foldB s b = s := by unfold foldB; rw [dif_neg (by omega)]
theorem foldB_ge (s : St) (b : List UInt8) (h : 64 ≤ b.length) : foldB s b = foldB (turnS s (b.take 64)) (b.drop 64) := by
  conv => lhs; unfold foldB
  rw [dif_pos h]
theorem foldB_app : ∀ (m : Nat) (s : St) (p t : List UInt8), p.length = 64 * m → foldB s (p ++ t) = foldB (foldB s p) t
  | 0, s, p, t, h => by
    obtain rfl : p = [] := List.eq_nil_of_length_eq_zero (by omega)
    rw [List.nil_append, foldB_lt s [] (by simp)]
  | m + 1, s, p, t, h => by
    rw [foldB_ge s (p ++ t) (by rw [List.length_append]; omega), foldB_ge s p (by omega), List.take_append_of_le_length (by omega), List.drop_append_of_le_length (by omega)]
    exact foldB_app m _ _ t (by rw [List.length_drop]; omega)
def tailB (xs : List UInt8) : List UInt8 := xs.drop (xs.length / 64 * 64)
theorem length_tailB (xs : List UInt8) : (tailB xs).length = xs.length % 64 := by unfold tailB; rw [List.length_drop]; omega
theorem foldB_pre (s : St) (xs zs : List UInt8) : foldB s (xs ++ zs) = foldB (foldB s xs) (tailB xs ++ zs) := by
  have h1 : xs = xs.take (xs.length / 64 * 64) ++ tailB xs := (List.take_append_drop _ _).symm
  have hl : (xs.take (xs.length / 64 * 64)).length = 64 * (xs.length / 64) := by rw [List.length_take]; omega
  have h2 := foldB_app _ s (xs.take (xs.length / 64 * 64)) (tailB xs ++ zs) hl
  have h3 := foldB_app _ s (xs.take (xs.length / 64 * 64)) (tailB xs) hl
  rw [← List.append_assoc, ← h1] at h2
  rw [← h1, foldB_lt _ (tailB xs) (by rw [length_tailB]; omega)] at h3
  rw [h2, h3]
theorem foldB_few (s : St) (xs zs : List UInt8) (h : xs.length % 64 + zs.length < 64) : foldB s (xs ++ zs) = foldB s xs := by
  rw [foldB_pre, foldB_lt _ _ (by rw [List.length_append, length_tailB]; exact h)]
theorem foldB_full (s : St) (xs zs : List UInt8) (h : xs.length % 64 + zs.length = 64) : foldB s (xs ++ zs) = turnS (foldB s xs) (tailB xs ++ zs) := by
  have hl : (tailB xs ++ zs).length = 64 := by rw [List.length_append, length_tailB]; exact h
  rw [foldB_pre, foldB_ge _ _ (by omega), List.take_of_length_le (by omega), foldB_lt _ _ (by rw [List.length_drop]; omega)]
theorem tailB_few (xs zs : List UInt8) (h : xs.length % 64 + zs.length < 64) : tailB (xs ++ zs) = tailB xs ++ zs := by
  have : (xs ++ zs).length / 64 * 64 = xs.length / 64 * 64 := by rw [List.length_append]; omega
  unfold tailB
  rw [this, List.drop_append_of_le_length (by omega)]
theorem tailB_full (xs zs : List UInt8) (h : xs.length % 64 + zs.length = 64) : tailB (xs ++ zs) = [] := by
  unfold tailB
  exact List.drop_eq_nil_of_le (by rw [List.length_append]; omega)

/-- A Hash that has taken the bytes xs. -/
structure ShaInv (h : HS) (xs : List UInt8) : Prop where
  ok : h.Ok
  n : h.n = xs.length
  s : h.begun = true → h.s = (foldB begS xs).list
  no : h.begun = false → xs = [] ∧ h.s = List.replicate 8 0
  rest : h.rest.take (xs.length % 64) = tailB xs
def restPut (r : List UInt8) (o : Nat) (zs : List UInt8) : List UInt8 := r.take o ++ zs ++ r.drop (o + zs.length)
theorem length_restPut (r : List UInt8) (o : Nat) (zs : List UInt8) (h : o + zs.length ≤ r.length) : (restPut r o zs).length = r.length := by simp [restPut]; omega
theorem restPut_take (r : List UInt8) (o : Nat) (zs : List UInt8) (h : o + zs.length ≤ r.length) : (restPut r o zs).take (o + zs.length) = r.take o ++ zs := by
  unfold restPut
  rw [List.take_append_of_le_length (by simp; omega), List.take_of_length_le (by simp; omega)]
theorem ShaInv.few {h : HS} {xs zs : List UInt8} (hi : ShaInv h xs) (hb : h.begun = true) (hl : xs.length % 64 + zs.length < 64) : ShaInv { h with rest := restPut h.rest (xs.length % 64) zs, n := h.n + zs.length } (xs ++ zs) := by
  have hr := hi.ok.rest
  refine ⟨⟨hi.ok.s, by rw [length_restPut _ _ _ (by omega)]; exact hr⟩, by rw [List.length_append, ← hi.n], (fun _ => by rw [foldB_few _ _ _ hl]; exact hi.s hb), fun h' => absurd (hb.symm.trans h') (by decide), ?_⟩
  rw [show (xs ++ zs).length % 64 = xs.length % 64 + zs.length by rw [List.length_append]; omega, restPut_take _ _ _ (by omega), hi.rest, tailB_few _ _ hl]
theorem ShaInv.full {h : HS} {xs zs : List UInt8} (hi : ShaInv h xs) (hb : h.begun = true) (hl : xs.length % 64 + zs.length = 64) :
    ShaInv { h with s := (turnS (foldB begS xs) (restPut h.rest (xs.length % 64) zs)).list, rest := restPut h.rest (xs.length % 64) zs, n := h.n + zs.length } (xs ++ zs) := by
  have hr := hi.ok.rest
  have hp : restPut h.rest (xs.length % 64) zs = tailB xs ++ zs := by
    have := restPut_take h.rest (xs.length % 64) zs (by omega)
    rwa [List.take_of_length_le (by rw [length_restPut _ _ _ (by omega)]; omega), hi.rest] at this
  refine ⟨⟨rfl, by rw [length_restPut _ _ _ (by omega)]; exact hr⟩, by rw [List.length_append, ← hi.n], (fun _ => by rw [foldB_full _ _ _ hl, hp]), fun h' => absurd (hb.symm.trans h') (by decide), ?_⟩
  rw [show (xs ++ zs).length % 64 = 0 by rw [List.length_append]; omega, tailB_full _ _ hl, List.take_zero]
/-- A Hash in block b that has taken the bytes xs. -/
def HashH (b : Nat) (xs : List UInt8) : HP := ex fun h : HS => cond (ShaInv h xs) (blk b 118 (hcells h))
theorem hcells_rest_put {h : HS} (ok : h.Ok) (o : Nat) (zs : List UInt8) (hl : o + zs.length ≤ 64) : putA (hcells h) (9 + o) (bcs zs) = hcells { h with rest := restPut h.rest o zs } := by
  have h1 := ok.s
  have h2 := ok.rest
  unfold putA
  have e : (hcells h).toList = wcs h.s ++ ([.bool h.begun] ++ (bcs h.rest ++ [.int .i64 h.n])) := rfl
  rw [e]
  have t1 : (wcs h.s ++ ([Value.bool h.begun] ++ (bcs h.rest ++ [Value.int .i64 h.n]))).take (9 + o) = wcs h.s ++ ([.bool h.begun] ++ (bcs h.rest).take o) := by
    rw [List.take_append, List.take_of_length_le (by simp; omega), List.take_append, List.take_of_length_le (by simp; omega), List.take_append_of_le_length (by simp; omega)]
    simp [h1, show 9 + o - 8 - 1 = o by omega]
  have t2 : (wcs h.s ++ ([Value.bool h.begun] ++ (bcs h.rest ++ [Value.int .i64 h.n]))).drop (9 + o + (bcs zs).length) = (bcs h.rest).drop (o + zs.length) ++ [.int .i64 h.n] := by
    rw [List.drop_append, List.drop_eq_nil_of_le (by simp; omega), List.nil_append, List.drop_append, List.drop_eq_nil_of_le (by simp; omega), List.nil_append, List.drop_append_of_le_length (by simp; omega)]
    simp [h1, show 9 + o + zs.length - 8 - 1 = o + zs.length by omega]
  rw [t1, t2]
  simp [hcells, HS.list, restPut, bcs, List.map_take, List.map_drop]
theorem hcells_s_put {h : HS} (ok : h.Ok) (l : List UInt32) (hl : l.length = 8) : putA (hcells h) 0 (wcs l) = hcells { h with s := l } := by
  have h1 := ok.s
  simp [putA, hcells, HS.list, h1, hl]
theorem hcells_begun_put {h : HS} (ok : h.Ok) (t : Bool) : (hcells h).setIfInBounds 8 (.bool t) = hcells { h with begun := t } := by
  have h1 := ok.s
  simp only [hcells, HS.list, List.setIfInBounds_toArray]
  rw [List.set_append_right _ _ (by simp; omega)]
  simp [h1]
theorem hcells_n_put {h : HS} (ok : h.Ok) (m : Nat) : (hcells h).setIfInBounds 73 (.int .i64 m) = hcells { h with n := m } := by
  have h1 := ok.s
  have h2 := ok.rest
  simp only [hcells, HS.list, List.setIfInBounds_toArray]
  rw [List.set_append_right _ _ (by simp; omega), List.set_append_right _ _ (by simp; omega), List.set_append_right _ _ (by simp; omega)]
  simp [h1, h2]
theorem ShaInv.begin_ {h : HS} {xs : List UInt8} (hi : ShaInv h xs) (hb : h.begun = false) : ShaInv { h with s := begS.list, begun := true } xs := by
  obtain ⟨rfl, _⟩ := hi.no hb
  exact ⟨⟨rfl, hi.ok.rest⟩, hi.n, (fun _ => by rw [foldB_lt _ _ (by simp)]), fun h' => Bool.noConfusion h', hi.rest⟩
def HS.zero : HS := ⟨List.replicate 8 0, false, List.replicate 64 0, 0⟩
theorem ShaInv.zero : ShaInv HS.zero [] := ⟨⟨rfl, rfl⟩, rfl, fun h' => absurd h' (by decide), fun _ => ⟨rfl, rfl⟩, rfl⟩
end Go.Proofs.YtibkngjacdggpaaDoor
/- sha: begin, Write, Len, Reset, New. -/
namespace Go.Proofs.YtibkngjacdggpaaDoor
open Go.RowKit HP

theorem Tryd.sizeState : (Tryd.prog.info? 115).map (·.size) = some 8 := by kernel_rfl
theorem Tryd.sizeHashT : (Tryd.prog.info? 118).map (·.size) = some 74 := by kernel_rfl

set_option maxRecDepth 100000 in
theorem begin_ok (w : World) (R : List HP) (hh : Holds w R) :
    Calls Tryd.prog 102 #[] w fun e w' => e = .returned (.agg (wcs begS.list).toArray) ∧ Holds w' R := by
  have hcs : (wcs begS.list).toArray = #[.int .u32 1779033703, .int .u32 3144134277, .int .u32 1013904242, .int .u32 2773480762, .int .u32 1359893119, .int .u32 2600822924, .int .u32 528734635, .int .u32 1541459225] := by rfl
  have HC := Lib.hid hcs; clear hcs
  have HH := Lib.hid hh; clear hh
  go_enter Tryd.func102, Tryd.ntmps102
  go_wp2_with ((with_reducible refine (?_ : wpList _ _ _ [_] _ _)); refine wpList_store_blk rfl 115 (.tmp 0) (.tmp 1) rfl w.heap.size 0 _ rfl rfl 115 _ (Blk.new _ _ _) Tryd.sizeState (by exact Nat.le_refl _) (by intro v hv; simp at hv; rcases hv with rfl | rfl | rfl | rfl | rfl | rfl | rfl | rfl <;> rfl) ?_; (
       intro w2 hb2 hk2
       rw [putA_all _ _ (by rfl)] at hb2
       have hc : w2.heap[w.heap.size]? = some (.cells #[.int .u32 1779033703, .int .u32 3144134277, .int .u32 1013904242, .int .u32 2773480762, .int .u32 1359893119, .int .u32 2600822924, .int .u32 528734635, .int .u32 1541459225] 115 (0, 0)) := hb2
       have hh2 := (HH.out.alloc 115 _).reblk hb2 hk2
       have HH2 := Lib.hid hh2.tail
       have HCC := Lib.hid hc
       clear hb2 hk2 hc hh2))
  refine bodyPost_ret (results_cell_row rfl _ _ w.heap.size 115 _ (0, 0) _ rfl HCC.out Tryd.underlying115 rfl Tryd.sizeState) rfl ?_
  exact ⟨by rw [HC.out], HH2.out⟩

theorem take_drop_snoc (ys : List UInt8) (d k : Nat) : ys.take d ++ (ys.drop d).take k = ys.take (d + k) := by
  rw [List.take_add]

set_option maxRecDepth 100000 in
set_option maxHeartbeats 2000000 in
theorem write_ok (b : Nat) (xs ys : List UInt8) (A : Option Addr) (n c : Nat) (w : World) (R : List HP) (hh : Holds w (HashH b xs :: R)) (hr : Ent R fun w => RD w A ys) (hn : Hid (n = ys.length)) (hc : n ≤ c)
    (hk : Ent R KF) (hbd : xs.length + n ≤ 4611686018427387904) :
    Calls Tryd.prog 83 #[.pointer (some ⟨b, 0, none⟩), .slice A n c] w fun e w' => e = .returned (.tuple #[]) ∧ Holds w' (HashH b (xs ++ ys) :: R) := by
  obtain ⟨h, hh⟩ := hh.ex_
  obtain ⟨hi, hh⟩ := hh.cond_
  have cb := (hh.cells 8).trans (hcells_begun hi.ok)
  cases hbg : h.begun
  case' true =>
    rw [hbg] at cb
    have HB := Lib.hid hh; have HI := Lib.hid hi; have HBG := Lib.hid hbg; clear hh hi hbg
    go_enter Tryd.func83, Tryd.ntmps83
    go_wp2
  case' false =>
    rw [hbg] at cb
    have fb := hh.free 8
    have HB0 := Lib.hid hh; have HI0 := Lib.hid hi; have HBG0 := Lib.hid hbg; clear hh hi hbg
    have H8 := Lib.hid (show (Tryd.prog.info? 115).map (·.size) = some (wcs begS.list).toArray.size from Tryd.sizeState)
    have H1 := Lib.hid (show ∀ v ∈ (wcs begS.list).toArray.toList, v.oneCell' = true from wcs_one)
    have HF := Lib.hid (show 0 + (wcs begS.list).toArray.size ≤ (hcells h).size by rw [size_hcells HI0.out.ok]; decide)
    go_enter Tryd.func83, Tryd.ntmps83
    go_wp2_with (first
      | (go_at_call 102; (with_reducible refine (begin_ok _ _ HB0.out).mono ?_); rintro e w1 ⟨rfl, hh1⟩; have HH1 := Lib.hid hh1; have HH1b := Lib.hid hh1.blk; clear hh1)
      | (with_reducible refine wpList_store_blk rfl 115 (.tmp 17) (.tmp 15) rfl b 0 (wcs begS.list).toArray rfl rfl 118 (hcells h) HH1b.out H8.out HF.out H1.out ?_
         intro w2 hb2 hk2
         rw [show (wcs begS.list).toArray.toList = wcs begS.list from rfl, hcells_s_put HI0.out.ok begS.list rfl] at hb2
         have hh2 := HH1.out.reblk hb2 hk2
         have ok2 : ({ h with s := begS.list } : HS).Ok := ⟨rfl, HI0.out.ok.rest⟩
         have cb2 := (hh2.cells 8).trans (hcells_begun ok2)
         have fb2 := hh2.free 8
         have hh3 := hh2.set_ 8 (.bool true)
         rw [hcells_begun_put ok2 true] at hh3
         have HB := Lib.hid hh3; have HI := Lib.hid (HI0.out.begin_ HBG0.out)
         clear hb2 hk2 hh2 hh3 ok2))
    obtain ⟨h1, he, hbe⟩ : ∃ h1 : HS, h1 = { h with s := begS.list, begun := true } ∧ h1.begun = true := ⟨_, rfl, rfl⟩
    rw [← he] at HB HI
    have HBG := Lib.hid hbe
    clear he hbe
  all_goals
    go_loopw [1] (fun v wr => ∃ (d : Nat) (A' : Option Addr) (n' c' : Nat) (h2 : HS), d ≤ n ∧ v = .slice A' n' c' ∧ Hid (n' = n - d) ∧ n' ≤ c' ∧ Hid (Ent R fun w => RD w A' (ys.drop d)) ∧ Hid (ShaInv h2 (xs ++ ys.take d)) ∧ Hid (h2.begun = true) ∧ Holds wr (blk b 118 (hcells h2) :: R)) (fun v _ => match v with | .slice _ n _ => n | _ => 0)
    case atStart => exact ⟨0, A, n, c, _, by omega, rfl, rfl, hc, Lib.hid (by simpa using hr), Lib.hid (by simpa using HI.out), HBG, HB.out⟩
    case round =>
      obtain ⟨d, A', n', c', h2, hd, rfl, hn', hc', hr', hi2, hbg2, hb2⟩ := hrel
      by_cases hlt : 0 < n'
      · have hN : h2.n = xs.length + d := by rw [hi2.out.n, List.length_append, List.length_take, ← hn.out]; omega
        obtain ⟨t, ht⟩ : ∃ t : Nat, t = (xs.length + d) % 64 := ⟨_, rfl⟩
        have ht64 : t < 64 := by omega
        have htm : ((xs.length + d : Nat) : Int) % 64 = (t : Int) := by omega
        have cn := (hb2.cells 73).trans (hcells_n hi2.out.ok)
        rw [hN] at cn
        obtain ⟨gs, hrb⟩ := hr'.out _ hb2.tail
        obtain ⟨o, rfl, -⟩ := hrb (by intro e; have := congrArg List.length e; rw [List.length_drop, ← hn.out] at this; simp at this; have := hn'.out; omega)
        have hl : n' = (ys.drop d).length := by rw [List.length_drop, ← hn.out, hn'.out]
        generalize hNN : xs.length + d = N at cn ht htm hN
        have hNb : N ≤ 4611686018427387904 := by have := hn'.out; omega
        have HI2 := hi2; have HB2 := Lib.hid hb2; have HRB := Lib.hid hrb; have HL := Lib.hid hl; have HN := Lib.hid hN; have HT := Lib.hid ht; have HBB := Lib.hid hb2.blk
        have HFIT := Lib.hid (show (9 + t) + min n' (64 - t) ≤ (hcells h2).size by rw [size_hcells hi2.out.ok]; omega)
        have j1 : (0 : Int) ≤ (t : Int) := by omega
        have j2 : (t : Int) ≤ 64 := by omega
        clear hb2 hrb hl hN ht hNN
        go_wp2_with (with_reducible refine wpList_copy_b rfl (.tmp 32) (.tmp 33) 23 23 rfl Tryd.underlying23 Tryd.infoByte b (9 + t) (some ⟨b, 9 + t, none⟩) (64 - t) (64 - t) rfl 118 (hcells h2) HBB.out gs (some ⟨gs, o, none⟩) (ys.drop d) n' c' rfl HL.out HRB.out (fun _ => rfl) HFIT.out ?_)
        intro w2 hb3 hk3
        obtain ⟨zs, hzs⟩ : ∃ zs, zs = (ys.drop d).take (64 - t) := ⟨_, rfl⟩
        have hzl : zs.length = min n' (64 - t) := by rw [hzs, List.length_take, ← HL.out, Nat.min_comm]
        rw [← hzs, hcells_rest_put HI2.out.ok t zs (by omega)] at hb3
        have hh3 := HB2.out.reblk hb3 hk3
        have ok3 : ({ h2 with rest := restPut h2.rest t zs } : HS).Ok := ⟨HI2.out.ok.s, by rw [length_restPut _ _ _ (by rw [HI2.out.ok.rest]; omega)]; exact HI2.out.ok.rest⟩
        have cn3 := (hh3.cells 73).trans (hcells_n ok3)
        have fn3 := hh3.free 73
        simp only [HN.out] at cn3
        have hdr : ∀ A2, A2 = (if c' = zs.length then (some ⟨gs, o, none⟩ : Option Addr) else (some ⟨gs, o, none⟩ : Option Addr).map (·.add zs.length)) → Ent R fun w => RD w A2 (ys.drop (d + zs.length)) := by
          intro A2 hA2 w hw
          have := (hr'.out w hw).drop (k := zs.length) (c := c') (by rw [← HL.out]; omega) (by rw [← HL.out]; exact hc')
          rw [hA2]
          rwa [List.drop_drop] at this
        have htd : ys.take d ++ zs = ys.take (d + zs.length) := by
          rw [List.take_add, hzs, List.length_take, ← List.take_take, List.take_length]
        clear cn
        rw [← hzl]
        have HZL := Lib.hid hzl; have HB3 := Lib.hid hh3; have HOK3 := Lib.hid ok3; have HDR := Lib.hid hdr; have HTD := Lib.hid htd
        clear hb3 hk3 hzs hzl hh3 ok3 hdr htd
        have hnk : zs.length ≤ n' := by have := HZL.out; omega
        have hkt : zs.length ≤ 64 - t := by have := HZL.out; omega
        have hkp : 0 < zs.length := by have := HZL.out; omega
        have hfin : ∀ (wz : World) (h4 : HS) (A2 : Option Addr) (n2 c2 : Nat), A2 = (if c' = zs.length then (some ⟨gs, o, none⟩ : Option Addr) else (some ⟨gs, o, none⟩ : Option Addr).map (·.add zs.length)) → n2 = n' - zs.length → c2 = c' - zs.length → ShaInv h4 (xs ++ ys.take (d + zs.length)) → h4.begun = true → Holds wz (blk b 118 (hcells h4) :: R) →
            (∃ (d : Nat) (A' : Option Addr) (n' c' : Nat) (h2 : HS), d ≤ n ∧ Value.slice A2 n2 c2 = .slice A' n' c' ∧ Hid (n' = n - d) ∧ n' ≤ c' ∧ Hid (Ent R fun w => RD w A' (ys.drop d)) ∧ Hid (ShaInv h2 (xs ++ ys.take d)) ∧ Hid (h2.begun = true) ∧ Holds wz (blk b 118 (hcells h2) :: R)) := by
          intro wz h4 A2 n2 c2 e1 e2 e3 e4 e5 e6
          have := hn'.out
          exact ⟨d + zs.length, A2, n2, c2, h4, by omega, rfl, by unfold Hid; omega, by omega, HDR.out A2 e1, e4, e5, e6⟩
        have HFIN := Lib.hid hfin; clear hfin
        have hz : Holds (w2.setCell ⟨b, 73, none⟩ (.int .i64 ((N : Int) + (zs.length : Int)))) (blk b 118 (hcells { h2 with rest := restPut h2.rest t zs, n := h2.n + zs.length }) :: R) := by
          have := HB3.out.set_ 73 (.int .i64 ((N + zs.length : Nat) : Int))
          rw [hcells_n_put HOK3.out, Int.natCast_add] at this
          rw [HN.out]
          exact this
        have HZ := Lib.hid hz; clear hz
        have e1 : (xs ++ ys.take d).length % 64 = t := by rw [← hi2.out.n, HN.out, HT.out]
        by_cases h64 : t + zs.length = 64
        · have hfu := hi2.out.full (zs := zs) hbg2.out (by rw [e1]; exact h64)
          rw [e1, List.append_assoc, HTD.out] at hfu
          have HFU := Lib.hid hfu; have HS := Lib.hid (hi2.out.s hbg2.out); clear hfu e1
          have t64 : ((t : Int) + (zs.length : Int) == 64) = true := by simp; omega
          by_cases hck : c' = zs.length
          · go_wp2
            refine wp_region_held_drew (S := (fun _ => True)) (by kernel_rfl) ?_ (fun hHeld => ?_)
            · trivial
            refine takeH 0 ?_ rfl (by kernel_rfl) (by kernel_rfl) (by kernel_rfl) (fun _ _ _ h => h) (by kernel_rfl) (by assumption) (fun w hSw => ?_) ?_
            rotate_left
            · (try dsimp only at hSw); go_simp <;> (try with_reducible rfl)
            try simp only [Act.put, List.setIfInBounds_toArray, List.set_cons_zero, List.set_cons_succ]
            refine takeH 1 ?_ rfl (by kernel_rfl) (by kernel_rfl) (by kernel_rfl) (fun _ _ _ h => h) (by kernel_rfl) (by assumption) (fun w hSw => ?_) ?_
            rotate_left
            · (try dsimp only at hSw); go_simp <;> (try with_reducible rfl)
            try simp only [Act.put, List.setIfInBounds_toArray, List.set_cons_zero, List.set_cons_succ]
            refine takeH 2 ?_ rfl (by kernel_rfl) (by kernel_rfl) (by kernel_rfl) (fun _ _ _ h => h) (by kernel_rfl) (by assumption) (fun w hSw => ?_) ?_
            rotate_left
            · (try dsimp only at hSw); go_simp <;> (try with_reducible rfl)
            try simp only [Act.put, List.setIfInBounds_toArray, List.set_cons_zero, List.set_cons_succ]
            refine takeH 3 ?_ rfl (by kernel_rfl) (by kernel_rfl) (by kernel_rfl) (fun _ _ _ h => h) (by kernel_rfl) (by assumption) (fun w hSw => ?_) ?_
            rotate_left
            · (try dsimp only at hSw); go_simp <;> (try with_reducible rfl)
            try simp only [Act.put, List.setIfInBounds_toArray, List.set_cons_zero, List.set_cons_succ]
            refine takeH 4 ?_ rfl (by kernel_rfl) (by kernel_rfl) (by kernel_rfl) (fun _ _ _ h => h) (by kernel_rfl) (by assumption) (fun w hSw => ?_) ?_
            rotate_left
            · (try dsimp only at hSw); go_simp <;> (try with_reducible rfl)
            try simp only [Act.put, List.setIfInBounds_toArray, List.set_cons_zero, List.set_cons_succ]
            refine takeH 5 ?_ rfl (by kernel_rfl) (by kernel_rfl) (by kernel_rfl) (fun _ _ _ h => h) (by kernel_rfl) (by assumption) (fun w hSw => ?_) ?_
            rotate_left
            · (try dsimp only at hSw); go_simp <;> (try with_reducible rfl)
            try simp only [Act.put, List.setIfInBounds_toArray, List.set_cons_zero, List.set_cons_succ]
            refine takeH 6 ?_ rfl (by kernel_rfl) (by kernel_rfl) (by kernel_rfl) (fun _ _ _ h => h) (by kernel_rfl) (by assumption) (fun w hSw => ?_) ?_
            rotate_left
            · (try dsimp only at hSw); go_simp <;> (try with_reducible rfl)
            try simp only [Act.put, List.setIfInBounds_toArray, List.set_cons_zero, List.set_cons_succ]
            refine effH 7 rfl (by kernel_rfl) (by kernel_rfl) (fun K hK => ?_)
            go_simp
            refine (turn_ok b _ _ _ R HZ.out.drew ⟨hi2.out.ok.s, HFU.out.ok.rest⟩ HS.out hk).mono ?_
            rintro e w3 ⟨rfl, hh4⟩
            refine hK.out _ _ trivial (fun hHeld => ?_)
            clear hK K hHeld
            refine wpAnyH_done (by kernel_rfl) ?_ _
            go_wp2
            go_roundw
            case rel => exact HFIN.out _ _ _ _ _ (by rw [if_pos hck]) rfl (by omega) HFU.out hbg2.out hh4
            case measure => simp; omega
          · go_wp2
            refine wp_region_held_drew (S := (fun _ => True)) (by kernel_rfl) ?_ (fun hHeld => ?_)
            · trivial
            refine takeH 0 ?_ rfl (by kernel_rfl) (by kernel_rfl) (by kernel_rfl) (fun _ _ _ h => h) (by kernel_rfl) (by assumption) (fun w hSw => ?_) ?_
            rotate_left
            · (try dsimp only at hSw); go_simp <;> (try with_reducible rfl)
            try simp only [Act.put, List.setIfInBounds_toArray, List.set_cons_zero, List.set_cons_succ]
            refine takeH 1 ?_ rfl (by kernel_rfl) (by kernel_rfl) (by kernel_rfl) (fun _ _ _ h => h) (by kernel_rfl) (by assumption) (fun w hSw => ?_) ?_
            rotate_left
            · (try dsimp only at hSw); go_simp <;> (try with_reducible rfl)
            try simp only [Act.put, List.setIfInBounds_toArray, List.set_cons_zero, List.set_cons_succ]
            refine takeH 2 ?_ rfl (by kernel_rfl) (by kernel_rfl) (by kernel_rfl) (fun _ _ _ h => h) (by kernel_rfl) (by assumption) (fun w hSw => ?_) ?_
            rotate_left
            · (try dsimp only at hSw); go_simp <;> (try with_reducible rfl)
            try simp only [Act.put, List.setIfInBounds_toArray, List.set_cons_zero, List.set_cons_succ]
            refine takeH 3 ?_ rfl (by kernel_rfl) (by kernel_rfl) (by kernel_rfl) (fun _ _ _ h => h) (by kernel_rfl) (by assumption) (fun w hSw => ?_) ?_
            rotate_left
            · (try dsimp only at hSw); go_simp <;> (try with_reducible rfl)
            try simp only [Act.put, List.setIfInBounds_toArray, List.set_cons_zero, List.set_cons_succ]
            refine takeH 4 ?_ rfl (by kernel_rfl) (by kernel_rfl) (by kernel_rfl) (fun _ _ _ h => h) (by kernel_rfl) (by assumption) (fun w hSw => ?_) ?_
            rotate_left
            · (try dsimp only at hSw); go_simp <;> (try with_reducible rfl)
            try simp only [Act.put, List.setIfInBounds_toArray, List.set_cons_zero, List.set_cons_succ]
            refine takeH 5 ?_ rfl (by kernel_rfl) (by kernel_rfl) (by kernel_rfl) (fun _ _ _ h => h) (by kernel_rfl) (by assumption) (fun w hSw => ?_) ?_
            rotate_left
            · (try dsimp only at hSw); go_simp <;> (try with_reducible rfl)
            try simp only [Act.put, List.setIfInBounds_toArray, List.set_cons_zero, List.set_cons_succ]
            refine takeH 6 ?_ rfl (by kernel_rfl) (by kernel_rfl) (by kernel_rfl) (fun _ _ _ h => h) (by kernel_rfl) (by assumption) (fun w hSw => ?_) ?_
            rotate_left
            · (try dsimp only at hSw); go_simp <;> (try with_reducible rfl)
            try simp only [Act.put, List.setIfInBounds_toArray, List.set_cons_zero, List.set_cons_succ]
            refine effH 7 rfl (by kernel_rfl) (by kernel_rfl) (fun K hK => ?_)
            go_simp
            refine (turn_ok b _ _ _ R HZ.out.drew ⟨hi2.out.ok.s, HFU.out.ok.rest⟩ HS.out hk).mono ?_
            rintro e w3 ⟨rfl, hh4⟩
            refine hK.out _ _ trivial (fun hHeld => ?_)
            clear hK K hHeld
            refine wpAnyH_done (by kernel_rfl) ?_ _
            go_wp2
            go_roundw
            case rel => exact HFIN.out _ _ _ _ _ (by rw [if_neg hck, Option.map_some, add_plain]) rfl (by omega) HFU.out hbg2.out hh4
            case measure => simp; omega
        · have hfe := hi2.out.few (zs := zs) hbg2.out (by rw [e1]; omega)
          rw [e1, List.append_assoc, HTD.out] at hfe
          have HFE := Lib.hid hfe; clear hfe e1
          have t64 : ((t : Int) + (zs.length : Int) == 64) = false := by simp; omega
          by_cases hck : c' = zs.length
          · go_wp2
            go_roundw
            case rel => exact HFIN.out _ _ _ _ _ (by rw [if_pos hck]) rfl (by omega) HFE.out hbg2.out HZ.out
            case measure => simp; omega
          · go_wp2
            go_roundw
            case rel => exact HFIN.out _ _ _ _ _ (by rw [if_neg hck, Option.map_some, add_plain]) rfl (by omega) HFE.out hbg2.out HZ.out
            case measure => simp; omega
      · have h0 : n' = 0 := by omega
        have hdn : ys.take d = ys := List.take_of_length_le (by rw [← hn.out]; have := hn'.out; omega)
        rw [hdn] at hi2
        have HB2 := Lib.hid hb2; clear hb2 hdn
        subst h0
        go_wp2
        go_returns
        exact ⟨rfl, Holds.mk_ex h2 (Holds.mk_cond hi2.out HB2.out)⟩

theorem write_nil (A : Option Addr) (n c : Nat) (w : World) : Calls Tryd.prog 83 #[.pointer none, .slice A n c] w fun e w' => e = .returned (.tuple #[]) ∧ w = w' := by
  go_enter Tryd.func83, Tryd.ntmps83
  go_wp2
  go_returns
  exact ⟨rfl, rfl⟩















theorem Holds.hash_new {w : World} {R : List HP} {b : Nat} {cs : Array Value} (h : Holds w (HP.blk b 118 cs :: R)) (hc : cs = hcells HS.zero) : Holds w (HashH b [] :: R) := by
  subst hc
  exact Holds.mk_ex HS.zero (Holds.mk_cond ShaInv.zero h)
end Go.Proofs.YtibkngjacdggpaaDoor
/- sha: New, Reset. -/
namespace Go.Proofs.YtibkngjacdggpaaDoor
open Go.RowKit HP








































end Go.Proofs.YtibkngjacdggpaaDoor
