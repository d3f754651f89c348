/- the reference's stream; lists of frames compared; awake -/
import Derived.Test.YtmaiokjcgijdcaaDoorStreamB
import Derived.Test.YtmaiokjcgijdcaaDoorFrameL
namespace Go.Proofs.YtmaiokjcgijdcaaDoor
open Go.RowKit HP

theorem Tryd.infoRFrame : (Tryd.prog.info? 30).map (fun i => (i.zero, i.size, i.bytes)) = some (some (.agg #[.int .u8 0, .slice none 0 0]), 2, 32) := by kernel_rfl
theorem Ent.from {R : List HP} {g o : Nat} {xs : List UInt8} (h : Ent R fun w => RD w (some ⟨g, o, none⟩) xs) (k : Nat) : Ent R fun w => RD w (some ⟨g, o + k, none⟩) (xs.drop k) := fun w hw => (h w hw).from k
theorem Ent.nil {R : List HP} (A : Option Addr) : Ent R fun w => RD w A [] := fun w _ => RD.nil w A
/-- one more frame at the end of a list, out of a block -/
theorem Holds.frs_push {w : World} {R : List HP} {T : TypeId} {v' : Value} {t : UInt8} {A : Option Addr} {n c : Nat} {body : List UInt8} {l : List FS} {fs : List (UInt8 × List UInt8)} (h : Holds w (row T 2 v' (l.length + 1) (fsCells l ++ FS.cells ⟨t, A, n, c, body⟩) :: fsBodies l :: own (.slice A n c) body :: R))
    (hl1 : Hid (l.map FS.frm = fs)) (hl2 : ∀ f ∈ l, f.Ok) (hn : Hid (n = body.length)) (hc : n ≤ c) : Holds w (FrH T v' (fs ++ [(t, body)]) :: R) := by
  have h6 := (h.pull 2 rfl).own_rb
  have h7 := (h6.pull 1 rfl).perm ((List.Perm.swap _ _ _).cons _)
  exact h7.frs_snoc (f := ⟨t, A, n, c, body⟩) rfl hl1 hl2 ⟨hn, hc⟩
set_option maxRecDepth 100000 in
set_option maxHeartbeats 2000000 in
theorem rstream_ok (A : Option Addr) (n c : Nat) (xs : List UInt8) (w : World) (R : List HP) (hh : Holds w R) (hr : Ent R fun w => RD w A xs) (hn : Hid (n = xs.length)) (hc : n ≤ c) (hb : xs.length ≤ 1000000) :
    Calls Tryd.prog 23 #[.slice A n c] w fun e w' => ∃ v, e = .returned (.tuple #[v, .int .i64 ((strF xs).2.1 : Nat), .int .i64 ((strF xs).2.2.length : Nat)]) ∧ Holds w' (FrH 30 v (strF xs).1 :: R) := by
  have HH := Lib.hid (hh.frs_nil (T := 30))
  have HRD := Lib.hid hr
  have HQ := Lib.hid (show (strF xs).1.length ≤ 1000000 from Nat.le_trans (strF_frames _) hb)
  clear hh hr
  go_enter Tryd.func23, Tryd.ntmps23
  go_wp2
  go_loopg [0, 5, 6] (xs.length) (fun k v0 v5 v6 wr => ∃ (A1 : Option Addr) (n1 c1 : Nat) (b1 : List UInt8) (fs : List (UInt8 × List UInt8)) (d1 : Nat), v0 = .slice A1 n1 c1 ∧ v6 = .int .i64 d1 ∧ Hid (k = b1.length) ∧ Hid (n1 = b1.length) ∧ n1 ≤ c1 ∧ Hid (Ent R fun w => RD w A1 b1) ∧
    Hid (strF xs = (fs ++ (strF b1).1, d1 + (strF b1).2.1, (strF b1).2.2) ∧ d1 + b1.length ≤ xs.length) ∧ Holds wr (FrH 30 v5 fs :: R))
  case atStart => exact ⟨A, n, c, xs, [], 0, rfl, rfl, rfl, hn, hc, HRD, ⟨by simp, by omega⟩, HH.out⟩
  case round =>
    obtain ⟨A1, n1, c1, b1, fs, d1, rfl, rfl, hgk, hn1, hc1, hr1, hs, hq⟩ := hrel
    obtain ⟨A5, n5, c5, rfl, hn5, hc5⟩ := hq.fr_form
    have hd1 : d1 ≤ 1000000 := by have := hs.out.2; omega
    have hn1b : n1 ≤ 1000000 := by have := hs.out.2; rw [hn1.out]; omega
    by_cases hb1 : b1 = []
    · subst hb1
      obtain rfl : n1 = 0 := hn1.out
      have HS : Hid (strF xs = (fs, d1, [])) := by unfold Hid; rw [hs.out.1, strF_nil]; simp
      have HHQ := Lib.hid hq
      clear hs hq
      go_wp2
      go_returns
      exact ⟨_, by rw [HS.out]; rfl, by rw [HS.out]; exact HHQ.out⟩
    · have hn10 : 0 < n1 := by rw [hn1.out]; exact List.length_pos_iff.2 hb1
      obtain ⟨g, o, rfl, -⟩ := (hr1.out _ hq.tail).addr hb1
      have HD := Lib.hid (rdecode_ok (some ⟨g, o, none⟩) n1 c1 b1 wr _ hq (hr1.out.cons _) hn1 hc1 (by omega))
      clear hq
      by_cases hE : (decF b1).2.2.2 = 0
      · have hm := decF_ok hE
        have hst := strF_ok hb1 hE
        rw [hE] at HD
        generalize (decF b1).1 = t at HD hst
        generalize (decF b1).2.1 = body at HD hst
        generalize (decF b1).2.2.1 = m at HD hst hm
        rw [← hn1.out] at hm
        obtain ⟨hm1, hm2⟩ := hm
        have HS : Hid (strF xs = ((fs ++ [(t, body)]) ++ (strF (b1.drop m)).1, d1 + (strF (b1.drop m)).2.1, (strF (b1.drop m)).2.2) ∧ d1 + (b1.drop m).length ≤ xs.length) := by
          refine ⟨by rw [hs.out.1, hst]; simp, ?_⟩
          rw [List.length_drop]; have := hs.out.2; omega
        have hmc : (m : Int) ≤ c1 := by omega
        have hlb : fs.length ≤ 1000000 := by
          have h1 := HQ.out
          rw [hs.out.1, List.length_append] at h1
          omega
        have HN1 : Hid (n1 - m = (b1.drop m).length) := by unfold Hid; rw [List.length_drop, hn1.out]
        clear hst hs hE hb1
        go_wp2_with (first
          | (go_at_call 16; (with_reducible refine HD.out.mono ?_); rintro e w2 ⟨v2, rfl, hh2⟩
             obtain ⟨A3, n3, c3, rfl, hn3, hc3, -⟩ := hh2.own_form
             have HH2 := Lib.hid hh2; clear hh2)
          | (at_builtin
             have hh3 := (HH2.out.alloc 30 #[.int .u8 (t.toNat : Int), .slice A3 n3 c3]).alloc 30 (FS.cells ⟨t, A3, n3, c3, body⟩).toArray
             obtain ⟨l, hl1, hl2, hl⟩ := (hh3.pull 3 rfl).frs
             have hl5 : Hid (n5 = l.length) := by unfold Hid; rw [hn5.out, ← hl1.out, List.length_map]
             have hlb2 : l.length ≤ 1000000 := by rw [← hl1.out, List.length_map] at hlb; exact hlb
             have hmx : l.length + 1 ≤ maxLen := by simp only [maxLen]; omega
             have hmb : (l.length + 1) * 32 ≤ 140737488355328 := by omega
             have hrow : RowRd ((w2.alloc (.cells #[.int .u8 (t.toNat : Int), .slice A3 n3 c3] 30)).alloc (.cells (FS.cells ⟨t, A3, n3, c3, body⟩).toArray 30)) (some ⟨w2.heap.size + 1, 0, none⟩) (FS.cells ⟨t, A3, n3, c3, body⟩) := by
               have := hh3.blk_row
               rwa [heap_size_alloc] at this
             refine wpList_app_row rfl (.tmp 26) (.tmp 28) 47 30 _ 2 32 rfl Tryd.underlying47 Tryd.infoRFrame rfl (by decide) _ l.length (fsCells l) hl rfl (some ⟨w2.heap.size + 1, 0, none⟩) 1 1 (FS.cells ⟨t, A3, n3, c3, body⟩) rfl rfl hrow (FS.cells_one _) hmx hmb ?_
             intro v5 w5 hh5
             have hh6 := (hh5.drop 2 rfl).drop 2 rfl
             have hh7 := Holds.frs_push hh6 hl1 hl2 hn3 hc3
             have HH8 := Lib.hid hh7
             clear hh3 hl1 hl2 hl hh5 hrow hh6 hh7))
        · go_roundg (b1.drop m).length
          case measure => rw [hgk.out, ← HN1.out, ← hn1.out]; omega
          case rel =>
            have hb0 : b1.drop m = [] := List.drop_of_length_le (by rw [← hn1.out]; omega)
            exact ⟨_, n1 - m, 0, b1.drop m, fs ++ [(t, body)], d1, rfl, rfl, rfl, HN1, by omega, by unfold Hid; rw [hb0]; exact Ent.nil _, HS, HH8.out⟩
        · go_roundg (b1.drop m).length
          case measure => rw [hgk.out, ← HN1.out, ← hn1.out]; omega
          case rel => exact ⟨_, n1 - m, c1 - m, b1.drop m, fs ++ [(t, body)], d1, rfl, rfl, rfl, HN1, by omega, hr1.out.from m, HS, HH8.out⟩
      · by_cases h4 : (decF b1).2.2.2 = 4
        · have hst := strF_short hb1 h4
          rw [h4] at HD
          have HS : Hid (strF xs = (fs, d1, b1)) := by unfold Hid; rw [hs.out.1, hst]; simp
          generalize (decF b1).1 = t at HD
          generalize (decF b1).2.1 = body at HD
          generalize (decF b1).2.2.1 = m at HD
          clear hst hs hE hb1 h4
          go_wp2_with (first
             | (go_at_call 16; (with_reducible refine HD.out.mono ?_); rintro e w2 ⟨v2, rfl, hh2⟩
                obtain ⟨A3, n3, c3, rfl, hn3, hc3, -⟩ := hh2.own_form
                have HH2 := Lib.hid hh2; clear hh2))
          go_returns
          refine ⟨_, by rw [HS.out, ← hn1.out]; rfl, ?_⟩
          rw [HS.out]
          exact (HH2.out.alloc 30 #[.int .u8 (t.toNat : Int), .slice A3 n3 c3]).tail.tail
        · have hst := strF_bad hb1 hE h4
          have hE0 : (((decF b1).2.2.2 : Int) == 0) = false := by simpa using hE
          have hE4 : (((decF b1).2.2.2 : Int) == 4) = false := by
            rw [beq_eq_false_iff_ne]; intro h; exact h4 (by omega)
          generalize (decF b1).1 = t at HD
          generalize (decF b1).2.1 = body at HD
          generalize (decF b1).2.2.1 = m at HD
          generalize (decF b1).2.2.2 = E at HD hE0 hE4
          have HS : Hid (strF xs = (fs ++ (strF (b1.drop 1)).1, (d1 + 1) + (strF (b1.drop 1)).2.1, (strF (b1.drop 1)).2.2) ∧ (d1 + 1) + (b1.drop 1).length ≤ xs.length) := by
            refine ⟨by rw [hs.out.1, hst]; simp only [Prod.mk.injEq, true_and, and_true]; omega, ?_⟩
            rw [List.length_drop]; have := hs.out.2; have := hn1.out; omega
          have HN1 : Hid (n1 - 1 = (b1.drop 1).length) := by unfold Hid; rw [List.length_drop, hn1.out]
          have hmc : (1 : Int) ≤ c1 := by omega
          clear hst hs hE hb1 h4
          go_wp2_with (first
             | (go_at_call 16; (with_reducible refine HD.out.mono ?_); rintro e w2 ⟨v2, rfl, hh2⟩
                obtain ⟨A3, n3, c3, rfl, hn3, hc3, -⟩ := hh2.own_form
                have HH2 := Lib.hid (hh2.alloc 30 #[.int .u8 (t.toNat : Int), .slice A3 n3 c3]).tail.tail; clear hh2))
          · go_roundg (b1.drop 1).length
            case measure => rw [hgk.out, ← HN1.out, ← hn1.out]; omega
            case rel =>
              have hb0 : b1.drop 1 = [] := List.drop_of_length_le (by rw [← hn1.out]; omega)
              exact ⟨_, n1 - 1, 0, b1.drop 1, fs, d1 + 1, rfl, by go_num, rfl, HN1, by omega, by unfold Hid; rw [hb0]; exact Ent.nil _, HS, HH2.out⟩
          · go_roundg (b1.drop 1).length
            case measure => rw [hgk.out, ← HN1.out, ← hn1.out]; omega
            case rel => exact ⟨_, n1 - 1, c1 - 1, b1.drop 1, fs, d1 + 1, rfl, by go_num, rfl, HN1, by omega, hr1.out.from 1, HS, HH2.out⟩
end Go.Proofs.YtmaiokjcgijdcaaDoor
