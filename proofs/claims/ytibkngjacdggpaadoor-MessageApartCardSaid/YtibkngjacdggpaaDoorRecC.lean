/- Edits written and read. -/
import Derived.Test.YtibkngjacdggpaaDoorRecEq
namespace Go.Proofs.YtibkngjacdggpaaDoor
open Go.RowKit HP

theorem wnum_len (s : List UInt8 × Bool) (n : Nat) (k : Int) : (wnum s n k).1.length ≤ s.1.length + 8 := by
  unfold wnum
  split
  · omega
  · split
    · rename_i h
      simp only [Bool.and_eq_true] at h
      obtain rfl | rfl | rfl | rfl := szB_cases h.1 <;> simp
    · show s.1.length ≤ _; omega
theorem wtruth_len (s : List UInt8 × Bool) (t : Bool) : (wtruth s t).1.length ≤ s.1.length + 8 := wnum_len _ _ _
theorem whash_len (s : List UInt8 × Bool) {t : List UInt8} (ht : t.length = 32) : (whash s t).1.length ≤ s.1.length + 32 := by
  unfold whash
  split
  · omega
  · simp [ht]
theorem wtext_len (s : List UInt8 × Bool) (t : List UInt8) : (wtext s t).1.length ≤ s.1.length + 65537 := by
  unfold wtext
  split
  · omega
  · split
    · show s.1.length ≤ _; omega
    · simp; omega
def wedit (s : List UInt8 × Bool) (e : Ed) : List UInt8 × Bool := wtext (whash (wtruth (wtruth s e.q) e.x) e.h) e.s
theorem wedit_len (s : List UInt8 × Bool) {e : Ed} (he : e.Ok) : (wedit s e).1.length ≤ s.1.length + 65600 := by
  have h1 := wtruth_len s e.q
  have h2 := wtruth_len (wtruth s e.q) e.x
  have h3 := whash_len (wtruth (wtruth s e.q) e.x) he
  have h4 := wtext_len (whash (wtruth (wtruth s e.q) e.x) e.h) e.s
  unfold wedit; omega
theorem Ed.range_h {w : World} {g : Nat} {T : TypeId} {e : Ed} (hb : Blk w g T e.cells.toArray) : w.rangeAt g 3 (bcs e.h) := by
  have := hb.mid [.string (strOf e.s), .bool e.q, .bool e.x] (bcs e.h) [] (by simp [Ed.cells])
  exact this
theorem Ed.put_h {e : Ed} (h : e.Ok) {xs : List UInt8} (hx : xs.length = 32) : putA e.cells.toArray 3 (bcs xs) = { e with h := xs }.cells.toArray := by
  have := putA_mid [.string (strOf e.s), .bool e.q, .bool e.x] (bcs e.h) (bcs xs) [] (by simp [hx, show e.h.length = 32 from h])
  simpa [Ed.cells] using this
theorem wedit_ok (e : Ed) (he : e.Wf) {w : World} {R : List HP} {b : Nat} {s : List UInt8 × Bool} (h : Holds w (WrH b s :: R)) (hbd : s.1.length + 200000 ≤ 140737488355328) :
    Calls Tryd.prog 47 #[.pointer (some ⟨b, 0, none⟩), .agg e.cells.toArray] w fun en w' => en = .returned (.tuple #[]) ∧ Holds w' (WrH b (wedit s e) :: R) := by
  have HE := Lib.hid he.ok
  have h0 := h.alloc 40 e.cells.toArray
  have c1 : (w.alloc (.cells e.cells.toArray 40)).cell? ⟨w.heap.size, 1, none⟩ = some (.bool e.q) := h0.cells 1
  have l1 := Lib.hid (wtruth_len s e.q)
  have l2 := Lib.hid (wtruth_len (wtruth s e.q) e.x)
  have l3 := Lib.hid (whash_len (wtruth (wtruth s e.q) e.x) he.ok)
  have lt : (strOf e.s).size ≤ 9223372036854775807 := by rw [strOf_size]; have := he.s; simp only [maxLen] at this; omega
  have LT := Lib.hid lt
  clear lt he h
  have H0 := Lib.hid h0; clear h0
  have HR := Lib.hid (show (Tryd.prog.info? 22).map (·.size) = some (bcs e.h).length by rw [Tryd.sizeHash]; simp [show e.h.length = 32 from HE.out])
  generalize hce : e.cells.toArray = CE at *
  have HCE := Lib.hid hce; clear hce
  have B1 := Lib.hid (show s.1.length + 8 ≤ 140737488355328 by omega)
  have B2 := Lib.hid (show (wtruth s e.q).1.length + 8 ≤ 140737488355328 by have := l1.out; omega)
  have B3 := Lib.hid (show (wtruth (wtruth s e.q) e.x).1.length + 32 ≤ 140737488355328 by have := l1.out; have := l2.out; omega)
  have B4 := Lib.hid (show (whash (wtruth (wtruth s e.q) e.x) e.h).1.length + 70000 ≤ 140737488355328 by have := l1.out; have := l2.out; have := l3.out; omega)
  clear hbd
  go_enter Tryd.func47, Tryd.ntmps47
  go_wp2_with fail
  refine (truth_sl e.q (H0.out.pull 1 rfl) B1.out).mono ?_
  rintro en w1 ⟨rfl, h1⟩
  have c2 := (h1.pull 1 rfl).cells 2
  rw [← HCE.out] at c2
  change _ = some (Value.bool e.x) at c2
  have H1 := Lib.hid h1; clear h1 c1
  go_wp2_with fail
  refine (truth_sl e.x H1.out B2.out).mono ?_
  rintro en w2 ⟨rfl, h2⟩
  have H2 := Lib.hid h2; clear h2 c2
  go_wp2_with (refine wpList_load_mid rfl 22 (.tmp 15) rfl w.heap.size 3 rfl (bcs e.h) _ (Ed.range_h (e := e) (by rw [HCE.out]; exact (H2.out.pull 1 rfl).blk)) Tryd.underlying22 rfl HR.out ?_)
  refine (hash_sl e.h HE.out H2.out B3.out).mono ?_
  rintro en w3 ⟨rfl, h3⟩
  have c0 := (h3.pull 1 rfl).cells 0
  rw [← HCE.out] at c0
  change _ = some (Value.string (strOf e.s)) at c0
  have H3 := Lib.hid h3; clear h3
  go_wp2_with fail
  refine (text_sl (strOf e.s) LT.out H3.out B4.out).mono ?_
  rintro en w4 ⟨rfl, h4⟩
  rw [show (strOf e.s).data.toList = e.s by simp [strOf]] at h4
  have H4 := Lib.hid h4; clear h4 c0
  go_wp2
  go_returns
  exact ⟨rfl, H4.out.drop 1 rfl⟩
def redit (s : List UInt8 × Bool) : Ed × (List UInt8 × Bool) :=
  (⟨(rtext (rhash (rtruth (rtruth s).2).2).2).1, (rtruth s).1, (rtruth (rtruth s).2).1, (rhash (rtruth (rtruth s).2).2).1⟩, (rtext (rhash (rtruth (rtruth s).2).2).2).2)
theorem rhash_len32 (s : List UInt8 × Bool) : (rhash s).1.length = 32 := by
  simp only [rhash, padTo, List.length_append, length_zeros]
  have : (rtake s 32).1.length ≤ 32 := by
    unfold rtake
    repeat' split
    all_goals simp
    all_goals omega
  omega
theorem Tryd.sizeBool : (Tryd.prog.info? 4).map (·.size) = some 1 := by kernel_rfl
theorem Tryd.sizeStr : (Tryd.prog.info? 9).map (·.size) = some 1 := by kernel_rfl
theorem redit_ok {w : World} {R : List HP} {r : Nat} {s : List UInt8 × Bool} (h : Holds w (RdH 134 r s :: R)) (hb : s.1.length ≤ 140737488355328) :
    Calls Tryd.prog 96 #[.pointer (some ⟨r, 0, none⟩)] w fun en w' => en = .returned (.agg (redit s).1.cells.toArray) ∧ Holds w' (RdH 134 r (redit s).2 :: R) := by
  have h0 := h.alloc 40 Ed.zero.cells.toArray
  have H0 := Lib.hid h0; clear h0 h
  obtain ⟨s1, E1⟩ : ∃ s1, Hid ((rtruth s).2 = s1) := ⟨_, rfl⟩
  obtain ⟨s2, E2⟩ : ∃ s2, Hid ((rtruth s1).2 = s2) := ⟨_, rfl⟩
  obtain ⟨s3, E3⟩ : ∃ s3, Hid ((rhash s2).2 = s3) := ⟨_, rfl⟩
  have B1 := Lib.hid (show s1.1.length ≤ 140737488355328 from Nat.le_trans (by rw [← E1.out]; exact rtruth_len s) hb)
  have B2 := Lib.hid (show s2.1.length ≤ 140737488355328 from Nat.le_trans (by rw [← E2.out]; exact rtruth_len s1) B1.out)
  have B3 := Lib.hid (show s3.1.length ≤ 140737488355328 from Nat.le_trans (by rw [← E3.out]; exact rtake_len _ _) B2.out)
  have HB := Lib.hid hb; clear hb
  have HN := Lib.hid (rhash_len32 s2)
  generalize hq : (rtruth s).1 = q
  generalize hx : (rtruth s1).1 = x
  generalize hh : (rhash s2).1 = xs at HN
  generalize ht : (rtext s3).1 = t
  have HF : Hid ((redit s) = (⟨t, q, x, xs⟩, (rtext s3).2)) := by
    unfold Hid redit
    rw [E1.out, E2.out, E3.out, hq, hx, hh, ht]
  rw [HF.out]
  have HQ := Lib.hid hq
  have HX := Lib.hid hx
  have HS := Lib.hid hh
  have HT := Lib.hid ht
  clear hq hx hh ht
  go_enter Tryd.func96, Tryd.ntmps96
  go_wp2_with fail
  refine (rtruth_sl (H0.out.pull 1 rfl) HB.out).mono ?_
  rintro en w1 ⟨rfl, h1⟩
  rw [HQ.out]
  rw [E1.out] at h1
  have c1 := (h1.pull 1 rfl).cells 1
  have f1 := (h1.pull 1 rfl).free 1
  change _ = some (Value.bool false) at c1
  have H1 := Lib.hid h1; clear h1
  go_wp2_with fail
  have h2 := (H1.out.pull 1 rfl).set_ 1 (.bool q)
  change Holds _ (blk w.heap.size 40 (Ed.cells ⟨[], q, false, zeros 32⟩).toArray :: _) at h2
  generalize w1.setCell ⟨w.heap.size, 1, none⟩ (.bool q) = w2 at h2 ⊢
  refine (rtruth_sl (h2.pull 1 rfl) B1.out).mono ?_
  rintro en w3 ⟨rfl, h3⟩
  rw [HX.out]
  rw [E2.out] at h3
  have c2 := (h3.pull 1 rfl).cells 2
  have f2 := (h3.pull 1 rfl).free 2
  change _ = some (Value.bool false) at c2
  have H3 := Lib.hid h3; clear h3 c1 f1 h2
  go_wp2_with fail
  have h4 := (H3.out.pull 1 rfl).set_ 2 (.bool x)
  change Holds _ (blk w.heap.size 40 (Ed.cells ⟨[], q, x, zeros 32⟩).toArray :: _) at h4
  generalize w3.setCell ⟨w.heap.size, 2, none⟩ (.bool x) = w4 at h4 ⊢
  refine (rhash_sl (h4.pull 1 rfl) B2.out).mono ?_
  rintro en w5 ⟨rfl, h5⟩
  rw [HS.out]
  rw [E3.out] at h5
  have H5 := Lib.hid h5; clear h5 c2 f2 h4
  have HZ : Hid (Ed.Ok ⟨[], q, x, zeros 32⟩) := length_zeros 32
  have HY : Hid (Ed.Ok ⟨[], q, x, xs⟩) := HN.out
  have HY2 : Hid (Ed.Ok ⟨t, q, x, xs⟩) := HN.out
  go_wp2_with (first
    | (refine wpList_store_blk rfl 22 (.tmp 13) (.tmp 12) rfl w.heap.size 3 (bcs xs).toArray rfl rfl 40 _ (H5.out.pull 1 rfl).blk (by rw [Tryd.sizeHash]; simp [HN.out]) (by simp [Ed.length_cells HZ.out, HN.out]) bcs_one ?_
       intro w6 hb6 hk6
       rw [show (bcs xs).toArray.toList = bcs xs from rfl, Ed.put_h HZ.out HN.out] at hb6
       have H6 := Lib.hid ((H5.out.pull 1 rfl).reblk hb6 hk6)
       clear hb6 hk6))
  refine (rtext_sl (H6.out.pull 1 rfl) B3.out).mono ?_
  rintro en w7 ⟨rfl, h7⟩
  rw [HT.out]
  have c0 := (h7.pull 1 rfl).cells 0
  have f0 := (h7.pull 1 rfl).free 0
  change _ = some (Value.string _) at c0
  have h8 := (h7.pull 1 rfl).set_ 0 (.string (strOf t))
  change Holds _ (blk w.heap.size 40 (Ed.cells ⟨t, q, x, xs⟩).toArray :: _) at h8
  have H8 := Lib.hid h8; clear h7 h8
  go_wp2_with (first
    | (refine wpList_load_mid rfl 40 (.tmp 2) rfl w.heap.size 0 rfl (Ed.cells ⟨t, q, x, xs⟩) _ H8.out.blk.range Tryd.underlying40 rfl (Ed.sizeL HY2.out) ?_; simp only [Act.put, List.setIfInBounds_toArray, List.set_cons_zero, List.set_cons_succ])
    | (refine wpList_store_blk rfl 40 (.tmp 2) (.tmp 17) rfl w.heap.size 0 (Ed.cells ⟨t, q, x, xs⟩).toArray (by exact rfl) (by exact rfl) 40 _ H8.out.blk (Ed.size HY2.out) (by simp) (Ed.one _) ?_
       intro w9 hb9 hk9
       rw [putA_all _ _ (by simp)] at hb9
       have hh9 := H8.out.reblk hb9 hk9
       have HB9 := Lib.hid hh9.blk_heap
       have HH9 := Lib.hid hh9.tail
       clear hb9 hk9 hh9))
  refine bodyPost_ret (results_cell_row rfl _ _ w.heap.size 40 (Ed.cells ⟨t, q, x, xs⟩).toArray (0, 0) _ rfl HB9.out Tryd.underlying40 rfl (Ed.size HY2.out)) rfl ?_
  exact ⟨rfl, HH9.out⟩
end Go.Proofs.YtibkngjacdggpaaDoor
