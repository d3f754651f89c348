/- the stream: next, Feed -/
import Derived.Test.YtmaiokjcgijdcaaDoorStreamA
import Derived.Deep.LoopGhost
namespace Go.Proofs.YtmaiokjcgijdcaaDoor
open Go.RowKit HP

theorem strF_skip : ∀ (b : List UInt8), strF b = ((strF (b.drop (skipN b))).1, skipN b + (strF (b.drop (skipN b))).2.1, (strF (b.drop (skipN b))).2.2)
  | [] => by simp [skipN]
  | x :: l => by
    unfold skipN
    split
    · simp
    · rename_i hb
      have hd : decF (x :: l) = (0, [], 0, 2) := by unfold decF; rw [if_pos (by simpa using hb)]
      have ih := strF_skip l
      rw [strF_bad (by simp) (by rw [hd]; decide) (by rw [hd]; decide), List.drop_one, List.tail_cons, List.drop_succ_cons, ih]
      simp only [Prod.mk.injEq, true_and, and_true]
      omega
theorem skipN_begins : ∀ (b : List UInt8), b.drop (skipN b) ≠ [] → beginsF (b.drop (skipN b)) = true
  | [], h => by simp [skipN] at h
  | x :: l, h => by
    unfold skipN at h ⊢
    split
    · rename_i hb; simpa using hb
    · rename_i hb
      rw [if_neg hb, List.drop_succ_cons] at h
      rw [List.drop_succ_cons]
      exact skipN_begins l h
/-- what next says: the bytes b are in hand -/
structure Nxt (b : List UInt8) (ok : Bool) (t : UInt8) (body r : List UInt8) (d : Nat) : Prop where
  some_ : ok = true → strF b = ((t, body) :: (strF r).1, d + (strF r).2.1, (strF r).2.2) ∧ r.length < b.length
  none_ : ok = false → strF b = ([], d, r)
  len : d + r.length ≤ b.length
theorem decF_four {b : List UInt8} (h : (decF b).2.2.2 = 4) : (decF b).1 = 0 ∧ (decF b).2.1 = [] := by
  unfold decF at h ⊢
  split
  · rename_i h1; rw [if_pos h1] at h; cases h
  · rename_i h1
    rw [if_neg h1] at h
    split
    · exact ⟨rfl, rfl⟩
    · rename_i h2
      rw [if_neg h2] at h
      split at h <;> cases h
theorem decF_err {b : List UInt8} (h : (decF b).2.2.2 ≠ 0) : (decF b).1 = 0 ∧ (decF b).2.1 = [] := by
  unfold decF at h ⊢
  split
  · exact ⟨rfl, rfl⟩
  · rename_i h1
    rw [if_neg h1] at h
    split
    · exact ⟨rfl, rfl⟩
    · rename_i h2
      rw [if_neg h2] at h
      split
      · exact ⟨rfl, rfl⟩
      · rename_i h3
        rw [if_neg h3] at h
        exact absurd rfl h
/-- a struct's row and one more value are the results -/
theorem results_cell_row2 {P : Program} {fn : Func} {p q : Tmp} {ty : TypeId} (h : fn.results = #[.cell p ty, .tmp q]) (tmps : Array Value) (w : World) (g : Nat) (t : TypeId) (cs : Array Value) (fr : Nat × Nat) (d : TypeDesc)
    (hp : tmps.getD p undef = .pointer (some ⟨g, 0, none⟩)) (hg : w.heap[g]? = some (.cells cs t fr))
    (hu : P.underlying ty = some d) (hd : (match d with | .struct _ | .array _ _ => true | _ => false) = true) (hi : (P.info? ty).map (·.size) = some cs.size) :
    (results fn tmps).run P w = .ok (.tuple #[.agg cs, tmps.getD q undef]) w := by
  have hp' : tmps[p]?.getD undef = .pointer (some ⟨g, 0, none⟩) := by simpa using hp
  simp [results, h, hp', asAddr, run_loadVar_row w g t ty cs fr d hg hu hd hi]
section
variable {w : World} {R : List HP} {s dr : Nat} {b : List UInt8}
set_option maxRecDepth 100000 in
theorem sdropped_ok (h : Holds w (StH s b dr :: R)) : Calls Tryd.prog 25 #[.pointer (some ⟨s, 0, none⟩)] w fun e w' => e = .returned (.int .i64 dr) ∧ w = w' := by
  obtain ⟨A, n, c, hn, hc, hh⟩ := h.st
  have c1 : w.cell? ⟨s, 1, none⟩ = some (.int .i64 dr) := (hh.cells 1).trans rfl
  clear h hh
  go_enter Tryd.func25, Tryd.ntmps25
  go_wp2
  go_returns
  exact ⟨rfl, rfl⟩
set_option maxRecDepth 100000 in
theorem swaits_ok (h : Holds w (StH s b dr :: R)) : Calls Tryd.prog 26 #[.pointer (some ⟨s, 0, none⟩)] w fun e w' => e = .returned (.int .i64 b.length) ∧ w = w' := by
  obtain ⟨A, n, c, hn, hc, hh⟩ := h.st
  have c0 : w.cell? ⟨s, 0, none⟩ = some (.slice A n c) := (hh.cells 0).trans rfl
  clear h hh
  go_enter Tryd.func26, Tryd.ntmps26
  go_wp2
  go_returns
  exact ⟨by rw [← hn.out]; rfl, rfl⟩
theorem swaits_at (m : Nat) (hm : Hid (m = b.length)) (h : Holds w (StH s b dr :: R)) : Calls Tryd.prog 26 #[.pointer (some ⟨s, 0, none⟩)] w fun e w' => e = .returned (.int .i64 m) ∧ w = w' := by
  rw [hm.out]; exact swaits_ok h
theorem sdrop_at (k : Nat) (K : Int) (hK : K = k) (hk : k ≤ b.length) (h : Holds w (StH s b dr :: R)) (hb : b.length ≤ 140737488355328) (hd : dr ≤ 4611686018427387904) :
    Calls Tryd.prog 46 #[.pointer (some ⟨s, 0, none⟩), .int .i64 K] w fun e w' => e = .returned (.tuple #[]) ∧ Holds w' (StH s (b.drop k) (dr + k) :: R) := by
  subst hK
  exact sdrop_ok k hk h hb hd
/-- what next leaves -/
def NextPost (R : List HP) (s dr : Nat) (b : List UInt8) (e : Ending) (w' : World) : Prop :=
  ∃ (ok : Bool) (t : UInt8) (body r : List UInt8) (d : Nat) (v : Value), Hid (Nxt b ok t body r d) ∧ e = .returned (.tuple #[.agg #[.int .u8 (t.toNat : Int), v], .bool ok]) ∧ Holds w' (own v body :: StH s r (dr + d) :: R)
set_option maxRecDepth 100000 in
set_option maxHeartbeats 2000000 in
theorem snext_ok (h : Holds w (StH s b dr :: R)) (hb : b.length ≤ 140737488355200) (hd : dr + b.length ≤ 4611686018427387904) (hk : Ent R KF) :
    Calls Tryd.prog 38 #[.pointer (some ⟨s, 0, none⟩)] w (NextPost R s dr b) := by
  have HH := Lib.hid ((h.alloc 28 #[.int .u8 0, .slice none 0 0]).perm (.swap _ _ _))
  have HK := Lib.hid hk
  have HB := Lib.hid hb; have HD := Lib.hid hd
  clear h hk hb hd
  go_enter Tryd.func38, Tryd.ntmps38
  go_wp2
  go_loopg [] (b.length) (fun k wr => ∃ (b1 : List UInt8) (d1 : Nat), Hid (k = b1.length) ∧ Hid (strF b = ((strF b1).1, d1 + (strF b1).2.1, (strF b1).2.2) ∧ d1 + b1.length ≤ b.length) ∧ Holds wr (StH s b1 (dr + d1) :: blk w.heap.size 28 #[.int .u8 0, .slice none 0 0] :: R))
  case atStart => exact ⟨b, 0, rfl, ⟨by simp, by omega⟩, HH.out⟩
  case round =>
    obtain ⟨b1, d1, hgk, hs, hq⟩ := hrel
    obtain ⟨A1, n1, c1, hn1, hc1, hq1⟩ := hq.st
    have x0 : wr.cell? ⟨s, 0, none⟩ = some (.slice A1 n1 c1) := (hq1.cells 0).trans rfl
    have hn1b : n1 ≤ 140737488355200 := by have := hs.out.2; have := HB.out; rw [hn1.out]; omega
    have HSK := Lib.hid (skip_ok A1 n1 c1 b1 wr _ hq1 (Ent.rb.cons _) hn1 hc1 (by omega))
    obtain ⟨sk, hsk⟩ : ∃ sk, Hid (skipN b1 = sk) := ⟨_, rfl⟩
    have hsl : sk ≤ b1.length := by rw [← hsk.out]; exact skipN_le b1
    rw [hsk.out] at HSK
    have HDR := Lib.hid (fun w' (h' : Holds w' (blk s 44 #[.slice A1 n1 c1, .int .i64 ((dr + d1 : Nat) : Int)] :: rb A1 b1 :: blk w.heap.size 28 #[.int .u8 0, .slice none 0 0] :: R)) => sdrop_ok sk hsl (h'.mk_st hn1 hc1) (by rw [← hn1.out]; omega) (by have := hs.out.2; have := HD.out; omega))
    have hs2 : Hid (strF b = ((strF (b1.drop sk)).1, (d1 + sk) + (strF (b1.drop sk)).2.1, (strF (b1.drop sk)).2.2) ∧ (d1 + sk) + (b1.drop sk).length ≤ b.length ∧ (b1.drop sk).length ≤ b1.length) := by
      have h1 := hs.out.1
      rw [strF_skip b1, hsk.out] at h1
      refine ⟨by rw [h1]; simp only [Prod.mk.injEq, true_and, and_true]; omega, ?_, by simp⟩
      rw [List.length_drop]
      have := hs.out.2; omega
    generalize b1.drop sk = b2 at HDR hs2
    have hdd : dr + d1 + sk = dr + (d1 + sk) := by omega
    rw [hdd] at HDR
    generalize d1 + sk = d2 at HDR hs2
    have HN1 := Lib.hid hn1b
    clear hs hq hq1 hsl hsk hdd hc1 hn1b
    by_cases hb2 : b2 = []
    · subst hb2
      have HF : Hid (Nxt b false 0 [] [] d2) := by
        refine ⟨fun h => Bool.noConfusion h, fun _ => ?_, ?_⟩
        · rw [hs2.out.1, strF_nil]; simp
        · have := hs2.out.2.1; simpa using this
      clear hs2
      go_wp2_with (first
        | (go_at_call 47; (with_reducible refine HSK.out.mono ?_); rintro e w1 ⟨rfl, hh1⟩; have HH1 := Lib.hid hh1; clear hh1)
        | (go_at_call 46; (with_reducible refine (HDR.out _ HH1.out).mono ?_); rintro e w2 ⟨rfl, hh2⟩
           obtain ⟨A2, n2, c2, hn2, hc2, hh3⟩ := hh2.st
           obtain rfl : n2 = 0 := hn2.out
           have y0 : w2.cell? ⟨s, 0, none⟩ = some (.slice A2 0 c2) := (hh3.cells 0).trans rfl
           have hr3 := hh3.pull 2 rfl
           have z0 : w2.cell? ⟨w.heap.size, 0, none⟩ = some (.int .u8 0) := (hr3.cells 0).trans rfl
           have z1 : w2.cell? ⟨w.heap.size, 1, none⟩ = some (.slice none 0 0) := (hr3.cells 1).trans rfl
           have f0 := hr3.free 0; have f1 := hr3.free 1
           have HH2 := Lib.hid (hh2.perm (.swap _ _ _)); clear hh2 hh3 hr3))
      have hh4 := (HH2.out.set_ 0 (.int .u8 0)).set_ 1 (.slice none 0 0)
      generalize (w2.setCell ⟨w.heap.size, 0, none⟩ (.int .u8 0)).setCell ⟨w.heap.size, 1, none⟩ (.slice none 0 0) = w9 at hh4 ⊢
      have HB2 := Lib.hid hh4.blk_heap
      have HH9 := Lib.hid hh4.tail.nil_own
      clear z0 z1 f0 f1 hh4 y0
      refine bodyPost_ret (results_cell_row2 rfl _ _ w.heap.size 28 #[.int .u8 0, .slice none 0 0] (0, 0) _ rfl HB2.out Tryd.underlying28 rfl (by kernel_rfl)) rfl ?_
      exact ⟨false, 0, [], [], d2, _, HF, rfl, HH9.out⟩
    · have hbl : b2.length ≤ 140737488355200 := by have := hs2.out.2.1; have := HB.out; omega
      have HFD := Lib.hid (fun w' A2 n2 c2 (h' : Holds w' (blk s 44 #[.slice A2 n2 c2, .int .i64 ((dr + d2 : Nat) : Int)] :: rb A2 b2 :: blk w.heap.size 28 #[.int .u8 0, .slice none 0 0] :: R)) (hn2 : Hid (n2 = b2.length)) (hc2 : n2 ≤ c2) =>
        fdecode_ok A2 n2 c2 b2 w' _ h' (Ent.rb.cons _) hn2 hc2 (by rw [hn2.out]; exact hbl) ((HK.out.cons _).cons _ |>.cons _))
      have HB2 := Lib.hid hb2
      by_cases hE : (decF b2).2.2.2 = 0
      · have hm := decF_ok hE
        have hst := strF_ok hb2 hE
        rw [hE] at HFD
        generalize (decF b2).1 = t at HFD hst
        generalize (decF b2).2.1 = body at HFD hst
        generalize (decF b2).2.2.1 = m at HFD hst hm
        have HF : Hid (Nxt b true t body (b2.drop m) d2) := by
          have h1 := hs2.out.1
          rw [hst] at h1
          refine ⟨fun _ => ⟨h1, ?_⟩, fun h => Bool.noConfusion h, ?_⟩
          · rw [List.length_drop]; have := hs2.out.2; omega
          · rw [List.length_drop]; have := hs2.out.2; omega
        obtain ⟨hm1, hm2⟩ := hm
        clear hst hs2 hE hb2
        go_wp2_with (first
          | (go_at_call 47; (with_reducible refine HSK.out.mono ?_); rintro e w1 ⟨rfl, hh1⟩; have HH1 := Lib.hid hh1; clear hh1)
          | (go_at_call 46; (with_reducible refine (HDR.out _ HH1.out).mono ?_); rintro e w2 ⟨rfl, hh2⟩
             obtain ⟨A2, n2, c2, hn2, hc2, hh3⟩ := hh2.st
             obtain ⟨g, o, rfl, -⟩ := (hh3.tail.rb_rd).addr HB2.out
             have y0 : w2.cell? ⟨s, 0, none⟩ = some (.slice (some ⟨g, o, none⟩) n2 c2) := (hh3.cells 0).trans rfl
             have hn20 : 0 < n2 := by rw [hn2.out]; exact List.length_pos_iff.2 HB2.out
             have hmn : m ≤ n2 := by rw [hn2.out]; exact hm2
             have hmc : (m : Int) ≤ c2 := by omega
             have HH2 := Lib.hid hh3; clear hh2 hh3)
          | (go_at_call 15; (with_reducible refine (HFD.out _ _ _ _ HH2.out hn2 hc2).mono ?_); rintro e w3 ⟨v3, rfl, hh3⟩
             obtain ⟨A3, n3, c3, rfl, hn3, hc3, -⟩ := hh3.own_form
             have hh4 := hh3.alloc 28 #[.int .u8 (t.toNat : Int), .slice A3 n3 c3]
             have hs4 := hh4.pull 2 rfl
             have hr4 := hs4.pull 4 rfl
             have hne := hr4.blk_ne
             have hne' := hne.symm
             have hne3 := hs4.blk_ne
             have hne3' := hne3.symm
             have y0 := (hs4.cells 0); have y1 := hs4.free 0
             have z0 := (hr4.cells 0); have z1 := (hr4.cells 1)
             have f0 := hr4.free 0; have f1 := hr4.free 1
             have HH4 := Lib.hid hh4; clear hh3 hh4 hs4 hr4))
        · have hb0 : b2.drop m = [] := List.drop_of_length_le (by rw [← hn2.out]; omega)
          have h5 := ((HH4.out.pull 2 rfl).set_ 0 (.slice (some ⟨g, o, none⟩) (n2 - m) 0)).pull 4 rfl
          have h6 := (h5.set_ 0 (.int .u8 (t.toNat : Int))).set_ 1 (.slice A3 n3 c3)
          generalize World.setCell (World.setCell (World.setCell _ _ _) _ _) _ _ = w9 at h6 ⊢
          have HB9 := Lib.hid h6.blk_heap
          have h7 := (((h6.tail.pull 3 rfl).rb_nil (some ⟨g, o, none⟩)).pull 1 rfl).mk_st (by unfold Hid; have := hn2.out; simp; omega) (by omega)
          rw [← hb0] at h7
          have HH9 := Lib.hid ((h7.drop 1 rfl).perm (.swap _ _ _))
          clear h5 h6 h7 y0 y1 z0 z1 f0 f1
          refine bodyPost_ret (results_cell_row2 rfl _ _ w.heap.size 28 #[.int .u8 (t.toNat : Int), .slice A3 n3 c3] (0, 0) _ rfl HB9.out Tryd.underlying28 rfl (by kernel_rfl)) rfl ?_
          exact ⟨true, t, body, b2.drop m, d2, _, HF, rfl, HH9.out⟩
        · have h5 := ((HH4.out.pull 2 rfl).set_ 0 (.slice (some ⟨g, o + m, none⟩) (n2 - m) (c2 - m))).pull 4 rfl
          have h6 := (h5.set_ 0 (.int .u8 (t.toNat : Int))).set_ 1 (.slice A3 n3 c3)
          generalize World.setCell (World.setCell (World.setCell _ _ _) _ _) _ _ = w9 at h6 ⊢
          have HB9 := Lib.hid h6.blk_heap
          have h7 := (((h6.tail.pull 3 rfl).rb_from m).pull 1 rfl).mk_st (by unfold Hid; rw [List.length_drop, ← hn2.out]) (by omega)
          have HH9 := Lib.hid ((h7.drop 1 rfl).perm (.swap _ _ _))
          clear h5 h6 h7 y0 y1 z0 z1 f0 f1
          refine bodyPost_ret (results_cell_row2 rfl _ _ w.heap.size 28 #[.int .u8 (t.toNat : Int), .slice A3 n3 c3] (0, 0) _ rfl HB9.out Tryd.underlying28 rfl (by kernel_rfl)) rfl ?_
          exact ⟨true, t, body, b2.drop m, d2, _, HF, rfl, HH9.out⟩
      · have herr := decF_err hE
        rw [herr.1, herr.2] at HFD
        by_cases h4 : (decF b2).2.2.2 = 4
        · have hst := strF_short hb2 h4
          rw [h4] at HFD
          generalize (decF b2).2.2.1 = m at HFD
          have HF : Hid (Nxt b false 0 [] b2 d2) := by
            have h1 := hs2.out.1
            rw [hst] at h1
            exact ⟨fun h => Bool.noConfusion h, fun _ => h1, hs2.out.2.1⟩
          clear hst hs2 hE hb2 h4 herr
          go_wp2_with (first
            | (go_at_call 47; (with_reducible refine HSK.out.mono ?_); rintro e w1 ⟨rfl, hh1⟩; have HH1 := Lib.hid hh1; clear hh1)
            | (go_at_call 46; (with_reducible refine (HDR.out _ HH1.out).mono ?_); rintro e w2 ⟨rfl, hh2⟩
               obtain ⟨A2, n2, c2, hn2, hc2, hh3⟩ := hh2.st
               have y0 : w2.cell? ⟨s, 0, none⟩ = some (.slice A2 n2 c2) := (hh3.cells 0).trans rfl
               have hn20 : 0 < n2 := by rw [hn2.out]; exact List.length_pos_iff.2 HB2.out
               have HH2 := Lib.hid hh3; clear hh2 hh3)
            | (go_at_call 15; (with_reducible refine (HFD.out _ _ _ _ HH2.out hn2 hc2).mono ?_); rintro e w3 ⟨v3, rfl, hh3⟩
               obtain ⟨A3, n3, c3, rfl, hn3, hc3, -⟩ := hh3.own_form
               have hh4 := hh3.alloc 28 #[.int .u8 0, .slice A3 n3 c3]
               have hr4 := hh4.pull 4 rfl
               have z0 := (hr4.cells 0); have z1 := (hr4.cells 1)
               have f0 := hr4.free 0; have f1 := hr4.free 1
               have HH4 := Lib.hid hr4; clear hh3 hh4 hr4))
          have h6 := (HH4.out.set_ 0 (.int .u8 0)).set_ 1 (.slice none 0 0)
          generalize World.setCell (World.setCell _ _ _) _ _ = w9 at h6 ⊢
          have HB9 := Lib.hid h6.blk_heap
          have h7 := ((h6.tail.tail.tail).mk_st hn2 hc2).nil_own
          have HH9 := Lib.hid h7
          clear h6 h7 y0 z0 z1 f0 f1
          refine bodyPost_ret (results_cell_row2 rfl _ _ w.heap.size 28 #[.int .u8 0, .slice none 0 0] (0, 0) _ rfl HB9.out Tryd.underlying28 rfl (by kernel_rfl)) rfl ?_
          exact ⟨false, 0, [], b2, d2, _, HF, rfl, HH9.out⟩
        · have hst := strF_bad hb2 hE h4
          have hE0 : (((decF b2).2.2.2 : Int) == 0) = false := by simpa using hE
          have hE4 : (((decF b2).2.2.2 : Int) == 4) = false := by
            rw [beq_eq_false_iff_ne]; intro h; exact h4 (by omega)
          generalize (decF b2).2.2.1 = m at HFD
          generalize (decF b2).2.2.2 = E at HFD hE0 hE4
          have hpos : 0 < b2.length := List.length_pos_iff.2 hb2
          have HF : Hid (strF b = ((strF (b2.drop 1)).1, (d2 + 1) + (strF (b2.drop 1)).2.1, (strF (b2.drop 1)).2.2) ∧ (d2 + 1) + (b2.drop 1).length ≤ b.length) := by
            have h1 := hs2.out.1
            rw [hst] at h1
            refine ⟨by rw [h1]; simp only [Prod.mk.injEq, true_and, and_true]; omega, ?_⟩
            rw [List.length_drop]; have := hs2.out.2.1; omega
          have HLT : Hid ((b2.drop 1).length < b1.length) := by unfold Hid; rw [List.length_drop]; have := hs2.out.2.2; omega
          have HDR2 := Lib.hid (fun w' P1 P2 A2 n2 c2 (h' : Holds w' (P1 :: P2 :: blk s 44 #[.slice A2 n2 c2, .int .i64 ((dr + d2 : Nat) : Int)] :: rb A2 b2 :: blk w.heap.size 28 #[.int .u8 0, .slice none 0 0] :: R)) (hn2 : Hid (n2 = b2.length)) (hc2 : n2 ≤ c2) =>
            sdrop_at 1 1 rfl hpos ((h'.tail.tail).mk_st hn2 hc2) (by omega) (by have := hs2.out.2.1; have := HD.out; omega))
          rw [show dr + d2 + 1 = dr + (d2 + 1) by omega] at HDR2
          clear hst hs2 hE hb2 h4 herr hpos
          go_wp2_with (first
            | (go_at_call 47; (with_reducible refine HSK.out.mono ?_); rintro e w1 ⟨rfl, hh1⟩; have HH1 := Lib.hid hh1; clear hh1)
            | (go_at_call 46; (with_reducible refine (HDR.out _ HH1.out).mono ?_); clear HDR; rintro e w2 ⟨rfl, hh2⟩
               obtain ⟨A2, n2, c2, hn2, hc2, hh3⟩ := hh2.st
               have y0 : w2.cell? ⟨s, 0, none⟩ = some (.slice A2 n2 c2) := (hh3.cells 0).trans rfl
               have hn20 : 0 < n2 := by rw [hn2.out]; exact List.length_pos_iff.2 HB2.out
               have HH2 := Lib.hid hh3; clear hh2 hh3)
            | (go_at_call 15; (with_reducible refine (HFD.out _ _ _ _ HH2.out hn2 hc2).mono ?_); rintro e w3 ⟨v3, rfl, hh3⟩
               obtain ⟨A3, n3, c3, rfl, hn3, hc3, -⟩ := hh3.own_form
               have HH4 := Lib.hid (hh3.alloc 28 #[.int .u8 0, .slice A3 n3 c3]); clear hh3)
            | (go_at_call 46; (with_reducible refine (HDR2.out _ _ _ _ _ _ HH4.out hn2 hc2).mono ?_); rintro e w5 ⟨rfl, hh5⟩; have HH5 := Lib.hid hh5; clear hh5))
          go_roundg (b2.drop 1).length
          case measure => rw [hgk.out]; exact HLT.out
          case rel => exact ⟨b2.drop 1, d2 + 1, rfl, HF, HH5.out⟩
theorem strF_frames (l : List UInt8) : (strF l).1.length ≤ l.length := by
  by_cases hb : l = []
  · subst hb; rw [strF_nil]; simp
  · have hpos : 0 < l.length := List.length_pos_iff.2 hb
    by_cases h4 : (decF l).2.2.2 = 4
    · rw [strF_short hb h4]; simp
    · by_cases h0 : (decF l).2.2.2 = 0
      · have hn := decF_ok h0
        have ih := strF_frames (l.drop (decF l).2.2.1)
        rw [List.length_drop] at ih
        rw [strF_ok hb h0]
        simp only [List.length_cons]
        omega
      · have ih := strF_frames (l.drop 1)
        rw [List.length_drop] at ih
        rw [strF_bad hb h0 h4]
        simp only
        omega
termination_by l.length
decreasing_by
  · rw [List.length_drop]; omega
  · rw [List.length_drop]; omega
theorem Tryd.infoFrame : (Tryd.prog.info? 28).map (fun i => (i.zero, i.size, i.bytes)) = some (some (.agg #[.int .u8 0, .slice none 0 0]), 2, 32) := by kernel_rfl
/-- what Feed leaves: q is what a stream gives out of all bytes in hand -/
def FeedPost (R : List HP) (s dr : Nat) (q : List (UInt8 × List UInt8) × Nat × List UInt8) (e : Ending) (w' : World) : Prop :=
  ∃ v, e = .returned v ∧ Holds w' (FrH 28 v q.1 :: StH s q.2.2 (dr + q.2.1) :: R)
set_option maxRecDepth 100000 in
set_option maxHeartbeats 2000000 in
theorem sfeed_ok (A : Option Addr) (n c : Nat) (p : List UInt8) (h : Holds w (StH s b dr :: R)) (hr : Ent R fun w => RD w A p) (hn : Hid (n = p.length)) (hc : n ≤ c) (hb : (b ++ p).length ≤ 1000000) (hd : dr ≤ 1000000000000) (hk : Ent R KF) :
    Calls Tryd.prog 22 #[.pointer (some ⟨s, 0, none⟩), .slice A n c] w (FeedPost R s dr (strF (b ++ p))) := by
  obtain ⟨A1, n1, c1, hn1, hc1, h1⟩ := h.st
  have x0 : w.cell? ⟨s, 0, none⟩ = some (.slice A1 n1 c1) := (h1.cells 0).trans rfl
  have e2 : bsAll [⟨A1, n1, c1, b⟩, ⟨A, n, c, p⟩] = b ++ p := by simp [bsAll]
  have HCC := Lib.hid (concat_ok (some ⟨w.heap.size, 0, none⟩) 2 2 [⟨A1, n1, c1, b⟩, ⟨A, n, c, p⟩] _ _ (h1.alloc 22 #[.slice A1 n1 c1, .slice A n c]) (Ent.parts rfl (Ent.oks (Ent.rb.cons _) hn1 hc1 (Ent.oks ((hr.cons _).cons _) hn hc Ent.oks_nil))) rfl (by omega) (by rw [e2]; omega))
  rw [e2] at HCC
  have HB := Lib.hid hb
  have HQ := Lib.hid (show (strF (b ++ p)).1.length ≤ 1000000 from Nat.le_trans (strF_frames _) hb)
  generalize b ++ p = bp at HCC HB HQ
  have HD := Lib.hid hd; have HK := Lib.hid hk
  clear h h1 hr hb hd hk e2
  go_enter Tryd.func22, Tryd.ntmps22
  go_wp2_with (go_at_call 29; (with_reducible refine HCC.out.mono ?_); rintro e w1 ⟨v1, rfl, hh1⟩
               obtain ⟨A2, n2, c2, rfl, hn2, hc2, -⟩ := hh1.own_form
               have hs1 := (hh1.pull 2 rfl)
               have y0 := hs1.cells 0; have y1 := hs1.free 0
               have HH1 := Lib.hid hs1; clear hh1 hs1)
  have h2 := (((HH1.out.set_ 0 (.slice A2 n2 c2)).drop 2 rfl).drop 2 rfl).pull 1 rfl
  have h3 : Holds (w1.setCell ⟨s, 0, none⟩ (.slice A2 n2 c2)) (StH s bp dr :: FrH 28 (.slice none 0 0) [] :: R) := by
    have := ((h2.own_rb).pull 1 rfl).mk_st hn2 hc2
    exact (this.frs_nil).perm (.swap _ _ _)
  have HH3 := Lib.hid h3
  clear y0 y1 h2 h3 HH1 x0
  go_loopg [5] (bp.length) (fun k v wr => ∃ (fs : List (UInt8 × List UInt8)) (b1 : List UInt8) (d1 : Nat), Hid (k = b1.length) ∧ Hid (strF bp = (fs ++ (strF b1).1, d1 + (strF b1).2.1, (strF b1).2.2) ∧ d1 + b1.length ≤ bp.length) ∧ Holds wr (StH s b1 (dr + d1) :: FrH 28 v fs :: R))
  case atStart => exact ⟨[], bp, 0, rfl, ⟨by simp, by omega⟩, HH3.out⟩
  case round =>
    obtain ⟨fs, b1, d1, hgk, hs, hq⟩ := hrel
    obtain ⟨A5, n5, c5, rfl, hn5, hc5⟩ := (hq.pull 1 rfl).fr_form
    have HN := Lib.hid (snext_ok hq (by have := hs.out.2; have := HB.out; omega) (by have := hs.out.2; have := HB.out; have := HD.out; omega) (HK.out.cons _))
    clear hq
    go_wp2_with (first
      | (go_at_call 38; (with_reducible refine HN.out.mono ?_); rintro e w2 ⟨ok, t, body, r, d, v2, hN, rfl, hh2⟩
         obtain ⟨A3, n3, c3, rfl, hn3, hc3, -⟩ := hh2.own_form
         have HH2 := Lib.hid hh2; clear hh2)
      | (at_builtin
         have hh3 := (HH2.out.alloc 28 #[.int .u8 (t.toNat : Int), .slice A3 n3 c3]).alloc 28 (FS.cells ⟨t, A3, n3, c3, body⟩).toArray
         obtain ⟨l, hl1, hl2, hl⟩ := (hh3.pull 4 rfl).frs
         have hl5 : Hid (n5 = l.length) := by unfold Hid; rw [hn5.out, ← hl1.out, List.length_map]
         have hlb : l.length ≤ 1000000 := by
           have h1 := HQ.out
           rw [hs.out.1, List.length_append, ← hl1.out, List.length_map] at h1
           omega
         have hrow : RowRd ((w2.alloc (.cells #[.int .u8 (t.toNat : Int), .slice A3 n3 c3] 28)).alloc (.cells (FS.cells ⟨t, A3, n3, c3, body⟩).toArray 28)) (some ⟨w2.heap.size + 1, 0, none⟩) (FS.cells ⟨t, A3, n3, c3, body⟩) := by
           have := hh3.blk_row
           rwa [heap_size_alloc] at this
         refine wpList_app_row rfl (.tmp 28) (.tmp 30) 45 28 _ 2 32 rfl Tryd.underlying45 Tryd.infoFrame rfl (by decide) _ l.length (fsCells l) hl rfl (some ⟨w2.heap.size + 1, 0, none⟩) 1 1 (FS.cells ⟨t, A3, n3, c3, body⟩) rfl rfl hrow (by intro u hu; simp only [FS.cells, List.mem_cons, List.not_mem_nil, or_false] at hu; rcases hu with rfl | rfl <;> rfl) (by simp only [maxLen]; omega) (by omega) ?_
         intro v5 w5 hh5
         have h6 := (((hh5.drop 2 rfl).drop 2 rfl).pull 2 rfl).own_rb
         have h7 := (h6.pull 1 rfl).perm ((List.Perm.swap _ _ _).cons _)
         have h8 := (h7.frs_snoc rfl hl1 hl2 ⟨hn3, hc3⟩).perm (.swap _ _ _)
         have HH8 := Lib.hid h8
         clear hh3 hl1 hl2 hl hh5 h6 h7 h8 hrow))
    · have hok : ok = false := by simpa using (show (!ok) = true by assumption)
      have hx := hN.out.none_ hok
      have hst : strF bp = (fs, d1 + d, r) := by rw [hs.out.1, hx]; simp
      have HH9 := Lib.hid (((HH2.out.drop 0 rfl).alloc 28 #[.int .u8 (t.toNat : Int), .slice A3 n3 c3]).tail.perm (.swap _ _ _))
      go_returns
      refine ⟨_, rfl, ?_⟩
      rw [hst, ← Nat.add_assoc]
      exact HH9.out
    · have hok : ok = true := by simpa using (show (!ok) = false by assumption)
      have hx := hN.out.some_ hok
      go_roundg r.length
      case measure => rw [hgk.out]; exact hx.2
      case rel =>
        refine ⟨fs ++ [(t, body)], r, d1 + d, rfl, ⟨?_, ?_⟩, ?_⟩
        · rw [hs.out.1, hx.1]; simp [Nat.add_assoc]
        · have := hN.out.len; have := hs.out.2; omega
        · rw [← Nat.add_assoc]; exact HH8.out
end
end Go.Proofs.YtmaiokjcgijdcaaDoor
