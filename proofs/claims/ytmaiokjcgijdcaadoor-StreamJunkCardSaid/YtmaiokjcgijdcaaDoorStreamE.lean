/- the stream laws: StreamNil, StreamCut, StreamFeeds -/
import Derived.Test.YtmaiokjcgijdcaaDoorStreamD
import Derived.Test.YtmaiokjcgijdcaaDoorFrameM
namespace Go.Proofs.YtmaiokjcgijdcaaDoor
open Go.RowKit HP

set_option maxRecDepth 100000 in
theorem sfeed_nil (A : Option Addr) (n c : Nat) (w : World) : Calls Tryd.prog 22 #[.pointer none, .slice A n c] w fun e w' => e = .returned (.slice none 0 0) ∧ w = w' := by
  go_enter Tryd.func22, Tryd.ntmps22
  go_wp2
  go_returns
  exact ⟨rfl, rfl⟩
set_option maxRecDepth 100000 in
theorem sdropped_nil (w : World) : Calls Tryd.prog 25 #[.pointer none] w fun e w' => e = .returned (.int .i64 0) ∧ w = w' := by
  go_enter Tryd.func25, Tryd.ntmps25
  go_wp2
  go_returns
  exact ⟨rfl, rfl⟩
set_option maxRecDepth 100000 in
theorem swaits_nil (w : World) : Calls Tryd.prog 26 #[.pointer none] w fun e w' => e = .returned (.int .i64 0) ∧ w = w' := by
  go_enter Tryd.func26, Tryd.ntmps26
  go_wp2
  go_returns
  exact ⟨rfl, rfl⟩
set_option maxRecDepth 100000 in
set_option maxHeartbeats 2000000 in
theorem streamNil_ok (A : Option Addr) (n c : Nat) (xs : List UInt8) (w : World) (R : List HP) (hh : Holds w R) (hr : Ent R fun w => RD w A xs) (hn : Hid (n = xs.length)) (_ : n ≤ c) (hb : n ≤ 140737488355000) (hk : Ent R KF) :
    Calls Tryd.prog 10 #[.slice A n c] w fun e w' => e = .returned (.bool true) ∧ Holds w' R := by
  have HAW := Lib.hid (fun w' (h : Holds w' R) => stawake_ok w' _ h hk)
  have HH := Lib.hid hh
  by_cases h3 : 3000 < n
  · clear hr hk hh
    go_enter Tryd.func10, Tryd.ntmps10
    go_wp2_with (first
      | (go_at_call 20; (with_reducible refine (HAW.out _ HH.out).mono ?_); rintro e w1 ⟨rfl, hh1⟩; have HH1 := Lib.hid hh1; clear hh1)
      | (go_at_call 20; (with_reducible refine (HAW.out _ HH1.out).mono ?_); rintro e w2 ⟨rfl, hh2⟩; have HH2 := Lib.hid hh2; clear hh2))
    go_returns
    exact ⟨rfl, HH2.out⟩
  · have HN := Lib.hid hn; have HR := Lib.hid hr; have HK := Lib.hid hk
    have hx : xs.length ≤ 3000 := by rw [← hn.out]; omega
    have HX := Lib.hid hx
    have HFA := Lib.hid (fun w' A6 n6 c6 R' s (h : Holds w' (StH s [] 0 :: own (.slice A6 n6 c6) (xs ++ [1]) :: R')) (hk' : Ent R' KF) (hc6 : n ≤ c6) => sfeed_ok A6 n c6 xs h (fun w'' h'' => by have := (h''.own_rd).take xs.length; rwa [List.take_left] at this) hn hc6 (by simp; omega) (by omega) (hk'.cons _))
    rw [List.nil_append] at HFA
    have hcount := strF_count xs
    generalize strF xs = q at HFA hcount
    have HFB := Lib.hid (fun w' g R' s (h : Holds w' (StH s q.2.2 (0 + q.2.1) :: rb (some ⟨g, 0, none⟩) [122, 122] :: R')) (hk' : Ent R' KF) => sfeed_ok (some ⟨g, 0, none⟩) 2 2 [122, 122] h Ent.rb rfl (by omega) (by simp; omega) (by omega) (hk'.cons _))
    generalize strF (q.2.2 ++ [122, 122]) = q2 at HFB
    have e1 : strOf (xs ++ [1]) = strOf xs ++ ⟨#[1]⟩ := strOf_append xs [1]
    have HE1 := Lib.hid e1
    have hsz : (strOf xs).size ≤ 3000 := by show xs.toArray.size ≤ 3000; simpa using hx
    have hcm : ∀ (w' : World), (convert 22 22 (.slice (some ⟨w'.heap.size, 0, none⟩) 2 2)).run Tryd.prog (w'.alloc (.cells #[.int .u8 122, .int .u8 122] 5)) = .ok (.slice (some ⟨w'.heap.size, 0, none⟩) 2 2) ((w'.alloc (.cells #[.int .u8 122, .int .u8 122] 5)).freeze ⟨w'.heap.size, 2, none⟩ 1) := fun w' =>
      run_convert_mark _ 22 5 _ #[.int .u8 122, .int .u8 122] 2 2 Tryd.underlying22 Tryd.underlying5 (heap_alloc_new w' _)
    have HM := Lib.hid (fun w' R' (h : Holds w' R') => show Holds ((w'.alloc (.cells #[.int .u8 122, .int .u8 122] 5)).freeze ⟨w'.heap.size, 2, none⟩ 1) (rb (some ⟨w'.heap.size, 0, none⟩) [122, 122] :: R') from (h.alloc 5 #[.int .u8 122, .int .u8 122]).mark (xs := [122, 122]) rfl)
    clear hr hk hh hn e1 hcount hx
    go_enter Tryd.func10, Tryd.ntmps10
    go_wp2_with (first
      | (go_at_call 20; (with_reducible refine (HAW.out _ HH.out).mono ?_); rintro e w1 ⟨rfl, hh1⟩
         have h0 := (hh1.st_new).own_empty
         rw [heap_size_alloc] at h0
         have HH3 := Lib.hid h0; clear hh1 h0)
      | (at_builtin; refine wpList_app_sl rfl (.tmp 14) (.tmp 15) 22 rfl Tryd.underlying22 Tryd.infoByte _ _ HH3.out rfl A xs n c HN rfl (HR.out _ HH3.out.tail.tail) (by have := HX.out; simp; omega) ?_
         intro v4 w4 hh4
         rw [List.nil_append] at hh4
         have HH4 := Lib.hid ((((hh4.alloc 5 (bcs [1]).toArray).own_of_blk (xs := [1]) (by simp [maxLen])).pull 1 rfl)); clear hh4)
      | (at_builtin; refine wpList_app_sl rfl (.tmp 16) (.tmp 17) 22 rfl Tryd.underlying22 Tryd.infoByte _ _ HH4.out rfl (some ⟨w4.heap.size, 0, none⟩) [1] 1 1 rfl rfl HH4.out.tail.own_rd (by have := HX.out; simp; omega) ?_
         intro v6 w6 hh6
         obtain ⟨A6, n6, c6, rfl, hn6, hc6, hr6⟩ := hh6.own_form
         obtain ⟨g6, o6, rfl, -⟩ := hr6.addr (by simp)
         have hn66 : n6 = n + 1 := by rw [hn6.out, HN.out]; simp
         have hcI : (n : Int) ≤ c6 := by omega
         have hc66 : n ≤ c6 := by omega
         have HH6 := Lib.hid (hh6.pull 2 rfl); clear hh6 hr6)
      | (go_at_call 22; (with_reducible refine (HFA.out _ _ _ _ _ _ HH6.out (HK.out.cons _) hc66).mono ?_); rintro e w7 ⟨v7, rfl, hh7⟩; have HH7 := Lib.hid ((HM.out _ _ hh7.tail).perm (.swap _ _ _)); clear hh7)
      | (go_at_call 22; (with_reducible refine (HFB.out _ _ _ _ HH7.out (HK.out.cons _ |>.cons _)).mono ?_); rintro e w8 ⟨v8, rfl, hh8⟩
         have hcvc : (convert 22 9 (.slice (some ⟨g6, o6, none⟩) (n + 1) c6)).run Tryd.prog w8 = .ok (.string (strOf xs ++ ⟨#[1]⟩)) w8 := by
           rw [← HE1.out]
           exact conv_rd (by rw [← hn66]; exact hn6.out) (hh8.pull 3 rfl).own_rd
         have hcvb : (convert 22 9 (.slice A n c)).run Tryd.prog w8 = .ok (.string (strOf xs)) w8 := conv_rd HN.out (HR.out _ hh8.tail.tail.tail.tail.tail)
         have HH8 := Lib.hid hh8; clear hh8)
      | (go_at_call 22; (with_reducible refine (sfeed_nil _ _ _ _).mono ?_); rintro e w9 ⟨rfl, rfl⟩)
      | (go_at_call 25; (with_reducible refine (sdropped_nil _).mono ?_); rintro e w9 ⟨rfl, rfl⟩)
      | (go_at_call 26; (with_reducible refine (swaits_nil _).mono ?_); rintro e w9 ⟨rfl, rfl⟩))
    go_returns
    exact ⟨rfl, HH8.out.tail.tail.tail.tail.tail⟩

set_option maxRecDepth 100000 in
set_option maxHeartbeats 2000000 in
theorem streamCut_ok (t : UInt8) (A : Option Addr) (n c : Nat) (xs : List UInt8) (u : Nat) (hu : u < 18446744073709551616) (w : World) (R : List HP) (hh : Holds w R) (hr : Ent R fun w => RD w A xs) (hn : Hid (n = xs.length)) (hc : n ≤ c) (hb : n ≤ 140737488355000) (hk : Ent R KF) :
    Calls Tryd.prog 11 #[.int .u8 (t.toNat : Int), .slice A n c, .int .u64 u] w fun e w' => e = .returned (.bool true) ∧ Holds w' R := by
  have HAW := Lib.hid (fun w' (h : Holds w' R) => stawake_ok w' _ h hk)
  have HH := Lib.hid hh
  by_cases h3 : 300 < n
  · clear hr hk hh
    go_enter Tryd.func11, Tryd.ntmps11
    go_wp2_with (first
      | (go_at_call 20; (with_reducible refine (HAW.out _ HH.out).mono ?_); rintro e w1 ⟨rfl, hh1⟩; have HH1 := Lib.hid hh1; clear hh1)
      | (go_at_call 20; (with_reducible refine (HAW.out _ HH1.out).mono ?_); rintro e w2 ⟨rfl, hh2⟩; have HH2 := Lib.hid hh2; clear hh2))
    go_returns
    exact ⟨rfl, HH2.out⟩
  by_cases h0 : t = 0
  · have h0I : (t.toNat : Int) = 0 := by rw [h0]; rfl
    rw [h0I]
    clear hr hk hh h0 h0I
    go_enter Tryd.func11, Tryd.ntmps11
    go_wp2_with (first
      | (go_at_call 20; (with_reducible refine (HAW.out _ HH.out).mono ?_); rintro e w1 ⟨rfl, hh1⟩; have HH1 := Lib.hid hh1; clear hh1)
      | (go_at_call 20; (with_reducible refine (HAW.out _ HH1.out).mono ?_); rintro e w2 ⟨rfl, hh2⟩; have HH2 := Lib.hid hh2; clear hh2))
    go_returns
    exact ⟨rfl, HH2.out⟩
  have h0I : ((t.toNat : Int) == 0) = false := by simpa using u8_zero h0
  have hx1000 : xs.length ≤ 1000 := by rw [← hn.out]; omega
  have HE := Lib.hid (fun w' P (h : Holds w' (P :: R)) => rencode_ok t A n c xs w' _ h (hr.cons _) hn hc (by omega))
  rw [show encF t xs = (encB t xs, 0) by unfold encF; rw [if_neg h0, if_neg (by omega)]] at HE
  obtain ⟨N, hN⟩ : ∃ N, Hid (10 + n = N) := ⟨_, rfl⟩
  have hN1 : N ≤ 1010 := by have := hN.out; omega
  have hN0 : 0 < N := by have := hN.out; omega
  have hl : (encB t xs).length = N := by rw [← hN.out]; simp [hn.out]
  obtain ⟨k, hk0⟩ : ∃ k, Hid (u % N = k) := ⟨_, rfl⟩
  have hkn : k < N := by rw [← hk0.out]; exact Nat.mod_lt _ hN0
  have hcut := strF_cut t xs h0 hx1000 k (by rw [← hn.out, hN.out]; exact hkn)
  have hall : strF ((encB t xs).take k ++ (encB t xs).drop k) = ([(t, xs)], 0, []) := by
    have := strF_enc t xs [] h0 hx1000
    rw [List.append_nil, strF_nil] at this
    rw [List.take_append_drop, this]
  generalize encB t xs = L at HE hl hcut hall
  have hkI : (u : Int) % (N : Int) = (k : Int) := by rw [← hk0.out]; omega
  have hkT : (u : Int).tmod (N : Int) = (k : Int) := by rw [Int.tmod_eq_emod_of_nonneg (by omega)]; exact hkI
  have HL := Lib.hid hl
  have HKL : Hid (k = (L.take k).length) := by unfold Hid; rw [List.length_take, hl]; omega
  have HKD : Hid (N - k = (L.drop k).length) := by unfold Hid; rw [List.length_drop, hl]
  have HFA := Lib.hid (fun w' A1 c1 P s (h : Holds w' (StH s [] 0 :: own (.slice A1 N c1) L :: P :: R)) (hc1 : N ≤ c1) => sfeed_ok A1 k c1 (L.take k) h (fun w'' h'' => (h''.own_rd).take k) HKL (by omega) (by simp; omega) (by omega) (hk.cons _ |>.cons _))
  rw [List.nil_append, hcut] at HFA
  have HFB := Lib.hid (fun w' g1 o1 c1 R' s (h : Holds w' (StH s (L.take k) 0 :: own (.slice (some ⟨g1, o1, none⟩) N c1) L :: R')) (hk' : Ent R' KF) (hc1 : N ≤ c1) => sfeed_ok (some ⟨g1, o1 + k, none⟩) (N - k) (c1 - k) (L.drop k) h (fun w'' h'' => (h''.own_rd).from k) HKD (by omega) (by simp; omega) (by omega) (hk'.cons _))
  rw [hall] at HFB
  have hwr : IntKind.u64.wrap (N : Int) = (N : Int) := by rw [IntKind.wrap_u64]; omega
  have hwk : IntKind.i64.wrap (k : Int) = (k : Int) := by rw [IntKind.wrap_i64]; omega
  have HR := Lib.hid hr; have HK := Lib.hid hk; have HN := Lib.hid hn
  clear hr hk hh hl hcut hall hk0 hn
  go_enter Tryd.func11, Tryd.ntmps11
  go_wp2_with (first
    | (go_at_call 20; (with_reducible refine (HAW.out _ HH.out).mono ?_); rintro e w1 ⟨rfl, hh1⟩
       have HH1 := Lib.hid (hh1.alloc 30 #[.int .u8 (t.toNat : Int), .slice A n c]); clear hh1)
    | (go_at_call 14; (with_reducible refine (HE.out _ _ HH1.out).mono ?_); rintro e w2 ⟨v2, rfl, hh2⟩; obtain ⟨A2, n2, c2, rfl, hn2, hc2, hr2⟩ := hh2.own_form
       obtain rfl : n2 = N := hn2.out.trans HL.out
       obtain ⟨g2, o2, rfl, -⟩ := hr2.addr (by intro e; have := HL.out; rw [e] at this; simp at this; omega)
       have hcI : (k : Int) ≤ c2 := by omega
       have HH2 := Lib.hid hh2.st_new; clear hh2 hr2)
    | (go_at_call 22; (with_reducible refine (HFA.out _ _ _ _ _ HH2.out hc2).mono ?_); rintro e w3 ⟨v3, rfl, hh3⟩
       obtain ⟨A3, n3, c3, rfl, hn3, hc3⟩ := hh3.fr_form
       obtain rfl : n3 = 0 := hn3.out
       have HH3 : Hid (Holds w3 (StH w2.heap.size (L.take k) 0 :: own (.slice (some ⟨g2, o2, none⟩) n2 c2) L :: blk w1.heap.size 30 #[.int .u8 (t.toNat : Int), .slice A n c] :: R)) := hh3.tail
       clear hh3 hn3)
    | (go_at_call 26; (with_reducible refine (swaits_at k HKL HH3.out).mono ?_); rintro e w4 ⟨rfl, rfl⟩)
    | (go_at_call 25; (with_reducible refine (sdropped_ok HH3.out).mono ?_); rintro e w4 ⟨rfl, rfl⟩))
  have hck : ¬ c2 = k := by omega
  have hkn' : k ≤ n2 := by omega
  have HCC := Lib.hid (fun w' (h : Holds w' (blk w1.heap.size 30 #[.int .u8 (t.toNat : Int), .slice A n c] :: R)) => show w'.cell? ⟨w1.heap.size, 0, none⟩ = some (.int .u8 (t.toNat : Int)) ∧ w'.cell? ⟨w1.heap.size, 1, none⟩ = some (.slice A n c) from ⟨(h.cells 0).trans rfl, (h.cells 1).trans rfl⟩)
  have hk0 := HH3.out.drew
  refine wp_region_held_drew (S := (fun w' => Holds w' (blk w1.heap.size 30 #[.int .u8 (t.toNat : Int), .slice A n c] :: R))) (by kernel_rfl) ?_ (fun hHeld => ?_)
  · exact hk0.tail.tail
  refine takeH 0 ?_ rfl (by kernel_rfl) (by kernel_rfl) (by kernel_rfl) (fun _ _ _ h => h) (by kernel_rfl) (by assumption) (fun w hSw => ?_) ?_
  rotate_left
  · (try dsimp only at hSw); go_simp <;> (try with_reducible rfl)
  try simp only [Act.put, List.setIfInBounds_toArray, List.set_cons_zero, List.set_cons_succ]
  refine takeH 1 ?_ rfl (by kernel_rfl) (by kernel_rfl) (by kernel_rfl) (fun _ _ _ h => h) (by kernel_rfl) (by assumption) (fun w hSw => ?_) ?_
  rotate_left
  · (try dsimp only at hSw); go_simp <;> (try with_reducible rfl)
  try simp only [Act.put, List.setIfInBounds_toArray, List.set_cons_zero, List.set_cons_succ]
  refine takeH 2 ?_ rfl (by kernel_rfl) (by kernel_rfl) (by kernel_rfl) (fun _ _ _ h => h) (by kernel_rfl) (by assumption) (fun w hSw => ?_) ?_
  rotate_left
  · (try dsimp only at hSw); go_simp <;> (try with_reducible rfl)
  try simp only [Act.put, List.setIfInBounds_toArray, List.set_cons_zero, List.set_cons_succ]
  refine takeH 4 ?_ rfl (by kernel_rfl) (by kernel_rfl) (by kernel_rfl) (fun _ _ _ h => h) (by kernel_rfl) (by assumption) (fun w hSw => ?_) ?_
  rotate_left
  · obtain ⟨hca, hcb⟩ := HCC.out _ hSw
    clear hSw; go_simp <;> (try with_reducible rfl)
  try simp only [Act.put, List.setIfInBounds_toArray, List.set_cons_zero, List.set_cons_succ]
  refine wpAnyH_phaseA (fun a0 listed a w' => ∃ (b3 b5 : Bool) (g5 n3 c3 : Nat) (A3 : Option Addr),
    listed = #[true, true, true, b3, true, b5, false, false, false, false, false, false, false, false, false, false] ∧
    a = (a0.put (some 59) (Fl b3 (.slice A3 n3 c3) undef)).put (some 61) (Fl b5 (.slice (some ⟨g5, 0, none⟩) 1 1) undef) ∧
    Holds w' (opt b3 (FrH 28 (.slice A3 n3 c3) [(t, xs)]) :: StH w2.heap.size (if b3 = true then [] else L.take k) 0 :: opt b5 (blk g5 30 #[.int .u8 (t.toNat : Int), .slice A n c]) :: own (.slice (some ⟨g2, o2, none⟩) n2 c2) L :: blk w1.heap.size 30 #[.int .u8 (t.toNat : Int), .slice A n c] :: R))
    15 #[true, true, true, true, true, true, false, false, false, false, false, false, false, false, false, false] 10 (by kernel_rfl) (by kernel_rfl) (by kernel_rfl) ?h0 ?hJ ?hend ?hstep
  case h0 => exact ⟨false, false, 0, 0, 0, none, rfl, rfl, (hk0.emp_cons.push_ 1 (by simp)).emp_cons⟩
  case hJ =>
    rintro _ _ _ ⟨_, _, _, _, _, _, rfl, -, h⟩
    exact ⟨rfl, rfl, h.tail.tail.tail.tail⟩
  case hstep =>
    rintro _ _ w4 ⟨b3, b5, g5, n3, c3, A3, rfl, rfl, hh⟩
    refine ⟨fun hne hun hdep => ?_, fun hne hun hdep => ?_, fun hne hun hdep => ?_, fun hne hun hdep => ?_, fun hne hun hdep => ?_, fun hne hun hdep => ?_, fun hne hun hdep => ?_, fun hne hun hdep => ?_, fun hne hun hdep => ?_, fun hne hun hdep => ?_, fun hne hun hdep => ?_, fun hne hun hdep => ?_, fun hne hun hdep => ?_, fun hne hun hdep => ?_, fun hne hun hdep => ?_, fun hne hun hdep => ?_, trivial⟩
    all_goals (try exact Bool.noConfusion (show true = false from hun))
    · obtain rfl : b3 = false := hun
      refine ⟨rfl, fun K hK => ?_⟩
      clear hne hdep
      simp only [Act.put, List.setIfInBounds_toArray, List.set_cons_zero, List.set_cons_succ]
      go_simp
      have h1 : Holds w4 (StH w2.heap.size (L.take k) 0 :: own (.slice (some ⟨g2, o2, none⟩) n2 c2) L :: opt b5 (blk g5 30 #[.int .u8 (t.toNat : Int), .slice A n c]) :: blk w1.heap.size 30 #[.int .u8 (t.toNat : Int), .slice A n c] :: R) := (hh.tail.pull 2 rfl).push_ 1 (by simp)
      refine (HFB.out _ _ _ _ _ _ h1 (HK.out.cons _ |>.cons _) hc2).mono ?_
      rintro e w5 ⟨v5, rfl, hh5⟩
      obtain ⟨A5, n5, c5, rfl, -, -⟩ := hh5.fr_form
      exact hK.out _ _ ⟨true, b5, g5, n5, c5, A5, rfl, rfl, (hh5.pull 2 rfl).push_ 3 (by simp)⟩
    · obtain rfl : b5 = false := hun
      refine ⟨rfl, fun K hK => ?_⟩
      clear hne hdep
      simp only [Act.put, List.setIfInBounds_toArray, List.set_cons_zero, List.set_cons_succ]
      go_simp
      exact hK.out _ _ ⟨b3, true, w4.heap.size, n3, c3, A3, rfl, rfl, ((hh.alloc 30 #[.int .u8 (t.toNat : Int), .slice A n c]).drop 3 rfl).push_ 2 (by simp)⟩
    all_goals
      exfalso
      clear hh
      revert hne hdep
      cases b3 <;> cases b5 <;> intro hne hdep <;> first | exact absurd rfl hne | exact Bool.noConfusion (show false = true from hdep)
  case hend =>
    rintro _ w4 ⟨b3, b5, g5, n3, c3, A3, hl, rfl, hh⟩
    simp only [Array.mk.injEq, List.cons.injEq, true_and, and_true] at hl
    obtain ⟨rfl, rfl⟩ := hl
    have hk2 : Holds w4 (FrH 28 (.slice A3 n3 c3) [(t, xs)] :: StH w2.heap.size [] 0 :: blk g5 30 (FS.cells ⟨t, A, n, c, xs⟩).toArray :: own (.slice (some ⟨g2, o2, none⟩) n2 c2) L :: blk w1.heap.size 30 #[.int .u8 (t.toNat : Int), .slice A n c] :: R) := hh
    obtain ⟨l, hl1, hl2, hl⟩ := hk2.frs
    obtain ⟨A9, c9, hv, -, -, -⟩ := hl.row_form
    simp only [Value.slice.injEq] at hv
    obtain ⟨rfl, rfl, rfl⟩ := hv
    have hl5 : l.length ≤ 1 := by have := congrArg List.length hl1.out; simp at this; omega
    clear hh hk2
    simp only [Act.put, List.setIfInBounds_toArray, List.set_cons_zero, List.set_cons_succ, Fl_true]
    refine effH 6 rfl (by kernel_rfl) (by kernel_rfl) (fun K hK => ?_)
    go_simp
    have hl9 : Holds w4 (blk g5 30 (FS.cells ⟨t, A, n, c, xs⟩).toArray :: row 28 2 (.slice A3 l.length c3) l.length (fsCells l) :: fsBodies l :: StH w2.heap.size [] 0 :: own (.slice (some ⟨g2, o2, none⟩) n2 c2) L :: blk w1.heap.size 30 #[.int .u8 (t.toNat : Int), .slice A n c] :: R) := hl.pull 3 rfl
    have hfb := FsAt.of_blk (T := 30) (g := g5) (f := ⟨t, A, n, c, xs⟩) (HR.out.cons (blk w1.heap.size 30 #[.int .u8 (t.toNat : Int), .slice A n c]) |>.cons (own (.slice (some ⟨g2, o2, none⟩) n2 c2) L) |>.cons (StH w2.heap.size [] 0) |>.cons (fsBodies l) |>.cons (row 28 2 (.slice A3 l.length c3) l.length (fsCells l))) ⟨HN.out, hc⟩
    have hfa := (FsAt.of_frs (T := 28) (A := A3) (c := c3) (R := StH w2.heap.size [] 0 :: own (.slice (some ⟨g2, o2, none⟩) n2 c2) L :: blk w1.heap.size 30 #[.int .u8 (t.toNat : Int), .slice A n c] :: R) hl2).cons (blk g5 30 (FS.cells ⟨t, A, n, c, xs⟩).toArray)
    have hfe : Hid (l.map FS.frm = [FS.frm ⟨t, A, n, c, xs⟩]) := hl1
    refine (slist_ok A3 l.length c3 (some ⟨g5, 0, none⟩) 1 1 l [⟨t, A, n, c, xs⟩] w4 _ hl9 hfa hfb rfl rfl hfe (by omega)).mono ?_
    rintro e w5 ⟨rfl, hh5⟩
    refine hK.out _ _ hh5.tail.tail.tail.tail.tail (fun hHeld => ?_)
    clear hK K
    refine takeH 7 ?_ rfl (by kernel_rfl) (by kernel_rfl) (by kernel_rfl) (fun _ _ _ h => h) (by kernel_rfl) (by assumption) (fun w hSw => ?_) ?_
    rotate_left
    · (try dsimp only at hSw); go_simp <;> (try with_reducible rfl)
    try simp only [Act.put, List.setIfInBounds_toArray, List.set_cons_zero, List.set_cons_succ]
    refine effH 8 rfl (by kernel_rfl) (by kernel_rfl) (fun K hK => ?_)
    go_simp
    refine (swaits_ok (hh5.pull 3 rfl)).mono ?_
    rintro e w6 ⟨rfl, rfl⟩
    refine hK.out _ _ hHeld (fun hHeld => ?_)
    clear hK K
    refine takeH 9 ?_ rfl (by kernel_rfl) (by kernel_rfl) (by kernel_rfl) (fun _ _ _ h => h) (by kernel_rfl) (by assumption) (fun w hSw => ?_) ?_
    rotate_left
    · (try dsimp only at hSw); go_simp <;> (try with_reducible rfl)
    try simp only [Act.put, List.setIfInBounds_toArray, List.set_cons_zero, List.set_cons_succ]
    refine takeH 10 ?_ rfl (by kernel_rfl) (by kernel_rfl) (by kernel_rfl) (fun _ _ _ h => h) (by kernel_rfl) (by assumption) (fun w hSw => ?_) ?_
    rotate_left
    · (try dsimp only at hSw); go_simp <;> (try with_reducible rfl)
    try simp only [Act.put, List.setIfInBounds_toArray, List.set_cons_zero, List.set_cons_succ]
    refine takeH 11 ?_ rfl (by kernel_rfl) (by kernel_rfl) (by kernel_rfl) (fun _ _ _ h => h) (by kernel_rfl) (by assumption) (fun w hSw => ?_) ?_
    rotate_left
    · (try dsimp only at hSw); go_simp <;> (try with_reducible rfl)
    try simp only [Act.put, List.setIfInBounds_toArray, List.set_cons_zero, List.set_cons_succ]
    refine effH 12 rfl (by kernel_rfl) (by kernel_rfl) (fun K hK => ?_)
    go_simp
    refine (sdropped_ok (hh5.pull 3 rfl)).mono ?_
    rintro e w6 ⟨rfl, rfl⟩
    refine hK.out _ _ hHeld (fun hHeld => ?_)
    clear hK K
    refine takeH 13 ?_ rfl (by kernel_rfl) (by kernel_rfl) (by kernel_rfl) (fun _ _ _ h => h) (by kernel_rfl) (by assumption) (fun w hSw => ?_) ?_
    rotate_left
    · (try dsimp only at hSw); go_simp <;> (try with_reducible rfl)
    try simp only [Act.put, List.setIfInBounds_toArray, List.set_cons_zero, List.set_cons_succ]
    refine takeH 14 ?_ rfl (by kernel_rfl) (by kernel_rfl) (by kernel_rfl) (fun _ _ _ h => h) (by kernel_rfl) (by assumption) (fun w hSw => ?_) ?_
    rotate_left
    · (try dsimp only at hSw); go_simp <;> (try with_reducible rfl)
    try simp only [Act.put, List.setIfInBounds_toArray, List.set_cons_zero, List.set_cons_succ]
    refine takeH 15 ?_ rfl (by kernel_rfl) (by kernel_rfl) (by kernel_rfl) (fun _ _ _ h => h) (by kernel_rfl) (by assumption) (fun w hSw => ?_) ?_
    rotate_left
    · (try dsimp only at hSw); go_simp <;> (try with_reducible rfl)
    try simp only [Act.put, List.setIfInBounds_toArray, List.set_cons_zero, List.set_cons_succ]
    refine wpAnyH_done (by kernel_rfl) ?_ _
    have HH9 := Lib.hid hh5.tail.tail.tail.tail.tail.tail
    clear hh5 hHeld
    go_wp2
    go_returns
    exact ⟨rfl, HH9.out⟩
end Go.Proofs.YtmaiokjcgijdcaaDoor
