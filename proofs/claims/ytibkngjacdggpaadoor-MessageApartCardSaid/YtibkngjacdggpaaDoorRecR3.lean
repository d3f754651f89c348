import Derived.Test.YtibkngjacdggpaaDoorEff
import Derived.Test.YtibkngjacdggpaaDoorRefA
import Derived.Test.YtibkngjacdggpaaDoorBookA
import Derived.Test.YtibkngjacdggpaaDoorRecD
/- The reference's bytes of a record: truth, text, EditBytes. -/
namespace Go.Proofs.YtibkngjacdggpaaDoor
open Go.RowKit HP

theorem wrapUR {n : Nat} (h : n ≤ 9223372036854775807) : IntKind.u64.wrap (n : Int) = n := by simp [IntKind.wrap, IntKind.signed, IntKind.bits]; omega
theorem rnumb_at2 (n k : Nat) (K : Int) (hK : K = k) (hk : k ≤ 8) (w : World) (R : List HP) (hh : Holds w R) :
    Calls Tryd.prog 61 #[.int .u64 n, .int .i64 K] w fun e w' => ∃ v, e = .returned v ∧ Holds w' (own v (beL n k) :: R) := by
  subst hK
  exact rnumb_ok n k hk w R hh
section
variable {w : World} {R : List HP} (hh : Holds w R)
include hh


















theorem rtruth1_ok (b : Bool) : Calls Tryd.prog 67 #[.bool b] w fun e w' => e = .returned (.int .u8 ((UInt8.ofNat (bitN b)).toNat : Int)) ∧ Holds w' R := by
  have HW := Lib.hid hh
  clear hh
  cases b
  · go_enter Tryd.func67, Tryd.ntmps67
    go_wp2
    go_ret
    exact ⟨rfl, HW.out⟩
  · go_enter Tryd.func67, Tryd.ntmps67
    go_wp2
    go_ret
    exact ⟨rfl, HW.out⟩
end
end Go.Proofs.YtibkngjacdggpaaDoor
/- The reference's bytes of a record: text, EditBytes. -/
namespace Go.Proofs.YtibkngjacdggpaaDoor
open Go.RowKit HP

section
variable {P : Program} {ops : Array Oper} {rest : List Oper} {o : Oper} {a : Act} {w : World} {Q : Exit → Act → World → Prop} {L : List HP}
theorem wpList_s2b (h : Holds w L) (hgd : o.guard = none) {ty t e : TypeId} {x : Operand} (ho : o.op = .convert ty t x) (hs : P.underlying ty = some .string) (hd : P.underlying t = some (.slice e)) (he : P.underlying e = some (.int .u8)) {xs : List UInt8} (hx : a.eval x = .string (strOf xs))
    (hn : ∀ g c w', xs.length ≤ c → Holds w' (rb (some ⟨g, 0, none⟩) xs :: L) → wpList P ops Q rest (a.put o.dst (.slice (some ⟨g, 0, none⟩) xs.length c)) w') : wpList P ops Q (o :: rest) a w :=
  wpList_plain hgd fun _ hK => wp_s2b h ho hs hd he hx fun g c w' h1 h2 => hK _ _ (hn g c w' h1 h2)
/-- bytes that stand in a block of segments -/
theorem Ent.sblk {i : Nat} {g : Nat} {T : TypeId} {S a' b' : List Sg} {off n : Nat} {xs : List UInt8} (hi : L[i]? = some (HP.sblk g T S)) (hc : cutSg S off n = some (a', [.b n xs], b')) : Ent L fun w => RD w (some ⟨g, off, none⟩) xs := fun w hw => by
  have hr := hw.sblk_range i hi hc
  refine ⟨g, fun _ => ⟨off, rfl, fun j hj => ?_⟩⟩
  exact hr j _ (by show (bcs xs)[j]? = _; rw [bcs_get]; simp [List.getD, hj])
end
section
variable {w : World} {R : List HP} (hh : Holds w R)
include hh


























end
end Go.Proofs.YtibkngjacdggpaaDoor
/- The reference's EditBytes. -/
namespace Go.Proofs.YtibkngjacdggpaaDoor
open Go.RowKit HP

theorem encE_parts (e : Ed) : [UInt8.ofNat (bitN e.q), UInt8.ofNat (bitN e.x)] ++ (e.h ++ (beL e.s.length 2 ++ e.s)) = encE e := by
  unfold encE
  cases e.q <;> cases e.x <;> rfl
set_option maxRecDepth 100000 in
set_option maxHeartbeats 4000000 in
theorem EditBytes_ok (e : Ed) (he : e.Ok) (hs : e.s.length ≤ 65535) (w : World) (R : List HP) (hh : Holds w R) : Calls Tryd.prog 66 #[.agg (flat e.segs).toArray] w fun ex w' => ∃ v, ex = .returned v ∧ Holds w' (own v (encE e) :: R) := by
  have HW := Lib.hid hh
  have HE := Lib.hid (Ed.segs_ok he)
  have ns := strSize e.s
  have hw1 : IntKind.u64.wrap (e.s.length : Int) = e.s.length := wrapUR (by omega)
  have HSL := Lib.hid hs
  have HOK := Lib.hid he
  have HK1 : Hid ((Tryd.f67.name == "runtime.NumGoroutine" || Tryd.f67.body.isNone) = false) := by unfold Hid; kernel_rfl
  have HK2 : Hid ((Tryd.f61.name == "runtime.NumGoroutine" || Tryd.f61.body.isNone) = false) := by unfold Hid; kernel_rfl
  have HK3 : Hid ((Tryd.f53.name == "runtime.NumGoroutine" || Tryd.f53.body.isNone) = false) := by unfold Hid; kernel_rfl
  clear hh hs he
  go_enter Tryd.func66, Tryd.ntmps66
  go_wp2_with (first
    | (refine wpList_box HW.out rfl rfl rfl rfl HE.out (fun gb w' hw' => ?_)
       clear HW; have HW := Lib.hid hw'; clear hw'; (try simp only [hps_rules] at HW); (try simp only [put_rules])))
  refine wp_region_untilA 21 (by kernel_rfl) HW.out (fun w' hw' => ?_)
  clear HW; have HW := Lib.hid hw'; have HC := Lib.hid hw'; clear hw'
  simp only [rep_rules]
  first
  | (refine takeE 0 rfl rfl (runs_ld1 0 rfl rfl rfl rfl (by kernel_rfl)) HC.out (by kernel_rfl) (fun _ _ _ h => h) ?_)
  | (refine takeE 0 (v := ?_) rfl rfl (runs_of fun w => ?_) HC.out (by kernel_rfl) (fun _ _ _ h => h) ?_
     rotate_left
     · go_simp <;> (try with_reducible rfl))
  try simp only [put_rules]
  first
  | (refine takeE 1 rfl rfl (runs_ld1 0 rfl rfl rfl rfl (by kernel_rfl)) HC.out (by kernel_rfl) (fun _ _ _ h => h) ?_)
  | (refine takeE 1 (v := ?_) rfl rfl (runs_of fun w => ?_) HC.out (by kernel_rfl) (fun _ _ _ h => h) ?_
     rotate_left
     · go_simp <;> (try with_reducible rfl))
  try simp only [put_rules]
  first
  | (refine takeE 2 rfl rfl (runs_ld1 0 rfl rfl rfl rfl (by kernel_rfl)) HC.out (by kernel_rfl) (fun _ _ _ h => h) ?_)
  | (refine takeE 2 (v := ?_) rfl rfl (runs_of fun w => ?_) HC.out (by kernel_rfl) (fun _ _ _ h => h) ?_
     rotate_left
     · go_simp <;> (try with_reducible rfl))
  try simp only [put_rules]
  first
  | (refine takeE 4 rfl rfl (runs_ld1 0 rfl rfl rfl rfl (by kernel_rfl)) HC.out (by kernel_rfl) (fun _ _ _ h => h) ?_)
  | (refine takeE 4 (v := ?_) rfl rfl (runs_of fun w => ?_) HC.out (by kernel_rfl) (fun _ _ _ h => h) ?_
     rotate_left
     · go_simp <;> (try with_reducible rfl))
  try simp only [put_rules]
  first
  | (refine takeE 5 rfl rfl (runs_ld1 0 rfl rfl rfl rfl (by kernel_rfl)) HC.out (by kernel_rfl) (fun _ _ _ h => h) ?_)
  | (refine takeE 5 (v := ?_) rfl rfl (runs_of fun w => ?_) HC.out (by kernel_rfl) (fun _ _ _ h => h) ?_
     rotate_left
     · go_simp <;> (try with_reducible rfl))
  try simp only [put_rules]
  first
  | (refine takeE 6 rfl rfl (runs_ld1 0 rfl rfl rfl rfl (by kernel_rfl)) HC.out (by kernel_rfl) (fun _ _ _ h => h) ?_)
  | (refine takeE 6 (v := ?_) rfl rfl (runs_of fun w => ?_) HC.out (by kernel_rfl) (fun _ _ _ h => h) ?_
     rotate_left
     · go_simp <;> (try with_reducible rfl))
  try simp only [put_rules]
  first
  | (refine takeE 9 rfl rfl (runs_ld1 0 rfl rfl rfl rfl (by kernel_rfl)) HC.out (by kernel_rfl) (fun _ _ _ h => h) ?_)
  | (refine takeE 9 (v := ?_) rfl rfl (runs_of fun w => ?_) HC.out (by kernel_rfl) (fun _ _ _ h => h) ?_
     rotate_left
     · go_simp <;> (try with_reducible rfl))
  try simp only [put_rules]
  first
  | (refine takeE 10 rfl rfl (runs_ld1 0 rfl rfl rfl rfl (by kernel_rfl)) HC.out (by kernel_rfl) (fun _ _ _ h => h) ?_)
  | (refine takeE 10 (v := ?_) rfl rfl (runs_of fun w => ?_) HC.out (by kernel_rfl) (fun _ _ _ h => h) ?_
     rotate_left
     · go_simp <;> (try with_reducible rfl))
  try simp only [put_rules]
  first
  | (refine takeE 11 rfl rfl (runs_ld1 0 rfl rfl rfl rfl (by kernel_rfl)) HC.out (by kernel_rfl) (fun _ _ _ h => h) ?_)
  | (refine takeE 11 (v := ?_) rfl rfl (runs_of fun w => ?_) HC.out (by kernel_rfl) (fun _ _ _ h => h) ?_
     rotate_left
     · go_simp <;> (try with_reducible rfl))
  try simp only [put_rules]
  first
  | (refine takeE 12 rfl rfl (runs_ld1 0 rfl rfl rfl rfl (by kernel_rfl)) HC.out (by kernel_rfl) (fun _ _ _ h => h) ?_)
  | (refine takeE 12 (v := ?_) rfl rfl (runs_of fun w => ?_) HC.out (by kernel_rfl) (fun _ _ _ h => h) ?_
     rotate_left
     · go_simp <;> (try with_reducible rfl))
  try simp only [put_rules]
  first
  | (refine takeE 13 rfl rfl (runs_ld1 0 rfl rfl rfl rfl (by kernel_rfl)) HC.out (by kernel_rfl) (fun _ _ _ h => h) ?_)
  | (refine takeE 13 (v := ?_) rfl rfl (runs_of fun w => ?_) HC.out (by kernel_rfl) (fun _ _ _ h => h) ?_
     rotate_left
     · go_simp <;> (try with_reducible rfl))
  try simp only [put_rules]
  first
  | (refine takeE 14 rfl rfl (runs_ld1 0 rfl rfl rfl rfl (by kernel_rfl)) HC.out (by kernel_rfl) (fun _ _ _ h => h) ?_)
  | (refine takeE 14 (v := ?_) rfl rfl (runs_of fun w => ?_) HC.out (by kernel_rfl) (fun _ _ _ h => h) ?_
     rotate_left
     · go_simp <;> (try with_reducible rfl))
  try simp only [put_rules]
  first
  | (refine takeE 16 rfl rfl (runs_ld1 0 rfl rfl rfl rfl (by kernel_rfl)) HC.out (by kernel_rfl) (fun _ _ _ h => h) ?_)
  | (refine takeE 16 (v := ?_) rfl rfl (runs_of fun w => ?_) HC.out (by kernel_rfl) (fun _ _ _ h => h) ?_
     rotate_left
     · go_simp <;> (try with_reducible rfl))
  try simp only [put_rules]
  first
  | (refine takeE 17 rfl rfl (runs_ld1 0 rfl rfl rfl rfl (by kernel_rfl)) HC.out (by kernel_rfl) (fun _ _ _ h => h) ?_)
  | (refine takeE 17 (v := ?_) rfl rfl (runs_of fun w => ?_) HC.out (by kernel_rfl) (fun _ _ _ h => h) ?_
     rotate_left
     · go_simp <;> (try with_reducible rfl))
  try simp only [put_rules]
  refine wpAnyE_phaseA (fun a0 listed a w' => ∃ (b3 b7 b8 b15 b18 : Bool) (g8 g18 c18 n15 c15 : Nat) (A15 : Option Addr),
    listed = #[true, true, true, b3, true, true, true, b7, b8, true, true, true, true, true, true, b15, true, true, b18, false, false, false] ∧
    a = ((((a0.put (some 6) (Fl b3 (.int .u8 ((UInt8.ofNat (bitN e.q)).toNat : Int)) undef)).put (some 10) (Fl b7 (.int .u8 ((UInt8.ofNat (bitN e.x)).toNat : Int)) undef)).put (some 11) (Fl b8 (.slice (some ⟨g8, 0, none⟩) 2 2) undef)).put (some 18) (Fl b15 (.slice A15 n15 c15) undef)).put (some 21) (Fl b18 (.slice (some ⟨g18, 0, none⟩) e.s.length c18) undef) ∧
    (b7 = true → b3 = true) ∧ (b8 = true → b7 = true) ∧ (b15 = true → b7 = true) ∧ Hid (n15 = (beL e.s.length 2).length) ∧ n15 ≤ c15 ∧ e.s.length ≤ c18 ∧
    Holds w' (opt b8 (own (.slice (some ⟨g8, 0, none⟩) 2 2) [UInt8.ofNat (bitN e.q), UInt8.ofNat (bitN e.x)]) :: opt b15 (own (.slice A15 n15 c15) (beL e.s.length 2)) :: opt b18 (rb (some ⟨g18, 0, none⟩) e.s) :: sblk gb 40 e.segs :: R))
    21 #[true, true, true, true, true, true, true, true, true, true, true, true, true, true, true, true, true, true, true, false, false, false] 3 (by kernel_rfl) (by kernel_rfl) (by kernel_rfl) ?h0 ?hJ ?hend ?hstep
  case h0 => exact ⟨false, false, false, false, false, 0, 0, e.s.length, 2, 2, none, rfl, rfl, fun h => h, fun h => h, fun h => h, by unfold Hid; simp, by omega, Nat.le_refl _, HC.out.emp_cons.emp_cons.emp_cons⟩
  case hJ =>
    rintro _ _ _ ⟨_, _, _, _, _, _, _, _, _, _, _, rfl, -, -, -, -, -, -, -, h⟩
    exact ⟨rfl, rfl, h.tail.tail.tail⟩
  case hstep =>
    rintro _ _ w1 ⟨b3, b7, b8, b15, b18, g8, g18, c18, n15, c15, A15, rfl, rfl, h73, h87, h157, hn15, hc15, hc18, hh⟩
    refine ⟨fun hne hun hdep => ?_, fun hne hun hdep => ?_, fun hne hun hdep => ?_, fun hne hun hdep => ?_, fun hne hun hdep => ?_, fun hne hun hdep => ?_, fun hne hun hdep => ?_, fun hne hun hdep => ?_, fun hne hun hdep => ?_, fun hne hun hdep => ?_, fun hne hun hdep => ?_, fun hne hun hdep => ?_, fun hne hun hdep => ?_, fun hne hun hdep => ?_, fun hne hun hdep => ?_, fun hne hun hdep => ?_, fun hne hun hdep => ?_, fun hne hun hdep => ?_, fun hne hun hdep => ?_, fun hne hun hdep => ?_, fun hne hun hdep => ?_, fun hne hun hdep => ?_, trivial⟩
    all_goals (try exact Bool.noConfusion (show true = false from hun))
    · obtain rfl : b3 = false := hun
      obtain rfl : b7 = false := by cases b7 with | false => rfl | true => exact (h73 rfl).symm
      obtain rfl : b8 = false := by cases b8 with | false => rfl | true => exact (h87 rfl).symm
      obtain rfl : b15 = false := by cases b15 with | false => rfl | true => exact (h157 rfl).symm
      refine ⟨rfl, fun K hK => ?_⟩
      clear hne hdep
      simp only [Act.put, List.setIfInBounds_toArray, List.set_cons_zero, List.set_cons_succ]
      refine wp_callG 67 rfl Tryd.func67 HK1.out (al := [.bool e.q]) rfl (rtruth1_ok hh e.q) ?_
      rintro ex w2 ⟨rfl, hh2⟩
      exact ⟨_, rfl, hK.out _ _ ⟨true, false, false, false, b18, g8, g18, c18, n15, c15, A15, rfl, rfl, fun _ => rfl, fun h => h, fun h => h, hn15, hc15, hc18, hh2⟩⟩
    · obtain rfl : b7 = false := hun
      obtain rfl : b3 = true := by cases b3 with | true => rfl | false => exact Bool.noConfusion (show false = true from hdep)
      obtain rfl : b8 = false := by cases b8 with | false => rfl | true => exact (h87 rfl).symm
      obtain rfl : b15 = false := by cases b15 with | false => rfl | true => exact (h157 rfl).symm
      refine ⟨rfl, fun K hK => ?_⟩
      clear hne hdep
      simp only [Act.put, List.setIfInBounds_toArray, List.set_cons_zero, List.set_cons_succ]
      refine wp_callG 67 rfl Tryd.func67 HK1.out (al := [.bool e.x]) rfl (rtruth1_ok hh e.x) ?_
      rintro ex w2 ⟨rfl, hh2⟩
      exact ⟨_, rfl, hK.out _ _ ⟨true, true, false, false, b18, g8, g18, c18, n15, c15, A15, rfl, rfl, fun _ => rfl, fun _ => rfl, fun _ => rfl, hn15, hc15, hc18, hh2⟩⟩
    · obtain rfl : b8 = false := hun
      obtain rfl : b7 = true := by cases b7 with | true => rfl | false => exact Bool.noConfusion (show false = true from by revert hdep; cases b3 <;> exact id)
      obtain rfl : b3 = true := h73 rfl
      refine ⟨rfl, fun K hK => ?_⟩
      clear hne hdep
      simp only [Act.put, List.setIfInBounds_toArray, List.set_cons_zero, List.set_cons_succ, Fl_true]
      refine wp_slb2 hh rfl Tryd.underlying23 (by kernel_rfl) (b := UInt8.ofNat (bitN e.q)) (c := UInt8.ofNat (bitN e.x)) rfl rfl (fun g w' hw' => ?_)
      exact hK.out _ _ ⟨true, true, true, b15, b18, g, g18, c18, n15, c15, A15, rfl, rfl, fun _ => rfl, fun _ => rfl, fun _ => rfl, hn15, hc15, hc18, hw'.drop 1 rfl⟩
    · obtain rfl : b15 = false := hun
      obtain rfl : b7 = true := by cases b7 with | true => rfl | false => exact Bool.noConfusion (show false = true from by revert hdep; cases b3 <;> cases b8 <;> exact id)
      obtain rfl : b3 = true := h73 rfl
      refine ⟨rfl, fun K hK => ?_⟩
      clear hne hdep
      simp only [Act.put, List.setIfInBounds_toArray, List.set_cons_zero, List.set_cons_succ, Fl_true]
      refine wp_callG 61 rfl Tryd.func61 HK2.out (al := [.int .u64 (e.s.length : Int), .int .i64 2]) rfl (rnumb_at2 e.s.length 2 2 rfl (by omega) w1 _ hh) ?_
      rintro ex w2 ⟨v2, rfl, hh2⟩
      obtain ⟨A2, n2, c2, rfl, hn2, hc2, -⟩ := hh2.own_form
      exact ⟨_, rfl, hK.out _ _ ⟨true, true, b8, true, b18, g8, g18, c18, n2, c2, A2, rfl, rfl, fun _ => rfl, fun _ => rfl, fun _ => rfl, hn2, hc2, hc18, (hh2.drop 2 rfl).push_ 1 (by simp)⟩⟩
    · obtain rfl : b18 = false := hun
      refine ⟨rfl, fun K hK => ?_⟩
      clear hne hdep
      simp only [Act.put, List.setIfInBounds_toArray, List.set_cons_zero, List.set_cons_succ]
      refine wp_s2b hh rfl Tryd.underlying9 Tryd.underlying23 Tryd.underlying5 (xs := e.s) rfl (fun g c w' hgc hw' => ?_)
      exact hK.out _ _ ⟨b3, b7, b8, b15, true, g8, g, c, n15, c15, A15, rfl, rfl, h73, h87, h157, hn15, hc15, hgc, (hw'.drop 3 rfl).push_ 2 (by simp)⟩
    all_goals
      exfalso
      clear hh
      revert hne hdep h73 h87 h157
      cases b3 <;> cases b7 <;> cases b8 <;> cases b15 <;> cases b18 <;> intro h73 h87 h157 hne hdep <;> first | exact absurd rfl hne | exact Bool.noConfusion (show false = true from hdep) | exact Bool.noConfusion (h73 rfl) | exact Bool.noConfusion (h87 rfl) | exact Bool.noConfusion (h157 rfl)
  case hend =>
    rintro _ w1 ⟨b3, b7, b8, b15, b18, g8, g18, c18, n15, c15, A15, hl, rfl, -, -, -, hn15, hc15, hc18, hh⟩
    simp only [Array.mk.injEq, List.cons.injEq, true_and, and_true] at hl
    obtain ⟨rfl, rfl, rfl, rfl, rfl⟩ := hl
    have hk2 : Holds w1 (own (.slice (some ⟨g8, 0, none⟩) 2 2) [UInt8.ofNat (bitN e.q), UInt8.ofNat (bitN e.x)] :: own (.slice A15 n15 c15) (beL e.s.length 2) :: rb (some ⟨g18, 0, none⟩) e.s :: sblk gb 40 e.segs :: R) := hh
    clear hh HW HC
    have HW := Lib.hid hk2
    clear hk2
    simp only [Act.put, List.setIfInBounds_toArray, List.set_cons_zero, List.set_cons_succ, Fl_true]
    refine effE 19 rfl (by kernel_rfl) ?_
    refine wpList_parts HW.out rfl rfl Tryd.underlying29 (z := .slice none 0 0) (by kernel_rfl) [⟨some ⟨g8, 0, none⟩, 2, 2, [UInt8.ofNat (bitN e.q), UInt8.ofNat (bitN e.x)]⟩, ⟨some ⟨gb, 3, none⟩, 32, 32, e.h⟩, ⟨A15, n15, c15, beL e.s.length 2⟩, ⟨some ⟨g18, 0, none⟩, e.s.length, c18, e.s⟩] rfl rfl (by decide) (by decide) (fun g2 w' hw' => ?_)
    clear HW; have HW := Lib.hid hw'; clear hw'; (try simp only [hps_rules] at HW)
    try simp only [put_rules]
    refine wpList_behind (And.intro (fun _ => (by exact HW.out.tail.tail.tail.tail)) ?_)
    refine effE 20 rfl (by kernel_rfl) ?_
    refine wpList_callG 53 rfl Tryd.func53 HK3.out (al := [.slice (some ⟨g2, 0, none⟩) 4 4]) rfl rfl (join_ok (some ⟨g2, 0, none⟩) 4 4 [⟨some ⟨g8, 0, none⟩, 2, 2, [UInt8.ofNat (bitN e.q), UInt8.ofNat (bitN e.x)]⟩, ⟨some ⟨gb, 3, none⟩, 32, 32, e.h⟩, ⟨A15, n15, c15, beL e.s.length 2⟩, ⟨some ⟨g18, 0, none⟩, e.s.length, c18, e.s⟩] _ _ HW.out
      (Ent.parts rfl (Ent.oks Ent.own rfl (by omega) (Ent.oks (Ent.sblk (i := 3) (n := 32) (T := 40) (S := e.segs) rfl rfl) HOK.out.symm (by omega) (Ent.oks (Ent.own.cons _) hn15 hc15 (Ent.oks (Ent.rb.cons _ |>.cons _) rfl hc18 Ent.oks_nil))))) rfl (by omega) (by have := HSL.out; have := HOK.out; unfold Ed.Ok at this; simp [bsAll]; omega)) ?_
    rintro ex w2 ⟨v, rfl, hw'⟩
    refine ⟨_, rfl, ?_⟩
    clear HW; have HW := Lib.hid hw'; clear hw'; (try simp only [hps_rules] at HW)
    try simp only [put_rules]
    refine wpList_behind (And.intro (fun _ => (by exact HW.out.tail.tail.tail.tail.tail)) ?_)
    refine effE 21 rfl (by kernel_rfl) ?_
    refine wpList_runs HW.out rfl (v := ?_) (runs_of fun w => ?_) ?_
    rotate_left
    · go_simp <;> (try with_reducible rfl)
    try simp only [put_rules]
    refine wpList_behind (And.intro (fun h => Bool.noConfusion (show true = false from h)) ?_)
    refine doneE (by kernel_rfl) ?_ _
    go_wp2
    go_ret
    refine ⟨_, rfl, ?_⟩
    have := HW.out.drop 1 rfl |>.drop 1 rfl |>.drop 1 rfl |>.drop 1 rfl |>.drop 1 rfl
    rw [← encE_parts e]
    simpa [bsAll] using this
end Go.Proofs.YtibkngjacdggpaaDoor
