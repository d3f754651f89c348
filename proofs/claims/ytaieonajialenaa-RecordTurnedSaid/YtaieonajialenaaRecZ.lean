/- A record's bytes with one another one, cut off, or with more behind, are a record's, or none, as the document says (the walk of RecordTurned). -/
import Derived.Test.YtaieonajialenaaRecY
namespace Go.Proofs.Ytaieonajialenaa
open Go.RowKit HP

theorem Holds.own_atR {w : World} {R : List HP} {A : Option Addr} {n c k : Nat} {xs : List UInt8} (h : Holds w (own (.slice A n c) xs :: R)) (hk : k < xs.length) :
    ∃ g, A = some ⟨g, 0, none⟩ ∧ w.cell? ⟨g, k, none⟩ = some (.int .u8 ((xs.getD k 0).toNat : Int)) ∧ w.frozen? ⟨g, k, none⟩ = false ∧ ∀ y : UInt8, Holds (w.setCell ⟨g, k, none⟩ (.int .u8 (y.toNat : Int))) (own (.slice A n c) (xs.set k y) :: R) := by
  obtain ⟨S, hS⟩ := h.head
  rcases hS.1.2 with ⟨_, hx⟩ | ⟨g, cap, cur, hv, hg0, hgg, hnc, hcm, hsz, htk⟩
  · have : xs = [] := by cases xs with | nil => rfl | cons a l => simp at hx
    subst this; simp at hk
  · simp only [Value.slice.injEq] at hv
    obtain ⟨rfl, rfl, rfl⟩ := hv
    rw [Nat.mul_one] at hsz htk
    have hkc : k < cur.size := by rw [hsz]; omega
    have hck : cur[k]? = some (bc (xs.getD k 0)) := by
      have h1 : (cur.toList.take xs.length)[k]? = some (bc (xs.getD k 0)) := by rw [htk, bcs_get]; simp [List.getD, hk]
      rw [List.getElem?_take, if_pos hk] at h1
      simpa using h1
    refine ⟨g, rfl, ?_, frozen_of_row w g k cur 5 hgg, fun y => ?_⟩
    · rw [cell_of_row w g k cur 5 (0, 0) hgg]; exact hck
    · refine h.change fun S hS => ?_
      refine ⟨S, ⟨⟨by simp, .inr ⟨g, c, cur.setIfInBounds k (bc y), by simp, Nat.zero_le _, heap_setCell_same w g k cur 5 (bc y) hgg, by simpa using hnc, hcm, by simp [hsz], ?_⟩⟩, hS.2⟩, Kept.set_ (Kept.refl _ _) (p := ⟨g, k, none⟩) (.inl ((hS.2 g).2 rfl)) _, fun _ hk => .inl hk⟩
      rw [Nat.mul_one, Array.toList_setIfInBounds, List.length_set, List.take_set, htk]
      simp [bcs, List.map_set]
set_option maxRecDepth 100000 in
set_option maxHeartbeats 8000000 in
theorem recordTurned_ok (r : Rec) (h : r.Wf) (u : Nat) (hu : u < 18446744073709551616) (by_ : UInt8) (hw : Nat) (hhw : hw < 256) (w : World) (R : List HP) (hh : Holds w R) :
    Calls Try.prog 10 #[.agg (flat r.segs).toArray, .int .u64 (u : Int), .int .u8 (by_.toNat : Int), .int .u8 (hw : Int)] w fun e w' => e = .returned (.bool true) ∧ Holds w' R := by
  have HW := Lib.hid hh
  have HS := Lib.hid (Rec.segs_ok h.ok)
  have HR := Lib.hid h
  clear hh h
  obtain ⟨b1, HB1⟩ : ∃ b, Hid (fewR r = b) := ⟨_, rfl⟩
  cases b1
  · go_enter Try.func10, Try.ntmps10
    go_wp2_with (first
      | go_skip
      | (refine wpList_runs HW.out rfl (runs_ldR 0 (ty := 38) (n := 74) (m := Rec.segs r) rfl rfl rfl rfl Try.underlying38 rfl (by kernel_rfl)) ?_; simp only [put_rules])
      | (refine wpList_box HW.out rfl rfl rfl rfl HS.out (fun gb w' hw' => ?_)
         clear HW; have HW := Lib.hid hw'; clear hw'; (try simp only [hps_rules] at HW); (try simp only [put_rules]))
      | ((go_at_call 24; have hc := rcawake_ok _ _ HW.out; with_reducible refine hc.mono ?_; clear hc)
         rintro e w2 ⟨rfl, hw'⟩
         clear HW; have HW := Lib.hid hw'; clear hw'; (try simp only [hps_rules] at HW))
      | ((go_at_call 25; have hc := fewSS r HR.out.ok _ _ HW.out HB1.out; with_reducible refine hc.mono ?_; clear hc)
         rintro e w2 ⟨rfl, hw'⟩
         clear HW; have HW := Lib.hid hw'; clear hw'; (try simp only [hps_rules] at HW)))
    go_ret
    exact ⟨rfl, HW.out.tail⟩
  obtain ⟨b2, HB2⟩ : ∃ b, Hid (formedR r = b) := ⟨_, rfl⟩
  cases b2
  · go_enter Try.func10, Try.ntmps10
    go_wp2_with (first
      | go_skip
      | (refine wpList_runs HW.out rfl (runs_ldR 0 (ty := 38) (n := 74) (m := Rec.segs r) rfl rfl rfl rfl Try.underlying38 rfl (by kernel_rfl)) ?_; simp only [put_rules])
      | (refine wpList_box HW.out rfl rfl rfl rfl HS.out (fun gb w' hw' => ?_)
         clear HW; have HW := Lib.hid hw'; clear hw'; (try simp only [hps_rules] at HW); (try simp only [put_rules]))
      | ((go_at_call 24; have hc := rcawake_ok _ _ HW.out; with_reducible refine hc.mono ?_; clear hc)
         rintro e w2 ⟨rfl, hw'⟩
         clear HW; have HW := Lib.hid hw'; clear hw'; (try simp only [hps_rules] at HW))
      | ((go_at_call 25; have hc := fewSS r HR.out.ok _ _ HW.out HB1.out; with_reducible refine hc.mono ?_; clear hc)
         rintro e w2 ⟨rfl, hw'⟩
         clear HW; have HW := Lib.hid hw'; clear hw'; (try simp only [hps_rules] at HW))
      | (go_at_call 34; have hc := rEncodeRecS r HR.out _ _ HW.out HB2.out; with_reducible refine hc.mono ?_; clear hc
         rintro e w2 ⟨A1, n1, c1, rfl, hn1, hc1, hw'⟩
         replace hw' := (hw'.push_ 1 (by simp) : Holds w2 (_ :: own (.slice A1 n1 c1) [] :: R))
         clear HW; have HW := Lib.hid hw'; clear hw'; (try simp only [hps_rules] at HW))
      | ((go_at_call 8; have hc := recordEncodes_ok r HR.out _ _ HW.out; with_reducible refine hc.mono ?_; clear hc)
         rintro e w2 ⟨rfl, hw'⟩
         clear HW; have HW := Lib.hid hw'; clear hw'; (try simp only [hps_rules] at HW)))
    go_ret
    exact ⟨rfl, HW.out.tail.tail⟩
  have HF := Lib.hid ((formedR_iff r).1 HB2.out)
  have HLE := Lib.hid (length_encR HR.out.ok HF.out)
  have hN0 : 0 < (encR r).length := by rw [encR_pre, List.length_append, r.length_pre]; omega
  obtain ⟨X, HX⟩ : ∃ x, Hid (encR r = x) := ⟨_, rfl⟩
  rw [HX.out] at HLE hN0
  obtain ⟨N, HN⟩ : ∃ N, Hid (X.length = N) := ⟨_, rfl⟩
  have hN1 : N ≤ 5000 := by rw [← HN.out]; exact HLE.out
  rw [HN.out] at hN0
  have hNI : ((N : Int) == 0) = false := beq_eq_false_iff_ne.2 (by omega)
  have HE2 : Hid (∀ w R, Holds w R → Calls Try.prog 34 #[.agg (flat r.segs).toArray] w fun e w' => ∃ A c, e = .returned (.tuple #[.slice A N c, .int .i64 0]) ∧ N ≤ c ∧ Holds w' (own (.slice A N c) X :: R)) := fun w R hw => by
    refine (rEncodeRecS r HR.out w R hw HB2.out).mono ?_
    rintro e w2 ⟨A, n, c, rfl, hn, hc, hw⟩
    rw [if_pos rfl, HX.out] at hn hw
    obtain rfl : n = N := hn.out.trans HN.out
    exact ⟨A, c, rfl, hc, hw⟩
  obtain ⟨k, hk0⟩ : ∃ k, Hid (u % N = k) := ⟨_, rfl⟩
  have hkn : k < N := by rw [← hk0.out]; exact Nat.mod_lt _ hN0
  have hkI : (u : Int) % (N : Int) = (k : Int) := by rw [← hk0.out]; omega
  have hkT : (u : Int).tmod (N : Int) = (k : Int) := by rw [Int.tmod_eq_emod_of_nonneg (by omega)]; exact hkI
  have hwr : IntKind.u64.wrap (N : Int) = (N : Int) := by rw [IntKind.wrap_u64]; omega
  have hwk : IntKind.i64.wrap (k : Int) = (k : Int) := by simp [IntKind.wrap, IntKind.signed, IntKind.bits]; omega
  have hkk : k ≤ N := by omega
  have hnz : N ≠ 0 := by omega
  have h3 : hw % 3 = 0 ∨ hw % 3 = 1 ∨ hw % 3 = 2 := by omega
  rcases h3 with h3 | h3 | h3
  · have t1 : (hw : Int) % 3 = 0 := by omega
    have t2 : (hw : Int).tmod 3 = 0 := by rw [Int.tmod_eq_emod_of_nonneg (by omega)]; exact t1
    clear h3 hhw
    go_enter Try.func10, Try.ntmps10
    go_wp2_with (first
      | go_skip
      | (refine wpList_runs HW.out rfl (runs_ldR 0 (ty := 38) (n := 74) (m := Rec.segs r) rfl rfl rfl rfl Try.underlying38 rfl (by kernel_rfl)) ?_; simp only [put_rules])
      | (refine wpList_box HW.out rfl rfl rfl rfl HS.out (fun gb w' hw' => ?_)
         clear HW; have HW := Lib.hid hw'; clear hw'; (try simp only [hps_rules] at HW); (try simp only [put_rules]))
      | ((go_at_call 24; have hc := rcawake_ok _ _ HW.out; with_reducible refine hc.mono ?_; clear hc)
         rintro e w2 ⟨rfl, hw'⟩
         clear HW; have HW := Lib.hid hw'; clear hw'; (try simp only [hps_rules] at HW))
      | ((go_at_call 25; have hc := fewSS r HR.out.ok _ _ HW.out HB1.out; with_reducible refine hc.mono ?_; clear hc)
         rintro e w2 ⟨rfl, hw'⟩
         clear HW; have HW := Lib.hid hw'; clear hw'; (try simp only [hps_rules] at HW))
      | (go_at_call 34; have hc := HE2.out _ _ HW.out; with_reducible refine hc.mono ?_; clear hc
         rintro e w2 ⟨A2, c2, rfl, hc2, hh2⟩
         obtain ⟨g, rfl, hcell, hfree, hset⟩ := hh2.own_atR (k := k) (by rw [HN.out]; exact hkn)
         have hby : ∃ y : UInt8, Hid ((((X.getD k 0).toNat : Int) + (by_.toNat : Int)) % 256 = (y.toNat : Int)) := ⟨X.getD k 0 + by_, by unfold Hid; rw [UInt8.toNat_add]; omega⟩
         obtain ⟨y, hy⟩ := hby
         generalize X.getD k 0 = x at hcell hy
         have hx1 : (x.toNat : Int) < 256 := by have := x.toNat_lt; omega
         have hb1 : (by_.toNat : Int) < 256 := by have := by_.toNat_lt; omega
         have HSS : Hid (Holds (w2.setCell ⟨g, k, none⟩ (.int .u8 (((x.toNat : Int) + (by_.toNat : Int)) % 256))) (own (.slice (some ⟨g, 0, none⟩) N c2) (X.set k y) :: sblk gb 38 r.segs :: R)) := by unfold Hid; rw [hy.out]; exact hset y
         have HLS := Lib.hid (show N = (X.set k y).length by simp [HN.out]); clear hh2 hset)
      | (go_at_call 9; have hc := recordDecodes_ok (some ⟨g, 0, none⟩) N c2 (X.set k y) _ _ HSS.out Ent.own HLS hc2 (by omega); with_reducible refine hc.mono ?_; clear hc
         rintro e w3 ⟨rfl, hw'⟩
         clear HW; have HW := Lib.hid hw'.tail; clear hw'))
    go_ret
    exact ⟨rfl, HW.out.tail⟩
  · have t1 : (hw : Int) % 3 = 1 := by omega
    have t2 : (hw : Int).tmod 3 = 1 := by rw [Int.tmod_eq_emod_of_nonneg (by omega)]; exact t1
    have HTK : Hid (k = (X.take k).length) := by unfold Hid; simp [HN.out]; omega
    clear h3 hhw
    go_enter Try.func10, Try.ntmps10
    go_wp2_with (first
      | go_skip
      | (refine wpList_runs HW.out rfl (runs_ldR 0 (ty := 38) (n := 74) (m := Rec.segs r) rfl rfl rfl rfl Try.underlying38 rfl (by kernel_rfl)) ?_; simp only [put_rules])
      | (refine wpList_box HW.out rfl rfl rfl rfl HS.out (fun gb w' hw' => ?_)
         clear HW; have HW := Lib.hid hw'; clear hw'; (try simp only [hps_rules] at HW); (try simp only [put_rules]))
      | ((go_at_call 24; have hc := rcawake_ok _ _ HW.out; with_reducible refine hc.mono ?_; clear hc)
         rintro e w2 ⟨rfl, hw'⟩
         clear HW; have HW := Lib.hid hw'; clear hw'; (try simp only [hps_rules] at HW))
      | ((go_at_call 25; have hc := fewSS r HR.out.ok _ _ HW.out HB1.out; with_reducible refine hc.mono ?_; clear hc)
         rintro e w2 ⟨rfl, hw'⟩
         clear HW; have HW := Lib.hid hw'; clear hw'; (try simp only [hps_rules] at HW))
      | (go_at_call 34; have hc := HE2.out _ _ HW.out; with_reducible refine hc.mono ?_; clear hc
         rintro e w2 ⟨A2, c2, rfl, hc2, hw'⟩
         have hkc : k ≤ c2 := by omega
         have hkcI : (k : Int) ≤ (c2 : Int) := by omega
         clear HW; have HW := Lib.hid hw'; clear hw')
      | (go_at_call 9; have hc := recordDecodes_ok A2 k c2 (X.take k) _ _ HW.out (fun w hw => hw.own_rd.take k) HTK (by omega) (by omega); with_reducible refine hc.mono ?_; clear hc
         rintro e w3 ⟨rfl, hw'⟩
         clear HW; have HW := Lib.hid hw'.tail; clear hw'))
    go_ret
    exact ⟨rfl, HW.out.tail⟩
  · have t1 : (hw : Int) % 3 = 2 := by omega
    have t2 : (hw : Int).tmod 3 = 2 := by rw [Int.tmod_eq_emod_of_nonneg (by omega)]; exact t1
    clear h3 hhw
    go_enter Try.func10, Try.ntmps10
    go_wp2_with (first
      | go_skip
      | (refine wpList_runs HW.out rfl (runs_ldR 0 (ty := 38) (n := 74) (m := Rec.segs r) rfl rfl rfl rfl Try.underlying38 rfl (by kernel_rfl)) ?_; simp only [put_rules])
      | (refine wpList_box HW.out rfl rfl rfl rfl HS.out (fun gb w' hw' => ?_)
         clear HW; have HW := Lib.hid hw'; clear hw'; (try simp only [hps_rules] at HW); (try simp only [put_rules]))
      | ((go_at_call 24; have hc := rcawake_ok _ _ HW.out; with_reducible refine hc.mono ?_; clear hc)
         rintro e w2 ⟨rfl, hw'⟩
         clear HW; have HW := Lib.hid hw'; clear hw'; (try simp only [hps_rules] at HW))
      | ((go_at_call 25; have hc := fewSS r HR.out.ok _ _ HW.out HB1.out; with_reducible refine hc.mono ?_; clear hc)
         rintro e w2 ⟨rfl, hw'⟩
         clear HW; have HW := Lib.hid hw'; clear hw'; (try simp only [hps_rules] at HW))
      | (go_at_call 34; have hc := HE2.out _ _ HW.out; with_reducible refine hc.mono ?_; clear hc
         rintro e w2 ⟨A2, c2, rfl, hc2, hw'⟩
         clear HW; have HW := Lib.hid hw'; clear hw')
      | (refine wpList_byte1 HW.out rfl rfl Try.underlying51 (by kernel_rfl) (b := by_) rfl (fun gc w' hw' => ?_)
         clear HW; have HW := Lib.hid hw'; clear hw'; (try simp only [hps_rules] at HW); (try simp only [put_rules]))
      | (refine wpList_app_sl rfl _ _ 51 rfl Try.underlying51 (by kernel_rfl) _ X (HW.out.pull 1 rfl) rfl _ [by_] 1 1 rfl rfl HW.out.own_rd (by have := HLE.out; simp; omega) (fun v' w' hw' => ?_)
         obtain ⟨A3, n3, c3, rfl, hn3, hc3, -⟩ := hw'.own_form
         have hn9 : n3 ≤ 5001 := by have := hn3.out; have := HLE.out; simp at this ⊢; rw [hn3.out]; simp; omega
         clear HW; have HW := Lib.hid hw'; clear hw'; (try simp only [hps_rules] at HW); (try simp only [put_rules]))
      | (go_at_call 9; have hc := recordDecodes_ok A3 n3 c3 (X ++ [by_]) _ _ HW.out Ent.own hn3 hc3 (by omega); with_reducible refine hc.mono ?_; clear hc
         rintro e w3 ⟨rfl, hw'⟩
         clear HW; have HW := Lib.hid hw'.tail.tail; clear hw'))
    go_ret
    exact ⟨rfl, HW.out.tail⟩
end Go.Proofs.Ytaieonajialenaa
