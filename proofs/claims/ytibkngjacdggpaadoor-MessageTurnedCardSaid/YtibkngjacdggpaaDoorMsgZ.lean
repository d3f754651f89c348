import Derived.Test.YtibkngjacdggpaaDoorSegA
import Derived.Laws.AppendOwn
import Derived.Test.YtibkngjacdggpaaDoorMsgD
/- append to the rear of a slice of bytes that is owned from its first byte on. -/
namespace Go.Proofs.YtibkngjacdggpaaDoor
set_option linter.unusedSimpArgs false
set_option linter.unusedVariables false
open Go.RowKit HP

theorem run_append_room_off {P : Program} (w : World) (t ty e : TypeId) (i : TypeInfo) (ht : P.underlying t = some (.slice e)) (hi : P.info? e = some i)
    (g off sLen sCap : Nat) (cur : Array Value) (hg : w.heap[g]? = some (.cells cur e (0, 0)))
    (a : Addr) (m c : Nat) (news : List Value) (hl : news.length = m * i.size) (hnews : ∀ j u, news[j]? = some u → w.cell? (a.add j) = some u) (h1 : ∀ u ∈ news, u.oneCell' = true)
    (hroom : sLen + m ≤ sCap) (hfit : off + sLen * i.size + news.length ≤ cur.size) :
    (Builtin.append_ #[t, t] ty #[.slice (some ⟨g, off, none⟩) sLen sCap, .slice (some a) m c]).run P w =
      .ok (.slice (some ⟨g, off, none⟩) (sLen + m) sCap) (w.setRow g (cur.toList.take (off + sLen * i.size) ++ news ++ cur.toList.drop (off + sLen * i.size + news.length)).toArray) := by
  have hf := run_firstCells_some (P := P) w i.size m a m c news hl hnews
  have hst := run_storeCells_at P g (off + sLen * i.size) e news 0 cur w hg (by simpa using hfit) h1
  simp only [Nat.add_zero] at hst
  simp [Builtin.append_, run_underlying ht, sizeOf, typeInfo, hi, Builtin.lenOf, hroom, hf, Addr.add_lit, hst]
section
variable {P : Program} {ops : Array Oper} {rest : List Oper} {o : Oper} {a : Act} {w : World} {Q : Exit → Act → World → Prop} {R : List HP}
/-- append(x[off:], y) where x is owned: either x has y behind it, or there is a row of its own -/
theorem wpList_app_off (hgd : o.guard = none) (s x : Operand) (t : TypeId) (ho : o.op = .call { callee := .builtin .append, args := #[s, x], argTypes := #[t, t] }) (ht : P.underlying t = some (.slice 5)) (hi : (P.info? 5).map (fun i => (i.zero, i.size, i.bytes)) = some (some (.int .u8 0), 1, 1))
    {g off N c : Nat} {X : List UInt8} (hh : Holds w (own (.slice (some ⟨g, 0, none⟩) N c) X :: R)) (hN : Hid (N = X.length)) (hoff : off ≤ N) (hs : a.eval s = .slice (some ⟨g, off, none⟩) (N - off) (c - off))
    {gy cy : Nat} {y : UInt8} (hx : a.eval x = .slice (some ⟨gy, 0, none⟩) 1 cy) (hr : RD w (some ⟨gy, 0, none⟩) [y]) (hb : N + 1 ≤ 140737488355328)
    (h : ∀ (A : Option Addr) (n c' : Nat) (L : List HP) (w' : World), Hid (n = (X.drop off ++ [y]).length) → n ≤ c' → Holds w' (L ++ R) → (Ent (L ++ R) fun w => RD w A (X.drop off ++ [y])) → wpList P ops Q rest (a.put o.dst (.slice A n c')) w') : wpList P ops Q (o :: rest) a w := by
  have hN' := hN.out
  obtain ⟨i, hi', hz, hsz, hby⟩ := info_parts hi
  obtain ⟨gy', hry⟩ := hr
  obtain ⟨oy, hoy, hcy⟩ := hry (by simp)
  obtain ⟨rfl, rfl⟩ : gy = gy' ∧ 0 = oy := by simpa using hoy
  have hnews : ∀ j u, ([bc y] : List Value)[j]? = some u → w.cell? ((⟨gy, 0, none⟩ : Addr).add j) = some u := fun j u hu => by
    have hj := (List.getElem?_eq_some_iff.1 hu).1
    simp at hj
    subst hj
    simp at hu
    subst hu
    have := hcy 0 (by simp)
    simpa [Addr.add, bc] using this
  have hob := hh.ob
  rcases hob with ⟨hl, ⟨hv, _⟩ | ⟨g', cap, cur, hv, _, hg, hnc, hcm, hcs, htk⟩⟩
  · cases hv
  · simp only [Value.slice.injEq, Option.some.injEq, Addr.mk.injEq, and_true] at hv
    obtain ⟨rfl, hXl, rfl⟩ := hv
    rw [Nat.mul_one] at hcs
    by_cases hroom : N + 1 ≤ c
    · have h1 := run_append_room (P := P) w t o.type 5 i ht hi' g N c cur hg ⟨gy, 0, none⟩ 1 cy [bc y] (by simp [hsz]) hnews (by intro u hu; rw [List.mem_singleton.1 hu]; rfl) hroom (by simp [hsz]; omega)
      have h2 := run_append_room_off (P := P) w t o.type 5 i ht hi' g off (N - off) (c - off) cur hg ⟨gy, 0, none⟩ 1 cy [bc y] (by simp [hsz]) hnews (by intro u hu; rw [List.mem_singleton.1 hu]; rfl) (by omega) (by simp [hsz]; omega)
      rw [hsz, Nat.mul_one] at h1 h2
      rw [show off + (N - off) = N by omega] at h2
      obtain ⟨v', w', hrun, h3, h4, h5⟩ := run_app_b (P := P) w t o.type ht hi (.slice (some ⟨g, 0, none⟩) N c) X hh.ob gy (some ⟨gy, 0, none⟩) [y] cy (fun _ => ⟨0, rfl, hcy⟩) (by simp; omega)
      rw [show ([y] : List UInt8).length = 1 from rfl, h1] at hrun
      obtain ⟨rfl, rfl⟩ : Value.slice (some ⟨g, 0, none⟩) (N + 1) c = v' ∧ _ = w' := by
        have := hrun
        simp only [Result.ok.injEq] at this
        exact this
      have hA := hh.app h3 h4 h5
      refine wpList_plain hgd fun K hK => ?_
      unfold Oper.wp execOp
      simp only [ho, resolve, invoke, builtin, Sem.run_bind, Sem.run_pure, Result.andThen_ok, List.map_toArray, List.map_cons, List.map_nil, hs, hx, h2]
      refine hK _ _ (h _ _ _ [own (.slice (some ⟨g, 0, none⟩) (N + 1) c) (X ++ [y])] _ (by unfold Hid; simp; omega) (by omega) hA (fun w2 hw2 => ?_))
      have := (Holds.own_rd hw2 : RD w2 (some ⟨g, 0, none⟩) (X ++ [y]))
      obtain ⟨g2, hq⟩ := this
      obtain ⟨o2, ho2, hc2⟩ := hq (by simp)
      obtain ⟨rfl, rfl⟩ : g = g2 ∧ 0 = o2 := by simpa using ho2
      refine ⟨g, fun _ => ⟨off, rfl, fun j hj => ?_⟩⟩
      have hjl : off + j < (X ++ [y]).length := by simp at hj ⊢; omega
      have := hc2 (off + j) hjl
      rw [Nat.zero_add] at this
      rw [this]
      have e : X.drop off ++ [y] = (X ++ [y]).drop off := by rw [List.drop_append_of_le_length (by omega)]
      simp only [e]
      simp [List.getD]
    · have holds : ∀ j v, (bcs (X.drop off))[j]? = some v → w.cell? ((⟨g, off, none⟩ : Addr).add j) = some v := fun j v hv => by
        have hj := (List.getElem?_eq_some_iff.1 hv).1
        simp at hj
        have := (Holds.own_rd hh : RD w (some ⟨g, 0, none⟩) X)
        obtain ⟨g2, hq⟩ := this
        obtain ⟨o2, ho2, hc2⟩ := hq (by intro e; rw [e] at hj; simp at hj)
        obtain ⟨rfl, rfl⟩ : g = g2 ∧ 0 = o2 := by simpa using ho2
        have h6 := hc2 (off + j) (by omega)
        rw [Nat.zero_add] at h6
        simp only [Addr.add_lit]
        rw [h6]
        rw [bcs_get] at hv
        simp [List.getD, hj, show off + j < X.length by omega, bc] at hv ⊢
        exact hv
      have h2 := run_append_grow (P := P) w t o.type 5 i (.int .u8 0) ht hi' hz ⟨g, off, none⟩ (N - off) (c - off) (bcs (X.drop off)) (by simp [hsz]; omega) holds ⟨gy, 0, none⟩ 1 cy [bc y] (by simp [hsz]) hnews (by omega) (by omega) (by rw [hby]; exact growslice_fits (by omega) (by omega))
      refine wpList_plain hgd fun K hK => ?_
      unfold Oper.wp execOp
      simp only [ho, resolve, invoke, builtin, Sem.run_bind, Sem.run_pure, Result.andThen_ok, List.map_toArray, List.map_cons, List.map_nil, hs, hx, h2]
      have hal := (hh.drew).allocF 5 ((bcs (X.drop off)).toArray ++ [bc y].toArray ++ Builtin.zeroCells (Value.int .u8 0).cells (grownCap w (N - off + 1) (c - off) 5 - (N - off + 1))) (0, 0)
      refine hK _ _ (h _ _ _ [_, _] _ (by unfold Hid; simp; omega) (grownCap_ge _ _ _ _) hal (fun w2 hw2 => ?_))
      refine ⟨w.heap.size, fun _ => ⟨0, rfl, fun j hj => ?_⟩⟩
      have hc := Holds.cellsF hw2 (0 + j)
      refine hc.trans ?_
      simp only [List.length_append, List.length_drop, List.length_cons, List.length_nil] at hj
      rw [Nat.zero_add]
      have hbl : (bcs (X.drop off)).length = X.length - off := by simp
      rw [show (bcs (X.drop off)).toArray ++ [bc y].toArray = (bcs (X.drop off) ++ [bc y]).toArray by simp, Array.getElem?_append_left (by simp; omega), List.getElem?_toArray]
      rcases Nat.lt_or_ge j (X.length - off) with hlt | hge
      · rw [List.getElem?_append_left (by rw [hbl]; exact hlt), bcs_get]
        simp [List.getD, bc, hlt, show off + j < X.length by omega, List.getElem?_append]
      · obtain rfl : j = X.length - off := by omega
        rw [List.getElem?_append_right (by rw [hbl]; exact Nat.le_refl _), hbl, Nat.sub_self]
        simp [List.getD, bc, List.getElem?_append]
end
end Go.Proofs.YtibkngjacdggpaaDoor
/- A message's body with a byte another one, cut off, or with more behind, in a frame of its own, is a message, or none, as the document says (the walk of MessageTurned). -/
namespace Go.Proofs.YtibkngjacdggpaaDoor
set_option linter.unusedSimpArgs false
set_option linter.unusedVariables false
open Go.RowKit HP

theorem Holds.own_atM {w : World} {R : List HP} {A : Option Addr} {n c k : Nat} {xs : List UInt8} (h : Holds w (own (.slice A n c) xs :: R)) (hk : k < xs.length) :
    ∃ g, A = some ⟨g, 0, none⟩ ∧ w.cell? ⟨g, k, none⟩ = some (.int .u8 ((xs.getD k 0).toNat : Int)) ∧ w.frozen? ⟨g, k, none⟩ = false ∧ ∀ y : UInt8, Holds (w.setCell ⟨g, k, none⟩ (.int .u8 (y.toNat : Int))) (own (.slice A n c) (xs.set k y) :: R) := by
  obtain ⟨S, hS⟩ := h.head
  rcases hS.1.2 with ⟨_, hx⟩ | ⟨g, cap, cur, hv, hg0, hgg, hnc, hcm, hsz, htk⟩
  · have : xs = [] := by cases xs with | nil => rfl | cons a l => simp at hx
    subst this; simp at hk
  · simp only [Value.slice.injEq] at hv
    obtain ⟨rfl, rfl, rfl⟩ := hv
    rw [Nat.mul_one] at hsz htk
    have hkc : k < cur.size := by rw [hsz]; omega
    have hck : cur[k]? = some (bc (xs.getD k 0)) := by
      have h1 : (cur.toList.take xs.length)[k]? = some (bc (xs.getD k 0)) := by rw [htk, bcs_get]; simp [List.getD, hk]
      rw [List.getElem?_take, if_pos hk] at h1
      simpa using h1
    refine ⟨g, rfl, ?_, frozen_of_row w g k cur 5 hgg, fun y => ?_⟩
    · rw [cell_of_row w g k cur 5 (0, 0) hgg]; exact hck
    · refine h.change fun S hS => ?_
      refine ⟨S, ⟨⟨by simp, .inr ⟨g, c, cur.setIfInBounds k (bc y), by simp, Nat.zero_le _, heap_setCell_same w g k cur 5 (bc y) hgg, by simpa using hnc, hcm, by simp [hsz], ?_⟩⟩, hS.2⟩, Kept.set_ (Kept.refl _ _) (p := ⟨g, k, none⟩) (.inl ((hS.2 g).2 rfl)) _, fun _ hk => .inl hk⟩
      rw [Nat.mul_one, Array.toList_setIfInBounds, List.length_set, List.take_set, htk]
      simp [bcs, List.map_set]
theorem RD.fromM {w : World} {g k : Nat} {xs : List UInt8} (h : RD w (some ⟨g, 0, none⟩) xs) : RD w (some ⟨g, k, none⟩) (xs.drop k) := by
  have := h.fromW k
  rwa [Nat.zero_add] at this
theorem Holds.of_appendZ {w : World} {R : List HP} : ∀ {L : List HP}, Holds w (L ++ R) → Holds w R
  | [], h => h
  | _ :: _, h => Holds.of_appendZ h.tail
set_option maxRecDepth 100000 in
set_option maxHeartbeats 8000000 in
theorem messageTurned_ok (r : Msg) (h : r.Wf) (u : Nat) (hu : u < 18446744073709551616) (by_ : UInt8) (hw : Nat) (hhw : hw < 256) (w : World) (R : List HP) (hh : Holds w R) (hkf : Ent R KF) :
    Calls Tryd.prog 13 #[.agg (flat r.segs).toArray, .int .u64 (u : Int), .int .u8 (by_.toNat : Int), .int .u8 (hw : Int)] w fun e w' => e = .returned (.bool true) ∧ Holds w' R := by
  have HW := Lib.hid hh
  have HKF := Lib.hid hkf
  have HS := Lib.hid (Msg.segs_ok h.ok)
  have HR := Lib.hid h
  have HLN := Lib.hid (Msg.lenS h.ok)
  clear hh h hkf
  obtain ⟨b1, HB1⟩ : ∃ b, Hid (fewM r = b) := ⟨_, rfl⟩
  cases b1
  · skip
    go_enter Tryd.func13, Tryd.ntmps13
    go_wp2_with (first
      | go_skip
      | (refine wpList_runs HW.out rfl (runs_ldA 0 (ty := 42) (n := 107) rfl rfl rfl HLN.out Tryd.underlying42 rfl (by kernel_rfl)) ?_; simp only [put_rules])
      | (refine wpList_box HW.out rfl rfl rfl rfl HS.out (fun gb w' hw' => ?_)
         clear HW; have HW := Lib.hid hw'; clear hw'; (try simp only [hps_rules] at HW); (try simp only [put_rules]))
      | ((go_at_call 22; have hc := msgawake_ok _ _ HW.out; with_reducible refine hc.mono ?_; clear hc)
         rintro e w2 ⟨rfl, hw'⟩
         clear HW; have HW := Lib.hid hw'; clear hw'; (try simp only [hps_rules] at HW))
      | ((go_at_call 23; have hc := msgfew_ok r HR.out.ok HB1.out _ _ HW.out; with_reducible refine hc.mono ?_; clear hc)
         rintro e w2 ⟨rfl, hw'⟩
         clear HW; have HW := Lib.hid hw'; clear hw'; (try simp only [hps_rules] at HW)))
    go_ret
    exact ⟨rfl, HW.out.tail⟩
  obtain ⟨b2, HB2⟩ : ∃ b, Hid (formedM r = b) := ⟨_, rfl⟩
  cases b2
  · skip
    go_enter Tryd.func13, Tryd.ntmps13
    go_wp2_with (first
      | go_skip
      | (refine wpList_runs HW.out rfl (runs_ldA 0 (ty := 42) (n := 107) rfl rfl rfl HLN.out Tryd.underlying42 rfl (by kernel_rfl)) ?_; simp only [put_rules])
      | (refine wpList_box HW.out rfl rfl rfl rfl HS.out (fun gb w' hw' => ?_)
         clear HW; have HW := Lib.hid hw'; clear hw'; (try simp only [hps_rules] at HW); (try simp only [put_rules]))
      | ((go_at_call 22; have hc := msgawake_ok _ _ HW.out; with_reducible refine hc.mono ?_; clear hc)
         rintro e w2 ⟨rfl, hw'⟩
         clear HW; have HW := Lib.hid hw'; clear hw'; (try simp only [hps_rules] at HW))
      | ((go_at_call 23; have hc := msgfew_ok r HR.out.ok HB1.out _ _ HW.out; with_reducible refine hc.mono ?_; clear hc)
         rintro e w2 ⟨rfl, hw'⟩
         clear HW; have HW := Lib.hid hw'; clear hw'; (try simp only [hps_rules] at HW))
      | (go_at_call 36; have hc := rWriteS r HR.out _ _ HW.out HB2.out; with_reducible refine hc.mono ?_; clear hc
         rintro e w2 ⟨A1, n1, c1, rfl, hn1, hc1, hw'⟩
         replace hw' := (hw'.push_ 1 (by simp) : Holds w2 (_ :: own (.slice A1 n1 c1) [] :: R))
         clear HW; have HW := Lib.hid hw'; clear hw'; (try simp only [hps_rules] at HW); (try simp only [put_rules]))
      | ((go_at_call 11; have hc := messageEncodes_ok r HR.out _ _ HW.out ((HKF.out.cons _).cons _); with_reducible refine hc.mono ?_; clear hc)
         rintro e w2 ⟨rfl, hw'⟩
         clear HW; have HW := Lib.hid hw'; clear hw'; (try simp only [hps_rules] at HW)))
    go_ret
    exact ⟨rfl, HW.out.tail.tail⟩
  have HF := Lib.hid ((formedM_iff r).1 HB2.out)
  have hL1 := length_encM HR.out.ok HF.out
  have hL2 : 6 ≤ (encM r).length := by rw [encM_pre, List.length_append, r.length_pre]; omega
  obtain ⟨X, HX⟩ : ∃ x, Hid (encB r.kb (encM r) = x) := ⟨_, rfl⟩
  obtain ⟨N, HN⟩ : ∃ N, Hid (X.length = N) := ⟨_, rfl⟩
  have hXl : X.length = 10 + (encM r).length := by rw [← HX.out]; simp
  have hN1 : N ≤ 610 := by rw [← HN.out]; omega
  have hN16 : 16 ≤ N := by rw [← HN.out]; omega
  clear hL1 hL2 hXl
  obtain ⟨K, hK⟩ : ∃ K, N - 10 = K := ⟨_, rfl⟩
  have hKN : N = K + 10 := by omega
  have HKN := Lib.hid hKN
  clear hKN
  have hd16 : decide ((N : Int) < 16) = false := decide_eq_false (by omega)
  have hI10 : (10 : Int) ≤ (N : Int) := by omega
  have hI3 : (3 : Int) < (N : Int) := by omega
  have h3N : 3 < N := by omega
  have hK0 : 0 < K := by omega
  have HE2 : Hid (∀ w R, Holds w R → Calls Tryd.prog 36 #[.agg (flat r.segs).toArray] w fun e w' => ∃ g c, e = .returned (.tuple #[.slice (some ⟨g, 0, none⟩) N c, .int .i64 0]) ∧ N ≤ c ∧ Holds w' (own (.slice (some ⟨g, 0, none⟩) N c) X :: R)) := fun w R hw => by
    refine (rWriteS r HR.out w R hw HB2.out).mono ?_
    rintro e w2 ⟨A, n, c, rfl, hn, hc, hw⟩
    rw [if_pos rfl, HX.out] at hn hw
    obtain rfl : n = N := hn.out.trans HN.out
    obtain ⟨g, rfl, -⟩ := hw.own_atM (k := 0) (by rw [HN.out]; omega)
    exact ⟨g, c, rfl, hc, hw⟩
  obtain ⟨x3, HX3⟩ : ∃ x, Hid (X.getD 3 0 = x) := ⟨_, rfl⟩
  have H3 : Hid (∀ g c w R, Holds w (own (.slice (some ⟨g, 0, none⟩) N c) X :: R) → w.cell? ⟨g, 3, none⟩ = some (.int .u8 (x3.toNat : Int))) := fun g c w R hw => by
    obtain ⟨g', hg, hcell, -⟩ := hw.own_atM (k := 3) (by rw [HN.out]; omega)
    cases hg
    rw [hcell, HX3.out]
  obtain ⟨k, hk0⟩ : ∃ k, Hid (u % K = k) := ⟨_, rfl⟩
  have hkn : k < K := by rw [← hk0.out]; exact Nat.mod_lt _ hK0
  have hkI : (u : Int) % (K : Int) = (k : Int) := by rw [← hk0.out]; omega
  have hkT : (u : Int).tmod (K : Int) = (k : Int) := by rw [Int.tmod_eq_emod_of_nonneg (by omega)]; exact hkI
  have hwr : IntKind.u64.wrap (K : Int) = (K : Int) := by rw [IntKind.wrap_u64]; omega
  have hwk : IntKind.i64.wrap (k : Int) = (k : Int) := by simp [IntKind.wrap, IntKind.signed, IntKind.bits]; omega
  have hkk : k ≤ K := by omega
  have hnz : K ≠ 0 := by omega
  have hKI : ((K : Int) == 0) = false := beq_eq_false_iff_ne.2 (by omega)
  have h4 : hw % 4 = 0 ∨ hw % 4 = 1 ∨ hw % 4 = 2 ∨ hw % 4 = 3 := by omega
  rcases h4 with h4 | h4 | h4 | h4
  · skip
    have t1 : (hw : Int) % 4 = 0 := by omega
    have t2 : (hw : Int).tmod 4 = 0 := by rw [Int.tmod_eq_emod_of_nonneg (by omega)]; exact t1
    clear h4 hhw
    go_enter Tryd.func13, Tryd.ntmps13
    go_wp2_with (first
      | go_skip
      | (refine wpList_runs HW.out rfl (runs_ldA 0 (ty := 42) (n := 107) rfl rfl rfl HLN.out Tryd.underlying42 rfl (by kernel_rfl)) ?_; simp only [put_rules])
      | (refine wpList_box HW.out rfl rfl rfl rfl HS.out (fun gb w' hw' => ?_)
         clear HW; have HW := Lib.hid hw'; clear hw'; (try simp only [hps_rules] at HW); (try simp only [put_rules]))
      | ((go_at_call 22; have hc := msgawake_ok _ _ HW.out; with_reducible refine hc.mono ?_; clear hc)
         rintro e w2 ⟨rfl, hw'⟩
         clear HW; have HW := Lib.hid hw'; clear hw'; (try simp only [hps_rules] at HW))
      | ((go_at_call 23; have hc := msgfew_ok r HR.out.ok HB1.out _ _ HW.out; with_reducible refine hc.mono ?_; clear hc)
         rintro e w2 ⟨rfl, hw'⟩
         clear HW; have HW := Lib.hid hw'; clear hw'; (try simp only [hps_rules] at HW))
      | (go_at_call 36; have hc := HE2.out _ _ HW.out; with_reducible refine hc.mono ?_; clear hc
         rintro e w2 ⟨g, c2, rfl, hc2, hw'⟩
         have hc10 : ¬ c2 = 10 := by omega
         have hcN : (N : Int) ≤ (c2 : Int) := by omega
         have h3 := H3.out g c2 _ _ hw'
         obtain ⟨g', hge, hcell, hfree, hset⟩ := hw'.own_atM (k := 10 + k) (by rw [HN.out, HKN.out]; omega)
         cases hge
         have hby : ∃ y : UInt8, Hid ((((X.getD (10 + k) 0).toNat : Int) + (by_.toNat : Int)) % 256 = (y.toNat : Int)) := ⟨X.getD (10 + k) 0 + by_, by unfold Hid; rw [UInt8.toNat_add]; omega⟩
         obtain ⟨y, hy⟩ := hby
         generalize X.getD (10 + k) 0 = x at hcell hy
         have hx1 : (x.toNat : Int) < 256 := by have := x.toNat_lt; omega
         have hb1 : (by_.toNat : Int) < 256 := by have := by_.toNat_lt; omega
         have HSS : Hid (Holds (w2.setCell ⟨g, 10 + k, none⟩ (.int .u8 (((x.toNat : Int) + (by_.toNat : Int)) % 256))) (own (.slice (some ⟨g, 0, none⟩) N c2) (X.set (10 + k) y) :: sblk gb 42 r.segs :: R)) := by unfold Hid; rw [hy.out]; exact hset y
         have HLS := Lib.hid (show K = ((X.set (10 + k) y).drop 10).length by simp [HN.out]; omega); clear hw' hset)
      | (go_at_call 41; have hc := messageFrames_ok x3 (some ⟨g, 10, none⟩) K (c2 - 10) ((X.set (10 + k) y).drop 10) _ _ HSS.out (fun w hw => RD.fromM hw.own_rd) HLS (by have := HKN.out; omega) (by omega); with_reducible refine hc.mono ?_; clear hc
         rintro e w9 ⟨rfl, hw'⟩
         clear HW; have HW := Lib.hid (hw'.tail); clear hw'))
    go_ret
    exact ⟨rfl, HW.out.tail⟩
  · skip
    have t1 : (hw : Int) % 4 = 1 := by omega
    have t2 : (hw : Int).tmod 4 = 1 := by rw [Int.tmod_eq_emod_of_nonneg (by omega)]; exact t1
    clear h4 hhw
    have HTK : Hid (k = ((X.drop 10).take k).length) := by unfold Hid; simp [HN.out]; omega
    go_enter Tryd.func13, Tryd.ntmps13
    go_wp2_with (first
      | go_skip
      | (refine wpList_runs HW.out rfl (runs_ldA 0 (ty := 42) (n := 107) rfl rfl rfl HLN.out Tryd.underlying42 rfl (by kernel_rfl)) ?_; simp only [put_rules])
      | (refine wpList_box HW.out rfl rfl rfl rfl HS.out (fun gb w' hw' => ?_)
         clear HW; have HW := Lib.hid hw'; clear hw'; (try simp only [hps_rules] at HW); (try simp only [put_rules]))
      | ((go_at_call 22; have hc := msgawake_ok _ _ HW.out; with_reducible refine hc.mono ?_; clear hc)
         rintro e w2 ⟨rfl, hw'⟩
         clear HW; have HW := Lib.hid hw'; clear hw'; (try simp only [hps_rules] at HW))
      | ((go_at_call 23; have hc := msgfew_ok r HR.out.ok HB1.out _ _ HW.out; with_reducible refine hc.mono ?_; clear hc)
         rintro e w2 ⟨rfl, hw'⟩
         clear HW; have HW := Lib.hid hw'; clear hw'; (try simp only [hps_rules] at HW))
      | (go_at_call 36; have hc := HE2.out _ _ HW.out; with_reducible refine hc.mono ?_; clear hc
         rintro e w2 ⟨g, c2, rfl, hc2, hw'⟩
         have hc10 : ¬ c2 = 10 := by omega
         have hcN : (N : Int) ≤ (c2 : Int) := by omega
         have h3 := H3.out g c2 _ _ hw'
         have hkcI : (k : Int) ≤ ((c2 - 10 : Nat) : Int) := by have := HKN.out; omega
         have hkcN : k ≤ c2 - 10 := by have := HKN.out; omega
         clear HW; have HW := Lib.hid hw'; clear hw')
      | (go_at_call 41; have hc := messageFrames_ok x3 (some ⟨g, 10, none⟩) k (c2 - 10) ((X.drop 10).take k) _ _ HW.out (fun w hw => (RD.fromM hw.own_rd).take k) HTK (by have := HKN.out; omega) (by omega); with_reducible refine hc.mono ?_; clear hc
         rintro e w9 ⟨rfl, hw'⟩
         clear HW; have HW := Lib.hid (hw'.tail); clear hw'))
    go_ret
    exact ⟨rfl, HW.out.tail⟩
  · skip
    have t1 : (hw : Int) % 4 = 2 := by omega
    have t2 : (hw : Int).tmod 4 = 2 := by rw [Int.tmod_eq_emod_of_nonneg (by omega)]; exact t1
    clear h4 hhw
    go_enter Tryd.func13, Tryd.ntmps13
    go_wp2_with (first
      | go_skip
      | (refine wpList_runs HW.out rfl (runs_ldA 0 (ty := 42) (n := 107) rfl rfl rfl HLN.out Tryd.underlying42 rfl (by kernel_rfl)) ?_; simp only [put_rules])
      | (refine wpList_box HW.out rfl rfl rfl rfl HS.out (fun gb w' hw' => ?_)
         clear HW; have HW := Lib.hid hw'; clear hw'; (try simp only [hps_rules] at HW); (try simp only [put_rules]))
      | ((go_at_call 22; have hc := msgawake_ok _ _ HW.out; with_reducible refine hc.mono ?_; clear hc)
         rintro e w2 ⟨rfl, hw'⟩
         clear HW; have HW := Lib.hid hw'; clear hw'; (try simp only [hps_rules] at HW))
      | ((go_at_call 23; have hc := msgfew_ok r HR.out.ok HB1.out _ _ HW.out; with_reducible refine hc.mono ?_; clear hc)
         rintro e w2 ⟨rfl, hw'⟩
         clear HW; have HW := Lib.hid hw'; clear hw'; (try simp only [hps_rules] at HW))
      | (go_at_call 36; have hc := HE2.out _ _ HW.out; with_reducible refine hc.mono ?_; clear hc
         rintro e w2 ⟨g, c2, rfl, hc2, hw'⟩
         have hc10 : ¬ c2 = 10 := by omega
         have hcN : (N : Int) ≤ (c2 : Int) := by omega
         have h3 := H3.out g c2 _ _ hw'
         clear HW; have HW := Lib.hid hw'; clear hw')
      | (refine wpList_byte1 HW.out rfl rfl Tryd.underlying23 (by kernel_rfl) (b := by_) rfl (fun gc w' hw' => ?_)
         clear HW; have HW := Lib.hid hw'; clear hw'; (try simp only [hps_rules] at HW); (try simp only [put_rules]))
      | (refine wpList_app_off (off := 10) (N := N) (c := c2) (X := X) rfl _ _ 23 rfl Tryd.underlying23 (by kernel_rfl) (HW.out.pull 1 rfl) HN.out.symm (by omega) (by rw [hK]; rfl) rfl HW.out.own_rd (by omega) (fun A3 n3 c3 L3 w' hn3 hc3 hw' hrd => ?_)
         have hn9 : n3 ≤ 700 := by rw [hn3.out]; simp [HN.out]; omega
         clear HW; have HW := Lib.hid hw'; clear hw'; (try simp only [put_rules]))
      | (go_at_call 41; have hc := messageFrames_ok x3 A3 n3 c3 (X.drop 10 ++ [by_]) _ _ HW.out hrd hn3 hc3 (by omega); with_reducible refine hc.mono ?_; clear hc
         rintro e w9 ⟨rfl, hw'⟩
         clear HW; have HW := Lib.hid (Holds.of_appendZ hw'); clear hw'))
    go_ret
    exact ⟨rfl, HW.out.tail.tail⟩
  · skip
    have t1 : (hw : Int) % 4 = 3 := by omega
    have t2 : (hw : Int).tmod 4 = 3 := by rw [Int.tmod_eq_emod_of_nonneg (by omega)]; exact t1
    clear h4 hhw
    have hby : ∃ y : UInt8, ((x3.toNat : Int) + (by_.toNat : Int)) % 256 = (y.toNat : Int) := ⟨x3 + by_, by rw [UInt8.toNat_add]; omega⟩
    obtain ⟨y3, hy3⟩ := hby
    have hx1 : (x3.toNat : Int) < 256 := by have := x3.toNat_lt; omega
    have hb1 : (by_.toNat : Int) < 256 := by have := by_.toNat_lt; omega
    have HLS := Lib.hid (show K = (X.drop 10).length by simp [HN.out]; omega)
    go_enter Tryd.func13, Tryd.ntmps13
    go_wp2_with (first
      | go_skip
      | (refine wpList_runs HW.out rfl (runs_ldA 0 (ty := 42) (n := 107) rfl rfl rfl HLN.out Tryd.underlying42 rfl (by kernel_rfl)) ?_; simp only [put_rules])
      | (refine wpList_box HW.out rfl rfl rfl rfl HS.out (fun gb w' hw' => ?_)
         clear HW; have HW := Lib.hid hw'; clear hw'; (try simp only [hps_rules] at HW); (try simp only [put_rules]))
      | ((go_at_call 22; have hc := msgawake_ok _ _ HW.out; with_reducible refine hc.mono ?_; clear hc)
         rintro e w2 ⟨rfl, hw'⟩
         clear HW; have HW := Lib.hid hw'; clear hw'; (try simp only [hps_rules] at HW))
      | ((go_at_call 23; have hc := msgfew_ok r HR.out.ok HB1.out _ _ HW.out; with_reducible refine hc.mono ?_; clear hc)
         rintro e w2 ⟨rfl, hw'⟩
         clear HW; have HW := Lib.hid hw'; clear hw'; (try simp only [hps_rules] at HW))
      | (go_at_call 36; have hc := HE2.out _ _ HW.out; with_reducible refine hc.mono ?_; clear hc
         rintro e w2 ⟨g, c2, rfl, hc2, hw'⟩
         have hc10 : ¬ c2 = 10 := by omega
         have hcN : (N : Int) ≤ (c2 : Int) := by omega
         have h3 := H3.out g c2 _ _ hw'
         clear HW; have HW := Lib.hid hw'; clear hw')
      | (go_at_call 41; have hc := messageFrames_ok y3 (some ⟨g, 10, none⟩) K (c2 - 10) (X.drop 10) _ _ HW.out (fun w hw => RD.fromM hw.own_rd) HLS (by have := HKN.out; omega) (by omega); with_reducible refine hc.mono ?_; clear hc
         rintro e w9 ⟨rfl, hw'⟩
         clear HW; have HW := Lib.hid (hw'.tail); clear hw'))
    go_ret
    exact ⟨rfl, HW.out.tail⟩
end Go.Proofs.YtibkngjacdggpaaDoor
