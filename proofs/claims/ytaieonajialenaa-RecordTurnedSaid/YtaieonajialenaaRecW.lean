/- The reference's edit: of bytes. -/
import Derived.Test.YtaieonajialenaaRecR4
namespace Go.Proofs.Ytaieonajialenaa
open Go.RowKit HP

theorem RD.addrW {w : World} {A : Option Addr} {xs : List UInt8} (h : RD w A xs) (hne : xs ≠ []) : ∃ g o, A = some ⟨g, o, none⟩ := by
  obtain ⟨g, h⟩ := h
  obtain ⟨o, rfl, hc⟩ := h hne
  exact ⟨g, o, rfl⟩
theorem RD.midW {w : World} {g o : Nat} {xs : List UInt8} (h : RD w (some ⟨g, o, none⟩) xs) (a k : Nat) : RD w (some ⟨g, o + a, none⟩) ((xs.drop a).take k) := by
  obtain ⟨g', h⟩ := h
  refine ⟨g, fun hx => ?_⟩
  have hne : xs ≠ [] := by intro e; subst e; simp at hx
  obtain ⟨o', ho, hc⟩ := h hne
  obtain ⟨rfl, rfl⟩ : g = g' ∧ o = o' := by simpa using ho
  refine ⟨o + a, rfl, fun j hj => ?_⟩
  simp only [List.length_take, List.length_drop] at hj
  rw [Nat.add_assoc, hc (a + j) (by omega)]
  simp [List.getD, show j < k by omega]
theorem RD.fromW {w : World} {g o : Nat} {xs : List UInt8} (h : RD w (some ⟨g, o, none⟩) xs) (k : Nat) : RD w (some ⟨g, o + k, none⟩) (xs.drop k) := by
  have := h.midW k xs.length
  rwa [List.take_of_length_le (by simp)] at this
theorem RD.cellW {w : World} {g o j : Nat} {xs : List UInt8} (h : RD w (some ⟨g, o, none⟩) xs) (hj : j < xs.length) : w.cell? ⟨g, o + j, none⟩ = some (.int .u8 ((xs.getD j 0).toNat : Int)) := by
  obtain ⟨g', h⟩ := h
  obtain ⟨o', ho, hc⟩ := h (by intro e; subst e; simp at hj)
  obtain ⟨rfl, rfl⟩ : g = g' ∧ o = o' := by simpa using ho
  exact hc j hj
theorem RD.rangeW {w : World} {g o : Nat} {xs : List UInt8} (h : RD w (some ⟨g, o, none⟩) xs) : w.rangeAt g o (bcs xs) := fun j v hv => by
  have hj : j < xs.length := by have := (List.getElem?_eq_some_iff.1 hv).1; simpa using this
  have := h.cellW hj
  rw [this]
  rw [bcs_get] at hv
  simp [List.getD, hj, bc] at hv ⊢
  exact hv
theorem runs_arrayAt {P : Program} {o : Oper} {a : Act} {L : List HP} {t : TypeId} {x : Operand} (ho : o.op = .sliceToArrayPointer t x) {A : Option Addr} {l c : Nat} (hx : a.eval x = .slice A l c) {n : Nat} {e : TypeId} (ht : P.underlying t = some (.array n e)) (h : n ≤ l) : RunsH P o a L (.pointer A) := fun w _ => by
  have hl : ¬ l < n := by omega
  unfold execOp
  simp only [ho, hx, Sem.run_bind]
  simp [Instr.arrayAt, run_underlying ht, hl, Result.andThen]
theorem wp_allocR {P : Program} {o : Oper} {a : Act} {w : World} {Q : Exit → Act → World → Prop} {L : List HP} {K : Act → World → Prop} (h : Holds w L) {ty : TypeId} (ho : o.op = .alloc ty) {z : Value} (hz : (P.info? ty).map (·.zero) = some (some z)) {M : List Sg} (hv : z.cells = (flat M).toArray) (hM : SgOk M)
    (hn : ∀ g w', Holds w' (sblk g ty M :: L) → K (a.put o.dst (.pointer (some ⟨g, 0, none⟩))) w') : o.wp P a w K Q := by
  unfold Oper.wp execOp
  simp only [ho, run_alloc hz, Sem.run_bind, Sem.run_pure, Result.andThen_ok]
  refine hn _ _ ?_
  rw [hv]
  exact h.sblk_new ty M hM
/-- one cell that came in -/
theorem runs_cellE {P : Program} {o : Oper} {a : Act} {L : List HP} {ty : TypeId} {x : Operand} (ho : o.op = .load ty x) {g off : Nat} (hx : a.eval x = .pointer (some ⟨g, off, none⟩)) {v : Value} (hE : ∀ w, Holds w L → w.cell? ⟨g, off, none⟩ = some v)
    (hd : (P.underlying ty).map TypeDesc.isRow = some false) : RunsH P o a L v := fun w hw => by
  unfold execOp
  simp only [ho, hx, Instr.loadAt, Instr.sureAddr, Sem.run_bind, Sem.run_pure, Result.andThen_ok, run_loadVar_one hd (hE w hw)]
/-- a row that came in -/
theorem runs_rowE {P : Program} {o : Oper} {a : Act} {L : List HP} {ty : TypeId} {x : Operand} (ho : o.op = .load ty x) {g off : Nat} (hx : a.eval x = .pointer (some ⟨g, off, none⟩)) {vs : List Value} (hE : ∀ w, Holds w L → w.rangeAt g off vs)
    {d : TypeDesc} (hu : P.underlying ty = some d) (hd : d.isRow = true) (hn : (P.info? ty).map (·.size) = some vs.length) : RunsH P o a L (.agg vs.toArray) := fun w hw => by
  unfold execOp
  simp only [ho, hx, Instr.loadAt, Instr.sureAddr, Sem.run_bind, Sem.run_pure, Result.andThen_ok, run_loadVar_mid w g off ty vs d (hE w hw) hu hd hn]
/-- what the reference's edit reads -/
def rEd (xs : List UInt8) (k : Nat) : Ed × Bool :=
  if xs.length < 36 + k then (Ed.zero, false) else (⟨(xs.drop 36).take (xs.length - k - 36), xs.getD 0 0 == 1, xs.getD 1 0 == 1, (xs.drop 2).take 32⟩, true)
theorem rEd_ok (xs : List UInt8) (k : Nat) : (rEd xs k).1.Ok := by
  unfold rEd
  split
  · exact Ed.zero_ok
  · unfold Ed.Ok; simp; omega
set_option maxRecDepth 100000 in
set_option maxHeartbeats 4000000 in
theorem redit_okR (A : Option Addr) (n c : Nat) (xs : List UInt8) (k : Nat) (hk : k ≤ 32) (w : World) (R : List HP) (hh : Holds w R) (hr : Ent R fun w => RD w A xs) (hn : Hid (n = xs.length)) (hc : n ≤ c) (hb : n ≤ 140737488355328) :
    Calls Try.prog 89 #[.slice A n c, .int .i64 (k : Int)] w fun e w' => e = .returned (.tuple #[(rEd xs k).1.val, .bool (rEd xs k).2]) ∧ Holds w' R := by
  have HW := Lib.hid hh
  have HR := Lib.hid hr
  have HZ := Lib.hid (Ed.segs_ok Ed.zero_ok)
  have hrw := hr w hh
  clear hh hr
  by_cases hs : n < 36 + k
  · have HD : Hid (rEd xs k = (Ed.zero, false)) := by unfold Hid rEd; rw [if_pos (by rw [← hn.out]; exact hs)]
    have d0 : decide ((n : Int) - (k : Int) < 36) = true := decide_eq_true (by omega)
    rw [HD.out]
    clear hrw
    go_enter Try.func89, Try.ntmps89
    go_wp2_with (first
      | go_skip
      | (refine wpList_alloc HW.out rfl (ty := 35) rfl (z := Ed.zero.val) (by kernel_rfl) (M := Ed.zero.segs) rfl HZ.out (fun g w' hw' => ?_)
         clear HW; have HW := Lib.hid hw'; clear hw'; (try simp only [hps_rules] at HW); (try simp only [put_rules]))
      | (refine wpList_runs HW.out rfl (runs_build (zs := Ed.zero.segs) (M := Ed.zero.segs) rfl Try.underlying35 #[(0, 1), (1, 2), (3, 32)] (fun w => by kernel_rfl) (by kernel_rfl) rfl) ?_; simp only [put_rules])
      | (refine wpList_stR HW.out rfl (ty := 35) (n := 35) rfl rfl 0 rfl rfl rfl HZ.out rfl (by kernel_rfl) (fun w' hw' => ?_)
         clear HW; have HW := Lib.hid hw'; clear hw'; (try simp only [hps_rules] at HW); (try simp only [put_rules])))
    refine bodyPost_ret (results_cellS rfl HW.out 0 rfl rfl Try.underlying35 rfl (by kernel_rfl)) rfl ?_
    exact ⟨rfl, HW.out.tail⟩
  · have d0 : decide ((n : Int) - (k : Int) < 36) = false := decide_eq_false (by omega)
    obtain ⟨g, o, rfl⟩ := hrw.addrW (by intro e; have := hn.out; rw [e] at this; simp at this; omega)
    obtain ⟨x0, h0⟩ : ∃ x, Hid (xs.getD 0 0 = x) := ⟨_, rfl⟩
    obtain ⟨x1, h1⟩ : ∃ x, Hid (xs.getD 1 0 = x) := ⟨_, rfl⟩
    obtain ⟨q0, hq0⟩ : ∃ q, ((x0.toNat : Int) == 1) = q := ⟨_, rfl⟩
    obtain ⟨q1, hq1⟩ : ∃ q, ((x1.toNat : Int) == 1) = q := ⟨_, rfl⟩
    obtain ⟨hsh, HH⟩ : ∃ q, Hid ((xs.drop 2).take 32 = q) := ⟨_, rfl⟩
    obtain ⟨st, HST⟩ : ∃ q, Hid ((xs.drop 36).take (n - k - 36) = q) := ⟨_, rfl⟩
    have hl32 : Hid (hsh.length = 32) := by unfold Hid; rw [← HH.out]; have := hn.out; simp; omega
    have hlst : Hid (n - k - 36 = st.length) := by unfold Hid; rw [← HST.out]; have := hn.out; simp; omega
    have HD : Hid (rEd xs k = (⟨st, q0, q1, hsh⟩, true)) := by
      unfold Hid rEd
      rw [if_neg (by rw [← hn.out]; exact hs), ← hn.out, HST.out, HH.out, h0.out, h1.out]
      have e : ∀ x : UInt8, (x == 1) = ((x.toNat : Int) == 1) := fun x => by
        rw [Bool.eq_iff_iff]
        simp only [beq_iff_eq]
        constructor
        · intro h; rw [h]; rfl
        · intro h; apply UInt8.toNat.inj; have : x.toNat = 1 := by omega
          rw [this]; rfl
      rw [e, e, hq0, hq1]
    have H0 : Hid (∀ w, Holds w R → w.cell? ⟨g, o, none⟩ = some (.int .u8 (x0.toNat : Int))) := fun w hw => by
      have := (HR.out w hw).cellW (j := 0) (by rw [← hn.out]; omega)
      rwa [h0.out, Nat.add_zero] at this
    have H1 : Hid (∀ w, Holds w R → w.cell? ⟨g, o + 1, none⟩ = some (.int .u8 (x1.toNat : Int))) := fun w hw => by
      have := (HR.out w hw).cellW (j := 1) (by rw [← hn.out]; omega)
      rwa [h1.out] at this
    have H2 : Hid (∀ w, Holds w R → w.rangeAt g (o + 2) (bcs hsh)) := fun w hw => by
      have := ((HR.out w hw).midW 2 32).rangeW
      rwa [HH.out] at this
    have H3 : Hid (∀ w, Holds w R → RD w (some ⟨g, o + 36, none⟩) st) := fun w hw => by
      have := (HR.out w hw).midW 36 (n - k - 36)
      rwa [HST.out] at this
    have hok : (⟨st, q0, q1, hsh⟩ : Ed).Ok := hl32.out
    have HE := Lib.hid (Ed.segs_ok hok)
    have hc2 : ¬ c = 2 := by omega
    have HBF : Hid (∀ (oo : Oper) (a : Act) (L : List HP) (x y : Operand), oo.op = .build 32 #[(0, x), (1, y)] → a.eval x = .bool q0 → a.eval y = .bool q1 → RunsH Try.prog oo a L (.agg (flat [.o (.bool q0), .o (.bool q1)]).toArray)) := fun oo a L x y ho hx hy => by
      refine runs_build (zs := [.o (.bool false), .o (.bool false)]) (M := [.o (.bool q0), .o (.bool q1)]) ho Try.underlying32 #[(0, 1), (1, 1)] (fun w => by kernel_rfl) (by kernel_rfl) ?_
      simp only [List.map_cons, List.map_nil, hx, hy]
      refine fill_cons (off := 0) (n := 1) (M := [.o (.bool q0)]) rfl rfl ⟨rfl, trivial⟩ rfl ⟨rfl, rfl, trivial⟩ rfl (fun h1 => ?_)
      refine fill_cons (off := 1) (n := 1) (M := [.o (.bool q1)]) rfl rfl ⟨rfl, trivial⟩ rfl h1 rfl (fun h2 => ?_)
      rfl
    have HBE : Hid (∀ (oo : Oper) (a : Act) (L : List HP) (x y z : Operand), oo.op = .build 35 #[(0, x), (1, y), (2, z)] → a.eval x = .string (strOf st) → a.eval y = .agg (flat [.o (.bool q0), .o (.bool q1)]).toArray → a.eval z = .agg (bcs hsh).toArray → RunsH Try.prog oo a L (.agg (flat (Ed.segs ⟨st, q0, q1, hsh⟩)).toArray)) := fun oo a L x y z ho hx hy hz => by
      refine runs_build (zs := Ed.zero.segs) (M := Ed.segs ⟨st, q0, q1, hsh⟩) ho Try.underlying35 #[(0, 1), (1, 2), (3, 32)] (fun w => by kernel_rfl) (by kernel_rfl) ?_
      simp only [List.map_cons, List.map_nil, hx, hy, hz]
      refine fill_cons (off := 0) (n := 1) (M := [.o (.string (strOf st))]) rfl rfl ⟨rfl, trivial⟩ rfl HZ.out rfl (fun h1 => ?_)
      refine fill_cons (off := 1) (n := 2) (M := [.o (.bool q0), .o (.bool q1)]) rfl rfl ⟨rfl, rfl, trivial⟩ rfl h1 rfl (fun h2 => ?_)
      refine fill_cons (off := 3) (n := 32) (M := [.b 32 hsh]) rfl rfl ⟨hl32.out, trivial⟩ rfl h2 rfl (fun h3 => ?_)
      rfl
    have HSZ : Hid ((Try.prog.info? 33).map (·.size) = some (bcs hsh).length) := by unfold Hid; rw [length_bcs, hl32.out]; kernel_rfl
    rw [HD.out]
    clear hrw hok
    obtain ⟨p, hpn⟩ : ∃ p, n - k = p := ⟨_, rfl⟩
    have hp : (n : Int) - (k : Int) = (p : Int) := by omega
    have hp36 : 36 ≤ p := by omega
    have hpc : p ≤ c := by omega
    have hpI : (36 : Int) ≤ (p : Int) := by omega
    have d1 : decide ((p : Int) < 36) = false := decide_eq_false (by omega)
    have hlst2 : Hid (p - 36 = st.length) := by have := hlst.out; unfold Hid; omega
    have hn0 : 0 < n := by omega
    have hn1 : 1 < n := by omega
    have hnI0 : (0 : Int) < (n : Int) := by omega
    have hnI1 : (1 : Int) < (n : Int) := by omega
    have hcI : (34 : Int) ≤ (c : Int) := by omega
    have hpcI : (p : Int) ≤ (c : Int) := by omega
    clear hpn d0 hs hlst
    by_cases hc36 : c = 36
    · have hp0 : p = 36 := by omega
      subst hc36 hp0
      have hst : st = [] := List.eq_nil_of_length_eq_zero (by have := hlst2.out; omega)
      subst hst
      go_enter Try.func89, Try.ntmps89
      go_wp2_with (first
        | go_skip
        | (refine wpList_alloc HW.out rfl (ty := 35) rfl (z := Ed.zero.val) (by kernel_rfl) (M := Ed.zero.segs) rfl HZ.out (fun gq w' hw' => ?_)
           clear HW; have HW := Lib.hid hw'; clear hw'; (try simp only [hps_rules] at HW); (try simp only [put_rules])))
      refine wp_region_untilD 0 19 (by kernel_rfl) HW.out (fun w' hw' => ?_)
      clear HW; have HW := Lib.hid hw'; have HC := Lib.hid (hw'.drop 0 rfl); clear hw'
      simp only [era_rules] at HC ⊢
      simp only [rep_rules]
      first
      | (refine takeE 0 rfl rfl ((runs_cellE (ty := 5) rfl rfl H0.out (by kernel_rfl))) HC.out (by kernel_rfl) (fun _ _ _ h => h) ?_)
      | (refine takeE 0 rfl rfl ((runs_cellE (ty := 5) rfl rfl H1.out (by kernel_rfl))) HC.out (by kernel_rfl) (fun _ _ _ h => h) ?_)
      | (refine takeE 0 rfl rfl ((runs_rowE (ty := 33) rfl rfl H2.out Try.underlying33 rfl HSZ.out)) HC.out (by kernel_rfl) (fun _ _ _ h => h) ?_)
      | (refine takeE 0 rfl rfl ((runs_arrayAt rfl rfl Try.underlying33 (Nat.le_refl 32))) HC.out (by kernel_rfl) (fun _ _ _ h => h) ?_)
      | (refine takeE 0 rfl rfl ((HBF.out _ _ _ _ _ rfl rfl rfl)) HC.out (by kernel_rfl) (fun _ _ _ h => h) ?_)
      | (refine takeE 0 rfl rfl ((HBE.out _ _ _ _ _ _ rfl rfl rfl rfl)) HC.out (by kernel_rfl) (fun _ _ _ h => h) ?_)
      | (refine takeE 0 rfl rfl ((runs_b2s rfl rfl (xs := []) rfl (fun w _ => RD.nil w _))) HC.out (by kernel_rfl) (fun _ _ _ h => h) ?_)
      | (refine takeE 0 (v := ?_) rfl rfl (runs_of fun w => ?_) HC.out (by kernel_rfl) (fun _ _ _ h => h) ?_
         rotate_left
         · go_simp <;> (try with_reducible rfl))
      try simp only [put_rules]
      first
      | (refine takeE 1 rfl rfl ((runs_cellE (ty := 5) rfl rfl H0.out (by kernel_rfl))) HC.out (by kernel_rfl) (fun _ _ _ h => h) ?_)
      | (refine takeE 1 rfl rfl ((runs_cellE (ty := 5) rfl rfl H1.out (by kernel_rfl))) HC.out (by kernel_rfl) (fun _ _ _ h => h) ?_)
      | (refine takeE 1 rfl rfl ((runs_rowE (ty := 33) rfl rfl H2.out Try.underlying33 rfl HSZ.out)) HC.out (by kernel_rfl) (fun _ _ _ h => h) ?_)
      | (refine takeE 1 rfl rfl ((runs_arrayAt rfl rfl Try.underlying33 (Nat.le_refl 32))) HC.out (by kernel_rfl) (fun _ _ _ h => h) ?_)
      | (refine takeE 1 rfl rfl ((HBF.out _ _ _ _ _ rfl rfl rfl)) HC.out (by kernel_rfl) (fun _ _ _ h => h) ?_)
      | (refine takeE 1 rfl rfl ((HBE.out _ _ _ _ _ _ rfl rfl rfl rfl)) HC.out (by kernel_rfl) (fun _ _ _ h => h) ?_)
      | (refine takeE 1 rfl rfl ((runs_b2s rfl rfl (xs := []) rfl (fun w _ => RD.nil w _))) HC.out (by kernel_rfl) (fun _ _ _ h => h) ?_)
      | (refine takeE 1 (v := ?_) rfl rfl (runs_of fun w => ?_) HC.out (by kernel_rfl) (fun _ _ _ h => h) ?_
         rotate_left
         · go_simp <;> (try with_reducible rfl))
      try simp only [put_rules]
      first
      | (refine takeE 2 rfl rfl ((runs_cellE (ty := 5) rfl rfl H0.out (by kernel_rfl))) HC.out (by kernel_rfl) (fun _ _ _ h => h) ?_)
      | (refine takeE 2 rfl rfl ((runs_cellE (ty := 5) rfl rfl H1.out (by kernel_rfl))) HC.out (by kernel_rfl) (fun _ _ _ h => h) ?_)
      | (refine takeE 2 rfl rfl ((runs_rowE (ty := 33) rfl rfl H2.out Try.underlying33 rfl HSZ.out)) HC.out (by kernel_rfl) (fun _ _ _ h => h) ?_)
      | (refine takeE 2 rfl rfl ((runs_arrayAt rfl rfl Try.underlying33 (Nat.le_refl 32))) HC.out (by kernel_rfl) (fun _ _ _ h => h) ?_)
      | (refine takeE 2 rfl rfl ((HBF.out _ _ _ _ _ rfl rfl rfl)) HC.out (by kernel_rfl) (fun _ _ _ h => h) ?_)
      | (refine takeE 2 rfl rfl ((HBE.out _ _ _ _ _ _ rfl rfl rfl rfl)) HC.out (by kernel_rfl) (fun _ _ _ h => h) ?_)
      | (refine takeE 2 rfl rfl ((runs_b2s rfl rfl (xs := []) rfl (fun w _ => RD.nil w _))) HC.out (by kernel_rfl) (fun _ _ _ h => h) ?_)
      | (refine takeE 2 (v := ?_) rfl rfl (runs_of fun w => ?_) HC.out (by kernel_rfl) (fun _ _ _ h => h) ?_
         rotate_left
         · go_simp <;> (try with_reducible rfl))
      try simp only [put_rules]
      first
      | (refine takeE 3 rfl rfl ((runs_cellE (ty := 5) rfl rfl H0.out (by kernel_rfl))) HC.out (by kernel_rfl) (fun _ _ _ h => h) ?_)
      | (refine takeE 3 rfl rfl ((runs_cellE (ty := 5) rfl rfl H1.out (by kernel_rfl))) HC.out (by kernel_rfl) (fun _ _ _ h => h) ?_)
      | (refine takeE 3 rfl rfl ((runs_rowE (ty := 33) rfl rfl H2.out Try.underlying33 rfl HSZ.out)) HC.out (by kernel_rfl) (fun _ _ _ h => h) ?_)
      | (refine takeE 3 rfl rfl ((runs_arrayAt rfl rfl Try.underlying33 (Nat.le_refl 32))) HC.out (by kernel_rfl) (fun _ _ _ h => h) ?_)
      | (refine takeE 3 rfl rfl ((HBF.out _ _ _ _ _ rfl rfl rfl)) HC.out (by kernel_rfl) (fun _ _ _ h => h) ?_)
      | (refine takeE 3 rfl rfl ((HBE.out _ _ _ _ _ _ rfl rfl rfl rfl)) HC.out (by kernel_rfl) (fun _ _ _ h => h) ?_)
      | (refine takeE 3 rfl rfl ((runs_b2s rfl rfl (xs := []) rfl (fun w _ => RD.nil w _))) HC.out (by kernel_rfl) (fun _ _ _ h => h) ?_)
      | (refine takeE 3 (v := ?_) rfl rfl (runs_of fun w => ?_) HC.out (by kernel_rfl) (fun _ _ _ h => h) ?_
         rotate_left
         · go_simp <;> (try with_reducible rfl))
      try simp only [put_rules]
      first
      | (refine takeE 4 rfl rfl ((runs_cellE (ty := 5) rfl rfl H0.out (by kernel_rfl))) HC.out (by kernel_rfl) (fun _ _ _ h => h) ?_)
      | (refine takeE 4 rfl rfl ((runs_cellE (ty := 5) rfl rfl H1.out (by kernel_rfl))) HC.out (by kernel_rfl) (fun _ _ _ h => h) ?_)
      | (refine takeE 4 rfl rfl ((runs_rowE (ty := 33) rfl rfl H2.out Try.underlying33 rfl HSZ.out)) HC.out (by kernel_rfl) (fun _ _ _ h => h) ?_)
      | (refine takeE 4 rfl rfl ((runs_arrayAt rfl rfl Try.underlying33 (Nat.le_refl 32))) HC.out (by kernel_rfl) (fun _ _ _ h => h) ?_)
      | (refine takeE 4 rfl rfl ((HBF.out _ _ _ _ _ rfl rfl rfl)) HC.out (by kernel_rfl) (fun _ _ _ h => h) ?_)
      | (refine takeE 4 rfl rfl ((HBE.out _ _ _ _ _ _ rfl rfl rfl rfl)) HC.out (by kernel_rfl) (fun _ _ _ h => h) ?_)
      | (refine takeE 4 rfl rfl ((runs_b2s rfl rfl (xs := []) rfl (fun w _ => RD.nil w _))) HC.out (by kernel_rfl) (fun _ _ _ h => h) ?_)
      | (refine takeE 4 (v := ?_) rfl rfl (runs_of fun w => ?_) HC.out (by kernel_rfl) (fun _ _ _ h => h) ?_
         rotate_left
         · go_simp <;> (try with_reducible rfl))
      try simp only [put_rules]
      first
      | (refine takeE 5 rfl rfl ((runs_cellE (ty := 5) rfl rfl H0.out (by kernel_rfl))) HC.out (by kernel_rfl) (fun _ _ _ h => h) ?_)
      | (refine takeE 5 rfl rfl ((runs_cellE (ty := 5) rfl rfl H1.out (by kernel_rfl))) HC.out (by kernel_rfl) (fun _ _ _ h => h) ?_)
      | (refine takeE 5 rfl rfl ((runs_rowE (ty := 33) rfl rfl H2.out Try.underlying33 rfl HSZ.out)) HC.out (by kernel_rfl) (fun _ _ _ h => h) ?_)
      | (refine takeE 5 rfl rfl ((runs_arrayAt rfl rfl Try.underlying33 (Nat.le_refl 32))) HC.out (by kernel_rfl) (fun _ _ _ h => h) ?_)
      | (refine takeE 5 rfl rfl ((HBF.out _ _ _ _ _ rfl rfl rfl)) HC.out (by kernel_rfl) (fun _ _ _ h => h) ?_)
      | (refine takeE 5 rfl rfl ((HBE.out _ _ _ _ _ _ rfl rfl rfl rfl)) HC.out (by kernel_rfl) (fun _ _ _ h => h) ?_)
      | (refine takeE 5 rfl rfl ((runs_b2s rfl rfl (xs := []) rfl (fun w _ => RD.nil w _))) HC.out (by kernel_rfl) (fun _ _ _ h => h) ?_)
      | (refine takeE 5 (v := ?_) rfl rfl (runs_of fun w => ?_) HC.out (by kernel_rfl) (fun _ _ _ h => h) ?_
         rotate_left
         · go_simp <;> (try with_reducible rfl))
      try simp only [put_rules]
      first
      | (refine takeE 6 rfl rfl ((runs_cellE (ty := 5) rfl rfl H0.out (by kernel_rfl))) HC.out (by kernel_rfl) (fun _ _ _ h => h) ?_)
      | (refine takeE 6 rfl rfl ((runs_cellE (ty := 5) rfl rfl H1.out (by kernel_rfl))) HC.out (by kernel_rfl) (fun _ _ _ h => h) ?_)
      | (refine takeE 6 rfl rfl ((runs_rowE (ty := 33) rfl rfl H2.out Try.underlying33 rfl HSZ.out)) HC.out (by kernel_rfl) (fun _ _ _ h => h) ?_)
      | (refine takeE 6 rfl rfl ((runs_arrayAt rfl rfl Try.underlying33 (Nat.le_refl 32))) HC.out (by kernel_rfl) (fun _ _ _ h => h) ?_)
      | (refine takeE 6 rfl rfl ((HBF.out _ _ _ _ _ rfl rfl rfl)) HC.out (by kernel_rfl) (fun _ _ _ h => h) ?_)
      | (refine takeE 6 rfl rfl ((HBE.out _ _ _ _ _ _ rfl rfl rfl rfl)) HC.out (by kernel_rfl) (fun _ _ _ h => h) ?_)
      | (refine takeE 6 rfl rfl ((runs_b2s rfl rfl (xs := []) rfl (fun w _ => RD.nil w _))) HC.out (by kernel_rfl) (fun _ _ _ h => h) ?_)
      | (refine takeE 6 (v := ?_) rfl rfl (runs_of fun w => ?_) HC.out (by kernel_rfl) (fun _ _ _ h => h) ?_
         rotate_left
         · go_simp <;> (try with_reducible rfl))
      try simp only [put_rules]
      first
      | (refine takeE 7 rfl rfl ((runs_cellE (ty := 5) rfl rfl H0.out (by kernel_rfl))) HC.out (by kernel_rfl) (fun _ _ _ h => h) ?_)
      | (refine takeE 7 rfl rfl ((runs_cellE (ty := 5) rfl rfl H1.out (by kernel_rfl))) HC.out (by kernel_rfl) (fun _ _ _ h => h) ?_)
      | (refine takeE 7 rfl rfl ((runs_rowE (ty := 33) rfl rfl H2.out Try.underlying33 rfl HSZ.out)) HC.out (by kernel_rfl) (fun _ _ _ h => h) ?_)
      | (refine takeE 7 rfl rfl ((runs_arrayAt rfl rfl Try.underlying33 (Nat.le_refl 32))) HC.out (by kernel_rfl) (fun _ _ _ h => h) ?_)
      | (refine takeE 7 rfl rfl ((HBF.out _ _ _ _ _ rfl rfl rfl)) HC.out (by kernel_rfl) (fun _ _ _ h => h) ?_)
      | (refine takeE 7 rfl rfl ((HBE.out _ _ _ _ _ _ rfl rfl rfl rfl)) HC.out (by kernel_rfl) (fun _ _ _ h => h) ?_)
      | (refine takeE 7 rfl rfl ((runs_b2s rfl rfl (xs := []) rfl (fun w _ => RD.nil w _))) HC.out (by kernel_rfl) (fun _ _ _ h => h) ?_)
      | (refine takeE 7 (v := ?_) rfl rfl (runs_of fun w => ?_) HC.out (by kernel_rfl) (fun _ _ _ h => h) ?_
         rotate_left
         · go_simp <;> (try with_reducible rfl))
      try simp only [put_rules]
      first
      | (refine takeE 8 rfl rfl ((runs_cellE (ty := 5) rfl rfl H0.out (by kernel_rfl))) HC.out (by kernel_rfl) (fun _ _ _ h => h) ?_)
      | (refine takeE 8 rfl rfl ((runs_cellE (ty := 5) rfl rfl H1.out (by kernel_rfl))) HC.out (by kernel_rfl) (fun _ _ _ h => h) ?_)
      | (refine takeE 8 rfl rfl ((runs_rowE (ty := 33) rfl rfl H2.out Try.underlying33 rfl HSZ.out)) HC.out (by kernel_rfl) (fun _ _ _ h => h) ?_)
      | (refine takeE 8 rfl rfl ((runs_arrayAt rfl rfl Try.underlying33 (Nat.le_refl 32))) HC.out (by kernel_rfl) (fun _ _ _ h => h) ?_)
      | (refine takeE 8 rfl rfl ((HBF.out _ _ _ _ _ rfl rfl rfl)) HC.out (by kernel_rfl) (fun _ _ _ h => h) ?_)
      | (refine takeE 8 rfl rfl ((HBE.out _ _ _ _ _ _ rfl rfl rfl rfl)) HC.out (by kernel_rfl) (fun _ _ _ h => h) ?_)
      | (refine takeE 8 rfl rfl ((runs_b2s rfl rfl (xs := []) rfl (fun w _ => RD.nil w _))) HC.out (by kernel_rfl) (fun _ _ _ h => h) ?_)
      | (refine takeE 8 (v := ?_) rfl rfl (runs_of fun w => ?_) HC.out (by kernel_rfl) (fun _ _ _ h => h) ?_
         rotate_left
         · go_simp <;> (try with_reducible rfl))
      try simp only [put_rules]
      first
      | (refine takeE 9 rfl rfl ((runs_cellE (ty := 5) rfl rfl H0.out (by kernel_rfl))) HC.out (by kernel_rfl) (fun _ _ _ h => h) ?_)
      | (refine takeE 9 rfl rfl ((runs_cellE (ty := 5) rfl rfl H1.out (by kernel_rfl))) HC.out (by kernel_rfl) (fun _ _ _ h => h) ?_)
      | (refine takeE 9 rfl rfl ((runs_rowE (ty := 33) rfl rfl H2.out Try.underlying33 rfl HSZ.out)) HC.out (by kernel_rfl) (fun _ _ _ h => h) ?_)
      | (refine takeE 9 rfl rfl ((runs_arrayAt rfl rfl Try.underlying33 (Nat.le_refl 32))) HC.out (by kernel_rfl) (fun _ _ _ h => h) ?_)
      | (refine takeE 9 rfl rfl ((HBF.out _ _ _ _ _ rfl rfl rfl)) HC.out (by kernel_rfl) (fun _ _ _ h => h) ?_)
      | (refine takeE 9 rfl rfl ((HBE.out _ _ _ _ _ _ rfl rfl rfl rfl)) HC.out (by kernel_rfl) (fun _ _ _ h => h) ?_)
      | (refine takeE 9 rfl rfl ((runs_b2s rfl rfl (xs := []) rfl (fun w _ => RD.nil w _))) HC.out (by kernel_rfl) (fun _ _ _ h => h) ?_)
      | (refine takeE 9 (v := ?_) rfl rfl (runs_of fun w => ?_) HC.out (by kernel_rfl) (fun _ _ _ h => h) ?_
         rotate_left
         · go_simp <;> (try with_reducible rfl))
      try simp only [put_rules]
      first
      | (refine takeE 10 rfl rfl ((runs_cellE (ty := 5) rfl rfl H0.out (by kernel_rfl))) HC.out (by kernel_rfl) (fun _ _ _ h => h) ?_)
      | (refine takeE 10 rfl rfl ((runs_cellE (ty := 5) rfl rfl H1.out (by kernel_rfl))) HC.out (by kernel_rfl) (fun _ _ _ h => h) ?_)
      | (refine takeE 10 rfl rfl ((runs_rowE (ty := 33) rfl rfl H2.out Try.underlying33 rfl HSZ.out)) HC.out (by kernel_rfl) (fun _ _ _ h => h) ?_)
      | (refine takeE 10 rfl rfl ((runs_arrayAt rfl rfl Try.underlying33 (Nat.le_refl 32))) HC.out (by kernel_rfl) (fun _ _ _ h => h) ?_)
      | (refine takeE 10 rfl rfl ((HBF.out _ _ _ _ _ rfl rfl rfl)) HC.out (by kernel_rfl) (fun _ _ _ h => h) ?_)
      | (refine takeE 10 rfl rfl ((HBE.out _ _ _ _ _ _ rfl rfl rfl rfl)) HC.out (by kernel_rfl) (fun _ _ _ h => h) ?_)
      | (refine takeE 10 rfl rfl ((runs_b2s rfl rfl (xs := []) rfl (fun w _ => RD.nil w _))) HC.out (by kernel_rfl) (fun _ _ _ h => h) ?_)
      | (refine takeE 10 (v := ?_) rfl rfl (runs_of fun w => ?_) HC.out (by kernel_rfl) (fun _ _ _ h => h) ?_
         rotate_left
         · go_simp <;> (try with_reducible rfl))
      try simp only [put_rules]
      first
      | (refine takeE 11 rfl rfl ((runs_cellE (ty := 5) rfl rfl H0.out (by kernel_rfl))) HC.out (by kernel_rfl) (fun _ _ _ h => h) ?_)
      | (refine takeE 11 rfl rfl ((runs_cellE (ty := 5) rfl rfl H1.out (by kernel_rfl))) HC.out (by kernel_rfl) (fun _ _ _ h => h) ?_)
      | (refine takeE 11 rfl rfl ((runs_rowE (ty := 33) rfl rfl H2.out Try.underlying33 rfl HSZ.out)) HC.out (by kernel_rfl) (fun _ _ _ h => h) ?_)
      | (refine takeE 11 rfl rfl ((runs_arrayAt rfl rfl Try.underlying33 (Nat.le_refl 32))) HC.out (by kernel_rfl) (fun _ _ _ h => h) ?_)
      | (refine takeE 11 rfl rfl ((HBF.out _ _ _ _ _ rfl rfl rfl)) HC.out (by kernel_rfl) (fun _ _ _ h => h) ?_)
      | (refine takeE 11 rfl rfl ((HBE.out _ _ _ _ _ _ rfl rfl rfl rfl)) HC.out (by kernel_rfl) (fun _ _ _ h => h) ?_)
      | (refine takeE 11 rfl rfl ((runs_b2s rfl rfl (xs := []) rfl (fun w _ => RD.nil w _))) HC.out (by kernel_rfl) (fun _ _ _ h => h) ?_)
      | (refine takeE 11 (v := ?_) rfl rfl (runs_of fun w => ?_) HC.out (by kernel_rfl) (fun _ _ _ h => h) ?_
         rotate_left
         · go_simp <;> (try with_reducible rfl))
      try simp only [put_rules]
      first
      | (refine takeE 12 rfl rfl ((runs_cellE (ty := 5) rfl rfl H0.out (by kernel_rfl))) HC.out (by kernel_rfl) (fun _ _ _ h => h) ?_)
      | (refine takeE 12 rfl rfl ((runs_cellE (ty := 5) rfl rfl H1.out (by kernel_rfl))) HC.out (by kernel_rfl) (fun _ _ _ h => h) ?_)
      | (refine takeE 12 rfl rfl ((runs_rowE (ty := 33) rfl rfl H2.out Try.underlying33 rfl HSZ.out)) HC.out (by kernel_rfl) (fun _ _ _ h => h) ?_)
      | (refine takeE 12 rfl rfl ((runs_arrayAt rfl rfl Try.underlying33 (Nat.le_refl 32))) HC.out (by kernel_rfl) (fun _ _ _ h => h) ?_)
      | (refine takeE 12 rfl rfl ((HBF.out _ _ _ _ _ rfl rfl rfl)) HC.out (by kernel_rfl) (fun _ _ _ h => h) ?_)
      | (refine takeE 12 rfl rfl ((HBE.out _ _ _ _ _ _ rfl rfl rfl rfl)) HC.out (by kernel_rfl) (fun _ _ _ h => h) ?_)
      | (refine takeE 12 rfl rfl ((runs_b2s rfl rfl (xs := []) rfl (fun w _ => RD.nil w _))) HC.out (by kernel_rfl) (fun _ _ _ h => h) ?_)
      | (refine takeE 12 (v := ?_) rfl rfl (runs_of fun w => ?_) HC.out (by kernel_rfl) (fun _ _ _ h => h) ?_
         rotate_left
         · go_simp <;> (try with_reducible rfl))
      try simp only [put_rules]
      first
      | (refine takeE 13 rfl rfl ((runs_cellE (ty := 5) rfl rfl H0.out (by kernel_rfl))) HC.out (by kernel_rfl) (fun _ _ _ h => h) ?_)
      | (refine takeE 13 rfl rfl ((runs_cellE (ty := 5) rfl rfl H1.out (by kernel_rfl))) HC.out (by kernel_rfl) (fun _ _ _ h => h) ?_)
      | (refine takeE 13 rfl rfl ((runs_rowE (ty := 33) rfl rfl H2.out Try.underlying33 rfl HSZ.out)) HC.out (by kernel_rfl) (fun _ _ _ h => h) ?_)
      | (refine takeE 13 rfl rfl ((runs_arrayAt rfl rfl Try.underlying33 (Nat.le_refl 32))) HC.out (by kernel_rfl) (fun _ _ _ h => h) ?_)
      | (refine takeE 13 rfl rfl ((HBF.out _ _ _ _ _ rfl rfl rfl)) HC.out (by kernel_rfl) (fun _ _ _ h => h) ?_)
      | (refine takeE 13 rfl rfl ((HBE.out _ _ _ _ _ _ rfl rfl rfl rfl)) HC.out (by kernel_rfl) (fun _ _ _ h => h) ?_)
      | (refine takeE 13 rfl rfl ((runs_b2s rfl rfl (xs := []) rfl (fun w _ => RD.nil w _))) HC.out (by kernel_rfl) (fun _ _ _ h => h) ?_)
      | (refine takeE 13 (v := ?_) rfl rfl (runs_of fun w => ?_) HC.out (by kernel_rfl) (fun _ _ _ h => h) ?_
         rotate_left
         · go_simp <;> (try with_reducible rfl))
      try simp only [put_rules]
      first
      | (refine takeE 14 rfl rfl ((runs_cellE (ty := 5) rfl rfl H0.out (by kernel_rfl))) HC.out (by kernel_rfl) (fun _ _ _ h => h) ?_)
      | (refine takeE 14 rfl rfl ((runs_cellE (ty := 5) rfl rfl H1.out (by kernel_rfl))) HC.out (by kernel_rfl) (fun _ _ _ h => h) ?_)
      | (refine takeE 14 rfl rfl ((runs_rowE (ty := 33) rfl rfl H2.out Try.underlying33 rfl HSZ.out)) HC.out (by kernel_rfl) (fun _ _ _ h => h) ?_)
      | (refine takeE 14 rfl rfl ((runs_arrayAt rfl rfl Try.underlying33 (Nat.le_refl 32))) HC.out (by kernel_rfl) (fun _ _ _ h => h) ?_)
      | (refine takeE 14 rfl rfl ((HBF.out _ _ _ _ _ rfl rfl rfl)) HC.out (by kernel_rfl) (fun _ _ _ h => h) ?_)
      | (refine takeE 14 rfl rfl ((HBE.out _ _ _ _ _ _ rfl rfl rfl rfl)) HC.out (by kernel_rfl) (fun _ _ _ h => h) ?_)
      | (refine takeE 14 rfl rfl ((runs_b2s rfl rfl (xs := []) rfl (fun w _ => RD.nil w _))) HC.out (by kernel_rfl) (fun _ _ _ h => h) ?_)
      | (refine takeE 14 (v := ?_) rfl rfl (runs_of fun w => ?_) HC.out (by kernel_rfl) (fun _ _ _ h => h) ?_
         rotate_left
         · go_simp <;> (try with_reducible rfl))
      try simp only [put_rules]
      first
      | (refine takeE 15 rfl rfl ((runs_cellE (ty := 5) rfl rfl H0.out (by kernel_rfl))) HC.out (by kernel_rfl) (fun _ _ _ h => h) ?_)
      | (refine takeE 15 rfl rfl ((runs_cellE (ty := 5) rfl rfl H1.out (by kernel_rfl))) HC.out (by kernel_rfl) (fun _ _ _ h => h) ?_)
      | (refine takeE 15 rfl rfl ((runs_rowE (ty := 33) rfl rfl H2.out Try.underlying33 rfl HSZ.out)) HC.out (by kernel_rfl) (fun _ _ _ h => h) ?_)
      | (refine takeE 15 rfl rfl ((runs_arrayAt rfl rfl Try.underlying33 (Nat.le_refl 32))) HC.out (by kernel_rfl) (fun _ _ _ h => h) ?_)
      | (refine takeE 15 rfl rfl ((HBF.out _ _ _ _ _ rfl rfl rfl)) HC.out (by kernel_rfl) (fun _ _ _ h => h) ?_)
      | (refine takeE 15 rfl rfl ((HBE.out _ _ _ _ _ _ rfl rfl rfl rfl)) HC.out (by kernel_rfl) (fun _ _ _ h => h) ?_)
      | (refine takeE 15 rfl rfl ((runs_b2s rfl rfl (xs := []) rfl (fun w _ => RD.nil w _))) HC.out (by kernel_rfl) (fun _ _ _ h => h) ?_)
      | (refine takeE 15 (v := ?_) rfl rfl (runs_of fun w => ?_) HC.out (by kernel_rfl) (fun _ _ _ h => h) ?_
         rotate_left
         · go_simp <;> (try with_reducible rfl))
      try simp only [put_rules]
      first
      | (refine takeE 16 rfl rfl ((runs_cellE (ty := 5) rfl rfl H0.out (by kernel_rfl))) HC.out (by kernel_rfl) (fun _ _ _ h => h) ?_)
      | (refine takeE 16 rfl rfl ((runs_cellE (ty := 5) rfl rfl H1.out (by kernel_rfl))) HC.out (by kernel_rfl) (fun _ _ _ h => h) ?_)
      | (refine takeE 16 rfl rfl ((runs_rowE (ty := 33) rfl rfl H2.out Try.underlying33 rfl HSZ.out)) HC.out (by kernel_rfl) (fun _ _ _ h => h) ?_)
      | (refine takeE 16 rfl rfl ((runs_arrayAt rfl rfl Try.underlying33 (Nat.le_refl 32))) HC.out (by kernel_rfl) (fun _ _ _ h => h) ?_)
      | (refine takeE 16 rfl rfl ((HBF.out _ _ _ _ _ rfl rfl rfl)) HC.out (by kernel_rfl) (fun _ _ _ h => h) ?_)
      | (refine takeE 16 rfl rfl ((HBE.out _ _ _ _ _ _ rfl rfl rfl rfl)) HC.out (by kernel_rfl) (fun _ _ _ h => h) ?_)
      | (refine takeE 16 rfl rfl ((runs_b2s rfl rfl (xs := []) rfl (fun w _ => RD.nil w _))) HC.out (by kernel_rfl) (fun _ _ _ h => h) ?_)
      | (refine takeE 16 (v := ?_) rfl rfl (runs_of fun w => ?_) HC.out (by kernel_rfl) (fun _ _ _ h => h) ?_
         rotate_left
         · go_simp <;> (try with_reducible rfl))
      try simp only [put_rules]
      first
      | (refine takeE 17 rfl rfl ((runs_cellE (ty := 5) rfl rfl H0.out (by kernel_rfl))) HC.out (by kernel_rfl) (fun _ _ _ h => h) ?_)
      | (refine takeE 17 rfl rfl ((runs_cellE (ty := 5) rfl rfl H1.out (by kernel_rfl))) HC.out (by kernel_rfl) (fun _ _ _ h => h) ?_)
      | (refine takeE 17 rfl rfl ((runs_rowE (ty := 33) rfl rfl H2.out Try.underlying33 rfl HSZ.out)) HC.out (by kernel_rfl) (fun _ _ _ h => h) ?_)
      | (refine takeE 17 rfl rfl ((runs_arrayAt rfl rfl Try.underlying33 (Nat.le_refl 32))) HC.out (by kernel_rfl) (fun _ _ _ h => h) ?_)
      | (refine takeE 17 rfl rfl ((HBF.out _ _ _ _ _ rfl rfl rfl)) HC.out (by kernel_rfl) (fun _ _ _ h => h) ?_)
      | (refine takeE 17 rfl rfl ((HBE.out _ _ _ _ _ _ rfl rfl rfl rfl)) HC.out (by kernel_rfl) (fun _ _ _ h => h) ?_)
      | (refine takeE 17 rfl rfl ((runs_b2s rfl rfl (xs := []) rfl (fun w _ => RD.nil w _))) HC.out (by kernel_rfl) (fun _ _ _ h => h) ?_)
      | (refine takeE 17 (v := ?_) rfl rfl (runs_of fun w => ?_) HC.out (by kernel_rfl) (fun _ _ _ h => h) ?_
         rotate_left
         · go_simp <;> (try with_reducible rfl))
      try simp only [put_rules]
      refine effE 18 rfl (by kernel_rfl) ?_
      refine wpList_stR HW.out rfl (ty := 35) (n := 35) rfl rfl 0 rfl (M := Ed.segs ⟨[], q0, q1, hsh⟩) rfl rfl HE.out rfl (by kernel_rfl) (fun w' hw' => ?_)
      clear HW; have HW := Lib.hid hw'; clear hw'; (try simp only [hps_rules] at HW); (try simp only [put_rules])
      refine wpList_behind (And.intro (fun _ => (by exact HW.out.tail)) ?_)
      refine effE 19 rfl (by kernel_rfl) ?_
      refine wpList_runs HW.out rfl (v := ?_) (runs_of fun w => ?_) ?_
      rotate_left
      · go_simp <;> (try with_reducible rfl)
      try simp only [put_rules]
      refine wpList_behind (And.intro (fun h => Bool.noConfusion (show true = false from h)) ?_)
      refine doneE (by kernel_rfl) ?_ _
      go_wp2
      refine bodyPost_ret (results_cellS rfl HW.out 0 rfl rfl Try.underlying35 rfl (by kernel_rfl)) rfl ?_
      exact ⟨rfl, HW.out.tail⟩
    · go_enter Try.func89, Try.ntmps89
      go_wp2_with (first
        | go_skip
        | (refine wpList_alloc HW.out rfl (ty := 35) rfl (z := Ed.zero.val) (by kernel_rfl) (M := Ed.zero.segs) rfl HZ.out (fun gq w' hw' => ?_)
           clear HW; have HW := Lib.hid hw'; clear hw'; (try simp only [hps_rules] at HW); (try simp only [put_rules])))
      refine wp_region_untilD 0 19 (by kernel_rfl) HW.out (fun w' hw' => ?_)
      clear HW; have HW := Lib.hid hw'; have HC := Lib.hid (hw'.drop 0 rfl); clear hw'
      simp only [era_rules] at HC ⊢
      simp only [rep_rules]
      first
      | (refine takeE 0 rfl rfl ((runs_cellE (ty := 5) rfl rfl H0.out (by kernel_rfl))) HC.out (by kernel_rfl) (fun _ _ _ h => h) ?_)
      | (refine takeE 0 rfl rfl ((runs_cellE (ty := 5) rfl rfl H1.out (by kernel_rfl))) HC.out (by kernel_rfl) (fun _ _ _ h => h) ?_)
      | (refine takeE 0 rfl rfl ((runs_rowE (ty := 33) rfl rfl H2.out Try.underlying33 rfl HSZ.out)) HC.out (by kernel_rfl) (fun _ _ _ h => h) ?_)
      | (refine takeE 0 rfl rfl ((runs_arrayAt rfl rfl Try.underlying33 (Nat.le_refl 32))) HC.out (by kernel_rfl) (fun _ _ _ h => h) ?_)
      | (refine takeE 0 rfl rfl ((HBF.out _ _ _ _ _ rfl rfl rfl)) HC.out (by kernel_rfl) (fun _ _ _ h => h) ?_)
      | (refine takeE 0 rfl rfl ((HBE.out _ _ _ _ _ _ rfl rfl rfl rfl)) HC.out (by kernel_rfl) (fun _ _ _ h => h) ?_)
      | (refine takeE 0 rfl rfl ((runs_b2s rfl rfl (xs := st) hlst2 H3.out)) HC.out (by kernel_rfl) (fun _ _ _ h => h) ?_)
      | (refine takeE 0 (v := ?_) rfl rfl (runs_of fun w => ?_) HC.out (by kernel_rfl) (fun _ _ _ h => h) ?_
         rotate_left
         · go_simp <;> (try with_reducible rfl))
      try simp only [put_rules]
      first
      | (refine takeE 1 rfl rfl ((runs_cellE (ty := 5) rfl rfl H0.out (by kernel_rfl))) HC.out (by kernel_rfl) (fun _ _ _ h => h) ?_)
      | (refine takeE 1 rfl rfl ((runs_cellE (ty := 5) rfl rfl H1.out (by kernel_rfl))) HC.out (by kernel_rfl) (fun _ _ _ h => h) ?_)
      | (refine takeE 1 rfl rfl ((runs_rowE (ty := 33) rfl rfl H2.out Try.underlying33 rfl HSZ.out)) HC.out (by kernel_rfl) (fun _ _ _ h => h) ?_)
      | (refine takeE 1 rfl rfl ((runs_arrayAt rfl rfl Try.underlying33 (Nat.le_refl 32))) HC.out (by kernel_rfl) (fun _ _ _ h => h) ?_)
      | (refine takeE 1 rfl rfl ((HBF.out _ _ _ _ _ rfl rfl rfl)) HC.out (by kernel_rfl) (fun _ _ _ h => h) ?_)
      | (refine takeE 1 rfl rfl ((HBE.out _ _ _ _ _ _ rfl rfl rfl rfl)) HC.out (by kernel_rfl) (fun _ _ _ h => h) ?_)
      | (refine takeE 1 rfl rfl ((runs_b2s rfl rfl (xs := st) hlst2 H3.out)) HC.out (by kernel_rfl) (fun _ _ _ h => h) ?_)
      | (refine takeE 1 (v := ?_) rfl rfl (runs_of fun w => ?_) HC.out (by kernel_rfl) (fun _ _ _ h => h) ?_
         rotate_left
         · go_simp <;> (try with_reducible rfl))
      try simp only [put_rules]
      first
      | (refine takeE 2 rfl rfl ((runs_cellE (ty := 5) rfl rfl H0.out (by kernel_rfl))) HC.out (by kernel_rfl) (fun _ _ _ h => h) ?_)
      | (refine takeE 2 rfl rfl ((runs_cellE (ty := 5) rfl rfl H1.out (by kernel_rfl))) HC.out (by kernel_rfl) (fun _ _ _ h => h) ?_)
      | (refine takeE 2 rfl rfl ((runs_rowE (ty := 33) rfl rfl H2.out Try.underlying33 rfl HSZ.out)) HC.out (by kernel_rfl) (fun _ _ _ h => h) ?_)
      | (refine takeE 2 rfl rfl ((runs_arrayAt rfl rfl Try.underlying33 (Nat.le_refl 32))) HC.out (by kernel_rfl) (fun _ _ _ h => h) ?_)
      | (refine takeE 2 rfl rfl ((HBF.out _ _ _ _ _ rfl rfl rfl)) HC.out (by kernel_rfl) (fun _ _ _ h => h) ?_)
      | (refine takeE 2 rfl rfl ((HBE.out _ _ _ _ _ _ rfl rfl rfl rfl)) HC.out (by kernel_rfl) (fun _ _ _ h => h) ?_)
      | (refine takeE 2 rfl rfl ((runs_b2s rfl rfl (xs := st) hlst2 H3.out)) HC.out (by kernel_rfl) (fun _ _ _ h => h) ?_)
      | (refine takeE 2 (v := ?_) rfl rfl (runs_of fun w => ?_) HC.out (by kernel_rfl) (fun _ _ _ h => h) ?_
         rotate_left
         · go_simp <;> (try with_reducible rfl))
      try simp only [put_rules]
      first
      | (refine takeE 3 rfl rfl ((runs_cellE (ty := 5) rfl rfl H0.out (by kernel_rfl))) HC.out (by kernel_rfl) (fun _ _ _ h => h) ?_)
      | (refine takeE 3 rfl rfl ((runs_cellE (ty := 5) rfl rfl H1.out (by kernel_rfl))) HC.out (by kernel_rfl) (fun _ _ _ h => h) ?_)
      | (refine takeE 3 rfl rfl ((runs_rowE (ty := 33) rfl rfl H2.out Try.underlying33 rfl HSZ.out)) HC.out (by kernel_rfl) (fun _ _ _ h => h) ?_)
      | (refine takeE 3 rfl rfl ((runs_arrayAt rfl rfl Try.underlying33 (Nat.le_refl 32))) HC.out (by kernel_rfl) (fun _ _ _ h => h) ?_)
      | (refine takeE 3 rfl rfl ((HBF.out _ _ _ _ _ rfl rfl rfl)) HC.out (by kernel_rfl) (fun _ _ _ h => h) ?_)
      | (refine takeE 3 rfl rfl ((HBE.out _ _ _ _ _ _ rfl rfl rfl rfl)) HC.out (by kernel_rfl) (fun _ _ _ h => h) ?_)
      | (refine takeE 3 rfl rfl ((runs_b2s rfl rfl (xs := st) hlst2 H3.out)) HC.out (by kernel_rfl) (fun _ _ _ h => h) ?_)
      | (refine takeE 3 (v := ?_) rfl rfl (runs_of fun w => ?_) HC.out (by kernel_rfl) (fun _ _ _ h => h) ?_
         rotate_left
         · go_simp <;> (try with_reducible rfl))
      try simp only [put_rules]
      first
      | (refine takeE 4 rfl rfl ((runs_cellE (ty := 5) rfl rfl H0.out (by kernel_rfl))) HC.out (by kernel_rfl) (fun _ _ _ h => h) ?_)
      | (refine takeE 4 rfl rfl ((runs_cellE (ty := 5) rfl rfl H1.out (by kernel_rfl))) HC.out (by kernel_rfl) (fun _ _ _ h => h) ?_)
      | (refine takeE 4 rfl rfl ((runs_rowE (ty := 33) rfl rfl H2.out Try.underlying33 rfl HSZ.out)) HC.out (by kernel_rfl) (fun _ _ _ h => h) ?_)
      | (refine takeE 4 rfl rfl ((runs_arrayAt rfl rfl Try.underlying33 (Nat.le_refl 32))) HC.out (by kernel_rfl) (fun _ _ _ h => h) ?_)
      | (refine takeE 4 rfl rfl ((HBF.out _ _ _ _ _ rfl rfl rfl)) HC.out (by kernel_rfl) (fun _ _ _ h => h) ?_)
      | (refine takeE 4 rfl rfl ((HBE.out _ _ _ _ _ _ rfl rfl rfl rfl)) HC.out (by kernel_rfl) (fun _ _ _ h => h) ?_)
      | (refine takeE 4 rfl rfl ((runs_b2s rfl rfl (xs := st) hlst2 H3.out)) HC.out (by kernel_rfl) (fun _ _ _ h => h) ?_)
      | (refine takeE 4 (v := ?_) rfl rfl (runs_of fun w => ?_) HC.out (by kernel_rfl) (fun _ _ _ h => h) ?_
         rotate_left
         · go_simp <;> (try with_reducible rfl))
      try simp only [put_rules]
      first
      | (refine takeE 5 rfl rfl ((runs_cellE (ty := 5) rfl rfl H0.out (by kernel_rfl))) HC.out (by kernel_rfl) (fun _ _ _ h => h) ?_)
      | (refine takeE 5 rfl rfl ((runs_cellE (ty := 5) rfl rfl H1.out (by kernel_rfl))) HC.out (by kernel_rfl) (fun _ _ _ h => h) ?_)
      | (refine takeE 5 rfl rfl ((runs_rowE (ty := 33) rfl rfl H2.out Try.underlying33 rfl HSZ.out)) HC.out (by kernel_rfl) (fun _ _ _ h => h) ?_)
      | (refine takeE 5 rfl rfl ((runs_arrayAt rfl rfl Try.underlying33 (Nat.le_refl 32))) HC.out (by kernel_rfl) (fun _ _ _ h => h) ?_)
      | (refine takeE 5 rfl rfl ((HBF.out _ _ _ _ _ rfl rfl rfl)) HC.out (by kernel_rfl) (fun _ _ _ h => h) ?_)
      | (refine takeE 5 rfl rfl ((HBE.out _ _ _ _ _ _ rfl rfl rfl rfl)) HC.out (by kernel_rfl) (fun _ _ _ h => h) ?_)
      | (refine takeE 5 rfl rfl ((runs_b2s rfl rfl (xs := st) hlst2 H3.out)) HC.out (by kernel_rfl) (fun _ _ _ h => h) ?_)
      | (refine takeE 5 (v := ?_) rfl rfl (runs_of fun w => ?_) HC.out (by kernel_rfl) (fun _ _ _ h => h) ?_
         rotate_left
         · go_simp <;> (try with_reducible rfl))
      try simp only [put_rules]
      first
      | (refine takeE 6 rfl rfl ((runs_cellE (ty := 5) rfl rfl H0.out (by kernel_rfl))) HC.out (by kernel_rfl) (fun _ _ _ h => h) ?_)
      | (refine takeE 6 rfl rfl ((runs_cellE (ty := 5) rfl rfl H1.out (by kernel_rfl))) HC.out (by kernel_rfl) (fun _ _ _ h => h) ?_)
      | (refine takeE 6 rfl rfl ((runs_rowE (ty := 33) rfl rfl H2.out Try.underlying33 rfl HSZ.out)) HC.out (by kernel_rfl) (fun _ _ _ h => h) ?_)
      | (refine takeE 6 rfl rfl ((runs_arrayAt rfl rfl Try.underlying33 (Nat.le_refl 32))) HC.out (by kernel_rfl) (fun _ _ _ h => h) ?_)
      | (refine takeE 6 rfl rfl ((HBF.out _ _ _ _ _ rfl rfl rfl)) HC.out (by kernel_rfl) (fun _ _ _ h => h) ?_)
      | (refine takeE 6 rfl rfl ((HBE.out _ _ _ _ _ _ rfl rfl rfl rfl)) HC.out (by kernel_rfl) (fun _ _ _ h => h) ?_)
      | (refine takeE 6 rfl rfl ((runs_b2s rfl rfl (xs := st) hlst2 H3.out)) HC.out (by kernel_rfl) (fun _ _ _ h => h) ?_)
      | (refine takeE 6 (v := ?_) rfl rfl (runs_of fun w => ?_) HC.out (by kernel_rfl) (fun _ _ _ h => h) ?_
         rotate_left
         · go_simp <;> (try with_reducible rfl))
      try simp only [put_rules]
      first
      | (refine takeE 7 rfl rfl ((runs_cellE (ty := 5) rfl rfl H0.out (by kernel_rfl))) HC.out (by kernel_rfl) (fun _ _ _ h => h) ?_)
      | (refine takeE 7 rfl rfl ((runs_cellE (ty := 5) rfl rfl H1.out (by kernel_rfl))) HC.out (by kernel_rfl) (fun _ _ _ h => h) ?_)
      | (refine takeE 7 rfl rfl ((runs_rowE (ty := 33) rfl rfl H2.out Try.underlying33 rfl HSZ.out)) HC.out (by kernel_rfl) (fun _ _ _ h => h) ?_)
      | (refine takeE 7 rfl rfl ((runs_arrayAt rfl rfl Try.underlying33 (Nat.le_refl 32))) HC.out (by kernel_rfl) (fun _ _ _ h => h) ?_)
      | (refine takeE 7 rfl rfl ((HBF.out _ _ _ _ _ rfl rfl rfl)) HC.out (by kernel_rfl) (fun _ _ _ h => h) ?_)
      | (refine takeE 7 rfl rfl ((HBE.out _ _ _ _ _ _ rfl rfl rfl rfl)) HC.out (by kernel_rfl) (fun _ _ _ h => h) ?_)
      | (refine takeE 7 rfl rfl ((runs_b2s rfl rfl (xs := st) hlst2 H3.out)) HC.out (by kernel_rfl) (fun _ _ _ h => h) ?_)
      | (refine takeE 7 (v := ?_) rfl rfl (runs_of fun w => ?_) HC.out (by kernel_rfl) (fun _ _ _ h => h) ?_
         rotate_left
         · go_simp <;> (try with_reducible rfl))
      try simp only [put_rules]
      first
      | (refine takeE 8 rfl rfl ((runs_cellE (ty := 5) rfl rfl H0.out (by kernel_rfl))) HC.out (by kernel_rfl) (fun _ _ _ h => h) ?_)
      | (refine takeE 8 rfl rfl ((runs_cellE (ty := 5) rfl rfl H1.out (by kernel_rfl))) HC.out (by kernel_rfl) (fun _ _ _ h => h) ?_)
      | (refine takeE 8 rfl rfl ((runs_rowE (ty := 33) rfl rfl H2.out Try.underlying33 rfl HSZ.out)) HC.out (by kernel_rfl) (fun _ _ _ h => h) ?_)
      | (refine takeE 8 rfl rfl ((runs_arrayAt rfl rfl Try.underlying33 (Nat.le_refl 32))) HC.out (by kernel_rfl) (fun _ _ _ h => h) ?_)
      | (refine takeE 8 rfl rfl ((HBF.out _ _ _ _ _ rfl rfl rfl)) HC.out (by kernel_rfl) (fun _ _ _ h => h) ?_)
      | (refine takeE 8 rfl rfl ((HBE.out _ _ _ _ _ _ rfl rfl rfl rfl)) HC.out (by kernel_rfl) (fun _ _ _ h => h) ?_)
      | (refine takeE 8 rfl rfl ((runs_b2s rfl rfl (xs := st) hlst2 H3.out)) HC.out (by kernel_rfl) (fun _ _ _ h => h) ?_)
      | (refine takeE 8 (v := ?_) rfl rfl (runs_of fun w => ?_) HC.out (by kernel_rfl) (fun _ _ _ h => h) ?_
         rotate_left
         · go_simp <;> (try with_reducible rfl))
      try simp only [put_rules]
      first
      | (refine takeE 9 rfl rfl ((runs_cellE (ty := 5) rfl rfl H0.out (by kernel_rfl))) HC.out (by kernel_rfl) (fun _ _ _ h => h) ?_)
      | (refine takeE 9 rfl rfl ((runs_cellE (ty := 5) rfl rfl H1.out (by kernel_rfl))) HC.out (by kernel_rfl) (fun _ _ _ h => h) ?_)
      | (refine takeE 9 rfl rfl ((runs_rowE (ty := 33) rfl rfl H2.out Try.underlying33 rfl HSZ.out)) HC.out (by kernel_rfl) (fun _ _ _ h => h) ?_)
      | (refine takeE 9 rfl rfl ((runs_arrayAt rfl rfl Try.underlying33 (Nat.le_refl 32))) HC.out (by kernel_rfl) (fun _ _ _ h => h) ?_)
      | (refine takeE 9 rfl rfl ((HBF.out _ _ _ _ _ rfl rfl rfl)) HC.out (by kernel_rfl) (fun _ _ _ h => h) ?_)
      | (refine takeE 9 rfl rfl ((HBE.out _ _ _ _ _ _ rfl rfl rfl rfl)) HC.out (by kernel_rfl) (fun _ _ _ h => h) ?_)
      | (refine takeE 9 rfl rfl ((runs_b2s rfl rfl (xs := st) hlst2 H3.out)) HC.out (by kernel_rfl) (fun _ _ _ h => h) ?_)
      | (refine takeE 9 (v := ?_) rfl rfl (runs_of fun w => ?_) HC.out (by kernel_rfl) (fun _ _ _ h => h) ?_
         rotate_left
         · go_simp <;> (try with_reducible rfl))
      try simp only [put_rules]
      first
      | (refine takeE 10 rfl rfl ((runs_cellE (ty := 5) rfl rfl H0.out (by kernel_rfl))) HC.out (by kernel_rfl) (fun _ _ _ h => h) ?_)
      | (refine takeE 10 rfl rfl ((runs_cellE (ty := 5) rfl rfl H1.out (by kernel_rfl))) HC.out (by kernel_rfl) (fun _ _ _ h => h) ?_)
      | (refine takeE 10 rfl rfl ((runs_rowE (ty := 33) rfl rfl H2.out Try.underlying33 rfl HSZ.out)) HC.out (by kernel_rfl) (fun _ _ _ h => h) ?_)
      | (refine takeE 10 rfl rfl ((runs_arrayAt rfl rfl Try.underlying33 (Nat.le_refl 32))) HC.out (by kernel_rfl) (fun _ _ _ h => h) ?_)
      | (refine takeE 10 rfl rfl ((HBF.out _ _ _ _ _ rfl rfl rfl)) HC.out (by kernel_rfl) (fun _ _ _ h => h) ?_)
      | (refine takeE 10 rfl rfl ((HBE.out _ _ _ _ _ _ rfl rfl rfl rfl)) HC.out (by kernel_rfl) (fun _ _ _ h => h) ?_)
      | (refine takeE 10 rfl rfl ((runs_b2s rfl rfl (xs := st) hlst2 H3.out)) HC.out (by kernel_rfl) (fun _ _ _ h => h) ?_)
      | (refine takeE 10 (v := ?_) rfl rfl (runs_of fun w => ?_) HC.out (by kernel_rfl) (fun _ _ _ h => h) ?_
         rotate_left
         · go_simp <;> (try with_reducible rfl))
      try simp only [put_rules]
      first
      | (refine takeE 11 rfl rfl ((runs_cellE (ty := 5) rfl rfl H0.out (by kernel_rfl))) HC.out (by kernel_rfl) (fun _ _ _ h => h) ?_)
      | (refine takeE 11 rfl rfl ((runs_cellE (ty := 5) rfl rfl H1.out (by kernel_rfl))) HC.out (by kernel_rfl) (fun _ _ _ h => h) ?_)
      | (refine takeE 11 rfl rfl ((runs_rowE (ty := 33) rfl rfl H2.out Try.underlying33 rfl HSZ.out)) HC.out (by kernel_rfl) (fun _ _ _ h => h) ?_)
      | (refine takeE 11 rfl rfl ((runs_arrayAt rfl rfl Try.underlying33 (Nat.le_refl 32))) HC.out (by kernel_rfl) (fun _ _ _ h => h) ?_)
      | (refine takeE 11 rfl rfl ((HBF.out _ _ _ _ _ rfl rfl rfl)) HC.out (by kernel_rfl) (fun _ _ _ h => h) ?_)
      | (refine takeE 11 rfl rfl ((HBE.out _ _ _ _ _ _ rfl rfl rfl rfl)) HC.out (by kernel_rfl) (fun _ _ _ h => h) ?_)
      | (refine takeE 11 rfl rfl ((runs_b2s rfl rfl (xs := st) hlst2 H3.out)) HC.out (by kernel_rfl) (fun _ _ _ h => h) ?_)
      | (refine takeE 11 (v := ?_) rfl rfl (runs_of fun w => ?_) HC.out (by kernel_rfl) (fun _ _ _ h => h) ?_
         rotate_left
         · go_simp <;> (try with_reducible rfl))
      try simp only [put_rules]
      first
      | (refine takeE 12 rfl rfl ((runs_cellE (ty := 5) rfl rfl H0.out (by kernel_rfl))) HC.out (by kernel_rfl) (fun _ _ _ h => h) ?_)
      | (refine takeE 12 rfl rfl ((runs_cellE (ty := 5) rfl rfl H1.out (by kernel_rfl))) HC.out (by kernel_rfl) (fun _ _ _ h => h) ?_)
      | (refine takeE 12 rfl rfl ((runs_rowE (ty := 33) rfl rfl H2.out Try.underlying33 rfl HSZ.out)) HC.out (by kernel_rfl) (fun _ _ _ h => h) ?_)
      | (refine takeE 12 rfl rfl ((runs_arrayAt rfl rfl Try.underlying33 (Nat.le_refl 32))) HC.out (by kernel_rfl) (fun _ _ _ h => h) ?_)
      | (refine takeE 12 rfl rfl ((HBF.out _ _ _ _ _ rfl rfl rfl)) HC.out (by kernel_rfl) (fun _ _ _ h => h) ?_)
      | (refine takeE 12 rfl rfl ((HBE.out _ _ _ _ _ _ rfl rfl rfl rfl)) HC.out (by kernel_rfl) (fun _ _ _ h => h) ?_)
      | (refine takeE 12 rfl rfl ((runs_b2s rfl rfl (xs := st) hlst2 H3.out)) HC.out (by kernel_rfl) (fun _ _ _ h => h) ?_)
      | (refine takeE 12 (v := ?_) rfl rfl (runs_of fun w => ?_) HC.out (by kernel_rfl) (fun _ _ _ h => h) ?_
         rotate_left
         · go_simp <;> (try with_reducible rfl))
      try simp only [put_rules]
      first
      | (refine takeE 13 rfl rfl ((runs_cellE (ty := 5) rfl rfl H0.out (by kernel_rfl))) HC.out (by kernel_rfl) (fun _ _ _ h => h) ?_)
      | (refine takeE 13 rfl rfl ((runs_cellE (ty := 5) rfl rfl H1.out (by kernel_rfl))) HC.out (by kernel_rfl) (fun _ _ _ h => h) ?_)
      | (refine takeE 13 rfl rfl ((runs_rowE (ty := 33) rfl rfl H2.out Try.underlying33 rfl HSZ.out)) HC.out (by kernel_rfl) (fun _ _ _ h => h) ?_)
      | (refine takeE 13 rfl rfl ((runs_arrayAt rfl rfl Try.underlying33 (Nat.le_refl 32))) HC.out (by kernel_rfl) (fun _ _ _ h => h) ?_)
      | (refine takeE 13 rfl rfl ((HBF.out _ _ _ _ _ rfl rfl rfl)) HC.out (by kernel_rfl) (fun _ _ _ h => h) ?_)
      | (refine takeE 13 rfl rfl ((HBE.out _ _ _ _ _ _ rfl rfl rfl rfl)) HC.out (by kernel_rfl) (fun _ _ _ h => h) ?_)
      | (refine takeE 13 rfl rfl ((runs_b2s rfl rfl (xs := st) hlst2 H3.out)) HC.out (by kernel_rfl) (fun _ _ _ h => h) ?_)
      | (refine takeE 13 (v := ?_) rfl rfl (runs_of fun w => ?_) HC.out (by kernel_rfl) (fun _ _ _ h => h) ?_
         rotate_left
         · go_simp <;> (try with_reducible rfl))
      try simp only [put_rules]
      first
      | (refine takeE 14 rfl rfl ((runs_cellE (ty := 5) rfl rfl H0.out (by kernel_rfl))) HC.out (by kernel_rfl) (fun _ _ _ h => h) ?_)
      | (refine takeE 14 rfl rfl ((runs_cellE (ty := 5) rfl rfl H1.out (by kernel_rfl))) HC.out (by kernel_rfl) (fun _ _ _ h => h) ?_)
      | (refine takeE 14 rfl rfl ((runs_rowE (ty := 33) rfl rfl H2.out Try.underlying33 rfl HSZ.out)) HC.out (by kernel_rfl) (fun _ _ _ h => h) ?_)
      | (refine takeE 14 rfl rfl ((runs_arrayAt rfl rfl Try.underlying33 (Nat.le_refl 32))) HC.out (by kernel_rfl) (fun _ _ _ h => h) ?_)
      | (refine takeE 14 rfl rfl ((HBF.out _ _ _ _ _ rfl rfl rfl)) HC.out (by kernel_rfl) (fun _ _ _ h => h) ?_)
      | (refine takeE 14 rfl rfl ((HBE.out _ _ _ _ _ _ rfl rfl rfl rfl)) HC.out (by kernel_rfl) (fun _ _ _ h => h) ?_)
      | (refine takeE 14 rfl rfl ((runs_b2s rfl rfl (xs := st) hlst2 H3.out)) HC.out (by kernel_rfl) (fun _ _ _ h => h) ?_)
      | (refine takeE 14 (v := ?_) rfl rfl (runs_of fun w => ?_) HC.out (by kernel_rfl) (fun _ _ _ h => h) ?_
         rotate_left
         · go_simp <;> (try with_reducible rfl))
      try simp only [put_rules]
      first
      | (refine takeE 15 rfl rfl ((runs_cellE (ty := 5) rfl rfl H0.out (by kernel_rfl))) HC.out (by kernel_rfl) (fun _ _ _ h => h) ?_)
      | (refine takeE 15 rfl rfl ((runs_cellE (ty := 5) rfl rfl H1.out (by kernel_rfl))) HC.out (by kernel_rfl) (fun _ _ _ h => h) ?_)
      | (refine takeE 15 rfl rfl ((runs_rowE (ty := 33) rfl rfl H2.out Try.underlying33 rfl HSZ.out)) HC.out (by kernel_rfl) (fun _ _ _ h => h) ?_)
      | (refine takeE 15 rfl rfl ((runs_arrayAt rfl rfl Try.underlying33 (Nat.le_refl 32))) HC.out (by kernel_rfl) (fun _ _ _ h => h) ?_)
      | (refine takeE 15 rfl rfl ((HBF.out _ _ _ _ _ rfl rfl rfl)) HC.out (by kernel_rfl) (fun _ _ _ h => h) ?_)
      | (refine takeE 15 rfl rfl ((HBE.out _ _ _ _ _ _ rfl rfl rfl rfl)) HC.out (by kernel_rfl) (fun _ _ _ h => h) ?_)
      | (refine takeE 15 rfl rfl ((runs_b2s rfl rfl (xs := st) hlst2 H3.out)) HC.out (by kernel_rfl) (fun _ _ _ h => h) ?_)
      | (refine takeE 15 (v := ?_) rfl rfl (runs_of fun w => ?_) HC.out (by kernel_rfl) (fun _ _ _ h => h) ?_
         rotate_left
         · go_simp <;> (try with_reducible rfl))
      try simp only [put_rules]
      first
      | (refine takeE 16 rfl rfl ((runs_cellE (ty := 5) rfl rfl H0.out (by kernel_rfl))) HC.out (by kernel_rfl) (fun _ _ _ h => h) ?_)
      | (refine takeE 16 rfl rfl ((runs_cellE (ty := 5) rfl rfl H1.out (by kernel_rfl))) HC.out (by kernel_rfl) (fun _ _ _ h => h) ?_)
      | (refine takeE 16 rfl rfl ((runs_rowE (ty := 33) rfl rfl H2.out Try.underlying33 rfl HSZ.out)) HC.out (by kernel_rfl) (fun _ _ _ h => h) ?_)
      | (refine takeE 16 rfl rfl ((runs_arrayAt rfl rfl Try.underlying33 (Nat.le_refl 32))) HC.out (by kernel_rfl) (fun _ _ _ h => h) ?_)
      | (refine takeE 16 rfl rfl ((HBF.out _ _ _ _ _ rfl rfl rfl)) HC.out (by kernel_rfl) (fun _ _ _ h => h) ?_)
      | (refine takeE 16 rfl rfl ((HBE.out _ _ _ _ _ _ rfl rfl rfl rfl)) HC.out (by kernel_rfl) (fun _ _ _ h => h) ?_)
      | (refine takeE 16 rfl rfl ((runs_b2s rfl rfl (xs := st) hlst2 H3.out)) HC.out (by kernel_rfl) (fun _ _ _ h => h) ?_)
      | (refine takeE 16 (v := ?_) rfl rfl (runs_of fun w => ?_) HC.out (by kernel_rfl) (fun _ _ _ h => h) ?_
         rotate_left
         · go_simp <;> (try with_reducible rfl))
      try simp only [put_rules]
      first
      | (refine takeE 17 rfl rfl ((runs_cellE (ty := 5) rfl rfl H0.out (by kernel_rfl))) HC.out (by kernel_rfl) (fun _ _ _ h => h) ?_)
      | (refine takeE 17 rfl rfl ((runs_cellE (ty := 5) rfl rfl H1.out (by kernel_rfl))) HC.out (by kernel_rfl) (fun _ _ _ h => h) ?_)
      | (refine takeE 17 rfl rfl ((runs_rowE (ty := 33) rfl rfl H2.out Try.underlying33 rfl HSZ.out)) HC.out (by kernel_rfl) (fun _ _ _ h => h) ?_)
      | (refine takeE 17 rfl rfl ((runs_arrayAt rfl rfl Try.underlying33 (Nat.le_refl 32))) HC.out (by kernel_rfl) (fun _ _ _ h => h) ?_)
      | (refine takeE 17 rfl rfl ((HBF.out _ _ _ _ _ rfl rfl rfl)) HC.out (by kernel_rfl) (fun _ _ _ h => h) ?_)
      | (refine takeE 17 rfl rfl ((HBE.out _ _ _ _ _ _ rfl rfl rfl rfl)) HC.out (by kernel_rfl) (fun _ _ _ h => h) ?_)
      | (refine takeE 17 rfl rfl ((runs_b2s rfl rfl (xs := st) hlst2 H3.out)) HC.out (by kernel_rfl) (fun _ _ _ h => h) ?_)
      | (refine takeE 17 (v := ?_) rfl rfl (runs_of fun w => ?_) HC.out (by kernel_rfl) (fun _ _ _ h => h) ?_
         rotate_left
         · go_simp <;> (try with_reducible rfl))
      try simp only [put_rules]
      refine effE 18 rfl (by kernel_rfl) ?_
      refine wpList_stR HW.out rfl (ty := 35) (n := 35) rfl rfl 0 rfl (M := Ed.segs ⟨st, q0, q1, hsh⟩) rfl rfl HE.out rfl (by kernel_rfl) (fun w' hw' => ?_)
      clear HW; have HW := Lib.hid hw'; clear hw'; (try simp only [hps_rules] at HW); (try simp only [put_rules])
      refine wpList_behind (And.intro (fun _ => (by exact HW.out.tail)) ?_)
      refine effE 19 rfl (by kernel_rfl) ?_
      refine wpList_runs HW.out rfl (v := ?_) (runs_of fun w => ?_) ?_
      rotate_left
      · go_simp <;> (try with_reducible rfl)
      try simp only [put_rules]
      refine wpList_behind (And.intro (fun h => Bool.noConfusion (show true = false from h)) ?_)
      refine doneE (by kernel_rfl) ?_ _
      go_wp2
      refine bodyPost_ret (results_cellS rfl HW.out 0 rfl rfl Try.underlying35 rfl (by kernel_rfl)) rfl ?_
      exact ⟨rfl, HW.out.tail⟩
end Go.Proofs.Ytaieonajialenaa
