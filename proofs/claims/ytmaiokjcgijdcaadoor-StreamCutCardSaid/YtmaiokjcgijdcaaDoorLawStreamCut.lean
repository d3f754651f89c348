/- A frame that comes up to any place waits, and nothing is given out; with what is left it is. -/
import Derived.Test.YtmaiokjcgijdcaaDoorShaRow
import Derived.Test.YtmaiokjcgijdcaaDoorStreamE
namespace Go.Proofs.YtmaiokjcgijdcaaDoor
open Go.ChangeShapes Go.WideShapes Go.ChangeAt Go.RowKit
namespace lawStreamCut
set_option maxRecDepth 100000 in
theorem contract (H : Type) (enc : TypeId × Value → H) (W : World) (base : Nat) (args : Array Value) (ds gs : List (DataW H)) (before : List MemPlace)
    (hval : ∀ (j : Nat) t v, Tryd.f11.params[j]? = some t → args[j]? = some v → Value.okWide Tryd.prog W .any base t v)
    (hW : DataW.Whole enc Tryd.prog Tryd.f11.params.toList Rows.streamCutSpec.vars false W args.toList ds gs before) (hsz : (DataW.weightsEach Tryd.prog (Tryd.f11.params.toList ++ Rows.streamCutSpec.plain.varTypes Tryd.prog) (ds ++ gs)).all (· ≤ reachBytes) = true)
    (hL : laidMetH Tryd.prog Rows.streamCutRow.laid W) :
    Calls Tryd.prog 11 args W fun e W' => ∃ v, e = .returned v ∧ Rows.streamCutSpec.post enc Tryd.prog Tryd.f11 false true false false W args v W' := by
  have hW' := hW
  obtain ⟨p, q, hA0, hV, rfl, hfz, hnd⟩ := hW
  have hA : DataW.TrodAll enc Tryd.prog W 0 (fun _ => true) true Tryd.f11.params.toList args.toList ds p := hA0
  rw [Tryd.params11] at hA hval hsz
  obtain ⟨v0, vs0, d0, ds0, p0, q0, hargs, rfl, rfl, h0, r0⟩ := trodAll_cons hA
  obtain ⟨v1, vs1, d1, ds1, p1, q1, rfl, rfl, rfl, h1, r1⟩ := trodAll_cons r0
  obtain ⟨v2, vs2, d2, ds2, p2, q2, rfl, rfl, rfl, h2, r2⟩ := trodAll_cons r1
  obtain ⟨rfl, rfl, rfl⟩ := trodAll_nil r2
  obtain rfl : args = #[v0, v1, v2] := by cases args; simp_all
  obtain ⟨rfl, rfl⟩ := trodVars_none hV
  obtain ⟨k0, rfl, rfl, rfl, hwf0⟩ := open_int Tryd.underlying5 (hval 0 5 v0 rfl rfl) h0
  obtain ⟨t0, rfl⟩ : ∃ t : UInt8, k0 = (t.toNat : Int) := by
    have h := hwf0
    simp only [Lit.wf, Bool.and_eq_true, decide_eq_true_eq] at h
    have h1 : (0 : Int) ≤ k0 ∧ k0 ≤ 255 := h
    exact ⟨UInt8.ofNat k0.toNat, by rw [UInt8.toNat_ofNat']; omega⟩
  obtain ⟨A1, n1, c1, rfl⟩ := okWide_slice Tryd.underlying22 (hval 1 22 v1 rfl rfl)
  obtain ⟨fuel1, hf1⟩ := h1
  obtain ⟨B1, m1, cb1, g1, xs1, hB1, hn1, hc1, hm1, hr1, hd1⟩ := open_bytesC hf1
  simp only [Value.cells] at hB1
  obtain ⟨rfl, rfl, rfl⟩ : A1 = B1 ∧ n1 = m1 ∧ c1 = cb1 := by simpa using hB1
  have hb1 : n1 ≤ 140737488351232 := by
    rcases hd1 with ⟨_, rfl⟩ | ⟨elems, rest, ps, hdx, hel, _⟩
    · omega
    · obtain ⟨rfl, rfl⟩ := Prod.mk.inj hdx
      have := sized_slice hsz (j := 1) (t := 22) (e := 5) rfl rfl Tryd.underlying22
      rw [show Tryd.prog.bytesOf 5 = 1 by kernel_rfl] at this
      simp only [reachBytes] at this
      omega
  obtain ⟨k2, rfl, rfl, rfl, hwf2⟩ := open_int Tryd.underlying38 (hval 2 38 v2 rfl rfl) h2
  have hi2 : (0 : Int) ≤ k2 ∧ k2 ≤ 18446744073709551615 := by
    have h := hwf2
    simp only [Lit.wf, Bool.and_eq_true, decide_eq_true_eq] at h
    exact h
  obtain ⟨m2, rfl⟩ : ∃ m : Nat, k2 = m := ⟨k2.toNat, by omega⟩
  refine (walk_of (streamCut_ok t0 A1 n1 c1 xs1 m2 (by omega) W _ (Holds.start W) (Ent.since ⟨_, hr1⟩) hn1 hc1 (by omega) (Ent.sinceK (kf_of_laid hL)))).mono fun e W' ⟨he, hk⟩ => ?_
  subst he
  exact ⟨_, rfl, law_post rfl rfl (by kernel_rfl) (fun ds h => by match ds, h with | [e0, e1, e2], _ => rfl) hW' hk⟩
theorem reads (os : Os) {H : Type} (enc : TypeId × Value → H) : ∃ places, DataW.whole enc Tryd.prog ((laidWorld os).forCall (fun _ _ => 0) ⟨#[], #[.int .u8 0, .slice none 0 0, .int .u64 0], []⟩).memory Tryd.f11.params.toList Rows.streamCutSpec.vars false #[(.int .u8 0 : Value), (.slice none 0 0 : Value), (.int .u64 0 : Value)].toList 8 = some ([.lit (.int .u8 0), .nil, .lit (.int .u64 0)], [], places) :=
  ⟨[], by kernel_rfl⟩
theorem laid_met (os : Os) : laidMet Tryd.prog Rows.streamCutRow.laid ((laidWorld os).forCall (fun _ _ => 0) ⟨#[], #[.int .u8 0, .slice none 0 0, .int .u64 0], []⟩).memory :=
  laidMet_of_run' 8 (by kernel_rfl) (by kernel_rfl)
set_option maxRecDepth 100000 in
theorem lifted (os : Os) (started : os.Started) (H : Type) (enc : TypeId × Value → H) (F : Stop.Interp) :
    ReturnsInHanded {} Tryd.checked os 11 .any ((OpenSpec.ofChange Rows.streamCutSpec).preRow enc Tryd.prog Tryd.f11 Rows.streamCutRow.domain false Rows.streamCutRow.laid) (((OpenSpec.ofChange Rows.streamCutSpec).at F).post enc Tryd.prog Tryd.f11 false true false false) := by
  obtain ⟨places, hx⟩ := reads os enc
  refine returnsInHanded_of_row (C := Tryd.checked) (s := OpenSpec.ofChange Rows.streamCutSpec) Tryd.own started (by kernel_rfl) Tryd.func11
    (witness_row_at (enc := enc) (C := Tryd.checked) false (laidWorld os) #[.int .u8 0, .slice none 0 0, .int .u64 0] rfl (by kernel_rfl) (by kernel_rfl) (by kernel_rfl)
      (OpenSpec.preRow_of_cond 8 hx (by kernel_rfl) (fun k hk => by cases hk) (by kernel_rfl) (laid_met os))) ?_
  intro W base args ds gs before hval hW _ _ hsz hL _ _
  exact contract H enc W base args ds gs before hval hW hsz hL
theorem said : Rows.streamCutRow.holds Tryd.pinned (OpenSpec.ofChange Rows.streamCutSpec) :=
  OpenClaim.holds_of_cond 11 Tryd.f11 rfl rfl rfl rfl rfl rfl rfl ⟨rfl, rfl, rfl, rfl, rfl⟩ rfl rfl rfl rfl rfl (by kernel_rfl) Tryd.func11 (by kernel_rfl)
    (of_decide_eq_true (by kernel_rfl)) (by unfold Func.isWrapper; first | (rw [if_pos (by decide +kernel)]; kernel_rfl) | (rw [if_neg (by decide +kernel)]; exact ⟨rfl, rfl⟩))
    (fun os started H enc _ F => by rw [OpenClaim.pre_eq_preRow]; exact lifted os started H enc F)
theorem plain (f : FuncId) (fn : Func) (hf : Tryd.pinned.checked.prog.funcNamed Rows.streamCutRow.func = some f) (hfn : Tryd.pinned.checked.prog.funcs[f]? = some fn) :
    false = Tryd.pinned.checked.prog.looks [] ∧ ∀ (j : Nat) t, fn.params[j]? = some t → Tryd.pinned.checked.prog.wantsStandIn t = false := by
  obtain rfl : f = 11 := Option.some.inj ((show Tryd.prog.funcNamed Rows.streamCutRow.func = some 11 by kernel_rfl).symm.trans hf) |>.symm
  obtain rfl : fn = Tryd.f11 := (Option.some.inj (Tryd.func11.symm.trans hfn)).symm
  refine ⟨by kernel_rfl, fun j t ht => ?_⟩
  rw [Tryd.params11] at ht
  have hm : t ∈ [5, 22, 38] := by simpa using Array.mem_of_getElem? ht
  have hall : ([5, 22, 38].all fun u => !Tryd.prog.wantsStandIn u) = true := by kernel_rfl
  exact (show Tryd.prog.wantsStandIn t = false by simpa using List.all_eq_true.1 hall t hm)
end lawStreamCut
theorem streamCut_holds : Rows.StreamCutCardSaid :=
  Claim7.holds_tied_plain_at .later [] _ _ _ _ lawStreamCut.said (fun _ h => by cases h) (by kernel_rfl) (fun _ h => by cases h) streamCut_row_tie rfl ⟨rfl, rfl⟩ (by kernel_rfl) rfl lawStreamCut.plain (by kernel_rfl)
#print axioms streamCut_holds
end Go.Proofs.YtmaiokjcgijdcaaDoor
