/- A message's body with a byte another one, cut off, or with more behind, in a frame of its own, is a message, or none, as the document says. -/
import Derived.Test.YtibkngjacdggpaaDoorShaRow
import Derived.Test.YtibkngjacdggpaaDoorOpenMsg
import Derived.Test.YtibkngjacdggpaaDoorMsgZ
namespace Go.Proofs.YtibkngjacdggpaaDoor
set_option linter.unusedSimpArgs false
set_option linter.unusedVariables false
open Go.ChangeShapes Go.WideShapes Go.ChangeAt Go.RowKit
namespace lawMessageTurned
set_option maxRecDepth 100000 in
theorem contract (H : Type) (enc : TypeId × Value → H) (W : World) (base : Nat) (args : Array Value) (ds gs : List (DataW H)) (before : List MemPlace)
    (hval : ∀ (j : Nat) t v, Tryd.f13.params[j]? = some t → args[j]? = some v → Value.okWide Tryd.prog W .any base t v)
    (hW : DataW.Whole enc Tryd.prog Tryd.f13.params.toList Rows.messageTurnedSpec.vars false W args.toList ds gs before) (hsz : (DataW.weightsEach Tryd.prog (Tryd.f13.params.toList ++ Rows.messageTurnedSpec.plain.varTypes Tryd.prog) (ds ++ gs)).all (· ≤ reachBytes) = true)
    (hL : laidMetH Tryd.prog Rows.messageTurnedRow.laid W) :
    Calls Tryd.prog 13 args W fun e W' => ∃ v, e = .returned v ∧ Rows.messageTurnedSpec.post enc Tryd.prog Tryd.f13 false true false false W args v W' := by
  have hW' := hW
  obtain ⟨p, q, hA0, hV, rfl, hfz, hnd⟩ := hW
  have hA : DataW.TrodAll enc Tryd.prog W 0 (fun _ => true) true Tryd.f13.params.toList args.toList ds p := hA0
  rw [Tryd.params13] at hA hval hsz
  obtain ⟨v0, vs0, d0, ds0, p0, q0, hargs, rfl, rfl, h0, r0⟩ := trodAll_cons hA
  obtain ⟨v1, vs1, d1, ds1, p1, q1, rfl, rfl, rfl, h1, r1⟩ := trodAll_cons r0
  obtain ⟨v2, vs2, d2, ds2, p2, q2, rfl, rfl, rfl, h2, r2⟩ := trodAll_cons r1
  obtain ⟨v3, vs3, d3, ds3, p3, q3, rfl, rfl, rfl, h3, r3⟩ := trodAll_cons r2
  obtain ⟨rfl, rfl, rfl⟩ := trodAll_nil r3
  obtain rfl : args = #[v0, v1, v2, v3] := by cases args; simp_all
  obtain ⟨rfl, rfl⟩ := trodVars_none hV
  obtain ⟨z0, hz0, rfl⟩ := open_msg h0
  obtain ⟨k1, rfl, rfl, rfl, hwf1⟩ := open_int Tryd.underlying28 (hval 1 28 v1 rfl rfl) h1
  have hi1 : (0 : Int) ≤ k1 ∧ k1 ≤ 18446744073709551615 := by
    have h := hwf1
    simp only [Lit.wf, Bool.and_eq_true, decide_eq_true_eq] at h
    exact h
  obtain ⟨m1, rfl⟩ : ∃ m : Nat, k1 = m := ⟨k1.toNat, by omega⟩
  obtain ⟨k2, rfl, rfl, rfl, hwf2⟩ := open_int Tryd.underlying5 (hval 2 5 v2 rfl rfl) h2
  obtain ⟨t2, rfl⟩ : ∃ t : UInt8, k2 = (t.toNat : Int) := by
    have h := hwf2
    simp only [Lit.wf, Bool.and_eq_true, decide_eq_true_eq] at h
    have h1 : (0 : Int) ≤ k2 ∧ k2 ≤ 255 := h
    exact ⟨UInt8.ofNat k2.toNat, by rw [UInt8.toNat_ofNat']; omega⟩
  obtain ⟨k3, rfl, rfl, rfl, hwf3⟩ := open_int Tryd.underlying5 (hval 3 5 v3 rfl rfl) h3
  have hi3 : (0 : Int) ≤ k3 ∧ k3 ≤ 255 := by
    have h := hwf3
    simp only [Lit.wf, Bool.and_eq_true, decide_eq_true_eq] at h
    exact h
  obtain ⟨m3, rfl⟩ : ∃ m : Nat, k3 = m := ⟨k3.toNat, by omega⟩
  refine (kept_ofM (messageTurned_ok z0 hz0 m1 (by omega) t2 m3 (by omega) W _ (Holds.start W) (Ent.sinceK (kf_of_laid hL)))).mono fun e W' ⟨he, hk⟩ => ?_
  subst he
  exact ⟨_, rfl, law_post rfl rfl (by kernel_rfl) (fun ds h => by match ds, h with | [e0, e1, e2, e3], _ => rfl) hW' hk⟩
theorem reads (os : Os) {H : Type} (enc : TypeId × Value → H) : ∃ places, DataW.whole enc Tryd.prog ((laidWorld os).forCall (fun _ _ => 0) ⟨#[], #[(.agg Msg.zero.cells.toArray), .int .u64 0, .int .u8 0, .int .u8 0], []⟩).memory Tryd.f13.params.toList Rows.messageTurnedSpec.vars false #[((.agg Msg.zero.cells.toArray) : Value), (.int .u64 0 : Value), (.int .u8 0 : Value), (.int .u8 0 : Value)].toList 8 = some (((DataW.whole enc Tryd.prog ((laidWorld os).forCall (fun _ _ => 0) ⟨#[], #[(.agg Msg.zero.cells.toArray), .int .u64 0, .int .u8 0, .int .u8 0], []⟩).memory Tryd.f13.params.toList Rows.messageTurnedSpec.vars false #[((.agg Msg.zero.cells.toArray) : Value), (.int .u64 0 : Value), (.int .u8 0 : Value), (.int .u8 0 : Value)].toList 8).getD ([], [], [])).1, [], places) :=
  ⟨((DataW.whole enc Tryd.prog ((laidWorld os).forCall (fun _ _ => 0) ⟨#[], #[(.agg Msg.zero.cells.toArray), .int .u64 0, .int .u8 0, .int .u8 0], []⟩).memory Tryd.f13.params.toList Rows.messageTurnedSpec.vars false #[((.agg Msg.zero.cells.toArray) : Value), (.int .u64 0 : Value), (.int .u8 0 : Value), (.int .u8 0 : Value)].toList 8).getD ([], [], [])).2.2, by kernel_rfl⟩
theorem laid_met (os : Os) : laidMet Tryd.prog Rows.messageTurnedRow.laid ((laidWorld os).forCall (fun _ _ => 0) ⟨#[], #[(.agg Msg.zero.cells.toArray), .int .u64 0, .int .u8 0, .int .u8 0], []⟩).memory :=
  laidMet_of_run' 8 (by kernel_rfl) (by kernel_rfl)
set_option maxRecDepth 100000 in
theorem lifted (os : Os) (started : os.Started) (H : Type) (enc : TypeId × Value → H) (F : Stop.Interp) :
    ReturnsInHanded {} Tryd.checked os 13 .any ((OpenSpec.ofChange Rows.messageTurnedSpec).preRow enc Tryd.prog Tryd.f13 Rows.messageTurnedRow.domain false Rows.messageTurnedRow.laid) (((OpenSpec.ofChange Rows.messageTurnedSpec).at F).post enc Tryd.prog Tryd.f13 false true false false) := by
  obtain ⟨places, hx⟩ := reads os enc
  refine returnsInHanded_of_row (C := Tryd.checked) (s := OpenSpec.ofChange Rows.messageTurnedSpec) Tryd.own started (by kernel_rfl) Tryd.func13
    (witness_row_at (enc := enc) (C := Tryd.checked) false (laidWorld os) #[(.agg Msg.zero.cells.toArray), .int .u64 0, .int .u8 0, .int .u8 0] rfl (by kernel_rfl) (by kernel_rfl) (by kernel_rfl)
      (OpenSpec.preRow_of_cond 8 hx (by kernel_rfl) (fun k hk => by cases hk) (by kernel_rfl) (laid_met os))) ?_
  intro W base args ds gs before hval hW _ _ hsz hL _ _
  exact contract H enc W base args ds gs before hval hW hsz hL
theorem said : Rows.messageTurnedRow.holds Tryd.pinned (OpenSpec.ofChange Rows.messageTurnedSpec) :=
  OpenClaim.holds_of_cond 13 Tryd.f13 rfl rfl rfl rfl rfl rfl rfl ⟨rfl, rfl, rfl, rfl, rfl⟩ rfl rfl rfl rfl rfl (by kernel_rfl) Tryd.func13 (by kernel_rfl)
    (of_decide_eq_true (by kernel_rfl)) (by unfold Func.isWrapper; first | (rw [if_pos (by decide +kernel)]; kernel_rfl) | (rw [if_neg (by decide +kernel)]; exact ⟨rfl, rfl⟩))
    (fun os started H enc _ F => by rw [OpenClaim.pre_eq_preRow]; exact lifted os started H enc F)
theorem plain (f : FuncId) (fn : Func) (hf : Tryd.pinned.checked.prog.funcNamed Rows.messageTurnedRow.func = some f) (hfn : Tryd.pinned.checked.prog.funcs[f]? = some fn) :
    false = Tryd.pinned.checked.prog.looks [] ∧ ∀ (j : Nat) t, fn.params[j]? = some t → Tryd.pinned.checked.prog.wantsStandIn t = false := by
  obtain rfl : f = 13 := Option.some.inj ((show Tryd.prog.funcNamed Rows.messageTurnedRow.func = some 13 by kernel_rfl).symm.trans hf) |>.symm
  obtain rfl : fn = Tryd.f13 := (Option.some.inj (Tryd.func13.symm.trans hfn)).symm
  refine ⟨by kernel_rfl, fun j t ht => ?_⟩
  rw [Tryd.params13] at ht
  have hm : t ∈ [42, 28, 5, 5] := by simpa using Array.mem_of_getElem? ht
  have hall : ([42, 28, 5, 5].all fun u => !Tryd.prog.wantsStandIn u) = true := by kernel_rfl
  exact (show Tryd.prog.wantsStandIn t = false by simpa using List.all_eq_true.1 hall t hm)
end lawMessageTurned
theorem messageTurned_holds : Rows.MessageTurnedCardSaid :=
  Claim7.holds_tied_plain_at .later [] _ _ _ _ lawMessageTurned.said (fun _ h => by cases h) (by kernel_rfl) (fun _ h => by cases h) messageTurned_row_tie rfl ⟨rfl, rfl⟩ (by kernel_rfl) rfl lawMessageTurned.plain (by kernel_rfl)
#print axioms messageTurned_holds
end Go.Proofs.YtibkngjacdggpaaDoor
