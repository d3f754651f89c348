/- Two messages that differ have bytes that differ. -/
import Derived.Test.YtibkngjacdggpaaDoorShaRow
import Derived.Test.YtibkngjacdggpaaDoorOpenMsg
import Derived.Test.YtibkngjacdggpaaDoorMsgT
namespace Go.Proofs.YtibkngjacdggpaaDoor
set_option linter.unusedSimpArgs false
set_option linter.unusedVariables false
open Go.ChangeShapes Go.WideShapes Go.ChangeAt Go.RowKit
namespace lawMessageApart
set_option maxRecDepth 100000 in
theorem contract (H : Type) (enc : TypeId × Value → H) (W : World) (base : Nat) (args : Array Value) (ds gs : List (DataW H)) (before : List MemPlace)
    (hval : ∀ (j : Nat) t v, Tryd.f5.params[j]? = some t → args[j]? = some v → Value.okWide Tryd.prog W .any base t v)
    (hW : DataW.Whole enc Tryd.prog Tryd.f5.params.toList Rows.messageApartSpec.vars false W args.toList ds gs before) (hsz : (DataW.weightsEach Tryd.prog (Tryd.f5.params.toList ++ Rows.messageApartSpec.plain.varTypes Tryd.prog) (ds ++ gs)).all (· ≤ reachBytes) = true)
    (hL : laidMetH Tryd.prog Rows.messageApartRow.laid W) :
    Calls Tryd.prog 5 args W fun e W' => ∃ v, e = .returned v ∧ Rows.messageApartSpec.post enc Tryd.prog Tryd.f5 false true false false W args v W' := by
  have hW' := hW
  obtain ⟨p, q, hA0, hV, rfl, hfz, hnd⟩ := hW
  have hA : DataW.TrodAll enc Tryd.prog W 0 (fun _ => true) true Tryd.f5.params.toList args.toList ds p := hA0
  rw [Tryd.params5] at hA hval hsz
  obtain ⟨v0, vs0, d0, ds0, p0, q0, hargs, rfl, rfl, h0, r0⟩ := trodAll_cons hA
  obtain ⟨v1, vs1, d1, ds1, p1, q1, rfl, rfl, rfl, h1, r1⟩ := trodAll_cons r0
  obtain ⟨rfl, rfl, rfl⟩ := trodAll_nil r1
  obtain rfl : args = #[v0, v1] := by cases args; simp_all
  obtain ⟨rfl, rfl⟩ := trodVars_none hV
  obtain ⟨z0, hz0, rfl⟩ := open_msg h0
  obtain ⟨z1, hz1, rfl⟩ := open_msg h1
  refine (kept_ofM (messageApart_ok z0 z1 hz0 hz1 W _ (Holds.start W) (Ent.sinceK (kf_of_laid hL)))).mono fun e W' ⟨he, hk⟩ => ?_
  subst he
  exact ⟨_, rfl, law_post rfl rfl (by kernel_rfl) (fun ds h => by match ds, h with | [e0, e1], _ => rfl) hW' hk⟩
theorem reads (os : Os) {H : Type} (enc : TypeId × Value → H) : ∃ places, DataW.whole enc Tryd.prog ((laidWorld os).forCall (fun _ _ => 0) ⟨#[], #[(.agg Msg.zero.cells.toArray), (.agg Msg.zero.cells.toArray)], []⟩).memory Tryd.f5.params.toList Rows.messageApartSpec.vars false #[((.agg Msg.zero.cells.toArray) : Value), ((.agg Msg.zero.cells.toArray) : Value)].toList 8 = some (((DataW.whole enc Tryd.prog ((laidWorld os).forCall (fun _ _ => 0) ⟨#[], #[(.agg Msg.zero.cells.toArray), (.agg Msg.zero.cells.toArray)], []⟩).memory Tryd.f5.params.toList Rows.messageApartSpec.vars false #[((.agg Msg.zero.cells.toArray) : Value), ((.agg Msg.zero.cells.toArray) : Value)].toList 8).getD ([], [], [])).1, [], places) :=
  ⟨((DataW.whole enc Tryd.prog ((laidWorld os).forCall (fun _ _ => 0) ⟨#[], #[(.agg Msg.zero.cells.toArray), (.agg Msg.zero.cells.toArray)], []⟩).memory Tryd.f5.params.toList Rows.messageApartSpec.vars false #[((.agg Msg.zero.cells.toArray) : Value), ((.agg Msg.zero.cells.toArray) : Value)].toList 8).getD ([], [], [])).2.2, by kernel_rfl⟩
theorem laid_met (os : Os) : laidMet Tryd.prog Rows.messageApartRow.laid ((laidWorld os).forCall (fun _ _ => 0) ⟨#[], #[(.agg Msg.zero.cells.toArray), (.agg Msg.zero.cells.toArray)], []⟩).memory :=
  laidMet_of_run' 8 (by kernel_rfl) (by kernel_rfl)
set_option maxRecDepth 100000 in
theorem lifted (os : Os) (started : os.Started) (H : Type) (enc : TypeId × Value → H) (F : Stop.Interp) :
    ReturnsInHanded {} Tryd.checked os 5 .any ((OpenSpec.ofChange Rows.messageApartSpec).preRow enc Tryd.prog Tryd.f5 Rows.messageApartRow.domain false Rows.messageApartRow.laid) (((OpenSpec.ofChange Rows.messageApartSpec).at F).post enc Tryd.prog Tryd.f5 false true false false) := by
  obtain ⟨places, hx⟩ := reads os enc
  refine returnsInHanded_of_row (C := Tryd.checked) (s := OpenSpec.ofChange Rows.messageApartSpec) Tryd.own started (by kernel_rfl) Tryd.func5
    (witness_row_at (enc := enc) (C := Tryd.checked) false (laidWorld os) #[(.agg Msg.zero.cells.toArray), (.agg Msg.zero.cells.toArray)] rfl (by kernel_rfl) (by kernel_rfl) (by kernel_rfl)
      (OpenSpec.preRow_of_cond 8 hx (by kernel_rfl) (fun k hk => by cases hk) (by kernel_rfl) (laid_met os))) ?_
  intro W base args ds gs before hval hW _ _ hsz hL _ _
  exact contract H enc W base args ds gs before hval hW hsz hL
theorem said : Rows.messageApartRow.holds Tryd.pinned (OpenSpec.ofChange Rows.messageApartSpec) :=
  OpenClaim.holds_of_cond 5 Tryd.f5 rfl rfl rfl rfl rfl rfl rfl ⟨rfl, rfl, rfl, rfl, rfl⟩ rfl rfl rfl rfl rfl (by kernel_rfl) Tryd.func5 (by kernel_rfl)
    (of_decide_eq_true (by kernel_rfl)) (by unfold Func.isWrapper; first | (rw [if_pos (by decide +kernel)]; kernel_rfl) | (rw [if_neg (by decide +kernel)]; exact ⟨rfl, rfl⟩))
    (fun os started H enc _ F => by rw [OpenClaim.pre_eq_preRow]; exact lifted os started H enc F)
theorem plain (f : FuncId) (fn : Func) (hf : Tryd.pinned.checked.prog.funcNamed Rows.messageApartRow.func = some f) (hfn : Tryd.pinned.checked.prog.funcs[f]? = some fn) :
    false = Tryd.pinned.checked.prog.looks [] ∧ ∀ (j : Nat) t, fn.params[j]? = some t → Tryd.pinned.checked.prog.wantsStandIn t = false := by
  obtain rfl : f = 5 := Option.some.inj ((show Tryd.prog.funcNamed Rows.messageApartRow.func = some 5 by kernel_rfl).symm.trans hf) |>.symm
  obtain rfl : fn = Tryd.f5 := (Option.some.inj (Tryd.func5.symm.trans hfn)).symm
  refine ⟨by kernel_rfl, fun j t ht => ?_⟩
  rw [Tryd.params5] at ht
  have hm : t ∈ [42, 42] := by simpa using Array.mem_of_getElem? ht
  have hall : ([42, 42].all fun u => !Tryd.prog.wantsStandIn u) = true := by kernel_rfl
  exact (show Tryd.prog.wantsStandIn t = false by simpa using List.all_eq_true.1 hall t hm)
end lawMessageApart
theorem messageApart_holds : Rows.MessageApartCardSaid :=
  Claim7.holds_tied_plain_at .later [] _ _ _ _ lawMessageApart.said (fun _ h => by cases h) (by kernel_rfl) (fun _ h => by cases h) messageApart_row_tie rfl ⟨rfl, rfl⟩ (by kernel_rfl) rfl lawMessageApart.plain (by kernel_rfl)
#print axioms messageApart_holds
end Go.Proofs.YtibkngjacdggpaaDoor
