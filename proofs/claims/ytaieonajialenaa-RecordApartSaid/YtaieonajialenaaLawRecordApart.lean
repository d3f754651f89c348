/- Two records that differ have bytes that differ. -/
import Derived.Test.YtaieonajialenaaRecG
import Derived.Test.YtaieonajialenaaOpenRec
import Derived.Deep.DeepHandedRow
import Derived.Lib.LaidTab
namespace Go.Proofs.Ytaieonajialenaa
open Go.ChangeShapes Go.WideShapes Go.ChangeAt Go.RowKit
namespace lawRecordApart
set_option maxRecDepth 100000 in
theorem contract (H : Type) (enc : TypeId × Value → H) (W : World) (base : Nat) (args : Array Value) (ds gs : List (DataW H)) (before : List MemPlace)
    (hval : ∀ (j : Nat) t v, Try.f4.params[j]? = some t → args[j]? = some v → Value.okWide Try.prog W .any base t v)
    (hW : DataW.Whole enc Try.prog Try.f4.params.toList Rows.recordApartSpec.vars false W args.toList ds gs before) (hsz : (DataW.weightsEach Try.prog (Try.f4.params.toList ++ Rows.recordApartSpec.plain.varTypes Try.prog) (ds ++ gs)).all (· ≤ reachBytes) = true)
    (_ : laidMetH Try.prog Rows.recordApartRow.laid W) :
    Calls Try.prog 4 args W fun e W' => ∃ v, e = .returned v ∧ Rows.recordApartSpec.post enc Try.prog Try.f4 false true false false W args v W' := by
  have hW' := hW
  obtain ⟨p, q, hA0, hV, rfl, hfz, hnd⟩ := hW
  have hA : DataW.TrodAll enc Try.prog W 0 (fun _ => true) true Try.f4.params.toList args.toList ds p := hA0
  rw [Try.params4] at hA hval hsz
  obtain ⟨v0, vs0, d0, ds0, p0, q0, hargs, rfl, rfl, h0, r0⟩ := trodAll_cons hA
  obtain ⟨v1, vs1, d1, ds1, p1, q1, rfl, rfl, rfl, h1, r1⟩ := trodAll_cons r0
  obtain ⟨rfl, rfl, rfl⟩ := trodAll_nil r1
  obtain rfl : args = #[v0, v1] := by cases args; simp_all
  obtain ⟨rfl, rfl⟩ := trodVars_none hV
  obtain ⟨z0, hz0, rfl⟩ := open_rec h0
  obtain ⟨z1, hz1, rfl⟩ := open_rec h1
  refine (kept_of (recordApart_ok z0 z1 hz0 hz1 W _ (Holds.start W))).mono fun e W' ⟨he, hk⟩ => ?_
  subst he
  exact ⟨_, rfl, law_post rfl rfl (by kernel_rfl) (fun ds h => by match ds, h with | [e0, e1], _ => rfl) hW' hk⟩
theorem reads (os : Os) {H : Type} (enc : TypeId × Value → H) : ∃ places, DataW.whole enc Try.prog ((World.holding Try.prog os ⟨#[], #[], []⟩).forCall (fun _ _ => 0) ⟨#[], #[(.agg Rec.zero.cells.toArray), (.agg Rec.zero.cells.toArray)], []⟩).memory Try.f4.params.toList Rows.recordApartSpec.vars false #[((.agg Rec.zero.cells.toArray) : Value), ((.agg Rec.zero.cells.toArray) : Value)].toList 8 = some (((DataW.whole enc Try.prog ((World.holding Try.prog os ⟨#[], #[], []⟩).forCall (fun _ _ => 0) ⟨#[], #[(.agg Rec.zero.cells.toArray), (.agg Rec.zero.cells.toArray)], []⟩).memory Try.f4.params.toList Rows.recordApartSpec.vars false #[((.agg Rec.zero.cells.toArray) : Value), ((.agg Rec.zero.cells.toArray) : Value)].toList 8).getD ([], [], [])).1, [], places) :=
  ⟨((DataW.whole enc Try.prog ((World.holding Try.prog os ⟨#[], #[], []⟩).forCall (fun _ _ => 0) ⟨#[], #[(.agg Rec.zero.cells.toArray), (.agg Rec.zero.cells.toArray)], []⟩).memory Try.f4.params.toList Rows.recordApartSpec.vars false #[((.agg Rec.zero.cells.toArray) : Value), ((.agg Rec.zero.cells.toArray) : Value)].toList 8).getD ([], [], [])).2.2, by kernel_rfl⟩
theorem laid_met (os : Os) : laidMet Try.prog Rows.recordApartRow.laid ((World.holding Try.prog os ⟨#[], #[], []⟩).forCall (fun _ _ => 0) ⟨#[], #[(.agg Rec.zero.cells.toArray), (.agg Rec.zero.cells.toArray)], []⟩).memory :=
  laidMet_of_run' 8 (by kernel_rfl) (by kernel_rfl)
set_option maxRecDepth 100000 in
theorem lifted (os : Os) (started : os.Started) (H : Type) (enc : TypeId × Value → H) (F : Stop.Interp) :
    ReturnsInHanded {} Try.checked os 4 .any ((OpenSpec.ofChange Rows.recordApartSpec).preRow enc Try.prog Try.f4 Rows.recordApartRow.domain false Rows.recordApartRow.laid) (((OpenSpec.ofChange Rows.recordApartSpec).at F).post enc Try.prog Try.f4 false true false false) := by
  obtain ⟨places, hx⟩ := reads os enc
  refine returnsInHanded_of_row (C := Try.checked) (s := OpenSpec.ofChange Rows.recordApartSpec) Try.own started (by kernel_rfl) Try.func4
    (witness_row_at (enc := enc) (C := Try.checked) false (World.holding Try.prog os ⟨#[], #[], []⟩) #[(.agg Rec.zero.cells.toArray), (.agg Rec.zero.cells.toArray)] rfl (by kernel_rfl) (by kernel_rfl) (by kernel_rfl)
      (OpenSpec.preRow_of_cond 8 hx (by kernel_rfl) (fun k hk => by cases hk) (by kernel_rfl) (laid_met os))) ?_
  intro W base args ds gs before hval hW _ _ hsz hL _ _
  exact contract H enc W base args ds gs before hval hW hsz hL
theorem said : Rows.recordApartRow.holds Try.pinned (OpenSpec.ofChange Rows.recordApartSpec) :=
  OpenClaim.holds_of_cond 4 Try.f4 rfl rfl rfl rfl rfl rfl rfl ⟨rfl, rfl, rfl, rfl, rfl⟩ rfl rfl rfl rfl rfl (by kernel_rfl) Try.func4 (by kernel_rfl)
    (of_decide_eq_true (by kernel_rfl)) (by unfold Func.isWrapper; first | (rw [if_pos (by decide +kernel)]; kernel_rfl) | (rw [if_neg (by decide +kernel)]; exact ⟨rfl, rfl⟩))
    (fun os started H enc _ F => by rw [OpenClaim.pre_eq_preRow]; exact lifted os started H enc F)
end lawRecordApart
theorem recordApart_holds : Rows.RecordApartSaid := lawRecordApart.said
#print axioms recordApart_holds
end Go.Proofs.Ytaieonajialenaa
