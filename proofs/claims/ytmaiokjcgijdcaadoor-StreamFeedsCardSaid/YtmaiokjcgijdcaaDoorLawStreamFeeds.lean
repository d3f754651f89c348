/- However bytes are cut into pieces, behind each piece the frames that were given out, what is dropped, and what waits, are those of all bytes so far. -/
import Derived.Test.YtmaiokjcgijdcaaDoorShaRow
import Derived.Test.YtmaiokjcgijdcaaDoorStreamF
import Derived.Test.YtmaiokjcgijdcaaDoorOpenParts
namespace Go.Proofs.YtmaiokjcgijdcaaDoor
open Go.ChangeShapes Go.WideShapes Go.ChangeAt Go.RowKit
namespace lawStreamFeeds
set_option maxRecDepth 100000 in
theorem contract (H : Type) (enc : TypeId × Value → H) (W : World) (base : Nat) (args : Array Value) (ds gs : List (DataW H)) (before : List MemPlace)
    (hval : ∀ (j : Nat) t v, Tryd.f7.params[j]? = some t → args[j]? = some v → Value.okWide Tryd.prog W .any base t v)
    (hW : DataW.Whole enc Tryd.prog Tryd.f7.params.toList Rows.streamFeedsSpec.vars false W args.toList ds gs before) (hsz : (DataW.weightsEach Tryd.prog (Tryd.f7.params.toList ++ Rows.streamFeedsSpec.plain.varTypes Tryd.prog) (ds ++ gs)).all (· ≤ reachBytes) = true)
    (hL : laidMetH Tryd.prog Rows.streamFeedsRow.laid W) :
    Calls Tryd.prog 7 args W fun e W' => ∃ v, e = .returned v ∧ Rows.streamFeedsSpec.post enc Tryd.prog Tryd.f7 false true false false W args v W' := by
  have hW' := hW
  obtain ⟨p, q, hA0, hV, rfl, hfz, hnd⟩ := hW
  have hA : DataW.TrodAll enc Tryd.prog W 0 (fun _ => true) true Tryd.f7.params.toList args.toList ds p := hA0
  rw [Tryd.params7] at hA hval hsz
  obtain ⟨v0, vs0, d0, ds0, p0, q0, hargs, rfl, rfl, h0, r0⟩ := trodAll_cons hA
  obtain ⟨rfl, rfl, rfl⟩ := trodAll_nil r0
  obtain rfl : args = #[v0] := by cases args; simp_all
  obtain ⟨rfl, rfl⟩ := trodVars_none hV
  obtain ⟨A0, n0, c0, rfl⟩ := okWide_slice Tryd.underlying41 (hval 0 41 v0 rfl rfl)
  obtain ⟨fuel0, hf0⟩ := h0
  obtain ⟨B0, m0, cb0, l0, hB0, hn0, hc0, hp0, hd0⟩ := open_partsC hf0
  simp only [Value.cells] at hB0
  obtain ⟨rfl, rfl, rfl⟩ : A0 = B0 ∧ n0 = m0 ∧ c0 = cb0 := by simpa using hB0
  have hb0 : n0 ≤ 140737488351232 := by
    rcases hd0 with ⟨_, rfl⟩ | ⟨elems, rest, ps, hdx, hel, _⟩
    · omega
    · obtain ⟨rfl, rfl⟩ := Prod.mk.inj hdx
      have := sized_slice hsz (j := 0) (t := 41) (e := 22) rfl rfl Tryd.underlying41
      rw [show Tryd.prog.bytesOf 22 = 24 by kernel_rfl] at this
      simp only [reachBytes] at this
      omega
  have hs0 : ∀ s ∈ l0, s.n ≤ 140737488351232 := fun s hs => by
    rcases hd0 with ⟨_, h0⟩ | ⟨elems, rest, ps, hdx, _, hin⟩
    · have h1 := hn0.out
      rw [h0] at h1
      rw [List.eq_nil_of_length_eq_zero h1.symm] at hs
      cases hs
    · obtain ⟨rfl, rfl⟩ := Prod.mk.inj hdx
      rcases hin s hs with h0 | ⟨es, rs, hm, he⟩
      · omega
      · have := sized_inner hsz (j := 0) (t := 41) (e := 22) (f := 5) rfl rfl Tryd.underlying41 Tryd.underlying22 hm
        rw [show Tryd.prog.bytesOf 5 = 1 by kernel_rfl] at this
        simp only [reachBytes] at this
        omega
  refine (walk_of (streamFeeds_ok A0 n0 c0 l0 W _ (Holds.start W) (fun _ hw => hp0.kept hw.since_kept) hn0 (by omega) hs0 (Ent.sinceK (kf_of_laid hL)))).mono fun e W' ⟨he, hk⟩ => ?_
  subst he
  exact ⟨_, rfl, law_post rfl rfl (by kernel_rfl) (fun ds h => by match ds, h with | [e0], _ => rfl) hW' hk⟩
theorem reads (os : Os) {H : Type} (enc : TypeId × Value → H) : ∃ places, DataW.whole enc Tryd.prog ((laidWorld os).forCall (fun _ _ => 0) ⟨#[], #[.slice none 0 0], []⟩).memory Tryd.f7.params.toList Rows.streamFeedsSpec.vars false #[(.slice none 0 0 : Value)].toList 8 = some ([.nil], [], places) :=
  ⟨[], by kernel_rfl⟩
theorem laid_met (os : Os) : laidMet Tryd.prog Rows.streamFeedsRow.laid ((laidWorld os).forCall (fun _ _ => 0) ⟨#[], #[.slice none 0 0], []⟩).memory :=
  laidMet_of_run' 8 (by kernel_rfl) (by kernel_rfl)
set_option maxRecDepth 100000 in
theorem lifted (os : Os) (started : os.Started) (H : Type) (enc : TypeId × Value → H) (F : Stop.Interp) :
    ReturnsInHanded {} Tryd.checked os 7 .any ((OpenSpec.ofChange Rows.streamFeedsSpec).preRow enc Tryd.prog Tryd.f7 Rows.streamFeedsRow.domain false Rows.streamFeedsRow.laid) (((OpenSpec.ofChange Rows.streamFeedsSpec).at F).post enc Tryd.prog Tryd.f7 false true false false) := by
  obtain ⟨places, hx⟩ := reads os enc
  refine returnsInHanded_of_row (C := Tryd.checked) (s := OpenSpec.ofChange Rows.streamFeedsSpec) Tryd.own started (by kernel_rfl) Tryd.func7
    (witness_row_at (enc := enc) (C := Tryd.checked) false (laidWorld os) #[.slice none 0 0] rfl (by kernel_rfl) (by kernel_rfl) (by kernel_rfl)
      (OpenSpec.preRow_of_cond 8 hx (by kernel_rfl) (fun k hk => by cases hk) (by kernel_rfl) (laid_met os))) ?_
  intro W base args ds gs before hval hW _ _ hsz hL _ _
  exact contract H enc W base args ds gs before hval hW hsz hL
theorem said : Rows.streamFeedsRow.holds Tryd.pinned (OpenSpec.ofChange Rows.streamFeedsSpec) :=
  OpenClaim.holds_of_cond 7 Tryd.f7 rfl rfl rfl rfl rfl rfl rfl ⟨rfl, rfl, rfl, rfl, rfl⟩ rfl rfl rfl rfl rfl (by kernel_rfl) Tryd.func7 (by kernel_rfl)
    (of_decide_eq_true (by kernel_rfl)) (by unfold Func.isWrapper; first | (rw [if_pos (by decide +kernel)]; kernel_rfl) | (rw [if_neg (by decide +kernel)]; exact ⟨rfl, rfl⟩))
    (fun os started H enc _ F => by rw [OpenClaim.pre_eq_preRow]; exact lifted os started H enc F)
theorem plain (f : FuncId) (fn : Func) (hf : Tryd.pinned.checked.prog.funcNamed Rows.streamFeedsRow.func = some f) (hfn : Tryd.pinned.checked.prog.funcs[f]? = some fn) :
    false = Tryd.pinned.checked.prog.looks [] ∧ ∀ (j : Nat) t, fn.params[j]? = some t → Tryd.pinned.checked.prog.wantsStandIn t = false := by
  obtain rfl : f = 7 := Option.some.inj ((show Tryd.prog.funcNamed Rows.streamFeedsRow.func = some 7 by kernel_rfl).symm.trans hf) |>.symm
  obtain rfl : fn = Tryd.f7 := (Option.some.inj (Tryd.func7.symm.trans hfn)).symm
  refine ⟨by kernel_rfl, fun j t ht => ?_⟩
  rw [Tryd.params7] at ht
  have hm : t ∈ [41] := by simpa using Array.mem_of_getElem? ht
  have hall : ([41].all fun u => !Tryd.prog.wantsStandIn u) = true := by kernel_rfl
  exact (show Tryd.prog.wantsStandIn t = false by simpa using List.all_eq_true.1 hall t hm)
end lawStreamFeeds
theorem streamFeeds_holds : Rows.StreamFeedsCardSaid :=
  Claim7.holds_tied_plain_at .later [] _ _ _ _ lawStreamFeeds.said (fun _ h => by cases h) (by kernel_rfl) (fun _ h => by cases h) streamFeeds_row_tie rfl ⟨rfl, rfl⟩ (by kernel_rfl) rfl lawStreamFeeds.plain (by kernel_rfl)
#print axioms streamFeeds_holds
end Go.Proofs.YtmaiokjcgijdcaaDoor
