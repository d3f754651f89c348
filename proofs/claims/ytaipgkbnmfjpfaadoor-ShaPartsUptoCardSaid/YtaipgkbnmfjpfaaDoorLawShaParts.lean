/- The hash of parts is that of all of them, one behind the other, however they are cut: for any three slices of bytes of bulk at most 1048576 together; its row lists the table k256, which the card ties to the program's text. -/
import Derived.Test.YtaipgkbnmfjpfaaDoorShaRow
import Derived.Test.YtaipgkbnmfjpfaaDoorShaParts
import Derived.Test.YtaipgkbnmfjpfaaDoorUpto
namespace Go.Proofs.YtaipgkbnmfjpfaaDoor
open Go.ChangeShapes Go.WideShapes Go.ChangeAt Go.RowKit
namespace lawShaParts
set_option maxRecDepth 100000 in
theorem contract (H : Type) (enc : TypeId × Value → H) (W : World) (base : Nat) (args : Array Value) (ds gs : List (DataW H)) (before : List MemPlace)
    (hval : ∀ (j : Nat) t v, Tryd.f4.params[j]? = some t → args[j]? = some v → Value.okWide Tryd.prog W .any base t v)
    (hW : DataW.Whole enc Tryd.prog Tryd.f4.params.toList Rows.shaPartsSpec.vars false W args.toList ds gs before) (hsz : (DataW.weightsEach Tryd.prog (Tryd.f4.params.toList ++ Rows.shaPartsSpec.plain.varTypes Tryd.prog) (ds ++ gs)).all (· ≤ reachBytes) = true)
    (hup : Rows.uptoSmall H (ds ++ gs) = true)
    (hL : laidMetH Tryd.prog Rows.shaPartsUptoRow.laid W) :
    Calls Tryd.prog 4 args W fun e W' => ∃ v, e = .returned v ∧ Rows.shaPartsSpec.post enc Tryd.prog Tryd.f4 false true false false W args v W' := by
  have hW' := hW
  obtain ⟨p, q, hA0, hV, rfl, hfz, hnd⟩ := hW
  have hA : DataW.TrodAll enc Tryd.prog W 0 (fun _ => true) true Tryd.f4.params.toList args.toList ds p := hA0
  rw [Tryd.params4] at hA hval hsz
  obtain ⟨v0, vs0, d0, ds0, p0, q0, hargs, rfl, rfl, h0, r0⟩ := trodAll_cons hA
  obtain ⟨v1, vs1, d1, ds1, p1, q1, rfl, rfl, rfl, h1, r1⟩ := trodAll_cons r0
  obtain ⟨v2, vs2, d2, ds2, p2, q2, rfl, rfl, rfl, h2, r2⟩ := trodAll_cons r1
  obtain ⟨rfl, rfl, rfl⟩ := trodAll_nil r2
  obtain rfl : args = #[v0, v1, v2] := by cases args; simp_all
  obtain ⟨rfl, rfl⟩ := trodVars_none hV
  have hbulk : Rows.uptoBulkAll (d0 :: d1 :: d2 :: [] : List (DataW H)) ≤ 1048576 := by
    have h := of_decide_eq_true hup
    simpa only [List.append_nil] using h
  simp only [Rows.uptoBulkAll] at hbulk
  obtain ⟨A0, n0, c0, rfl⟩ := okWide_slice Tryd.underlying22 (hval 0 22 v0 rfl rfl)
  obtain ⟨fuel0, hf0⟩ := h0
  obtain ⟨B0, m0, cb0, g0, xs0, hB0, hn0, hc0, hm0, hr0, hd0⟩ := open_bytesC hf0
  simp only [Value.cells] at hB0
  obtain ⟨rfl, rfl, rfl⟩ : A0 = B0 ∧ n0 = m0 ∧ c0 = cb0 := by simpa using hB0
  have hb0 : n0 ≤ 140737488351232 := by
    rcases hd0 with ⟨_, rfl⟩ | ⟨elems, rest, ps, hdx, hel, _⟩
    · omega
    · obtain ⟨rfl, rfl⟩ := Prod.mk.inj hdx
      have := sized_slice hsz (j := 0) (t := 22) (e := 5) rfl rfl Tryd.underlying22
      rw [show Tryd.prog.bytesOf 5 = 1 by kernel_rfl] at this
      simp only [reachBytes] at this
      omega
  have hu0 : n0 ≤ 1048576 := by
    rcases hd0 with ⟨_, rfl⟩ | ⟨elems, rest, ps, hdx, hel, _⟩
    · omega
    · obtain ⟨rfl, rfl⟩ := Prod.mk.inj hdx
      have := uptoSlice_le elems rest
      omega
  obtain ⟨A1, n1, c1, rfl⟩ := okWide_slice Tryd.underlying22 (hval 1 22 v1 rfl rfl)
  obtain ⟨fuel1, hf1⟩ := h1
  obtain ⟨B1, m1, cb1, g1, xs1, hB1, hn1, hc1, hm1, hr1, hd1⟩ := open_bytesC hf1
  simp only [Value.cells] at hB1
  obtain ⟨rfl, rfl, rfl⟩ : A1 = B1 ∧ n1 = m1 ∧ c1 = cb1 := by simpa using hB1
  have hb1 : n1 ≤ 140737488351232 := by
    rcases hd1 with ⟨_, rfl⟩ | ⟨elems, rest, ps, hdx, hel, _⟩
    · omega
    · obtain ⟨rfl, rfl⟩ := Prod.mk.inj hdx
      have := sized_slice hsz (j := 1) (t := 22) (e := 5) rfl rfl Tryd.underlying22
      rw [show Tryd.prog.bytesOf 5 = 1 by kernel_rfl] at this
      simp only [reachBytes] at this
      omega
  have hu1 : n1 ≤ 1048576 := by
    rcases hd1 with ⟨_, rfl⟩ | ⟨elems, rest, ps, hdx, hel, _⟩
    · omega
    · obtain ⟨rfl, rfl⟩ := Prod.mk.inj hdx
      have := uptoSlice_le elems rest
      omega
  obtain ⟨A2, n2, c2, rfl⟩ := okWide_slice Tryd.underlying22 (hval 2 22 v2 rfl rfl)
  obtain ⟨fuel2, hf2⟩ := h2
  obtain ⟨B2, m2, cb2, g2, xs2, hB2, hn2, hc2, hm2, hr2, hd2⟩ := open_bytesC hf2
  simp only [Value.cells] at hB2
  obtain ⟨rfl, rfl, rfl⟩ : A2 = B2 ∧ n2 = m2 ∧ c2 = cb2 := by simpa using hB2
  have hb2 : n2 ≤ 140737488351232 := by
    rcases hd2 with ⟨_, rfl⟩ | ⟨elems, rest, ps, hdx, hel, _⟩
    · omega
    · obtain ⟨rfl, rfl⟩ := Prod.mk.inj hdx
      have := sized_slice hsz (j := 2) (t := 22) (e := 5) rfl rfl Tryd.underlying22
      rw [show Tryd.prog.bytesOf 5 = 1 by kernel_rfl] at this
      simp only [reachBytes] at this
      omega
  have hu2 : n2 ≤ 1048576 := by
    rcases hd2 with ⟨_, rfl⟩ | ⟨elems, rest, ps, hdx, hel, _⟩
    · omega
    · obtain ⟨rfl, rfl⟩ := Prod.mk.inj hdx
      have := uptoSlice_le elems rest
      omega
  refine (shaParts_walk A0 n0 c0 xs0 A1 n1 c1 xs1 A2 n2 c2 xs2 W ⟨_, hr0⟩ hn0 hc0 ⟨_, hr1⟩ hn1 hc1 ⟨_, hr2⟩ hn2 hc2 (by omega) (kf_of_laid hL)).mono fun e W' ⟨he, hk⟩ => ?_
  subst he
  exact ⟨_, rfl, law_post rfl rfl (by kernel_rfl) (fun ds h => by match ds, h with | [e0, e1, e2], _ => rfl) hW' hk⟩
theorem reads (os : Os) {H : Type} (enc : TypeId × Value → H) : ∃ places, DataW.whole enc Tryd.prog ((laidWorld os).forCall (fun _ _ => 0) ⟨#[], #[.slice none 0 0, .slice none 0 0, .slice none 0 0], []⟩).memory Tryd.f4.params.toList Rows.shaPartsSpec.vars false #[(.slice none 0 0 : Value), (.slice none 0 0 : Value), (.slice none 0 0 : Value)].toList 8 = some ([.nil, .nil, .nil], [], places) :=
  ⟨[], by kernel_rfl⟩
theorem laid_met (os : Os) : laidMet Tryd.prog Rows.shaPartsUptoRow.laid ((laidWorld os).forCall (fun _ _ => 0) ⟨#[], #[.slice none 0 0, .slice none 0 0, .slice none 0 0], []⟩).memory :=
  laidMet_of_run' 8 (by kernel_rfl) (by kernel_rfl)
set_option maxRecDepth 100000 in
theorem lifted (os : Os) (started : os.Started) (H : Type) (enc : TypeId × Value → H) (F : Stop.Interp) :
    ReturnsInHanded {} Tryd.checked os 4 .any ((Rows.OpenSpec.upto Rows.shaPartsSpec).preRow enc Tryd.prog Tryd.f4 Rows.shaPartsUptoRow.domain false Rows.shaPartsUptoRow.laid) (((Rows.OpenSpec.upto Rows.shaPartsSpec).at F).post enc Tryd.prog Tryd.f4 false true false false) := by
  obtain ⟨places, hx⟩ := reads os enc
  refine returnsInHanded_of_row (C := Tryd.checked) (s := Rows.OpenSpec.upto Rows.shaPartsSpec) Tryd.own started (by kernel_rfl) Tryd.func4
    (witness_row_at (enc := enc) (C := Tryd.checked) false (laidWorld os) #[.slice none 0 0, .slice none 0 0, .slice none 0 0] rfl (by kernel_rfl) (by kernel_rfl) (by kernel_rfl)
      (OpenSpec.preRow_of_cond 8 hx (by kernel_rfl) (fun k hk => by cases hk; kernel_rfl) (by kernel_rfl) (laid_met os))) ?_
  intro W base args ds gs before hval hW _ hcond hsz hL _ _
  exact contract H enc W base args ds gs before hval hW hsz (hcond _ rfl) hL
theorem said : Rows.shaPartsUptoRow.holds Tryd.pinned (Rows.OpenSpec.upto Rows.shaPartsSpec) :=
  OpenClaim.holds_of_cond 4 Tryd.f4 rfl rfl rfl rfl rfl rfl rfl ⟨rfl, rfl, rfl, rfl, rfl⟩ rfl rfl rfl rfl rfl (by kernel_rfl) Tryd.func4 (by kernel_rfl)
    (of_decide_eq_true (by kernel_rfl)) (by unfold Func.isWrapper; first | (rw [if_pos (by decide +kernel)]; kernel_rfl) | (rw [if_neg (by decide +kernel)]; exact ⟨rfl, rfl⟩))
    (fun os started H enc _ F => by rw [OpenClaim.pre_eq_preRow]; exact lifted os started H enc F)
theorem plain (f : FuncId) (fn : Func) (hf : Tryd.pinned.checked.prog.funcNamed Rows.shaPartsUptoRow.func = some f) (hfn : Tryd.pinned.checked.prog.funcs[f]? = some fn) :
    false = Tryd.pinned.checked.prog.looks [] ∧ ∀ (j : Nat) t, fn.params[j]? = some t → Tryd.pinned.checked.prog.wantsStandIn t = false := by
  obtain rfl : f = 4 := Option.some.inj ((show Tryd.prog.funcNamed Rows.shaPartsUptoRow.func = some 4 by kernel_rfl).symm.trans hf) |>.symm
  obtain rfl : fn = Tryd.f4 := (Option.some.inj (Tryd.func4.symm.trans hfn)).symm
  refine ⟨by kernel_rfl, fun j t ht => ?_⟩
  rw [Tryd.params4] at ht
  have hm : t ∈ [22, 22, 22] := by simpa using Array.mem_of_getElem? ht
  have hall : ([22, 22, 22].all fun u => !Tryd.prog.wantsStandIn u) = true := by kernel_rfl
  exact (show Tryd.prog.wantsStandIn t = false by simpa using List.all_eq_true.1 hall t hm)
end lawShaParts
theorem shaParts_holds : Rows.ShaPartsUptoCardSaid :=
  Claim7.holds_tied_plain_at .later [] _ _ _ _ lawShaParts.said (fun _ h => by cases h) (by kernel_rfl) (fun _ h => by cases h) shaPartsUpto_row_tie rfl ⟨rfl, rfl⟩ (by kernel_rfl) rfl lawShaParts.plain (by kernel_rfl)
#print axioms shaParts_holds
end Go.Proofs.YtaipgkbnmfjpfaaDoor
