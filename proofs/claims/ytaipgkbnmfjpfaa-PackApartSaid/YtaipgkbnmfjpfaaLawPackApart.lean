/- Two rows of items of the same kinds and sizes that differ have bytes that differ: for every two rows of items. No condition. -/
import Derived.Test.YtaipgkbnmfjpfaaPackApart
import Derived.Test.YtaipgkbnmfjpfaaOpenItm
namespace Go.Proofs.Ytaipgkbnmfjpfaa
open Go.ChangeShapes Go.WideShapes Go.ChangeAt Go.RowKit
namespace packApart
set_option maxRecDepth 100000 in
theorem lifted (os : Os) (started : os.Started) (H : Type) (enc : TypeId × Value → H) :
    ReturnsInHanded {} Try.checked os 6 .any (Rows.packApartSpec.pre6 enc Try.prog Try.f6 Rows.packApartRow.domain false) (Rows.packApartSpec.post enc Try.prog Try.f6 false true false false) := by
  refine returnsInHanded_of_change_sized (C := Try.checked) Try.own started (by kernel_rfl) Try.func6
    (ChangeSpec.witness6 (enc := enc) (C := Try.checked) false ⟨#[], #[.slice none 0 0, .slice none 0 0], []⟩ 8 (by kernel_rfl) (by kernel_rfl) (by kernel_rfl) (by kernel_rfl)) ?_
  intro W base args ds gs before hval0 hW hcnd hsz0 _
  have hval : ∀ (j : Nat) t v, Try.f6.params[j]? = some t → args[j]? = some v → Value.okWide Try.prog W .any base t v := hval0
  have hsz : (DataW.weightsEach Try.prog (Try.f6.params.toList ++ Rows.packApartSpec.plain.varTypes Try.prog) (ds ++ gs)).all (· ≤ reachBytes) = true := hsz0
  have hW' := hW
  obtain ⟨p, q, hA0, hV, rfl, hfz, hnd⟩ := hW
  have hA : DataW.TrodAll enc Try.prog W 0 (fun _ => true) true Try.f6.params.toList args.toList ds p := hA0
  rw [Try.params6] at hA hval hsz
  obtain ⟨v0, vs0, d0, ds0, p0, q0, hargs, rfl, rfl, h0, r0⟩ := trodAll_cons hA
  obtain ⟨v1, vs1, d1, ds1, p1, q1, rfl, rfl, rfl, h1, r1⟩ := trodAll_cons r0
  obtain ⟨rfl, rfl, rfl⟩ := trodAll_nil r1
  obtain rfl : args = #[v0, v1] := by cases args; simp_all
  have e : Try.prog.bytesOf 38 = 80 := by kernel_rfl
  obtain ⟨A, n, c, g, l, rfl, hn, hc, hm, hl, hg, hd⟩ := open_items rfl (okWide_slice Try.underlying28 (hval 0 28 v0 rfl rfl)) h0
  obtain ⟨A', n', c', g', l', rfl, hn', hc', hm', hl', hg', hd'⟩ := open_items rfl (okWide_slice Try.underlying28 (hval 1 28 v1 rfl rfl)) h1
  have hb : n ≤ 140737488355328 := by
    rcases hd with ⟨_, rfl⟩ | ⟨elems, rest, rfl, rfl⟩
    · omega
    · have := sized_slice hsz (j := 0) (t := 28) (e := 38) rfl rfl Try.underlying28
      rw [e] at this
      simp only [reachBytes] at this
      omega
  have hb' : n' ≤ 140737488355328 := by
    rcases hd' with ⟨_, rfl⟩ | ⟨elems, rest, rfl, rfl⟩
    · omega
    · have := sized_slice hsz (j := 1) (t := 28) (e := 38) rfl rfl Try.underlying28
      rw [e] at this
      simp only [reachBytes] at this
      omega
  refine (packApart_walk A g n c l A' g' n' c' l' W hn hl hb hn' hl' hb').mono fun e W' ⟨he, hk⟩ => ?_
  subst he
  exact ⟨_, rfl, law_post rfl rfl (by kernel_rfl) (fun ds h => by match ds, h with | [d, d'], _ => rfl) hW' hk⟩

theorem over : Rows.packApartRow.holds Try.pinned (OpenSpec.ofChange Rows.packApartSpec) :=
  OpenClaim.holds_of_wide 6 Try.f6 rfl rfl rfl rfl rfl rfl rfl ⟨rfl, rfl, rfl, rfl, rfl⟩ rfl rfl rfl rfl rfl (by kernel_rfl) Try.func6 (by kernel_rfl)
    (of_decide_eq_true (by kernel_rfl)) (by unfold Func.isWrapper; rw [if_neg (of_decide_eq_false (by kernel_rfl))]; exact ⟨rfl, rfl⟩)
    (fun os started H enc _ => lifted os started H enc)
end packApart
theorem packApart_holds : Rows.PackApartSaid := packApart.over
#print axioms packApart_holds
end Go.Proofs.Ytaipgkbnmfjpfaa
