/- Whatever is asked of any bytes, what is read is what stands there: for all bytes and every row of asks. No condition. -/
import Derived.Test.YtaipgkbnmfjpfaaPackReads
import Derived.Test.YtaipgkbnmfjpfaaOpenItm
namespace Go.Proofs.Ytaipgkbnmfjpfaa
open Go.ChangeShapes Go.WideShapes Go.ChangeAt Go.RowKit
namespace packReads
set_option maxRecDepth 100000 in
theorem lifted (os : Os) (started : os.Started) (H : Type) (enc : TypeId × Value → H) :
    ReturnsInHanded {} Try.checked os 4 .any (Rows.packReadsSpec.pre6 enc Try.prog Try.f4 Rows.packReadsRow.domain false) (Rows.packReadsSpec.post enc Try.prog Try.f4 false true false false) := by
  refine returnsInHanded_of_change_sized (C := Try.checked) Try.own started (by kernel_rfl) Try.func4
    (ChangeSpec.witness6 (enc := enc) (C := Try.checked) false ⟨#[], #[.slice none 0 0, .slice none 0 0], []⟩ 8 (by kernel_rfl) (by kernel_rfl) (by kernel_rfl) (by kernel_rfl)) ?_
  intro W base args ds gs before hval0 hW hcnd hsz0 _
  have hval : ∀ (j : Nat) t v, Try.f4.params[j]? = some t → args[j]? = some v → Value.okWide Try.prog W .any base t v := hval0
  have hsz : (DataW.weightsEach Try.prog (Try.f4.params.toList ++ Rows.packReadsSpec.plain.varTypes Try.prog) (ds ++ gs)).all (· ≤ reachBytes) = true := hsz0
  have hW' := hW
  obtain ⟨p, q, hA0, hV, rfl, hfz, hnd⟩ := hW
  have hA : DataW.TrodAll enc Try.prog W 0 (fun _ => true) true Try.f4.params.toList args.toList ds p := hA0
  rw [Try.params4] at hA hval hsz
  obtain ⟨v0, vs0, d0, ds0, p0, q0, hargs, rfl, rfl, h0, r0⟩ := trodAll_cons hA
  obtain ⟨v1, vs1, d1, ds1, p1, q1, rfl, rfl, rfl, h1, r1⟩ := trodAll_cons r0
  obtain ⟨rfl, rfl, rfl⟩ := trodAll_nil r1
  obtain rfl : args = #[v0, v1] := by cases args; simp_all
  obtain ⟨a0, len0, cap0, rfl⟩ := okWide_slice Try.underlying27 (hval 0 27 v0 rfl rfl)
  obtain ⟨fuel, hf⟩ := h0
  obtain ⟨B, m, cb, gb, xs, hB, hm, hcb, hmb, hx, hd0⟩ := open_bytesC hf
  simp only [Value.cells] at hB
  obtain ⟨rfl, rfl, rfl⟩ : a0 = B ∧ len0 = m ∧ cap0 = cb := by simpa using hB
  obtain ⟨A, n, c, g, l, rfl, hn, hc, hmx, hl, hg, hd⟩ := open_items rfl (okWide_slice Try.underlying28 (hval 1 28 v1 rfl rfl)) h1
  have hb : n ≤ 140737488355328 := by
    rcases hd with ⟨_, rfl⟩ | ⟨elems, rest, rfl, rfl⟩
    · omega
    · have := sized_slice hsz (j := 1) (t := 28) (e := 38) rfl rfl Try.underlying28
      have e : Try.prog.bytesOf 38 = 80 := by kernel_rfl
      rw [e] at this
      simp only [reachBytes] at this
      omega
  have hb0 : len0 ≤ 140737488355328 := by
    rcases hd0 with ⟨_, rfl⟩ | ⟨elems, rest, ps, hd0, hel, _⟩
    · omega
    · obtain ⟨rfl, rfl⟩ := Prod.mk.inj hd0
      have := sized_slice hsz (j := 0) (t := 27) (e := 5) rfl rfl Try.underlying27
      have e : Try.prog.bytesOf 5 = 1 := by kernel_rfl
      rw [e] at this
      simp only [reachBytes] at this
      omega
  refine (packReads_walk a0 gb len0 cap0 xs A g n c l W hm hx hb0 hcb hn hl hb hg).mono fun e W' ⟨he, hk⟩ => ?_
  subst he
  exact ⟨_, rfl, law_post rfl rfl (by kernel_rfl) (fun ds h => by match ds, h with | [d, d'], _ => rfl) hW' hk⟩

theorem over : Rows.packReadsRow.holds Try.pinned (OpenSpec.ofChange Rows.packReadsSpec) :=
  OpenClaim.holds_of_wide 4 Try.f4 rfl rfl rfl rfl rfl rfl rfl ⟨rfl, rfl, rfl, rfl, rfl⟩ rfl rfl rfl rfl rfl (by kernel_rfl) Try.func4 (by kernel_rfl)
    (of_decide_eq_true (by kernel_rfl)) (by unfold Func.isWrapper; rw [if_neg (of_decide_eq_false (by kernel_rfl))]; exact ⟨rfl, rfl⟩)
    (fun os started H enc _ => lifted os started H enc)
end packReads
theorem packReads_holds : Rows.PackReadsSaid := packReads.over
#print axioms packReads_holds
end Go.Proofs.Ytaipgkbnmfjpfaa
