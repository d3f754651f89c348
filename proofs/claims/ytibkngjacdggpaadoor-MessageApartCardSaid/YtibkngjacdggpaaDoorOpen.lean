import Derived.Test.YtibkngjacdggpaaDoorBase
import Derived.SizedLaws
import Derived.Carry
import Derived.Deep.Slices
/- From a walk to a row: a law that returns true and leaves what was there alone meets the row's post. -/
namespace Go.Proofs.YtibkngjacdggpaaDoor
open Go.ChangeShapes Go.WideShapes Go.ChangeAt Go.RowKit

theorem Tryd.own : ownKnob Tryd.prog.godebug = none := by kernel_rfl
theorem Tryd.laid_ok : laidOutB Tryd.prog = true := by kernel_rfl

theorem trodAll_stays {H : Type} {enc : TypeId × Value → H} {P : Program} (hl : laidOutB P = true) {W W' : World} (hb : Below W.heap.size W W') : ∀ (ts : List TypeId) (vs : List Value) (ds : List (DataW H)) (ps : List MemPlace),
    ts.all (fun t => P.readableRec t && decide (t < P.types.size)) = true → DataW.TrodAll enc P W 0 (fun _ => true) true ts vs ds ps → (∀ x ∈ ps, x.block < W.heap.size) →
    DataW.TrodAll enc P W' 0 (fun b => decide (b < W.heap.size)) true ts vs ds ps
  | [], vs, ds, ps, _, h, _ => by
    obtain ⟨rfl, rfl, rfl⟩ := trodAll_nil h
    exact trodAll_mk0
  | t :: ts, vs, ds, ps, hr, h, hlt => by
    obtain ⟨v, vs', d, ds', p, q, rfl, rfl, rfl, h0, h1⟩ := trodAll_cons h
    simp only [List.all_cons, Bool.and_eq_true, decide_eq_true_eq] at hr
    exact trodAll_cons_mk (Below.trod hl hr.1.1 hr.1.2 h0 hb (fun x hx => hlt x (List.mem_append_left _ hx)))
      (trodAll_stays hl hb ts vs' ds' q hr.2 h1 (fun x hx => hlt x (List.mem_append_right _ hx)))

theorem law_post {H : Type} {enc : TypeId × Value → H} {s : ChangeSpec} {fn : Func} (hvars : s.vars = []) (hres : fn.resultTypes = #[4])
    (hread : fn.params.toList.all (fun t => Tryd.prog.readableRec t && decide (t < Tryd.prog.types.size)) = true) (hfn : ∀ ds : List (DataW H), ds.length = fn.params.size → s.fn H ds = { results := [.lit (.bool true)], args := ds })
    {W W' : World} {args : Array Value} {ds gs : List (DataW H)} {before : List MemPlace} (hW : DataW.Whole enc Tryd.prog fn.params.toList s.vars false W args.toList ds gs before) (hk : Kept W W' No) :
    s.post enc Tryd.prog fn false true false false W args (.bool true) W' := by
  have hW' := hW
  obtain ⟨p, q, hA, hV, rfl, hfz, hnd⟩ := hW
  rw [hvars] at hV
  obtain ⟨rfl, rfl⟩ := trodVars_none hV
  have hlen : ∀ (ts : List TypeId) (vs : List Value) (ds : List (DataW H)) (ps : List MemPlace), DataW.TrodAll enc Tryd.prog W 0 (fun _ => true) true ts vs ds ps → ds.length = ts.length := by
    intro ts
    induction ts with
    | nil => intro vs ds ps h; obtain ⟨rfl, rfl, rfl⟩ := trodAll_nil h; rfl
    | cons t ts ih => intro vs ds ps h; obtain ⟨v, vs', d, ds', p, q, rfl, rfl, rfl, h0, h1⟩ := trodAll_cons h; simp [ih _ _ _ h1]
  have hd := hlen _ _ _ _ hA
  have he : s.fn H (ds ++ []) = { results := [.lit (.bool true)], args := ds } := by rw [List.append_nil]; exact hfn ds (by simpa using hd)
  refine ⟨ds, [], _, [], p, [], hW', ?_, ?_, ?_, hk.below.frame _, fun h => by cases h⟩
  · rw [he, hres]
    exact trodAll_cons_mk (shut_bool Tryd.underlying4 _) trodAll_mk0
  · rw [he]
    refine trodAll_stays Tryd.laid_ok hk.below _ _ _ _ hread hA (fun x hx => ?_)
    simpa using hW'.lt x (List.mem_append_left _ hx)
  · rw [hvars, he]
    rfl
end Go.Proofs.YtibkngjacdggpaaDoor
/- What came in: bytes, hashes. -/
namespace Go.Proofs.YtibkngjacdggpaaDoor
open Go.RowKit Go.Deep Go.ChangeShapes Go.WideShapes

theorem u8_wf {n : Int} (h : (Lit.int .u8 n).wf = true) : ∃ b : UInt8, n = b.toNat := by
  have hx : 0 ≤ n ∧ n ≤ 255 := by simpa [Lit.wf, IntKind.min, IntKind.max, IntKind.signed, IntKind.bits] using h
  exact ⟨UInt8.ofNat n.toNat, by simp [UInt8.toNat_ofNat']; omega⟩
theorem u64_wf {n : Int} (h : (Lit.int .u64 n).wf = true) : ∃ b : Nat, n = b ∧ b < 18446744073709551616 := by
  have hx : 0 ≤ n ∧ n ≤ 18446744073709551615 := by simpa [Lit.wf, IntKind.min, IntKind.max, IntKind.signed, IntKind.bits] using h
  exact ⟨n.toNat, by omega, by omega⟩
theorem i64_wf {n : Int} (h : (Lit.int .i64 n).wf = true) : -9223372036854775808 ≤ n ∧ n ≤ 9223372036854775807 := by
  simpa [Lit.wf, IntKind.min, IntKind.max, IntKind.signed, IntKind.bits] using h

/-- one cell that is there lies at no 'spot' -/
theorem cell_plain {w : World} {a : Addr} {v : Value} (h : w.cell? a = some v) : a.spot = none := by
  unfold World.cell? at h
  split at h
  · split at h
    · cases h
    · rename_i hs; simpa using hs
  · cases h
theorem add_spot {a : Addr} (h : (a.add 0).spot = none) : a = ⟨a.block, a.off, none⟩ := by
  unfold Addr.add at h
  simp at h
  cases a
  simp_all

section
variable {H : Type} {enc : TypeId × Value → H} {w : World} {base : Nat} {spare : Nat → Bool} {held : Bool} {fuel : Nat}
theorem open_bytesC {cs : List Value} {x : DataW H × List MemPlace} (h : DataW.trod enc Tryd.prog w base spare held fuel 23 cs = some x) :
    ∃ A n c g xs, cs = [.slice A n c] ∧ n = xs.length ∧ n ≤ c ∧ c ≤ maxLen ∧ RB w g A xs ∧ (x = (.nil, []) ∧ n = 0 ∨ ∃ elems rest ps, x = (.slice elems rest, ps) ∧ elems.length = n ∧ (spare g = true ∧ n ≠ 0 → n + rest.length = c)) := by
  have hc1 : Tryd.prog.cellsOf 5 = 1 := by kernel_rfl
  rcases open_slice1 Tryd.underlying23 hc1 h with ⟨rfl, rfl⟩ | ⟨a, len, cap, m, n, V, D, Pl, rfl, hb, hl, hm, hmm, rfl, hx⟩
  · exact ⟨none, 0, 0, 0, [], rfl, rfl, Nat.le_refl _, by simp [maxLen], RB.nil _ _ _, .inl ⟨rfl, rfl⟩⟩
  · have hml : len ≤ m := by rw [hmm]; split <;> omega
    have hv : ∀ i, i < m → ∃ b : UInt8, V i = bc b := fun i hi => by
      obtain ⟨k, hk, _, hw⟩ := DataW.trod_int Tryd.underlying5 (hx i hi).2
      obtain ⟨b, rfl⟩ := u8_wf hw
      exact ⟨b, by simpa [bc] using hk⟩
    obtain ⟨B, hB⟩ := choose_lt hv
    refine ⟨some a, len, cap, a.block, (List.range len).map B, rfl, by simp, hl, hm, ?_, .inr ⟨_, _, _, rfl, by simp, ?_⟩⟩
    · intro hne
      have hpos : 0 < len := by
        rcases Nat.eq_zero_or_pos len with h0 | h0
        · subst h0; simp at hne
        · exact h0
      have hsp := add_spot (cell_plain (hx 0 (by omega)).1)
      refine ⟨a.off, by rw [hsp], fun j hj => ?_⟩
      simp only [List.length_map, List.length_range] at hj
      have := (hx j (by omega)).1
      rw [hsp, add_plain] at this
      rw [this, hB j (by omega)]
      simp [List.getD, hj]
    · rintro ⟨hs, _⟩
      rw [hmm, hs]
      simp; omega

/-- a struct's field, by its offset, type and size -/
theorem trod_field {P : Program} {t : TypeId} {cs : List Value} {m : Nat} {xs : List (DataW H × List MemPlace)} {fs : Array Field}
    (hx : ∀ (i : Nat) (f : Field), fs[i]? = some f → DataW.trod enc P w base spare held m f.type ((cs.drop f.offset).take (P.cellsOf f.type)) = xs[i]?) (hl : xs.length = fs.size) (i o n : Nat)
    (hf : (fs[i]?).map (fun f => (f.type, f.offset)) = some (t, o)) (hn : P.cellsOf t = n) : ∃ x, DataW.trod enc P w base spare held m t ((cs.drop o).take n) = some x := by
  obtain ⟨f, hff, he⟩ := Option.map_eq_some_iff.1 hf
  simp only [Prod.mk.injEq] at he
  obtain ⟨rfl, rfl⟩ := he
  have hi : i < xs.length := by rw [hl]; exact (Array.getElem?_eq_some_iff.1 hff).1
  have := hx i f hff
  rw [hn, List.getElem?_eq_getElem hi] at this
  exact ⟨_, this⟩
theorem open_hashC {cs : List Value} {x : DataW H × List MemPlace} (h : DataW.trod enc Tryd.prog w base spare held fuel 22 cs = some x) : ∃ hs : List UInt8, hs.length = 32 ∧ cs = bcs hs := by
  have hc1 : Tryd.prog.cellsOf 5 = 1 := by kernel_rfl
  have hc2 : Tryd.prog.cellsOf 22 = 32 := by kernel_rfl
  obtain ⟨xs, m, rfl, rfl, hl, hxl, hx⟩ := DataW.trod_array Tryd.underlying22 h
  rw [hc2] at hl
  have hv : ∀ i, i < 32 → ∃ b : UInt8, cs[i]? = some (bc b) := fun i hi => by
    have h1 := hx i hi
    rw [hc1, Nat.mul_one] at h1
    have h2 : i < xs.length := by omega
    rw [List.getElem?_eq_getElem h2] at h1
    obtain ⟨k, hk, _, hw⟩ := DataW.trod_int Tryd.underlying5 h1
    obtain ⟨b, rfl⟩ := u8_wf hw
    refine ⟨b, ?_⟩
    have := congrArg (·[0]?) hk
    simpa [List.getElem?_take, bc] using this
  obtain ⟨B, hB⟩ := choose_lt hv
  refine ⟨(List.range 32).map B, by simp, ?_⟩
  apply List.ext_getElem?
  intro i
  by_cases hi : i < 32
  · rw [hB i hi]
    simp [bcs, hi]
  · rw [List.getElem?_eq_none (by omega), List.getElem?_eq_none (by simp [bcs]; omega)]
end
end Go.Proofs.YtibkngjacdggpaaDoor
