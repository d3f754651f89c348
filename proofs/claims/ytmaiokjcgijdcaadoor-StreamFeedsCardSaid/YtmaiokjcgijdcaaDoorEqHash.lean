/- Two arrays of 32 bytes, compared with ==. -/
import Derived.Test.YtmaiokjcgijdcaaDoorArr
import Derived.ChangeKeysEq
namespace Go.Proofs.YtmaiokjcgijdcaaDoor
open Go.RowKit

theorem bc_get (a : List UInt8) (i : Nat) (h : i < a.length) : (bcs a).toArray[i]? = some (bc a[i]) := by
  simp [bcs, h]

theorem run_eqItems_b (d : Nat) (a b : List UInt8) (w : World) : ∀ (is : List Nat), (∀ i ∈ is, i < a.length ∧ i < b.length) →
    (Op.eqItems (d + 1) 5 1 (bcs a).toArray (bcs b).toArray is).run Tryd.prog w = .ok (is.all fun i => a[i]? == b[i]?) w
  | [], _ => by simp [Op.eqItems]
  | i :: is, h => by
    obtain ⟨ha, hb⟩ := h i (by simp)
    have pk : Tryd.prog.plainKey 5 = true := by kernel_rfl
    have p1 := run_part_plain (P := Tryd.prog) w pk (off := i * 1) (by rw [Nat.mul_one]; exact bc_get a i ha)
    have p2 := run_part_plain (P := Tryd.prog) w pk (off := i * 1) (by rw [Nat.mul_one]; exact bc_get b i hb)
    have p3 := run_equalIn_int (P := Tryd.prog) w d 5 .u8 .u8 (a[i].toNat : Int) (b[i].toNat : Int) Tryd.underlying5
    have ih := run_eqItems_b d a b w is (fun j hj => h j (by simp [hj]))
    have hq : (((a[i].toNat : Int) == (b[i].toNat : Int)) : Bool) = (a[i]? == b[i]?) := by
      rw [List.getElem?_eq_getElem ha, List.getElem?_eq_getElem hb, Bool.eq_iff_iff]
      simp only [beq_iff_eq, Option.some.injEq, Int.natCast_inj, ← UInt8.toNat_inj]
    simp only [Op.eqItems, Sem.run_bind, p1, p2, Result.andThen_ok]
    rw [show bc a[i] = .int .u8 (a[i].toNat : Int) from rfl, show bc b[i] = .int .u8 (b[i].toNat : Int) from rfl, p3, List.all_cons, ← hq]
    cases hv : ((a[i].toNat : Int) == (b[i].toNat : Int))
    · simp
    · simpa [hv] using ih

theorem all_range (a b : List UInt8) (n : Nat) (ha : a.length = n) (hb : b.length = n) : ((List.range n).all fun i => a[i]? == b[i]?) = (a == b) := by
  rw [Bool.eq_iff_iff, List.all_eq_true, beq_iff_eq]
  constructor
  · intro h
    apply List.ext_getElem? 
    intro i
    by_cases hi : i < n
    · simpa using h i (by simpa using hi)
    · rw [List.getElem?_eq_none (by omega), List.getElem?_eq_none (by omega)]
  · rintro rfl i _
    simp

theorem infoU8' : ∃ i, Tryd.prog.info? 5 = some i := by
  have h : (Tryd.prog.info? 5).isSome = true := by kernel_rfl
  exact Option.isSome_iff_exists.1 h

theorem run_equalIn_b (d : Nat) (a b : List UInt8) (ha : a.length = 32) (hb : b.length = 32) (w : World) :
    (Op.equalIn (d + 2) 77 (.agg (bcs a).toArray) (.agg (bcs b).toArray)).run Tryd.prog w = .ok (a == b) w := by
  obtain ⟨i, hi⟩ := infoU8'
  rw [run_equalIn_array (P := Tryd.prog) w (d + 1) _ _ Tryd.underlying77 hi, show Tryd.prog.cellsOf 5 = 1 by kernel_rfl, run_eqItems_b d a b w _ (by intro i hi; simp at hi; omega), all_range a b 32 ha hb]

@[go_sem] theorem run_eql_b (a b : List UInt8) (ha : a.length = 32) (hb : b.length = 32) (w : World) :
    (binOp .eql 77 (.agg (bcs a).toArray) (.agg (bcs b).toArray)).run Tryd.prog w = .ok (.bool (a == b)) w := by
  rw [run_eql_struct, run_equalIn_b 9998 a b ha hb]; rfl
@[go_sem] theorem run_neq_b (a b : List UInt8) (ha : a.length = 32) (hb : b.length = 32) (w : World) :
    (binOp .neq 77 (.agg (bcs a).toArray) (.agg (bcs b).toArray)).run Tryd.prog w = .ok (.bool (!(a == b))) w := by
  rw [run_neq_struct, run_equalIn_b 9998 a b ha hb]; rfl
@[go_sem] theorem run_equalIn_b' (a b : List UInt8) (ha : a.length = 32) (hb : b.length = 32) (w : World) :
    (Op.equalIn 10000 77 (.agg (bcs a).toArray) (.agg (bcs b).toArray)).run Tryd.prog w = .ok (a == b) w := run_equalIn_b 9998 a b ha hb w
/-- Against the zero array as `Op.build` leaves it. -/
@[go_sem] theorem run_equalIn_zero (a : List UInt8) (ha : a.length = 32) (w : World) :
    (Op.equalIn 10000 77 (.agg (bcs a).toArray) (.agg #[.int .u8 0, .int .u8 0, .int .u8 0, .int .u8 0, .int .u8 0, .int .u8 0, .int .u8 0, .int .u8 0, .int .u8 0, .int .u8 0, .int .u8 0, .int .u8 0, .int .u8 0, .int .u8 0, .int .u8 0, .int .u8 0, .int .u8 0, .int .u8 0, .int .u8 0, .int .u8 0, .int .u8 0, .int .u8 0, .int .u8 0, .int .u8 0, .int .u8 0, .int .u8 0, .int .u8 0, .int .u8 0, .int .u8 0, .int .u8 0, .int .u8 0, .int .u8 0])).run Tryd.prog w = .ok (a == zeros 32) w := by
  have h := run_equalIn_b 9998 a (zeros 32) ha (by simp [zeros]) w
  rwa [show (bcs (zeros 32)).toArray = #[.int .u8 0, .int .u8 0, .int .u8 0, .int .u8 0, .int .u8 0, .int .u8 0, .int .u8 0, .int .u8 0, .int .u8 0, .int .u8 0, .int .u8 0, .int .u8 0, .int .u8 0, .int .u8 0, .int .u8 0, .int .u8 0, .int .u8 0, .int .u8 0, .int .u8 0, .int .u8 0, .int .u8 0, .int .u8 0, .int .u8 0, .int .u8 0, .int .u8 0, .int .u8 0, .int .u8 0, .int .u8 0, .int .u8 0, .int .u8 0, .int .u8 0, .int .u8 0] from rfl] at h

/-- A whole row is read in a region that draws its order. -/
theorem takeH_load {P : Program} {md : Region.Mode} {l : List Oper} {Q : Exit → Act → World → Prop} {S : World → Prop} (i : Nat) {oi : Oper} {fuel : Nat} {listed : Array Bool} {a : Act} {w : World} (hi : nthOp l i = some oi)
    (hs : Region.noSelect l.toArray = true) (hf : Region.free md l.toArray listed i = true) (hr : (Region.ready md l.toArray listed).contains i = true)
    (hQ : ∀ v c a w, Q (.panic c) (a.put oi.dst v) w → Q (.panic c) a w) (hw : Region.wanted oi (yielded l.toArray a.tmps) = true) (hS : S w)
    (ty : TypeId) (x : Operand) (ho : oi.op = .load ty x) (b o : Nat) (hx : a.eval x = .pointer (some ⟨b, o, none⟩)) (cs : List Value) (d : TypeDesc) (hSr : ∀ w, S w → w.rangeAt b o cs)
    (hu : P.underlying ty = some d) (hd : d.isRow = true) (hin : (P.info? ty).map (·.size) = some cs.length)
    (h : wpAnyH P md l.toArray Q S fuel (listed.setIfInBounds i true) (a.put oi.dst (.agg cs.toArray)) w) : wpAnyH P md l.toArray Q S (fuel + 1) listed a w :=
  takeH i (.agg cs.toArray) hi hs hf hr (fun c a w => hQ _ c a w) hw hS (fun w hw' => by
    unfold execOp
    simp only [ho, hx, Instr.loadAt, Instr.sureAddr, Sem.run_bind, Sem.run_pure, Result.andThen_ok, run_loadVar_mid w b o ty cs d (hSr w hw') hu hd hin]) h
end Go.Proofs.YtmaiokjcgijdcaaDoor
