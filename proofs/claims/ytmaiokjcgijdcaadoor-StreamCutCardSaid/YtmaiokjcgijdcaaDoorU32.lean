/- Numbers of 32 bits as cells, and what the operations make of them. -/
import Derived.Test.YtmaiokjcgijdcaaDoorArr
namespace Go.Proofs.YtmaiokjcgijdcaaDoor
open Go.RowKit

/-- A number of 32 bits as a cell. -/
def wc (x : UInt32) : Value := .int .u32 x.toNat
def shl32 (x : UInt32) (n : Nat) : UInt32 := x <<< UInt32.ofNat n
def shr32 (x : UInt32) (n : Nat) : UInt32 := x >>> UInt32.ofNat n
def rotr (x : UInt32) (n : Nat) : UInt32 := shl32 x (32 - n) ||| shr32 x n
def not32 (x : UInt32) : UInt32 := ~~~ x
theorem wc_one (x : UInt32) : (wc x).oneCell' = true := rfl
theorem wrap_u32 (n : Int) : IntKind.u32.wrap n = n % 4294967296 := by
  simp [IntKind.wrap, IntKind.signed, IntKind.bits]
theorem u32_ofInt (x : UInt32) : (BitVec.ofInt 32 (x.toNat : Int)) = x.toBitVec := by
  apply BitVec.eq_of_toNat_eq
  have : x.toNat < 4294967296 := x.toNat_lt
  simp
section
variable {P : Program} (w : World) (t t2 : TypeId) (x y : UInt32)
@[go_sem] theorem run_add_wc : (binOp .add t (wc x) (wc y)).run P w = .ok (wc (x + y)) w := by
  simp [binOp, wc, Op.intArith, wrap_u32, UInt32.toNat_add]
@[go_sem] theorem run_xor_wc : (binOp .xor t (wc x) (wc y)).run P w = .ok (wc (x ^^^ y)) w := by
  have h : (x ^^^ y).toNat < 4294967296 := (x ^^^ y).toNat_lt
  show Result.ok (Value.int .u32 (IntKind.u32.wrap ((BitVec.ofInt 32 (x.toNat : Int) ^^^ BitVec.ofInt 32 (y.toNat : Int)).toNat : Int))) w = _
  rw [u32_ofInt, u32_ofInt, ← UInt32.toBitVec_xor, UInt32.toNat_toBitVec, wrap_u32, wc]
  congr 2; omega
@[go_sem] theorem run_and_wc : (binOp .and t (wc x) (wc y)).run P w = .ok (wc (x &&& y)) w := by
  have h : (x &&& y).toNat < 4294967296 := (x &&& y).toNat_lt
  show Result.ok (Value.int .u32 (IntKind.u32.wrap ((BitVec.ofInt 32 (x.toNat : Int) &&& BitVec.ofInt 32 (y.toNat : Int)).toNat : Int))) w = _
  rw [u32_ofInt, u32_ofInt, ← UInt32.toBitVec_and, UInt32.toNat_toBitVec, wrap_u32, wc]
  congr 2; omega
@[go_sem] theorem run_or_wc : (binOp .or t (wc x) (wc y)).run P w = .ok (wc (x ||| y)) w := by
  have h : (x ||| y).toNat < 4294967296 := (x ||| y).toNat_lt
  show Result.ok (Value.int .u32 (IntKind.u32.wrap ((BitVec.ofInt 32 (x.toNat : Int) ||| BitVec.ofInt 32 (y.toNat : Int)).toNat : Int))) w = _
  rw [u32_ofInt, u32_ofInt, ← UInt32.toBitVec_or, UInt32.toNat_toBitVec, wrap_u32, wc]
  congr 2; omega
theorem shl32_toNat (n : Nat) (hn : n < 32) : (shl32 x n).toNat = x.toNat * 2 ^ n % 4294967296 := by
  have : n % 4294967296 % 32 = n := by omega
  simp [shl32, UInt32.toNat_shiftLeft, Nat.shiftLeft_eq, this]
theorem shr32_toNat (n : Nat) (hn : n < 32) : (shr32 x n).toNat = x.toNat / 2 ^ n := by
  have : n % 4294967296 % 32 = n := by omega
  simp [shr32, UInt32.toNat_shiftRight, Nat.shiftRight_eq_div_pow, this]
theorem run_shl_wc (k : IntKind) (n : Nat) (hn : n < 32) : (binOp .shl t (wc x) (.int k (n : Int)) ).run P w = .ok (wc (shl32 x n)) w := by
  have h1 : ¬ ((n : Int) < 0) := by omega
  have h2 : min n 32 = n := by omega
  simp only [binOp, wc, Op.shift, h1, if_false, Int.toNat_natCast, IntKind.bits, h2, wrap_u32, Sem.run_pure, shl32_toNat x n hn]
  congr 2
theorem run_shr_wc (k : IntKind) (n : Nat) (hn : n < 32) : (binOp .shr t (wc x) (.int k (n : Int))).run P w = .ok (wc (shr32 x n)) w := by
  have h1 : ¬ ((n : Int) < 0) := by omega
  have h2 : min n 32 = n := by omega
  simp only [binOp, wc, Op.shift, h1, if_false, Int.toNat_natCast, IntKind.bits, h2, Sem.run_pure, shr32_toNat x n hn]
  congr 2
  rw [Int.fdiv_eq_ediv_of_nonneg _ (Int.le_of_lt (Int.pow_pos (by decide)))]
  norm_cast
@[go_sem] theorem run_shl_wc' (k : IntKind) (n : Int) (h0 : 0 ≤ n) (h1 : n < 32) : (binOp .shl t (wc x) (.int k n)).run P w = .ok (wc (shl32 x n.toNat)) w := by
  obtain ⟨m, rfl⟩ := Int.eq_ofNat_of_zero_le h0
  exact run_shl_wc w t x k m (by omega)
@[go_sem] theorem run_shr_wc' (k : IntKind) (n : Int) (h0 : 0 ≤ n) (h1 : n < 32) : (binOp .shr t (wc x) (.int k n)).run P w = .ok (wc (shr32 x n.toNat)) w := by
  obtain ⟨m, rfl⟩ := Int.eq_ofNat_of_zero_le h0
  exact run_shr_wc w t x k m (by omega)
end
@[go_sem] theorem run_not_wc {P : Program} (w : World) (x : UInt32) : (Op.unary .xor (wc x)).run P w = .ok (wc (not32 x)) w := by
  have h : (not32 x).toNat < 4294967296 := (not32 x).toNat_lt
  show Result.ok (Value.int .u32 (IntKind.u32.wrap ((BitVec.ofInt 32 (4294967295 : Int) ^^^ BitVec.ofInt 32 (x.toNat : Int)).toNat : Int))) w = _
  rw [u32_ofInt, show BitVec.ofInt 32 (4294967295 : Int) = BitVec.allOnes 32 from rfl, BitVec.allOnes_xor, ← UInt32.toBitVec_not, UInt32.toNat_toBitVec, wrap_u32, wc]
  show Result.ok (Value.int .u32 ((not32 x).toNat % 4294967296)) w = _
  congr 2; omega

@[go_sem ↓] theorem cells_wc (x : UInt32) : (wc x).cells = #[wc x] := rfl
@[go_sem ↓] theorem cells_bc (x : UInt8) : (bc x).cells = #[bc x] := rfl
@[go_sem] theorem run_store_wc (P : Program) (w : World) (a : Addr) (m : Mode) (x : UInt32) : (store a (wc x) m).run P w = stored P w a (wc x) m := run_store P w a _ m rfl
@[go_sem] theorem run_store_bc (P : Program) (w : World) (a : Addr) (m : Mode) (x : UInt8) : (store a (bc x) m).run P w = stored P w a (bc x) m := run_store P w a _ m rfl

/-! ### conversions -/
section
variable (w : World)
@[go_sem] theorem run_conv_bw (x : UInt8) : (convert 5 84 (bc x)).run Tryd.prog w = .ok (wc x.toUInt32) w := by
  have h : x.toNat < 256 := x.toNat_lt
  have hw : IntKind.u32.wrap (x.toNat : Int) = (x.toNat : Int) := by rw [wrap_u32]; omega
  simp [convert, run_underlying Tryd.underlying5, run_underlying Tryd.underlying84, bc, Conv.intToInt, hw, wc]
@[go_sem] theorem run_conv_wb (x : UInt32) : (convert 84 5 (wc x)).run Tryd.prog w = .ok (bc x.toUInt8) w := by
  have hw : IntKind.u8.wrap (x.toNat : Int) = ((x.toUInt8).toNat : Int) := by
    simp [IntKind.wrap, IntKind.signed, IntKind.bits, UInt32.toNat_toUInt8]
  simp [convert, run_underlying Tryd.underlying5, run_underlying Tryd.underlying84, bc, Conv.intToInt, hw, wc]
end

/-! ### lists of such cells -/
def wcs (l : List UInt32) : List Value := l.map wc
@[simp] theorem length_wcs (l : List UInt32) : (wcs l).length = l.length := by simp [wcs]
theorem wcs_get (l : List UInt32) (j : Nat) : (wcs l)[j]? = l[j]?.map wc := by simp [wcs]
theorem wcs_one {l : List UInt32} : ∀ u ∈ wcs l, u.oneCell' = true := by
  intro u hu
  simp only [wcs, List.mem_map] at hu
  obtain ⟨b, _, rfl⟩ := hu
  rfl
theorem wcs_append (a b : List UInt32) : wcs (a ++ b) = wcs a ++ wcs b := by simp [wcs]

/-- a turn to the right -/
theorem rot_ok (x : UInt32) (n : Nat) (hn : n ∈ [2, 6, 7, 11, 13, 17, 18, 19, 22, 25]) (w : World) :
    Calls Tryd.prog 56 #[wc x, .int .i64 (-(n : Int))] w fun e w' => e = .returned (wc (rotr x n)) ∧ w = w' := by
  have e2 : bits .and .u64 (IntKind.u64.wrap (-2)) 31 = 30 := by decide
  have e6 : bits .and .u64 (IntKind.u64.wrap (-6)) 31 = 26 := by decide
  have e7 : bits .and .u64 (IntKind.u64.wrap (-7)) 31 = 25 := by decide
  have e11 : bits .and .u64 (IntKind.u64.wrap (-11)) 31 = 21 := by decide
  have e13 : bits .and .u64 (IntKind.u64.wrap (-13)) 31 = 19 := by decide
  have e17 : bits .and .u64 (IntKind.u64.wrap (-17)) 31 = 15 := by decide
  have e18 : bits .and .u64 (IntKind.u64.wrap (-18)) 31 = 14 := by decide
  have e19 : bits .and .u64 (IntKind.u64.wrap (-19)) 31 = 13 := by decide
  have e22 : bits .and .u64 (IntKind.u64.wrap (-22)) 31 = 10 := by decide
  have e25 : bits .and .u64 (IntKind.u64.wrap (-25)) 31 = 7 := by decide
  simp only [List.mem_cons, List.not_mem_nil, or_false] at hn
  rcases hn with rfl | rfl | rfl | rfl | rfl | rfl | rfl | rfl | rfl | rfl
  all_goals
    go_enter Tryd.func56, Tryd.ntmps56
    go_wp2
    go_ret
    exact ⟨rfl, rfl⟩
end Go.Proofs.YtmaiokjcgijdcaaDoor
