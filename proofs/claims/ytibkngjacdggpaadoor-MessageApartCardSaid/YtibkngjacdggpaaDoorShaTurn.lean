import Derived.Test.YtibkngjacdggpaaDoorBase
import Derived.Test.YtibkngjacdggpaaDoorSl
/- Numbers of 32 bits as cells, and what the operations make of them. -/
namespace Go.Proofs.YtibkngjacdggpaaDoor
open Go.RowKit

/-- A number of 32 bits as a cell. -/
def wc (x : UInt32) : Value := .int .u32 x.toNat
def shl32 (x : UInt32) (n : Nat) : UInt32 := x <<< UInt32.ofNat n
def shr32 (x : UInt32) (n : Nat) : UInt32 := x >>> UInt32.ofNat n
def rotr (x : UInt32) (n : Nat) : UInt32 := shl32 x (32 - n) ||| shr32 x n
def not32 (x : UInt32) : UInt32 := ~~~ x
theorem wc_one (x : UInt32) : (wc x).oneCell' = true := rfl
theorem wrap_u32 (n : Int) : IntKind.u32.wrap n = n % 4294967296 := by
  simp [IntKind.wrap, IntKind.signed, IntKind.bits]
theorem u32_ofInt (x : UInt32) : (BitVec.ofInt 32 (x.toNat : Int)) = x.toBitVec := by
  apply BitVec.eq_of_toNat_eq
  have : x.toNat < 4294967296 := x.toNat_lt
  simp
section
variable {P : Program} (w : World) (t t2 : TypeId) (x y : UInt32)
@[go_sem] theorem run_add_wc : (binOp .add t (wc x) (wc y)).run P w = .ok (wc (x + y)) w := by
  simp [binOp, wc, Op.intArith, wrap_u32, UInt32.toNat_add]
@[go_sem] theorem run_xor_wc : (binOp .xor t (wc x) (wc y)).run P w = .ok (wc (x ^^^ y)) w := by
  have h : (x ^^^ y).toNat < 4294967296 := (x ^^^ y).toNat_lt
  show Result.ok (Value.int .u32 (IntKind.u32.wrap ((BitVec.ofInt 32 (x.toNat : Int) ^^^ BitVec.ofInt 32 (y.toNat : Int)).toNat : Int))) w = _
  rw [u32_ofInt, u32_ofInt, ← UInt32.toBitVec_xor, UInt32.toNat_toBitVec, wrap_u32, wc]
  congr 2; omega
@[go_sem] theorem run_and_wc : (binOp .and t (wc x) (wc y)).run P w = .ok (wc (x &&& y)) w := by
  have h : (x &&& y).toNat < 4294967296 := (x &&& y).toNat_lt
  show Result.ok (Value.int .u32 (IntKind.u32.wrap ((BitVec.ofInt 32 (x.toNat : Int) &&& BitVec.ofInt 32 (y.toNat : Int)).toNat : Int))) w = _
  rw [u32_ofInt, u32_ofInt, ← UInt32.toBitVec_and, UInt32.toNat_toBitVec, wrap_u32, wc]
  congr 2; omega
@[go_sem] theorem run_or_wc : (binOp .or t (wc x) (wc y)).run P w = .ok (wc (x ||| y)) w := by
  have h : (x ||| y).toNat < 4294967296 := (x ||| y).toNat_lt
  show Result.ok (Value.int .u32 (IntKind.u32.wrap ((BitVec.ofInt 32 (x.toNat : Int) ||| BitVec.ofInt 32 (y.toNat : Int)).toNat : Int))) w = _
  rw [u32_ofInt, u32_ofInt, ← UInt32.toBitVec_or, UInt32.toNat_toBitVec, wrap_u32, wc]
  congr 2; omega
theorem shl32_toNat (n : Nat) (hn : n < 32) : (shl32 x n).toNat = x.toNat * 2 ^ n % 4294967296 := by
  have : n % 4294967296 % 32 = n := by omega
  simp [shl32, UInt32.toNat_shiftLeft, Nat.shiftLeft_eq, this]
theorem shr32_toNat (n : Nat) (hn : n < 32) : (shr32 x n).toNat = x.toNat / 2 ^ n := by
  have : n % 4294967296 % 32 = n := by omega
  simp [shr32, UInt32.toNat_shiftRight, Nat.shiftRight_eq_div_pow, this]
theorem run_shl_wc (k : IntKind) (n : Nat) (hn : n < 32) : (binOp .shl t (wc x) (.int k (n : Int)) ).run P w = .ok (wc (shl32 x n)) w := by
  have h1 : ¬ ((n : Int) < 0) := by omega
  have h2 : min n 32 = n := by omega
  simp only [binOp, wc, Op.shift, h1, if_false, Int.toNat_natCast, IntKind.bits, h2, wrap_u32, Sem.run_pure, shl32_toNat x n hn]
  congr 2
theorem run_shr_wc (k : IntKind) (n : Nat) (hn : n < 32) : (binOp .shr t (wc x) (.int k (n : Int))).run P w = .ok (wc (shr32 x n)) w := by
  have h1 : ¬ ((n : Int) < 0) := by omega
  have h2 : min n 32 = n := by omega
  simp only [binOp, wc, Op.shift, h1, if_false, Int.toNat_natCast, IntKind.bits, h2, Sem.run_pure, shr32_toNat x n hn]
  congr 2
  rw [Int.fdiv_eq_ediv_of_nonneg _ (Int.le_of_lt (Int.pow_pos (by decide)))]
  norm_cast
@[go_sem] theorem run_shl_wc' (k : IntKind) (n : Int) (h0 : 0 ≤ n) (h1 : n < 32) : (binOp .shl t (wc x) (.int k n)).run P w = .ok (wc (shl32 x n.toNat)) w := by
  obtain ⟨m, rfl⟩ := Int.eq_ofNat_of_zero_le h0
  exact run_shl_wc w t x k m (by omega)
@[go_sem] theorem run_shr_wc' (k : IntKind) (n : Int) (h0 : 0 ≤ n) (h1 : n < 32) : (binOp .shr t (wc x) (.int k n)).run P w = .ok (wc (shr32 x n.toNat)) w := by
  obtain ⟨m, rfl⟩ := Int.eq_ofNat_of_zero_le h0
  exact run_shr_wc w t x k m (by omega)
end
@[go_sem] theorem run_not_wc {P : Program} (w : World) (x : UInt32) : (Op.unary .xor (wc x)).run P w = .ok (wc (not32 x)) w := by
  have h : (not32 x).toNat < 4294967296 := (not32 x).toNat_lt
  show Result.ok (Value.int .u32 (IntKind.u32.wrap ((BitVec.ofInt 32 (4294967295 : Int) ^^^ BitVec.ofInt 32 (x.toNat : Int)).toNat : Int))) w = _
  rw [u32_ofInt, show BitVec.ofInt 32 (4294967295 : Int) = BitVec.allOnes 32 from rfl, BitVec.allOnes_xor, ← UInt32.toBitVec_not, UInt32.toNat_toBitVec, wrap_u32, wc]
  show Result.ok (Value.int .u32 ((not32 x).toNat % 4294967296)) w = _
  congr 2; omega

@[go_sem ↓] theorem cells_wc (x : UInt32) : (wc x).cells = #[wc x] := rfl
@[go_sem ↓] theorem cells_bc (x : UInt8) : (bc x).cells = #[bc x] := rfl
@[go_sem] theorem run_store_wc (P : Program) (w : World) (a : Addr) (m : Mode) (x : UInt32) : (store a (wc x) m).run P w = stored P w a (wc x) m := run_store P w a _ m rfl
@[go_sem] theorem run_store_bc (P : Program) (w : World) (a : Addr) (m : Mode) (x : UInt8) : (store a (bc x) m).run P w = stored P w a (bc x) m := run_store P w a _ m rfl

/-! ### conversions -/
section
variable (w : World)
@[go_sem] theorem run_conv_bw (x : UInt8) : (convert 5 89 (bc x)).run Tryd.prog w = .ok (wc x.toUInt32) w := by
  have h : x.toNat < 256 := x.toNat_lt
  have hw : IntKind.u32.wrap (x.toNat : Int) = (x.toNat : Int) := by rw [wrap_u32]; omega
  simp [convert, run_underlying Tryd.underlying5, run_underlying Tryd.underlying89, bc, Conv.intToInt, hw, wc]
@[go_sem] theorem run_conv_wb (x : UInt32) : (convert 89 5 (wc x)).run Tryd.prog w = .ok (bc x.toUInt8) w := by
  have hw : IntKind.u8.wrap (x.toNat : Int) = ((x.toUInt8).toNat : Int) := by
    simp [IntKind.wrap, IntKind.signed, IntKind.bits, UInt32.toNat_toUInt8]
  simp [convert, run_underlying Tryd.underlying5, run_underlying Tryd.underlying89, bc, Conv.intToInt, hw, wc]
end

/-! ### lists of such cells -/
def wcs (l : List UInt32) : List Value := l.map wc
@[simp] theorem length_wcs (l : List UInt32) : (wcs l).length = l.length := by simp [wcs]
theorem wcs_get (l : List UInt32) (j : Nat) : (wcs l)[j]? = l[j]?.map wc := by simp [wcs]
theorem wcs_one {l : List UInt32} : ∀ u ∈ wcs l, u.oneCell' = true := by
  intro u hu
  simp only [wcs, List.mem_map] at hu
  obtain ⟨b, _, rfl⟩ := hu
  rfl
theorem wcs_append (a b : List UInt32) : wcs (a ++ b) = wcs a ++ wcs b := by simp [wcs]

/-- a turn to the right -/
theorem rot_ok (x : UInt32) (n : Nat) (hn : n ∈ [2, 6, 7, 11, 13, 17, 18, 19, 22, 25]) (w : World) :
    Calls Tryd.prog 110 #[wc x, .int .i64 (-(n : Int))] w fun e w' => e = .returned (wc (rotr x n)) ∧ w = w' := by
  have e2 : bits .and .u64 (IntKind.u64.wrap (-2)) 31 = 30 := by decide
  have e6 : bits .and .u64 (IntKind.u64.wrap (-6)) 31 = 26 := by decide
  have e7 : bits .and .u64 (IntKind.u64.wrap (-7)) 31 = 25 := by decide
  have e11 : bits .and .u64 (IntKind.u64.wrap (-11)) 31 = 21 := by decide
  have e13 : bits .and .u64 (IntKind.u64.wrap (-13)) 31 = 19 := by decide
  have e17 : bits .and .u64 (IntKind.u64.wrap (-17)) 31 = 15 := by decide
  have e18 : bits .and .u64 (IntKind.u64.wrap (-18)) 31 = 14 := by decide
  have e19 : bits .and .u64 (IntKind.u64.wrap (-19)) 31 = 13 := by decide
  have e22 : bits .and .u64 (IntKind.u64.wrap (-22)) 31 = 10 := by decide
  have e25 : bits .and .u64 (IntKind.u64.wrap (-25)) 31 = 7 := by decide
  simp only [List.mem_cons, List.not_mem_nil, or_false] at hn
  rcases hn with rfl | rfl | rfl | rfl | rfl | rfl | rfl | rfl | rfl | rfl
  all_goals
    go_enter Tryd.func110, Tryd.ntmps110
    go_wp2
    go_ret
    exact ⟨rfl, rfl⟩
end Go.Proofs.YtibkngjacdggpaaDoor
/- SHA-256 as plain functions. -/
namespace Go.Proofs.YtibkngjacdggpaaDoor
open Go.RowKit

def wordL (b : List UInt8) : UInt32 := shl32 (b.getD 0 0).toUInt32 24 ||| shl32 (b.getD 1 0).toUInt32 16 ||| shl32 (b.getD 2 0).toUInt32 8 ||| (b.getD 3 0).toUInt32
def sig0 (x : UInt32) : UInt32 := rotr x 7 ^^^ rotr x 18 ^^^ shr32 x 3
def sig1 (x : UInt32) : UInt32 := rotr x 17 ^^^ rotr x 19 ^^^ shr32 x 10
/-- the next word of a block's -/
def nextW (b : List UInt8) (w : List UInt32) : UInt32 :=
  if w.length < 16 then wordL (b.drop (4 * w.length)) else w.getD (w.length - 16) 0 + sig0 (w.getD (w.length - 15) 0) + w.getD (w.length - 7) 0 + sig1 (w.getD (w.length - 2) 0)
def schedN (b : List UInt8) : Nat → List UInt32
  | 0 => []
  | n + 1 => schedN b n ++ [nextW b (schedN b n)]
@[simp] theorem length_schedN (b : List UInt8) (n : Nat) : (schedN b n).length = n := by
  induction n with
  | zero => rfl
  | succ n ih => simp [schedN, ih]
theorem schedN_getD (b : List UInt8) : ∀ (n i : Nat), i < n → (schedN b n).getD i 0 = nextW b (schedN b i)
  | n + 1, i, h => by
    by_cases hi : i < n
    · rw [← schedN_getD b n i hi, show schedN b (n + 1) = schedN b n ++ [nextW b (schedN b n)] from rfl]
      simp [List.getD, List.getElem?_append, hi]
    · obtain rfl : i = n := by omega
      simp [schedN, List.getD]

structure St where
  a : UInt32
  c : UInt32
  d : UInt32
  e : UInt32
  f : UInt32
  g : UInt32
  h : UInt32
  k : UInt32
def St.list (s : St) : List UInt32 := [s.a, s.c, s.d, s.e, s.f, s.g, s.h, s.k]
def kList : List UInt32 := [0x428a2f98, 0x71374491, 0xb5c0fbcf, 0xe9b5dba5, 0x3956c25b, 0x59f111f1, 0x923f82a4, 0xab1c5ed5, 0xd807aa98, 0x12835b01, 0x243185be, 0x550c7dc3, 0x72be5d74, 0x80deb1fe, 0x9bdc06a7, 0xc19bf174, 0xe49b69c1, 0xefbe4786, 0x0fc19dc6, 0x240ca1cc, 0x2de92c6f, 0x4a7484aa, 0x5cb0a9dc, 0x76f988da, 0x983e5152, 0xa831c66d, 0xb00327c8, 0xbf597fc7, 0xc6e00bf3, 0xd5a79147, 0x06ca6351, 0x14292967, 0x27b70a85, 0x2e1b2138, 0x4d2c6dfc, 0x53380d13, 0x650a7354, 0x766a0abb, 0x81c2c92e, 0x92722c85, 0xa2bfe8a1, 0xa81a664b, 0xc24b8b70, 0xc76c51a3, 0xd192e819, 0xd6990624, 0xf40e3585, 0x106aa070, 0x19a4c116, 0x1e376c08, 0x2748774c, 0x34b0bcb5, 0x391c0cb3, 0x4ed8aa4a, 0x5b9cca4f, 0x682e6ff3, 0x748f82ee, 0x78a5636f, 0x84c87814, 0x8cc70208, 0x90befffa, 0xa4506ceb, 0xbef9a3f7, 0xc67178f2]
def bigE (f : UInt32) : UInt32 := rotr f 6 ^^^ rotr f 11 ^^^ rotr f 25
def bigA (a : UInt32) : UInt32 := rotr a 2 ^^^ rotr a 13 ^^^ rotr a 22
def chF (f g h : UInt32) : UInt32 := (f &&& g) ^^^ (not32 f &&& h)
def majF (a c d : UInt32) : UInt32 := (a &&& c) ^^^ (a &&& d) ^^^ (c &&& d)
def t1F (s : St) (kk w : UInt32) : UInt32 := s.k + bigE s.f + chF s.f s.g s.h + kk + w
def t2F (s : St) : UInt32 := bigA s.a + majF s.a s.c s.d
def roundS (s : St) (kk w : UInt32) : St := ⟨t1F s kk w + t2F s, s.a, s.c, s.d, s.e + t1F s kk w, s.f, s.g, s.h⟩
/-- n rounds over a block -/
def roundsN (b : List UInt8) (s : St) : Nat → St
  | 0 => s
  | n + 1 => roundS (roundsN b s n) (kList.getD n 0) ((schedN b 64).getD n 0)
def addS (s u : St) : St := ⟨s.a + u.a, s.c + u.c, s.d + u.d, s.e + u.e, s.f + u.f, s.g + u.g, s.h + u.h, s.k + u.k⟩
/-- a state, turned by a block -/
def turnS (s : St) (b : List UInt8) : St := addS s (roundsN b s 64)
def begS : St := ⟨0x6a09e667, 0xbb67ae85, 0x3c6ef372, 0xa54ff53a, 0x510e527f, 0x9b05688c, 0x1f83d9ab, 0x5be0cd19⟩
/-- all whole blocks of bytes -/
def foldB (s : St) (b : List UInt8) : St := if _h : 64 ≤ b.length then foldB (turnS s (b.take 64)) (b.drop 64) else s
termination_by b.length
decreasing_by simp; omega
def wordB (x : UInt32) : List UInt8 := [(shr32 x 24).toUInt8, (shr32 x 16).toUInt8, (shr32 x 8).toUInt8, (shr32 x 0).toUInt8]
def outS (s : St) : List UInt8 := s.list.flatMap wordB
@[simp] theorem length_outS (s : St) : (outS s).length = 32 := rfl
/-- what stands behind so many bytes -/
def padB (n : Nat) : List UInt8 := 128 :: List.replicate ((119 - n % 64) % 64) 0 ++ (List.range 8).map fun i => UInt8.ofNat (n * 8 / 2 ^ (56 - 8 * i))
def shaL (b : List UInt8) : List UInt8 := outS (foldB begS (b ++ padB b.length))
end Go.Proofs.YtibkngjacdggpaaDoor
/- sha: words, schedules, turns. -/
namespace Go.Proofs.YtibkngjacdggpaaDoor
open Go.RowKit HP

theorem cell_other (w : World) (g i j : Nat) {u : Value} (h : i ≠ j) : (w.setCell ⟨g, j, none⟩ u).cell? ⟨g, i, none⟩ = w.cell? ⟨g, i, none⟩ := by
  simp only [World.cell?, World.setCell, Array.getElem?_modify, Option.isSome_none, Bool.false_eq_true, if_false]
  cases w.heap[g]? with
  | none => rfl
  | some o => cases o <;> simp [Ne.symm h]
theorem rot_lit (x : UInt32) (k : Int) (n : Nat) (hk : k = -(n : Int)) (hn : n ∈ [2, 6, 7, 11, 13, 17, 18, 19, 22, 25]) (w : World) :
    Calls Tryd.prog 110 #[wc x, .int .i64 k] w fun e w' => e = .returned (wc (rotr x n)) ∧ w = w' := by
  subst hk; exact rot_ok x n hn w

theorem word_ok (A : Option Addr) (n c : Nat) (xs : List UInt8) (w : World) (hr : RD w A xs) (hn : Hid (n = xs.length)) (h4 : 4 ≤ n) :
    Calls Tryd.prog 111 #[.slice A n c] w fun e w' => e = .returned (wc (wordL xs)) ∧ ∃ k, w' = w.drewN k := by
  obtain ⟨g, hr⟩ := hr
  have h4' : 4 ≤ xs.length := by rw [← hn.out]; exact h4
  obtain ⟨o, rfl, c0⟩ := hr.cell (j := 0) (by omega)
  obtain ⟨o1, e1, c1⟩ := hr.cell (j := 1) (by omega)
  obtain ⟨o2, e2, c2⟩ := hr.cell (j := 2) (by omega)
  obtain ⟨o3, e3, c3⟩ := hr.cell (j := 3) (by omega)
  cases e1; cases e2; cases e3
  rw [Nat.add_zero] at c0
  unfold wordL
  have i0 : (0 : Int) < (n : Int) := by omega
  have i1 : (1 : Int) < (n : Int) := by omega
  have i2 : (2 : Int) < (n : Int) := by omega
  have i3 : (3 : Int) < (n : Int) := by omega
  generalize xs.getD 0 0 = x0 at c0 ⊢
  generalize xs.getD 1 0 = x1 at c1 ⊢
  generalize xs.getD 2 0 = x2 at c2 ⊢
  generalize xs.getD 3 0 = x3 at c3 ⊢
  clear h4' hr
  go_enter Tryd.func111, Tryd.ntmps111
  go_wp2
  go_quiet (fail)
  go_wp2
  go_ret
  exact ⟨rfl, _, rfl⟩

/-- words so far, the rest zero -/
def schedA (b : List UInt8) (i : Nat) : Array Value := (wcs (schedN b i ++ List.replicate (64 - i) 0)).toArray
theorem size_schedA (b : List UInt8) (i : Nat) (hi : i ≤ 64) : (schedA b i).size = 64 := by simp [schedA]; omega
theorem schedA_set (b : List UInt8) (i : Nat) (hi : i < 64) : (schedA b i).setIfInBounds i (wc (nextW b (schedN b i))) = schedA b (i + 1) := by
  apply Array.ext_getElem?
  intro k
  simp only [schedA, Array.getElem?_setIfInBounds, List.getElem?_toArray, List.size_toArray, length_wcs, wcs_get, schedN, List.getElem?_append, length_schedN, List.length_append, List.length_replicate, List.getElem?_replicate, List.length_cons, List.length_nil]
  by_cases h : i = k
  · subst h
    rw [if_pos rfl, if_pos (by omega), if_pos (by omega), if_neg (by omega)]
    simp
  · rw [if_neg h]
    by_cases h2 : k < i
    · rw [if_pos h2, if_pos (by omega), if_pos h2]
    · rw [if_neg h2]
      by_cases h3 : k < i + 1
      · omega
      · rw [if_neg h3]
        by_cases h4 : k < 64
        · rw [if_pos (by omega), if_pos (by omega)]
        · rw [if_neg (by omega), if_neg (by omega)]
theorem schedA_get (b : List UInt8) (i j : Nat) (hj : j < i) (_hi : i ≤ 64) : (schedA b i)[j]? = some (wc ((schedN b i).getD j 0)) := by
  simp [schedA, wcs_get, List.getElem?_append, hj, List.getD]
theorem schedA_get0 (b : List UInt8) (i : Nat) (hi : i < 64) : (schedA b i)[i]? = some (wc 0) := by
  simp [schedA, wcs_get, List.getElem?_append, List.getElem?_replicate]; omega

theorem Tryd.infoA64 : (Tryd.prog.info? 91).map (fun i => (i.zero, i.size)) = some (some (.agg (wcs (List.replicate 64 0)).toArray), 64) := by kernel_rfl
theorem Tryd.sizeA64 : (Tryd.prog.info? 91).map (·.size) = some 64 := by kernel_rfl
theorem run_alloc_a64 (w : World) : (Instr.alloc 91 true undef).run Tryd.prog w = .ok (.pointer (some ⟨w.heap.size, 0, none⟩)) (w.alloc (.cells (wcs (List.replicate 64 0)).toArray 91)) := by
  have h := Tryd.infoA64
  cases hi : Tryd.prog.info? 91 with
  | none => rw [hi] at h; cases h
  | some i =>
    rw [hi] at h
    simp only [Option.map_some, Option.some.injEq, Prod.mk.injEq] at h
    simp [Instr.alloc, zeroValue, typeInfo, hi, h.1, newVar, newRow, Value.cells]

set_option maxRecDepth 100000 in
set_option maxHeartbeats 1000000 in
theorem sched_ok (g o : Nat) (xs : List UInt8) (w : World) (R : List HP) (hh : Holds w R) (hr : Ent R fun w => RD w (some ⟨g, o, none⟩) xs) (hx : xs.length = 64) :
    Calls Tryd.prog 109 #[.slice (some ⟨g, o, none⟩) 64 64] w fun e w' => e = .returned (.agg (schedA xs 64)) ∧ Holds w' R := by
  have ha := run_alloc_a64
  have HH := Lib.hid (hh.alloc 91 (schedA xs 0))
  have HX := Lib.hid hx; clear hx hh
  have hz : schedA xs 0 = (wcs (List.replicate 64 0)).toArray := by simp [schedA, schedN]
  rw [← hz] at ha
  clear hz
  go_enter Tryd.func109, Tryd.ntmps109
  go_wp2
  go_loopw [9] (fun i wr => ∃ j : Nat, j ≤ 16 ∧ i = .int .i64 j ∧ Holds wr (blk w.heap.size 91 (schedA xs j) :: R)) (fun i _ => 16 - (intOf i).toNat)
  case atStart => exact ⟨0, by omega, rfl, HH.out⟩
  case round =>
    obtain ⟨j, hj, rfl, hb⟩ := hrel
    by_cases hlt : j < 16
    · have hrd := hr _ hb.tail
      have cj : wr.cell? ⟨w.heap.size, j, none⟩ = some (wc 0) := (hb.cells j).trans (schedA_get0 xs j (by omega))
      have fj := hb.free j
      have hrd2 : RD wr (some ⟨g, o + 4 * j, none⟩) (xs.drop (4 * j)) := by
        have := hrd.drop (k := 4 * j) (c := 64) (by rw [HX.out]; omega) (by rw [HX.out]; omega)
        rwa [if_neg (by omega), Option.map_some, add_plain] at this
      have hl2 : 64 - 4 * j = (xs.drop (4 * j)).length := by rw [List.length_drop, HX.out]
      have HB := Lib.hid hb; have HRD := Lib.hid hrd2; have HL2 := Lib.hid hl2; clear hb hrd hrd2 hl2
      go_wp2_with (go_at_call 111; (with_reducible refine (word_ok _ _ _ (xs.drop (4 * j)) _ HRD.out HL2 (by omega)).mono ?_); rintro e w' ⟨rfl, k, rfl⟩)
      go_simp
      go_wp2
      go_roundw
      case rel =>
        refine ⟨j + 1, by omega, by go_num, ?_⟩
        have h2 := (HB.out.drewN k).set_ j (wc (nextW xs (schedN xs j)))
        rw [schedA_set xs j (by omega)] at h2
        have e : nextW xs (schedN xs j) = wordL (xs.drop (4 * j)) := by unfold nextW; rw [length_schedN, if_pos hlt]
        rw [e] at h2
        exact h2
      case measure => simp [intOf]; omega
    · obtain rfl : j = 16 := by omega
      have HB := Lib.hid hb; clear hb hlt
      rw [show ((16 : Nat) : Int) = 16 from rfl]
      go_wp2
      go_loopw [4] (fun i wr => ∃ j : Nat, 16 ≤ j ∧ j ≤ 64 ∧ i = .int .i64 j ∧ Holds wr (blk w.heap.size 91 (schedA xs j) :: R)) (fun i _ => 64 - (intOf i).toNat)
      case atStart => exact ⟨16, by omega, by omega, rfl, HB.out⟩
      case round =>
        obtain ⟨j, hj0, hj, rfl, hb⟩ := hrel
        by_cases hlt : j < 64
        · have cj : _ = some (wc 0) := (hb.cells j).trans (schedA_get0 xs j (by omega))
          have c16 := (hb.cells (j - 16)).trans (schedA_get xs j (j - 16) (by omega) (by omega))
          have c15 := (hb.cells (j - 15)).trans (schedA_get xs j (j - 15) (by omega) (by omega))
          have c7 := (hb.cells (j - 7)).trans (schedA_get xs j (j - 7) (by omega) (by omega))
          have c2 := (hb.cells (j - 2)).trans (schedA_get xs j (j - 2) (by omega) (by omega))
          have fj := hb.free j
          have HN := Lib.hid (show nextW xs (schedN xs j) = _ by unfold nextW; rw [length_schedN, if_neg (by omega)])
          generalize (schedN xs j).getD (j - 16) 0 = x16 at c16 HN
          generalize (schedN xs j).getD (j - 15) 0 = x15 at c15 HN
          generalize (schedN xs j).getD (j - 7) 0 = x7 at c7 HN
          generalize (schedN xs j).getD (j - 2) 0 = x2 at c2 HN
          have HB := Lib.hid hb; clear hb
          have i1 : (0 : Int) ≤ (j : Int) - 15 := by omega
          have i2 : (0 : Int) ≤ (j : Int) - 2 := by omega
          go_wp2
          go_quiet (fail)
          rename_i nq
          go_wp2_with (first
            | (go_at_call 110; (with_reducible refine (rot_lit x15 (-7) 7 (by decide) (by decide) _).mono ?_); rintro e w' ⟨rfl, rfl⟩)
            | (go_at_call 110; (with_reducible refine (rot_lit x15 (-18) 18 (by decide) (by decide) _).mono ?_); rintro e w' ⟨rfl, rfl⟩)
            | (go_at_call 110; (with_reducible refine (rot_lit x2 (-17) 17 (by decide) (by decide) _).mono ?_); rintro e w' ⟨rfl, rfl⟩)
            | (go_at_call 110; (with_reducible refine (rot_lit x2 (-19) 19 (by decide) (by decide) _).mono ?_); rintro e w' ⟨rfl, rfl⟩))
          have i3 : (0 : Int) ≤ (j : Int) - 16 := by omega
          have i4 : (0 : Int) ≤ (j : Int) - 7 := by omega
          have i5 : ((j : Int) - 16).toNat = j - 16 := by omega
          have i6 : ((j : Int) - 7).toNat = j - 7 := by omega
          have i7 : IntKind.i64.wrap ((j : Int) - 16) = (j : Int) - 16 := IntWalk.i64_in _ (by omega)
          have i8 : IntKind.i64.wrap ((j : Int) - 7) = (j : Int) - 7 := IntWalk.i64_in _ (by omega)
          have i9 : (j : Int) - 16 < 64 := by omega
          have i10 : (j : Int) - 7 < 64 := by omega
          have i11 : (j : Int) < 64 := by omega
          have i12 : (0 : Int) ≤ (j : Int) := by omega
          have i13 : (16 : Int) ≤ (j : Int) := by omega
          have i14 : (7 : Int) ≤ (j : Int) := by omega
          refine wp_region_still_tail 15 (by kernel_rfl) (by kernel_rfl) ?_
          change wpStill _ _ (World.drew _) _ _ _
          simp only [List.take_succ_cons, List.take_zero, List.drop_succ_cons, List.drop_zero]
          repeat still_step
          refine wpStill_nil ?_
          change wpList _ _ _ _ _ (World.drew _)
          (try simp only [World.drew_drewN])
          refine wpList_store_one rfl 89 (.tmp 62) (.tmp 61) rfl w.heap.size j _ rfl rfl rfl (by kernel_rfl) (wc 0) cj fj ?_
          go_wp2
          go_roundw
          case rel =>
            refine ⟨j + 1, by omega, by omega, by go_num, ?_⟩
            have h2 := (HB.out.drewN (nq + 1)).set_ j (wc (nextW xs (schedN xs j)))
            rw [schedA_set xs j hlt, HN.out] at h2
            exact h2
          case measure => simp [intOf]; omega
        · obtain rfl : j = 64 := by omega
          have hbk := hb.blk
          have hsz := size_schedA xs 64 (by omega)
          have h1 : ∀ v ∈ (schedA xs 64).toList, v.oneCell' = true := fun v hv => wcs_one v (by simpa [schedA] using hv)
          generalize hF : schedA xs 64 = F at hb hbk hsz h1
          have HF := Lib.hid hF; clear hF
          have hq : (Tryd.prog.info? 91).map (·.size) = some F.size := by rw [Tryd.sizeA64, hsz]
          have hbh : wr.heap[w.heap.size]? = some (.cells F 91 (0, 0)) := hbk
          have HQ := Lib.hid hq; have HS := Lib.hid hsz; have HP := Lib.hid (putA_all F F.toList (by simp)); have H1 := Lib.hid h1; have HB := Lib.hid hb; have HBK := Lib.hid hbk; have HBH := Lib.hid hbh
          clear hq hsz h1 hb hbk hbh hlt
          go_wp2_with (first
            | (with_reducible refine wpList_load_row rfl 91 (.tmp 2) rfl w.heap.size rfl 91 F (0, 0) _ HBH.out Tryd.underlying91 rfl HQ.out ?_)
            | (with_reducible refine wpList_store_blk rfl 91 (.tmp 2) (.tmp 63) rfl w.heap.size 0 F rfl rfl 91 F HBK.out HQ.out (by rw [Nat.zero_add]; exact Nat.le_refl _) H1.out ?_
               (
               intro w2 hb2 hk2; rw [HP.out] at hb2
               have hq2 : Holds w2 (blk w.heap.size 91 F :: R) := HB.out.reblk (by simpa using hb2) hk2
               have HB2 := Lib.hid hq2
               have hc2 : w2.heap[w.heap.size]? = some (.cells F 91 (0, 0)) := hq2.blk
               clear hb2 hk2 hq2)))
          refine bodyPost_ret (results_cell_row rfl _ _ w.heap.size 91 F (0, 0) _ rfl hc2 Tryd.underlying91 rfl HQ.out) rfl ?_
          exact ⟨by rw [HF.out], HB2.out.tail⟩
end Go.Proofs.YtibkngjacdggpaaDoor
/- sha: a state is turned by a block. -/
namespace Go.Proofs.YtibkngjacdggpaaDoor
open Go.RowKit HP

/-- the table of constants, as the program's variable holds it -/
def KF (w : World) : Prop := ∀ i, i < 64 → w.cell? ⟨2, i, none⟩ = some (wc (kList.getD i 0))
/-- a Hash's state, word by word; whether it was begun; what it keeps of a block; how much it has taken -/
structure HS where
  s : List UInt32
  begun : Bool
  rest : List UInt8
  n : Nat
def HS.list (h : HS) : List Value := wcs h.s ++ ([.bool h.begun] ++ (bcs h.rest ++ [.int .i64 h.n]))
def hcells (h : HS) : Array Value := h.list.toArray
structure HS.Ok (h : HS) : Prop where
  s : h.s.length = 8
  rest : h.rest.length = 64
theorem hcells_s {h : HS} (ok : h.Ok) (i : Nat) (hi : i < 8) : (hcells h)[i]? = some (wc (h.s.getD i 0)) := by
  have := ok.s
  simp [hcells, HS.list, List.getElem?_append, this, hi, List.getD, wcs]
theorem hcells_begun {h : HS} (ok : h.Ok) : (hcells h)[8]? = some (.bool h.begun) := by
  have := ok.s
  simp [hcells, HS.list, this]
theorem hcells_rest {h : HS} (ok : h.Ok) (i : Nat) (hi : i < 64) : (hcells h)[9 + i]? = some (bc (h.rest.getD i 0)) := by
  have h1 := ok.s
  have h2 := ok.rest
  have e : 9 + i - 8 = i + 1 := by omega
  have e2 : ¬ (9 + i < 8) := by omega
  simp [hcells, HS.list, List.getElem?_append, h1, h2, e, e2, hi, List.getD, bcs]
theorem hcells_n {h : HS} (ok : h.Ok) : (hcells h)[73]? = some (.int .i64 h.n) := by
  have h1 := ok.s
  have h2 := ok.rest
  simp [hcells, HS.list, h1, h2]
theorem size_hcells {h : HS} (ok : h.Ok) : (hcells h).size = 74 := by
  have h1 := ok.s
  have h2 := ok.rest
  simp [hcells, HS.list, h1, h2]
theorem hcells_one (h : HS) : ∀ v ∈ (hcells h).toList, v.oneCell' = true := by
  intro v hv
  simp only [hcells, HS.list, List.mem_append, List.mem_cons, List.not_mem_nil, or_false] at hv
  rcases hv with hv | rfl | hv | rfl
  · exact wcs_one v hv
  · rfl
  · exact bcs_one v hv
  · rfl
theorem hcells_set {h : HS} (ok : h.Ok) (i : Nat) (hi : i < 8) (x : UInt32) : (hcells h).setIfInBounds i (wc x) = hcells { h with s := h.s.set i x } := by
  have h1 := ok.s
  simp only [hcells, HS.list, List.setIfInBounds_toArray]
  rw [List.set_append_left _ _ (by simp [h1, hi])]
  simp [wcs, List.map_set]
theorem Holds.rest_rd {w : World} {R : List HP} {b : Nat} {h : HS} (hh : Holds w (HP.blk b 118 (hcells h) :: R)) (ok : h.Ok) : RD w (some ⟨b, 9, none⟩) h.rest :=
  ⟨b, fun _ => ⟨9, rfl, fun j hj => (hh.cells (9 + j)).trans (hcells_rest ok j (by rw [← ok.rest]; exact hj))⟩⟩

def mixL (s u : St) (j : Nat) : List UInt32 := (addS s u).list.take j ++ s.list.drop j
theorem mixL_step (s u : St) (j : Nat) (h : j < 8) : (mixL s u j).set j (s.list.getD j 0 + u.list.getD j 0) = mixL s u (j + 1) := by
  have : j = 0 ∨ j = 1 ∨ j = 2 ∨ j = 3 ∨ j = 4 ∨ j = 5 ∨ j = 6 ∨ j = 7 := by omega
  rcases this with rfl | rfl | rfl | rfl | rfl | rfl | rfl | rfl <;> rfl
theorem mixL_get (s u : St) (j : Nat) (h : j < 8) : (mixL s u j).getD j 0 = s.list.getD j 0 := by
  have : j = 0 ∨ j = 1 ∨ j = 2 ∨ j = 3 ∨ j = 4 ∨ j = 5 ∨ j = 6 ∨ j = 7 := by omega
  rcases this with rfl | rfl | rfl | rfl | rfl | rfl | rfl | rfl <;> rfl
theorem mixL_len (s u : St) (j : Nat) (h : j ≤ 8) : (mixL s u j).length = 8 := by simp [mixL, St.list]; omega
theorem run_index_wcs (w : World) (t : TypeId) (ht : Tryd.prog.underlying t = some (.array 8 89)) (l : List UInt32) (j : Nat) (hj : j < 8) (hl : l.length = 8) : (Instr.index t (.agg (wcs l).toArray) (.int .i64 j)).run Tryd.prog w = .ok (wc (l.getD j 0)) w := by
  have pk : Tryd.prog.plainKey 89 = true := by kernel_rfl
  have hg : (wcs l).toArray[j * 1]? = some (wc (l.getD j 0)) := by
    rw [Nat.mul_one]
    simp [wcs, hl, hj, List.getD]
  have p1 := run_part_plain (P := Tryd.prog) w pk (off := j * 1) hg
  obtain ⟨i, hi⟩ : ∃ i, Tryd.prog.info? 89 = some i := by
    have h : (Tryd.prog.info? 89).isSome = true := by kernel_rfl
    exact Option.isSome_iff_exists.1 h
  have hs : i.size = 1 := by
    have h : (Tryd.prog.info? 89).map (·.size) = some 1 := by kernel_rfl
    simpa [hi] using h
  have h1 : (0 : Int) ≤ (j : Int) ∧ (j : Int) < ((8 : Nat) : Int) := by omega
  simp only [Instr.index, asIntOf, run_underlying ht, Sem.run_bind, Sem.run_pure, Result.andThen_ok, sizeOf, typeInfo, h1, and_self, if_true]
  simpa [hi, hs] using p1

set_option maxRecDepth 100000 in
set_option maxHeartbeats 1000000 in
theorem turn_ok (b : Nat) (h : HS) (s : St) (w : World) (R : List HP) (hh : Holds w (HP.blk b 118 (hcells h) :: R)) (ok : h.Ok) (hs : h.s = s.list) (hk : Ent R KF) :
    Calls Tryd.prog 103 #[.pointer (some ⟨b, 0, none⟩), .slice (some ⟨b, 9, none⟩) 64 64] w fun e w' => e = .returned (.tuple #[]) ∧ Holds w' (blk b 118 (hcells { h with s := (turnS s h.rest).list }) :: R) := by
  have hsc := sched_ok b 9 h.rest w _ hh (fun _ hw => hw.rest_rd ok) ok.rest
  have hsz := size_schedA h.rest 64 (by omega)
  have h1 : ∀ v ∈ (schedA h.rest 64).toList, v.oneCell' = true := fun v hv => wcs_one v (by simpa [schedA] using hv)
  have hget := fun j (hj : j < 64) => schedA_get h.rest 64 j hj (by omega)
  generalize schedA h.rest 64 = F at hsc hsz h1 hget
  have HSC := Lib.hid hsc; have HQ := Lib.hid (show (Tryd.prog.info? 91).map (·.size) = some F.size by rw [Tryd.sizeA64, hsz])
  have H1 := Lib.hid h1; have HG := Lib.hid hget; have HSZ := Lib.hid hsz
  clear hsc hsz h1 hget
  go_enter Tryd.func103, Tryd.ntmps103
  go_wp2_with (first
    | (go_at_call 109; (with_reducible refine HSC.out.mono ?_); rintro e w1 ⟨rfl, hh1⟩)
    | ((with_reducible refine (?_ : wpList _ _ _ [_] _ _)); refine wpList_store_blk rfl 91 (.tmp 4) (.tmp 21) rfl w1.heap.size 0 F rfl rfl 91 _ (Blk.new _ _ _) HQ.out (by rw [HSZ.out]; exact Nat.le_refl _) H1.out ?_
       (
       intro w2 hb2 hk2
       rw [putA_all _ F.toList (by rw [Array.length_toList, HSZ.out]; rfl)] at hb2
       have hh2 : Holds w2 (blk w1.heap.size 91 F :: blk b 118 (hcells h) :: R) := (hh1.alloc 91 _).reblk (by simpa using hb2) hk2
       have HH2 := Lib.hid hh2
       have c0 : w2.cell? ⟨b, 0, none⟩ = some (wc s.a) := (hh2.tail.cells 0).trans ((hcells_s ok 0 (by omega)).trans (by rw [hs]; rfl))
       have c1 : w2.cell? ⟨b, 1, none⟩ = some (wc s.c) := (hh2.tail.cells 1).trans ((hcells_s ok 1 (by omega)).trans (by rw [hs]; rfl))
       have c2 : w2.cell? ⟨b, 2, none⟩ = some (wc s.d) := (hh2.tail.cells 2).trans ((hcells_s ok 2 (by omega)).trans (by rw [hs]; rfl))
       have c3 : w2.cell? ⟨b, 3, none⟩ = some (wc s.e) := (hh2.tail.cells 3).trans ((hcells_s ok 3 (by omega)).trans (by rw [hs]; rfl))
       have c4 : w2.cell? ⟨b, 4, none⟩ = some (wc s.f) := (hh2.tail.cells 4).trans ((hcells_s ok 4 (by omega)).trans (by rw [hs]; rfl))
       have c5 : w2.cell? ⟨b, 5, none⟩ = some (wc s.g) := (hh2.tail.cells 5).trans ((hcells_s ok 5 (by omega)).trans (by rw [hs]; rfl))
       have c6 : w2.cell? ⟨b, 6, none⟩ = some (wc s.h) := (hh2.tail.cells 6).trans ((hcells_s ok 6 (by omega)).trans (by rw [hs]; rfl))
       have c7 : w2.cell? ⟨b, 7, none⟩ = some (wc s.k) := (hh2.tail.cells 7).trans ((hcells_s ok 7 (by omega)).trans (by rw [hs]; rfl))
       clear hb2 hk2 hh2 hh1)))
  simp only [Act.put]
  go_quiet (fail)
  rename_i nq
  have HB := Lib.hid (HH2.out.drewN nq)
  clear c0 c1 c2 c3 c4 c5 c6 c7 HH2 HSC hh
  have HSS := Lib.hid hs; clear hs
  go_wp2
  go_loopw [5, 6, 7, 8, 9, 10, 11, 12, 54] (fun va vc vd ve vf vg vh vk i wr => ∃ (j : Nat) (u : St), j ≤ 64 ∧ i = .int .i64 j ∧ va = wc u.a ∧ vc = wc u.c ∧ vd = wc u.d ∧ ve = wc u.e ∧ vf = wc u.f ∧ vg = wc u.g ∧ vh = wc u.h ∧ vk = wc u.k ∧ Hid (u = roundsN h.rest s j) ∧ Holds wr (blk w1.heap.size 91 F :: blk b 118 (hcells h) :: R)) (fun _ _ _ _ _ _ _ _ i _ => 64 - (intOf i).toNat)
  case atStart => exact ⟨0, s, by omega, rfl, rfl, rfl, rfl, rfl, rfl, rfl, rfl, rfl, rfl, HB.out⟩
  case round =>
    obtain ⟨j, u, hj, rfl, rfl, rfl, rfl, rfl, rfl, rfl, rfl, rfl, hu, hb⟩ := hrel
    by_cases hlt : j < 64
    · have ck := hk _ hb.tail.tail j hlt
      have cw := (hb.cells j).trans (HG.out j hlt)
      have HN := Lib.hid (show roundsN h.rest s (j + 1) = roundS (roundsN h.rest s j) (kList.getD j 0) ((schedN h.rest 64).getD j 0) from rfl)
      rw [← hu.out] at HN
      generalize kList.getD j 0 = kk at ck HN
      generalize (schedN h.rest 64).getD j 0 = ww at cw HN
      have HB2 := Lib.hid hb; clear hb
      have i1 : (0 : Int) ≤ (j : Int) := by omega
      have i2 : (j : Int) < 64 := by omega
      go_wp2_with (first
        | (go_at_call 110; (with_reducible refine (rot_lit u.f (-6) 6 (by decide) (by decide) _).mono ?_); rintro e w' ⟨rfl, rfl⟩)
        | (go_at_call 110; (with_reducible refine (rot_lit u.f (-11) 11 (by decide) (by decide) _).mono ?_); rintro e w' ⟨rfl, rfl⟩)
        | (go_at_call 110; (with_reducible refine (rot_lit u.f (-25) 25 (by decide) (by decide) _).mono ?_); rintro e w' ⟨rfl, rfl⟩))
      go_quiet (fail)
      rename_i nq2
      go_wp2_with (first
        | (go_at_call 110; (with_reducible refine (rot_lit u.a (-2) 2 (by decide) (by decide) _).mono ?_); rintro e w' ⟨rfl, rfl⟩)
        | (go_at_call 110; (with_reducible refine (rot_lit u.a (-13) 13 (by decide) (by decide) _).mono ?_); rintro e w' ⟨rfl, rfl⟩)
        | (go_at_call 110; (with_reducible refine (rot_lit u.a (-22) 22 (by decide) (by decide) _).mono ?_); rintro e w' ⟨rfl, rfl⟩))
      go_roundw
      case rel => exact ⟨j + 1, roundS u kk ww, by omega, by go_num, rfl, rfl, rfl, rfl, rfl, rfl, rfl, rfl, HN.out.symm, HB2.out.drewN _⟩
      case measure => simp [intOf]; omega
    · obtain rfl : j = 64 := by omega
      rw [show ((64 : Nat) : Int) = 64 from rfl]
      have HB2 := Lib.hid hb; clear hb hlt
      go_wp2
      have HU := Lib.hid (show turnS s h.rest = addS s u by rw [hu.out]; rfl)
      go_loopw [128] (fun i wr => ∃ j : Nat, j ≤ 8 ∧ i = .int .i64 j ∧ Holds wr (blk b 118 (hcells { h with s := mixL s u j }) :: R)) (fun i _ => 8 - (intOf i).toNat)
      case atStart =>
        refine ⟨0, by omega, rfl, ?_⟩
        have := HB2.out.tail
        rwa [show ({ h with s := mixL s u 0 } : HS) = h by rw [show mixL s u 0 = s.list by rfl, ← HSS.out]]
      case round =>
        obtain ⟨j, hj, rfl, hb⟩ := hrel
        by_cases hlt : j < 8
        · have ok2 : ({ h with s := mixL s u j } : HS).Ok := ⟨mixL_len s u j hj, ok.rest⟩
          have cj := (hb.cells j).trans (hcells_s ok2 j hlt)
          have fj := hb.free j
          have hix := fun w => run_index_wcs w 90 Tryd.underlying90 u.list j hlt rfl
          simp only [mixL_get s u j hlt] at cj
          have HM := Lib.hid (mixL_step s u j hlt)
          rw [show (wcs u.list).toArray = #[wc u.a, wc u.c, wc u.d, wc u.e, wc u.f, wc u.g, wc u.h, wc u.k] from rfl] at hix
          generalize s.list.getD j 0 = x at cj HM
          generalize u.list.getD j 0 = y at hix HM
          have HB3 := Lib.hid hb; have HOK2 := Lib.hid ok2; clear hb ok2
          have i1 : (0 : Int) ≤ (j : Int) := by omega
          have i2 : (j : Int) < 8 := by omega
          go_wp2
          go_outline
          refine wp_region_still_tail 9 (by kernel_rfl) (by kernel_rfl) ?_
          change wpStill _ _ (World.drew _) _ _ _
          simp only [List.take_succ_cons, List.take_zero, List.drop_succ_cons, List.drop_zero]
          repeat still_step
          refine wpStill_nil ?_
          change wpList _ _ _ _ _ (World.drew _)
          (try simp only [World.drew_drewN])
          refine wpList_store_one rfl 89 (.tmp 140) (.tmp 138) rfl b j _ rfl rfl rfl (by kernel_rfl) _ cj fj ?_
          go_wp2
          go_roundw
          case rel =>
            refine ⟨j + 1, by omega, by go_num, ?_⟩
            have h2 := HB3.out.drew.set_ j (wc (x + y))
            rw [hcells_set HOK2.out j hlt] at h2
            simp only [HM.out] at h2
            exact h2
          case measure => simp [intOf]; omega
        · obtain rfl : j = 8 := by omega
          have HB3 := Lib.hid hb; clear hb
          go_wp2
          go_returns
          refine ⟨rfl, ?_⟩
          rw [HU.out]
          exact HB3.out
end Go.Proofs.YtibkngjacdggpaaDoor
