import Derived.Test.YtibkngjacdggpaaBase
import Derived.Test.YtibkngjacdggpaaSl
/- Numbers of 32 bits as cells, and what the operations make of them. -/
namespace Go.Proofs.Ytibkngjacdggpaa
open Go.RowKit

/-- A number of 32 bits as a cell. -/
def wc (x : UInt32) : Value := .int .u32 x.toNat
def shl32 (x : UInt32) (n : Nat) : UInt32 := x <<< UInt32.ofNat n
def shr32 (x : UInt32) (n : Nat) : UInt32 := x >>> UInt32.ofNat n
def rotr (x : UInt32) (n : Nat) : UInt32 := shl32 x (32 - n) ||| shr32 x n
def not32 (x : UInt32) : UInt32 := ~~~ x
theorem wc_one (x : UInt32) : (wc x).oneCell' = true := rfl
theorem wrap_u32 (n : Int) : IntKind.u32.wrap n = n % 4294967296 := by
  simp [IntKind.wrap, IntKind.signed, IntKind.bits]
theorem u32_ofInt (x : UInt32) : (BitVec.ofInt 32 (x.toNat : Int)) = x.toBitVec := by
  apply BitVec.eq_of_toNat_eq
  have : x.toNat < 4294967296 := x.toNat_lt
  simp
section
variable {P : Program} (w : World) (t t2 : TypeId) (x y : UInt32)
@[go_sem] theorem run_add_wc : (binOp .add t (wc x) (wc y)).run P w = .ok (wc (x + y)) w := by
  simp [binOp, wc, Op.intArith, wrap_u32, UInt32.toNat_add]
@[go_sem] theorem run_xor_wc : (binOp .xor t (wc x) (wc y)).run P w = .ok (wc (x ^^^ y)) w := by
  have h : (x ^^^ y).toNat < 4294967296 := (x ^^^ y).toNat_lt
  show Result.ok (Value.int .u32 (IntKind.u32.wrap ((BitVec.ofInt 32 (x.toNat : Int) ^^^ BitVec.ofInt 32 (y.toNat : Int)).toNat : Int))) w = _
  rw [u32_ofInt, u32_ofInt, ← UInt32.toBitVec_xor, UInt32.toNat_toBitVec, wrap_u32, wc]
  congr 2; omega
@[go_sem] theorem run_and_wc : (binOp .and t (wc x) (wc y)).run P w = .ok (wc (x &&& y)) w := by
  have h : (x &&& y).toNat < 4294967296 := (x &&& y).toNat_lt
  show Result.ok (Value.int .u32 (IntKind.u32.wrap ((BitVec.ofInt 32 (x.toNat : Int) &&& BitVec.ofInt 32 (y.toNat : Int)).toNat : Int))) w = _
  rw [u32_ofInt, u32_ofInt, ← UInt32.toBitVec_and, UInt32.toNat_toBitVec, wrap_u32, wc]
  congr 2; omega
@[go_sem] theorem run_or_wc : (binOp .or t (wc x) (wc y)).run P w = .ok (wc (x ||| y)) w := by
  have h : (x ||| y).toNat < 4294967296 := (x ||| y).toNat_lt
  show Result.ok (Value.int .u32 (IntKind.u32.wrap ((BitVec.ofInt 32 (x.toNat : Int) ||| BitVec.ofInt 32 (y.toNat : Int)).toNat : Int))) w = _
  rw [u32_ofInt, u32_ofInt, ← UInt32.toBitVec_or, UInt32.toNat_toBitVec, wrap_u32, wc]
  congr 2; omega
theorem shl32_toNat (n : Nat) (hn : n < 32) : (shl32 x n).toNat = x.toNat * 2 ^ n % 4294967296 := by
  have : n % 4294967296 % 32 = n := by omega
  simp [shl32, UInt32.toNat_shiftLeft, Nat.shiftLeft_eq, this]
theorem shr32_toNat (n : Nat) (hn : n < 32) : (shr32 x n).toNat = x.toNat / 2 ^ n := by
  have : n % 4294967296 % 32 = n := by omega
  simp [shr32, UInt32.toNat_shiftRight, Nat.shiftRight_eq_div_pow, this]
theorem run_shl_wc (k : IntKind) (n : Nat) (hn : n < 32) : (binOp .shl t (wc x) (.int k (n : Int)) ).run P w = .ok (wc (shl32 x n)) w := by
  have h1 : ¬ ((n : Int) < 0) := by omega
  have h2 : min n 32 = n := by omega
  simp only [binOp, wc, Op.shift, h1, if_false, Int.toNat_natCast, IntKind.bits, h2, wrap_u32, Sem.run_pure, shl32_toNat x n hn]
  congr 2
theorem run_shr_wc (k : IntKind) (n : Nat) (hn : n < 32) : (binOp .shr t (wc x) (.int k (n : Int))).run P w = .ok (wc (shr32 x n)) w := by
  have h1 : ¬ ((n : Int) < 0) := by omega
  have h2 : min n 32 = n := by omega
  simp only [binOp, wc, Op.shift, h1, if_false, Int.toNat_natCast, IntKind.bits, h2, Sem.run_pure, shr32_toNat x n hn]
  congr 2
  rw [Int.fdiv_eq_ediv_of_nonneg _ (Int.le_of_lt (Int.pow_pos (by decide)))]
  norm_cast
@[go_sem] theorem run_shl_wc' (k : IntKind) (n : Int) (h0 : 0 ≤ n) (h1 : n < 32) : (binOp .shl t (wc x) (.int k n)).run P w = .ok (wc (shl32 x n.toNat)) w := by
  obtain ⟨m, rfl⟩ := Int.eq_ofNat_of_zero_le h0
  exact run_shl_wc w t x k m (by omega)
@[go_sem] theorem run_shr_wc' (k : IntKind) (n : Int) (h0 : 0 ≤ n) (h1 : n < 32) : (binOp .shr t (wc x) (.int k n)).run P w = .ok (wc (shr32 x n.toNat)) w := by
  obtain ⟨m, rfl⟩ := Int.eq_ofNat_of_zero_le h0
  exact run_shr_wc w t x k m (by omega)
end
@[go_sem] theorem run_not_wc {P : Program} (w : World) (x : UInt32) : (Op.unary .xor (wc x)).run P w = .ok (wc (not32 x)) w := by
  have h : (not32 x).toNat < 4294967296 := (not32 x).toNat_lt
  show Result.ok (Value.int .u32 (IntKind.u32.wrap ((BitVec.ofInt 32 (4294967295 : Int) ^^^ BitVec.ofInt 32 (x.toNat : Int)).toNat : Int))) w = _
  rw [u32_ofInt, show BitVec.ofInt 32 (4294967295 : Int) = BitVec.allOnes 32 from rfl, BitVec.allOnes_xor, ← UInt32.toBitVec_not, UInt32.toNat_toBitVec, wrap_u32, wc]
  show Result.ok (Value.int .u32 ((not32 x).toNat % 4294967296)) w = _
  congr 2; omega

@[go_sem ↓] theorem cells_wc (x : UInt32) : (wc x).cells = #[wc x] := rfl
@[go_sem ↓] theorem cells_bc (x : UInt8) : (bc x).cells = #[bc x] := rfl
@[go_sem] theorem run_store_wc (P : Program) (w : World) (a : Addr) (m : Mode) (x : UInt32) : (store a (wc x) m).run P w = stored P w a (wc x) m := run_store P w a _ m rfl
@[go_sem] theorem run_store_bc (P : Program) (w : World) (a : Addr) (m : Mode) (x : UInt8) : (store a (bc x) m).run P w = stored P w a (bc x) m := run_store P w a _ m rfl

/-! ### conversions -/
section
variable (w : World)
@[go_sem] theorem run_conv_bw (x : UInt8) : (convert 5 70 (bc x)).run Try.prog w = .ok (wc x.toUInt32) w := by
  have h : x.toNat < 256 := x.toNat_lt
  have hw : IntKind.u32.wrap (x.toNat : Int) = (x.toNat : Int) := by rw [wrap_u32]; omega
  simp [convert, run_underlying Try.underlying5, run_underlying Try.underlying70, bc, Conv.intToInt, hw, wc]
@[go_sem] theorem run_conv_wb (x : UInt32) : (convert 70 5 (wc x)).run Try.prog w = .ok (bc x.toUInt8) w := by
  have hw : IntKind.u8.wrap (x.toNat : Int) = ((x.toUInt8).toNat : Int) := by
    simp [IntKind.wrap, IntKind.signed, IntKind.bits, UInt32.toNat_toUInt8]
  simp [convert, run_underlying Try.underlying5, run_underlying Try.underlying70, bc, Conv.intToInt, hw, wc]
end

/-! ### lists of such cells -/
def wcs (l : List UInt32) : List Value := l.map wc
@[simp] theorem length_wcs (l : List UInt32) : (wcs l).length = l.length := by simp [wcs]
theorem wcs_get (l : List UInt32) (j : Nat) : (wcs l)[j]? = l[j]?.map wc := by simp [wcs]
theorem wcs_one {l : List UInt32} : ∀ u ∈ wcs l, u.oneCell' = true := by
  intro u hu
  simp only [wcs, List.mem_map] at hu
  obtain ⟨b, _, rfl⟩ := hu
  rfl
theorem wcs_append (a b : List UInt32) : wcs (a ++ b) = wcs a ++ wcs b := by simp [wcs]





















end Go.Proofs.Ytibkngjacdggpaa
/- SHA-256 as plain functions. -/
namespace Go.Proofs.Ytibkngjacdggpaa
open Go.RowKit

def wordL (b : List UInt8) : UInt32 := shl32 (b.getD 0 0).toUInt32 24 ||| shl32 (b.getD 1 0).toUInt32 16 ||| shl32 (b.getD 2 0).toUInt32 8 ||| (b.getD 3 0).toUInt32
def sig0 (x : UInt32) : UInt32 := rotr x 7 ^^^ rotr x 18 ^^^ shr32 x 3
def sig1 (x : UInt32) : UInt32 := rotr x 17 ^^^ rotr x 19 ^^^ shr32 x 10
/-- the next word of a block's -/
def nextW (b : List UInt8) (w : List UInt32) : UInt32 :=
  if w.length < 16 then wordL (b.drop (4 * w.length)) else w.getD (w.length - 16) 0 + sig0 (w.getD (w.length - 15) 0) + w.getD (w.length - 7) 0 + sig1 (w.getD (w.length - 2) 0)
def schedN (b : List UInt8) : Nat → List UInt32
  | 0 => []
  | n + 1 => schedN b n ++ [nextW b (schedN b n)]
@[simp] theorem length_schedN (b : List UInt8) (n : Nat) : (schedN b n).length = n := by
  induction n with
  | zero => rfl
  | succ n ih => simp [schedN, ih]
theorem schedN_getD (b : List UInt8) : ∀ (n i : Nat), i < n → (schedN b n).getD i 0 = nextW b (schedN b i)
  | n + 1, i, h => by
    by_cases hi : i < n
    · rw [← schedN_getD b n i hi, show schedN b (n + 1) = schedN b n ++ [nextW b (schedN b n)] from rfl]
      simp [List.getD, List.getElem?_append, hi]
    · obtain rfl : i = n := by omega
      simp [schedN, List.getD]

structure St where
  a : UInt32
  c : UInt32
  d : UInt32
  e : UInt32
  f : UInt32
  g : UInt32
  h : UInt32
  k : UInt32
def St.list (s : St) : List UInt32 := [s.a, s.c, s.d, s.e, s.f, s.g, s.h, s.k]
def kList : List UInt32 := [0x428a2f98, 0x71374491, 0xb5c0fbcf, 0xe9b5dba5, 0x3956c25b, 0x59f111f1, 0x923f82a4, 0xab1c5ed5, 0xd807aa98, 0x12835b01, 0x243185be, 0x550c7dc3, 0x72be5d74, 0x80deb1fe, 0x9bdc06a7, 0xc19bf174, 0xe49b69c1, 0xefbe4786, 0x0fc19dc6, 0x240ca1cc, 0x2de92c6f, 0x4a7484aa, 0x5cb0a9dc, 0x76f988da, 0x983e5152, 0xa831c66d, 0xb00327c8, 0xbf597fc7, 0xc6e00bf3, 0xd5a79147, 0x06ca6351, 0x14292967, 0x27b70a85, 0x2e1b2138, 0x4d2c6dfc, 0x53380d13, 0x650a7354, 0x766a0abb, 0x81c2c92e, 0x92722c85, 0xa2bfe8a1, 0xa81a664b, 0xc24b8b70, 0xc76c51a3, 0xd192e819, 0xd6990624, 0xf40e3585, 0x106aa070, 0x19a4c116, 0x1e376c08, 0x2748774c, 0x34b0bcb5, 0x391c0cb3, 0x4ed8aa4a, 0x5b9cca4f, 0x682e6ff3, 0x748f82ee, 0x78a5636f, 0x84c87814, 0x8cc70208, 0x90befffa, 0xa4506ceb, 0xbef9a3f7, 0xc67178f2]
def bigE (f : UInt32) : UInt32 := rotr f 6 ^^^ rotr f 11 ^^^ rotr f 25
def bigA (a : UInt32) : UInt32 := rotr a 2 ^^^ rotr a 13 ^^^ rotr a 22
def chF (f g h : UInt32) : UInt32 := (f &&& g) ^^^ (not32 f &&& h)
def majF (a c d : UInt32) : UInt32 := (a &&& c) ^^^ (a &&& d) ^^^ (c &&& d)
def t1F (s : St) (kk w : UInt32) : UInt32 := s.k + bigE s.f + chF s.f s.g s.h + kk + w
def t2F (s : St) : UInt32 := bigA s.a + majF s.a s.c s.d
def roundS (s : St) (kk w : UInt32) : St := ⟨t1F s kk w + t2F s, s.a, s.c, s.d, s.e + t1F s kk w, s.f, s.g, s.h⟩
/-- n rounds over a block -/
def roundsN (b : List UInt8) (s : St) : Nat → St
  | 0 => s
  | n + 1 => roundS (roundsN b s n) (kList.getD n 0) ((schedN b 64).getD n 0)
def addS (s u : St) : St := ⟨s.a + u.a, s.c + u.c, s.d + u.d, s.e + u.e, s.f + u.f, s.g + u.g, s.h + u.h, s.k + u.k⟩
/-- a state, turned by a block -/
def turnS (s : St) (b : List UInt8) : St := addS s (roundsN b s 64)
def begS : St := ⟨0x6a09e667, 0xbb67ae85, 0x3c6ef372, 0xa54ff53a, 0x510e527f, 0x9b05688c, 0x1f83d9ab, 0x5be0cd19⟩
/-- all whole blocks of bytes -/
def foldB (s : St) (b : List UInt8) : St := if _h : 64 ≤ b.length then foldB (turnS s (b.take 64)) (b.drop 64) else s
termination_by b.length
decreasing_by simp; omega
def wordB (x : UInt32) : List UInt8 := [(shr32 x 24).toUInt8, (shr32 x 16).toUInt8, (shr32 x 8).toUInt8, (shr32 x 0).toUInt8]
def outS (s : St) : List UInt8 := s.list.flatMap wordB
@[simp] theorem length_outS (s : St) : (outS s).length = 32 := rfl
/-- what stands behind so many bytes -/
def padB (n : Nat) : List UInt8 := 128 :: List.replicate ((119 - n % 64) % 64) 0 ++ (List.range 8).map fun i => UInt8.ofNat (n * 8 / 2 ^ (56 - 8 * i))
def shaL (b : List UInt8) : List UInt8 := outS (foldB begS (b ++ padB b.length))
end Go.Proofs.Ytibkngjacdggpaa
/- sha: words, schedules, turns. -/
namespace Go.Proofs.Ytibkngjacdggpaa
open Go.RowKit HP

theorem cell_other (w : World) (g i j : Nat) {u : Value} (h : i ≠ j) : (w.setCell ⟨g, j, none⟩ u).cell? ⟨g, i, none⟩ = w.cell? ⟨g, i, none⟩ := by
  simp only [World.cell?, World.setCell, Array.getElem?_modify, Option.isSome_none, Bool.false_eq_true, if_false]
  cases w.heap[g]? with
  | none => rfl
  | some o => cases o <;> simp [Ne.symm h]































/-- words so far, the rest zero -/
def schedA (b : List UInt8) (i : Nat) : Array Value := (wcs (schedN b i ++ List.replicate (64 - i) 0)).toArray
theorem size_schedA (b : List UInt8) (i : Nat) (hi : i ≤ 64) : (schedA b i).size = 64 := by simp [schedA]; omega
theorem schedA_set (b : List UInt8) (i : Nat) (hi : i < 64) : (schedA b i).setIfInBounds i (wc (nextW b (schedN b i))) = schedA b (i + 1) := by
  apply Array.ext_getElem?
  intro k
  simp only [schedA, Array.getElem?_setIfInBounds, List.getElem?_toArray, List.size_toArray, length_wcs, wcs_get, schedN, List.getElem?_append, length_schedN, List.length_append, List.length_replicate, List.getElem?_replicate, List.length_cons, List.length_nil]
  by_cases h : i = k
  · subst h
    rw [if_pos rfl, if_pos (by omega), if_pos (by omega), if_neg (by omega)]
    simp
  · rw [if_neg h]
    by_cases h2 : k < i
    · rw [if_pos h2, if_pos (by omega), if_pos h2]
    · rw [if_neg h2]
      by_cases h3 : k < i + 1
      · omega
      · rw [if_neg h3]
        by_cases h4 : k < 64
        · rw [if_pos (by omega), if_pos (by omega)]
        · rw [if_neg (by omega), if_neg (by omega)]
theorem schedA_get (b : List UInt8) (i j : Nat) (hj : j < i) (_hi : i ≤ 64) : (schedA b i)[j]? = some (wc ((schedN b i).getD j 0)) := by
  simp [schedA, wcs_get, List.getElem?_append, hj, List.getD]
theorem schedA_get0 (b : List UInt8) (i : Nat) (hi : i < 64) : (schedA b i)[i]? = some (wc 0) := by
  simp [schedA, wcs_get, List.getElem?_append, List.getElem?_replicate]; omega

theorem Try.infoA64 : (Try.prog.info? 72).map (fun i => (i.zero, i.size)) = some (some (.agg (wcs (List.replicate 64 0)).toArray), 64) := by kernel_rfl
theorem Try.sizeA64 : (Try.prog.info? 72).map (·.size) = some 64 := by kernel_rfl
theorem run_alloc_a64 (w : World) : (Instr.alloc 72 true undef).run Try.prog w = .ok (.pointer (some ⟨w.heap.size, 0, none⟩)) (w.alloc (.cells (wcs (List.replicate 64 0)).toArray 72)) := by
  have h := Try.infoA64
  cases hi : Try.prog.info? 72 with
  | none => rw [hi] at h; cases h
  | some i =>
    rw [hi] at h
    simp only [Option.map_some, Option.some.injEq, Prod.mk.injEq] at h
    simp [Instr.alloc, zeroValue, typeInfo, hi, h.1, newVar, newRow, Value.cells]
















































































































end Go.Proofs.Ytibkngjacdggpaa
/- sha: a state is turned by a block. -/
namespace Go.Proofs.Ytibkngjacdggpaa
open Go.RowKit HP



/-- a Hash's state, word by word; whether it was begun; what it keeps of a block; how much it has taken -/
structure HS where
  s : List UInt32
  begun : Bool
  rest : List UInt8
  n : Nat
def HS.list (h : HS) : List Value := wcs h.s ++ ([.bool h.begun] ++ (bcs h.rest ++ [.int .i64 h.n]))
def hcells (h : HS) : Array Value := h.list.toArray
structure HS.Ok (h : HS) : Prop where
  s : h.s.length = 8
  rest : h.rest.length = 64
theorem hcells_s {h : HS} (ok : h.Ok) (i : Nat) (hi : i < 8) : (hcells h)[i]? = some (wc (h.s.getD i 0)) := by
  have := ok.s
  simp [hcells, HS.list, List.getElem?_append, this, hi, List.getD, wcs]
theorem hcells_begun {h : HS} (ok : h.Ok) : (hcells h)[8]? = some (.bool h.begun) := by
  have := ok.s
  simp [hcells, HS.list, this]
theorem hcells_rest {h : HS} (ok : h.Ok) (i : Nat) (hi : i < 64) : (hcells h)[9 + i]? = some (bc (h.rest.getD i 0)) := by
  have h1 := ok.s
  have h2 := ok.rest
  have e : 9 + i - 8 = i + 1 := by omega
  have e2 : ¬ (9 + i < 8) := by omega
  simp [hcells, HS.list, List.getElem?_append, h1, h2, e, e2, hi, List.getD, bcs]
theorem hcells_n {h : HS} (ok : h.Ok) : (hcells h)[73]? = some (.int .i64 h.n) := by
  have h1 := ok.s
  have h2 := ok.rest
  simp [hcells, HS.list, h1, h2]
theorem size_hcells {h : HS} (ok : h.Ok) : (hcells h).size = 74 := by
  have h1 := ok.s
  have h2 := ok.rest
  simp [hcells, HS.list, h1, h2]
theorem hcells_one (h : HS) : ∀ v ∈ (hcells h).toList, v.oneCell' = true := by
  intro v hv
  simp only [hcells, HS.list, List.mem_append, List.mem_cons, List.not_mem_nil, or_false] at hv
  rcases hv with hv | rfl | hv | rfl
  · exact wcs_one v hv
  · rfl
  · exact bcs_one v hv
  · rfl
theorem hcells_set {h : HS} (ok : h.Ok) (i : Nat) (hi : i < 8) (x : UInt32) : (hcells h).setIfInBounds i (wc x) = hcells { h with s := h.s.set i x } := by
  have h1 := ok.s
  simp only [hcells, HS.list, List.setIfInBounds_toArray]
  rw [List.set_append_left _ _ (by simp [h1, hi])]
  simp [wcs, List.map_set]



def mixL (s u : St) (j : Nat) : List UInt32 := (addS s u).list.take j ++ s.list.drop j
theorem mixL_step (s u : St) (j : Nat) (h : j < 8) : (mixL s u j).set j (s.list.getD j 0 + u.list.getD j 0) = mixL s u (j + 1) := by
  have : j = 0 ∨ j = 1 ∨ j = 2 ∨ j = 3 ∨ j = 4 ∨ j = 5 ∨ j = 6 ∨ j = 7 := by omega
  rcases this with rfl | rfl | rfl | rfl | rfl | rfl | rfl | rfl <;> rfl
theorem mixL_get (s u : St) (j : Nat) (h : j < 8) : (mixL s u j).getD j 0 = s.list.getD j 0 := by
  have : j = 0 ∨ j = 1 ∨ j = 2 ∨ j = 3 ∨ j = 4 ∨ j = 5 ∨ j = 6 ∨ j = 7 := by omega
  rcases this with rfl | rfl | rfl | rfl | rfl | rfl | rfl | rfl <;> rfl
theorem mixL_len (s u : St) (j : Nat) (h : j ≤ 8) : (mixL s u j).length = 8 := by simp [mixL, St.list]; omega
theorem run_index_wcs (w : World) (t : TypeId) (ht : Try.prog.underlying t = some (.array 8 70)) (l : List UInt32) (j : Nat) (hj : j < 8) (hl : l.length = 8) : (Instr.index t (.agg (wcs l).toArray) (.int .i64 j)).run Try.prog w = .ok (wc (l.getD j 0)) w := by
  have pk : Try.prog.plainKey 70 = true := by kernel_rfl
  have hg : (wcs l).toArray[j * 1]? = some (wc (l.getD j 0)) := by
    rw [Nat.mul_one]
    simp [wcs, hl, hj, List.getD]
  have p1 := run_part_plain (P := Try.prog) w pk (off := j * 1) hg
  obtain ⟨i, hi⟩ : ∃ i, Try.prog.info? 70 = some i := by
    have h : (Try.prog.info? 70).isSome = true := by kernel_rfl
    exact Option.isSome_iff_exists.1 h
  have hs : i.size = 1 := by
    have h : (Try.prog.info? 70).map (·.size) = some 1 := by kernel_rfl
    simpa [hi] using h
  have h1 : (0 : Int) ≤ (j : Int) ∧ (j : Int) < ((8 : Nat) : Int) := by omega
  simp only [Instr.index, asIntOf, run_underlying ht, Sem.run_bind, Sem.run_pure, Result.andThen_ok, sizeOf, typeInfo, h1, and_self, if_true]
  simpa [hi, hs] using p1














































































































end Go.Proofs.Ytibkngjacdggpaa
