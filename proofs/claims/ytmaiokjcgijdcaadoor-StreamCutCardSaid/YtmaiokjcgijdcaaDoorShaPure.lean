/- SHA-256 as plain functions. -/
import Derived.Test.YtmaiokjcgijdcaaDoorU32
namespace Go.Proofs.YtmaiokjcgijdcaaDoor
open Go.RowKit

def wordL (b : List UInt8) : UInt32 := shl32 (b.getD 0 0).toUInt32 24 ||| shl32 (b.getD 1 0).toUInt32 16 ||| shl32 (b.getD 2 0).toUInt32 8 ||| (b.getD 3 0).toUInt32
def sig0 (x : UInt32) : UInt32 := rotr x 7 ^^^ rotr x 18 ^^^ shr32 x 3
def sig1 (x : UInt32) : UInt32 := rotr x 17 ^^^ rotr x 19 ^^^ shr32 x 10
/-- the next word of a block's -/
def nextW (b : List UInt8) (w : List UInt32) : UInt32 :=
  if w.length < 16 then wordL (b.drop (4 * w.length)) else w.getD (w.length - 16) 0 + sig0 (w.getD (w.length - 15) 0) + w.getD (w.length - 7) 0 + sig1 (w.getD (w.length - 2) 0)
def schedN (b : List UInt8) : Nat → List UInt32
  | 0 => []
  | n + 1 => schedN b n ++ [nextW b (schedN b n)]
@[simp] theorem length_schedN (b : List UInt8) (n : Nat) : (schedN b n).length = n := by
  induction n with
  | zero => rfl
  | succ n ih => simp [schedN, ih]
theorem schedN_getD (b : List UInt8) : ∀ (n i : Nat), i < n → (schedN b n).getD i 0 = nextW b (schedN b i)
  | n + 1, i, h => by
    by_cases hi : i < n
    · rw [← schedN_getD b n i hi, show schedN b (n + 1) = schedN b n ++ [nextW b (schedN b n)] from rfl]
      simp [List.getD, List.getElem?_append, hi]
    · obtain rfl : i = n := by omega
      simp [schedN, List.getD]

structure St where
  a : UInt32
  c : UInt32
  d : UInt32
  e : UInt32
  f : UInt32
  g : UInt32
  h : UInt32
  k : UInt32
def St.list (s : St) : List UInt32 := [s.a, s.c, s.d, s.e, s.f, s.g, s.h, s.k]
def kList : List UInt32 := [0x428a2f98, 0x71374491, 0xb5c0fbcf, 0xe9b5dba5, 0x3956c25b, 0x59f111f1, 0x923f82a4, 0xab1c5ed5, 0xd807aa98, 0x12835b01, 0x243185be, 0x550c7dc3, 0x72be5d74, 0x80deb1fe, 0x9bdc06a7, 0xc19bf174, 0xe49b69c1, 0xefbe4786, 0x0fc19dc6, 0x240ca1cc, 0x2de92c6f, 0x4a7484aa, 0x5cb0a9dc, 0x76f988da, 0x983e5152, 0xa831c66d, 0xb00327c8, 0xbf597fc7, 0xc6e00bf3, 0xd5a79147, 0x06ca6351, 0x14292967, 0x27b70a85, 0x2e1b2138, 0x4d2c6dfc, 0x53380d13, 0x650a7354, 0x766a0abb, 0x81c2c92e, 0x92722c85, 0xa2bfe8a1, 0xa81a664b, 0xc24b8b70, 0xc76c51a3, 0xd192e819, 0xd6990624, 0xf40e3585, 0x106aa070, 0x19a4c116, 0x1e376c08, 0x2748774c, 0x34b0bcb5, 0x391c0cb3, 0x4ed8aa4a, 0x5b9cca4f, 0x682e6ff3, 0x748f82ee, 0x78a5636f, 0x84c87814, 0x8cc70208, 0x90befffa, 0xa4506ceb, 0xbef9a3f7, 0xc67178f2]
def bigE (f : UInt32) : UInt32 := rotr f 6 ^^^ rotr f 11 ^^^ rotr f 25
def bigA (a : UInt32) : UInt32 := rotr a 2 ^^^ rotr a 13 ^^^ rotr a 22
def chF (f g h : UInt32) : UInt32 := (f &&& g) ^^^ (not32 f &&& h)
def majF (a c d : UInt32) : UInt32 := (a &&& c) ^^^ (a &&& d) ^^^ (c &&& d)
def t1F (s : St) (kk w : UInt32) : UInt32 := s.k + bigE s.f + chF s.f s.g s.h + kk + w
def t2F (s : St) : UInt32 := bigA s.a + majF s.a s.c s.d
def roundS (s : St) (kk w : UInt32) : St := ⟨t1F s kk w + t2F s, s.a, s.c, s.d, s.e + t1F s kk w, s.f, s.g, s.h⟩
/-- n rounds over a block -/
def roundsN (b : List UInt8) (s : St) : Nat → St
  | 0 => s
  | n + 1 => roundS (roundsN b s n) (kList.getD n 0) ((schedN b 64).getD n 0)
def addS (s u : St) : St := ⟨s.a + u.a, s.c + u.c, s.d + u.d, s.e + u.e, s.f + u.f, s.g + u.g, s.h + u.h, s.k + u.k⟩
/-- a state, turned by a block -/
def turnS (s : St) (b : List UInt8) : St := addS s (roundsN b s 64)
def begS : St := ⟨0x6a09e667, 0xbb67ae85, 0x3c6ef372, 0xa54ff53a, 0x510e527f, 0x9b05688c, 0x1f83d9ab, 0x5be0cd19⟩
/-- all whole blocks of bytes -/
def foldB (s : St) (b : List UInt8) : St := if _h : 64 ≤ b.length then foldB (turnS s (b.take 64)) (b.drop 64) else s
termination_by b.length
decreasing_by simp; omega
def wordB (x : UInt32) : List UInt8 := [(shr32 x 24).toUInt8, (shr32 x 16).toUInt8, (shr32 x 8).toUInt8, (shr32 x 0).toUInt8]
def outS (s : St) : List UInt8 := s.list.flatMap wordB
@[simp] theorem length_outS (s : St) : (outS s).length = 32 := rfl
/-- what stands behind so many bytes -/
def padB (n : Nat) : List UInt8 := 128 :: List.replicate ((119 - n % 64) % 64) 0 ++ (List.range 8).map fun i => UInt8.ofNat (n * 8 / 2 ^ (56 - 8 * i))
def shaL (b : List UInt8) : List UInt8 := outS (foldB begS (b ++ padB b.length))
end Go.Proofs.YtmaiokjcgijdcaaDoor
