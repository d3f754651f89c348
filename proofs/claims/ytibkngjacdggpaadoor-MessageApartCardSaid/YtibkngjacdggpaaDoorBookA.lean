/- Books: what stands in memory; fresh, fits. -/
import Derived.Test.YtibkngjacdggpaaDoorRecF
import Derived.Test.YtibkngjacdggpaaDoorUntil
namespace Go.Proofs.YtibkngjacdggpaaDoor
open Go.RowKit HP

def Ed.segs (e : Ed) : List Sg := [.o (.string (strOf e.s)), .o (.bool e.q), .o (.bool e.x), .b 32 e.h]
theorem Ed.segs_ok {e : Ed} (h : e.Ok) : SgOk e.segs := ⟨rfl, rfl, rfl, h, trivial⟩
def Rec.segs (r : Rec) : List Sg :=
  [.o (.int .i64 r.kind), .o (.int .u64 r.id), .o (.int .u64 r.base), .o (.string (strOf r.ed.s)), .o (.bool r.ed.q), .o (.bool r.ed.x), .b 32 r.ed.h, .b 32 r.root, .o (.int .i64 r.code), .o (.bool r.commit), .o (.bool r.has), .o (.string (strOf r.text))]
theorem Rec.segs_ok {r : Rec} (h : r.Ok) : SgOk r.segs := ⟨rfl, rfl, rfl, rfl, rfl, rfl, h.ed, h.root, rfl, rfl, rfl, rfl, trivial⟩
theorem Rec.flat_segs (r : Rec) : flat r.segs = r.cells := rfl
theorem Ed.flat_segs (e : Ed) : flat e.segs = e.cells := rfl
structure Vt where
  yes : Bool
  base : Nat
  ed : Ed
  root : List UInt8
  code : Int
def Vt.segs (v : Vt) : List Sg := [.o (.bool v.yes), .o (.int .u64 v.base), .o (.string (strOf v.ed.s)), .o (.bool v.ed.q), .o (.bool v.ed.x), .b 32 v.ed.h, .b 32 v.root, .o (.int .i64 v.code)]
def Vt.val (v : Vt) : Value := .agg (flat v.segs).toArray
def Vt.zero : Vt := ⟨false, 0, Ed.zero, zeros 32, 0⟩
structure Vt.Ok (v : Vt) : Prop where
  ed : v.ed.Ok
  root : v.root.length = 32
theorem Vt.zero_ok : Vt.zero.Ok := ⟨Ed.zero_ok, length_zeros 32⟩
theorem Vt.segs_ok {v : Vt} (h : v.Ok) : SgOk v.segs := ⟨rfl, rfl, rfl, rfl, rfl, h.ed, h.root, rfl, trivial⟩
def tsegs (s : List UInt8) : List Sg := [.o (.string (strOf s))]
theorem tsegs_ok (s : List UInt8) : SgOk (tsegs s) := ⟨rfl, trivial⟩
structure Bk where
  edits : List Ed
  votes : List (Nat × Vt)
  ends : List (Nat × Bool)
  prep : Nat
  vers : List (List UInt8)
/-- where its parts stand -/
structure BX where
  eA : Option Addr
  ec : Nat
  mv : Nat
  me : Nat
  vA : Option Addr
  vc : Nat
def Bk.segs (x : BX) (k : Bk) : List Sg := [.o (.slice x.eA k.edits.length x.ec), .o (.map (some x.mv)), .o (.map (some x.me)), .o (.int .u64 k.prep), .o (.slice x.vA k.vers.length x.vc)]
theorem Bk.segs_ok (x : BX) (k : Bk) : SgOk (k.segs x) := ⟨rfl, rfl, rfl, rfl, rfl, trivial⟩


structure Bk.Ok (k : Bk) : Prop where
  votes : ∀ p ∈ k.votes, p.2.Ok

theorem Holds.all_open {w : World} : ∀ {l R : List HP}, Holds w (HP.all l :: R) → Holds w (l ++ R)
  | [], _, h => h.emp_tail
  | P :: l, R, h => by
    have h1 := h.sep_
    have h2 := h1.perm (.swap _ _ _)
    have h3 := Holds.all_open (l := l) (R := P :: R) h2
    refine h3.perm ?_
    simp
theorem Holds.all_close {w : World} : ∀ {l R : List HP}, Holds w (l ++ R) → Holds w (HP.all l :: R)
  | [], _, h => h.emp_cons
  | P :: l, R, h => by
    have h1 : Holds w (l ++ P :: R) := h.perm (by simpa using List.perm_middle.symm)
    have h2 := Holds.all_close (l := l) (R := P :: R) h1
    exact (h2.perm (.swap _ _ _)).join






def Bk.fresh (k : Bk) (id : Nat) : Bool := !(kget k.votes id).isSome && !(kget k.ends id).isSome
theorem Bk.vote_ok {k : Bk} (h : k.Ok) (id : Nat) : ((kget k.votes id).getD Vt.zero).Ok := by
  cases hg : kget k.votes id with
  | none => exact Vt.zero_ok
  | some v => exact h.votes _ (kget_mem _ _ _ hg)
section
variable {w : World} {b : Nat} {x : BX} {k : Bk} {P : HP} {R : List HP}


end



























end Go.Proofs.YtibkngjacdggpaaDoor
