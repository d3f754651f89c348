/- Books: what stands in memory; fresh, fits. -/
import Derived.Test.YtaieonajialenaaRecF
import Derived.Test.YtaieonajialenaaUntil
namespace Go.Proofs.Ytaieonajialenaa
open Go.RowKit HP

def Ed.segs (e : Ed) : List Sg := [.o (.string (strOf e.s)), .o (.bool e.q), .o (.bool e.x), .b 32 e.h]
theorem Ed.segs_ok {e : Ed} (h : e.Ok) : SgOk e.segs := ⟨rfl, rfl, rfl, h, trivial⟩
def Rec.segs (r : Rec) : List Sg :=
  [.o (.int .i64 r.kind), .o (.int .u64 r.id), .o (.int .u64 r.base), .o (.string (strOf r.ed.s)), .o (.bool r.ed.q), .o (.bool r.ed.x), .b 32 r.ed.h, .b 32 r.root, .o (.int .i64 r.code), .o (.bool r.commit), .o (.bool r.has), .o (.string (strOf r.text))]
theorem Rec.segs_ok {r : Rec} (h : r.Ok) : SgOk r.segs := ⟨rfl, rfl, rfl, rfl, rfl, rfl, h.ed, h.root, rfl, rfl, rfl, rfl, trivial⟩
theorem Rec.flat_segs (r : Rec) : flat r.segs = r.cells := rfl
theorem Ed.flat_segs (e : Ed) : flat e.segs = e.cells := rfl
structure Vt where
  yes : Bool
  base : Nat
  ed : Ed
  root : List UInt8
  code : Int
def Vt.segs (v : Vt) : List Sg := [.o (.bool v.yes), .o (.int .u64 v.base), .o (.string (strOf v.ed.s)), .o (.bool v.ed.q), .o (.bool v.ed.x), .b 32 v.ed.h, .b 32 v.root, .o (.int .i64 v.code)]
def Vt.val (v : Vt) : Value := .agg (flat v.segs).toArray
def Vt.zero : Vt := ⟨false, 0, Ed.zero, zeros 32, 0⟩
structure Vt.Ok (v : Vt) : Prop where
  ed : v.ed.Ok
  root : v.root.length = 32
theorem Vt.zero_ok : Vt.zero.Ok := ⟨Ed.zero_ok, length_zeros 32⟩
theorem Vt.segs_ok {v : Vt} (h : v.Ok) : SgOk v.segs := ⟨rfl, rfl, rfl, rfl, rfl, h.ed, h.root, rfl, trivial⟩
def tsegs (s : List UInt8) : List Sg := [.o (.string (strOf s))]
theorem tsegs_ok (s : List UInt8) : SgOk (tsegs s) := ⟨rfl, trivial⟩
structure Bk where
  edits : List Ed
  votes : List (Nat × Vt)
  ends : List (Nat × Bool)
  prep : Nat
  vers : List (List UInt8)
/-- where its parts stand -/
structure BX where
  eA : Option Addr
  ec : Nat
  mv : Nat
  me : Nat
  vA : Option Addr
  vc : Nat
def Bk.segs (x : BX) (k : Bk) : List Sg := [.o (.slice x.eA k.edits.length x.ec), .o (.map (some x.mv)), .o (.map (some x.me)), .o (.int .u64 k.prep), .o (.slice x.vA k.vers.length x.vc)]
theorem Bk.segs_ok (x : BX) (k : Bk) : SgOk (k.segs x) := ⟨rfl, rfl, rfl, rfl, rfl, trivial⟩
def BkL (b : Nat) (x : BX) (k : Bk) (R : List HP) : List HP :=
  sblk b 115 (k.segs x) :: arr 35 35 Ed.segs (.slice x.eA k.edits.length x.ec) k.edits :: kmap .u64 Vt.val x.mv k.votes :: kmap .u64 Value.bool x.me k.ends :: arr 9 1 tsegs (.slice x.vA k.vers.length x.vc) k.vers :: R
structure Bk.Ok (k : Bk) : Prop where
  votes : ∀ p ∈ k.votes, p.2.Ok
def BkH (b : Nat) (k : Bk) : HP := ex fun x : BX => cond k.Ok (HP.all (BkL b x k []))
theorem Holds.all_open {w : World} : ∀ {l R : List HP}, Holds w (HP.all l :: R) → Holds w (l ++ R)
  | [], _, h => h.emp_tail
  | P :: l, R, h => by
    have h1 := h.sep_
    have h2 := h1.perm (.swap _ _ _)
    have h3 := Holds.all_open (l := l) (R := P :: R) h2
    refine h3.perm ?_
    simp
theorem Holds.all_close {w : World} : ∀ {l R : List HP}, Holds w (l ++ R) → Holds w (HP.all l :: R)
  | [], _, h => h.emp_cons
  | P :: l, R, h => by
    have h1 : Holds w (l ++ P :: R) := h.perm (by simpa using List.perm_middle.symm)
    have h2 := Holds.all_close (l := l) (R := P :: R) h1
    exact (h2.perm (.swap _ _ _)).join
theorem Holds.bk_open {w : World} {b : Nat} {k : Bk} {R : List HP} (h : Holds w (BkH b k :: R)) : k.Ok ∧ ∃ x, Holds w (BkL b x k R) := by
  obtain ⟨x, h⟩ := h.ex_
  obtain ⟨hk, h⟩ := h.cond_
  exact ⟨hk, x, h.all_open⟩
theorem Holds.bk_close {w : World} {b : Nat} {k : Bk} {x : BX} {R : List HP} (hk : k.Ok) (h : Holds w (BkL b x k R)) : Holds w (BkH b k :: R) :=
  Holds.mk_ex x (Holds.mk_cond hk (Holds.all_close (l := BkL b x k []) h))
def Bk.fresh (k : Bk) (id : Nat) : Bool := !(kget k.votes id).isSome && !(kget k.ends id).isSome
theorem Bk.vote_ok {k : Bk} (h : k.Ok) (id : Nat) : ((kget k.votes id).getD Vt.zero).Ok := by
  cases hg : kget k.votes id with
  | none => exact Vt.zero_ok
  | some v => exact h.votes _ (kget_mem _ _ _ hg)
section
variable {w : World} {b : Nat} {x : BX} {k : Bk} {P : HP} {R : List HP}
theorem BkL.front (h : Holds w (BkL b x k (P :: R))) : Holds w (P :: BkL b x k R) := h.pull 5 rfl
theorem BkL.behind (h : Holds w (P :: BkL b x k R)) : Holds w (BkL b x k (P :: R)) := h.push_ 5 (by simp [BkL])
end
set_option maxRecDepth 100000 in
theorem fresh_ok (k : Bk) (hk : k.Ok) (b : Nat) (x : BX) (id : Nat) {bo : Bool} (hbo : k.fresh id = bo) (w : World) (R : List HP) (hh : Holds w (BkL b x k R)) :
    Calls Try.prog 106 #[.pointer (some ⟨b, 0, none⟩), .int .u64 (id : Int)] w fun e w' => e = .returned (.bool bo) ∧ Holds w' (BkL b x k R) := by
  subst hbo
  have hv := Vt.segs_ok (Bk.vote_ok hk id)
  have HW : Hid (Holds w (_ :: _)) := hh
  have HF : Hid (k.fresh id = (!(kget k.votes id).isSome && !(kget k.ends id).isSome)) := rfl
  clear hh hk
  obtain ⟨v, HV⟩ : ∃ v, Hid ((kget k.votes id).getD Vt.zero = v) := ⟨_, rfl⟩
  obtain ⟨b1, H1⟩ : ∃ v, Hid ((kget k.votes id).isSome = v) := ⟨_, rfl⟩
  obtain ⟨b2, H2⟩ : ∃ v, Hid ((kget k.ends id).isSome = v) := ⟨_, rfl⟩
  obtain ⟨b3, H3⟩ : ∃ v, Hid ((kget k.ends id).getD false = v) := ⟨_, rfl⟩
  rw [HF.out, H1.out, H2.out]
  rw [HV.out] at hv
  clear HF
  cases b1
  all_goals
    go_enter Try.func106, Try.ntmps106
    go_wp2_with (first
      | go_skip
      | (refine wpList_runs HW.out rfl (runs_ldR 0 (ty := 40) (n := 70) rfl rfl rfl rfl Try.underlying40 rfl (by kernel_rfl)) ?_; simp only [put_rules])
      | (refine wpList_runs HW.out rfl (runs_ldR 1 (ty := 40) (n := 70) rfl rfl rfl rfl Try.underlying40 rfl (by kernel_rfl)) ?_; simp only [put_rules])
      | (refine wpList_runs HW.out rfl (runs_ld1 0 rfl rfl rfl rfl (by kernel_rfl)) ?_; simp only [put_rules])
      | (refine wpList_runs HW.out rfl (runs_ld1 1 rfl rfl rfl rfl (by kernel_rfl)) ?_; simp only [put_rules])
      | (refine wpList_stR HW.out rfl (ty := 40) (n := 70) rfl rfl 0 rfl rfl rfl (by assumption) rfl (by kernel_rfl) (fun w' hw' => ?_); clear HW; have HW := Lib.hid hw'; clear hw'; (try simp only [hps_rules] at HW); (try simp only [put_rules]))
      | (refine wpList_stR HW.out rfl (ty := 40) (n := 70) rfl rfl 1 rfl rfl rfl (by assumption) rfl (by kernel_rfl) (fun w' hw' => ?_); clear HW; have HW := Lib.hid hw'; clear hw'; (try simp only [hps_rules] at HW); (try simp only [put_rules]))
      | (refine wpList_st1 HW.out rfl rfl rfl 0 rfl rfl rfl rfl (by kernel_rfl) (fun w' hw' => ?_); clear HW; have HW := Lib.hid hw'; clear hw'; (try simp only [hps_rules] at HW); (try simp only [put_rules]))
      | (refine wpList_st1 HW.out rfl rfl rfl 1 rfl rfl rfl rfl (by kernel_rfl) (fun w' hw' => ?_); clear HW; have HW := Lib.hid hw'; clear hw'; (try simp only [hps_rules] at HW); (try simp only [put_rules]))
      | (refine wpList_alloc HW.out rfl rfl (z := Vt.zero.val) (by kernel_rfl) (M := Vt.zero.segs) rfl (Vt.segs_ok Vt.zero_ok) (fun g w' hw' => ?_)
         clear HW; have HW := Lib.hid hw'; clear hw'; (try simp only [hps_rules] at HW); (try simp only [put_rules]))
      | (refine wpList_runs HW.out rfl (runs_lookup 2 rfl rfl rfl rfl Try.underlying110 Try.underlying23 Vt.zero (by kernel_rfl) HV.out H1.out) ?_; simp only [put_rules])
      | (refine wpList_runs HW.out rfl (runs_lookup 4 rfl rfl rfl rfl Try.underlying111 Try.underlying23 false (by kernel_rfl) H3.out H2.out) ?_; simp only [put_rules])
      | fail)
    go_ret
    exact ⟨ret_bool (by first | rfl | simp), HW.out.tail⟩
end Go.Proofs.Ytaieonajialenaa
