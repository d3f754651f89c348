/- Records compared with ==. -/
import Derived.Test.YtibkngjacdggpaaDoorRecA
import Derived.DeepKeys
namespace Go.Proofs.YtibkngjacdggpaaDoor
open Go.RowKit HP

def bLits (xs : List UInt8) : List Lit := xs.map fun x => .int .u8 (x.toNat : Int)
def Ed.lits (e : Ed) : List Lit := [.string e.s] ++ ([.bool e.q, .bool e.x] ++ bLits e.h)
structure Ed.Wf (e : Ed) : Prop where
  ok : e.Ok
  s : e.s.length ≤ maxLen
structure Rec.Wf (r : Rec) : Prop where
  ok : r.Ok
  ed : r.ed.Wf
  k0 : -9223372036854775808 ≤ r.kind
  k1 : r.kind ≤ 9223372036854775807
  id : r.id < 18446744073709551616
  base : r.base < 18446744073709551616
  c0 : -9223372036854775808 ≤ r.code
  c1 : r.code ≤ 9223372036854775807
  text : r.text.length ≤ maxLen
def Rec.lits (r : Rec) : List Lit := [.int .i64 r.kind] ++ ([.int .u64 r.id] ++ ([.int .u64 r.base] ++ (r.ed.lits ++ (bLits r.root ++ ([.int .i64 r.code] ++ ([.bool r.commit] ++ ([.bool r.has] ++ [.string r.text])))))))
theorem u8_lit_wf (x : UInt8) : (Lit.int .u8 (x.toNat : Int)).wf = true := by
  have := x.toNat_lt
  simp [Lit.wf, IntKind.min, IntKind.max, IntKind.signed, IntKind.bits]; omega
theorem keyLits_u8 (d : Nat) (x : UInt8) : Tryd.prog.keyLits (d + 1) 5 [.int .u8 (x.toNat : Int)] = some [.int .u8 (x.toNat : Int)] := by
  unfold Program.keyLits
  rw [Tryd.underlying5]
  simp [u8_lit_wf]
theorem mapM_chunks {f : Nat → Option (List Lit)} {g : Nat → List Lit} : ∀ (is : List Nat), (∀ i ∈ is, f i = some (g i)) → is.mapM f = some (is.map g)
  | [], _ => rfl
  | i :: is, h => by
    rw [List.mapM_cons, h i (by simp), mapM_chunks is fun j hj => h j (by simp [hj])]
    rfl
theorem flat_one : ∀ (l : List Lit), (l.map fun x => [x]).flatten = l
  | [] => rfl
  | a :: l => by
    rw [List.map_cons, List.flatten_cons, flat_one l]; rfl
theorem keyLits_hash (d : Nat) (xs : List UInt8) (h : xs.length = 32) : Tryd.prog.keyLits (d + 2) 22 (bcs xs) = some (bLits xs) := by
  have hc : Tryd.prog.cellsOf 22 = 32 := by kernel_rfl
  have hc1 : Tryd.prog.cellsOf 5 = 1 := by kernel_rfl
  unfold Program.keyLits
  rw [Tryd.underlying22]
  simp only
  rw [if_pos (by rw [hc]; simpa using h), hc1]
  have hm : (List.range 32).map (fun i => [Lit.int .u8 ((xs.getD i 0).toNat : Int)]) = (bLits xs).map fun x => [x] := by
    apply List.ext_getElem
    · simp [bLits, h]
    · intro i h1 h2
      simp at h1
      simp [bLits, List.getD, show i < xs.length by omega]
  rw [mapM_chunks (g := fun i => [.int .u8 ((xs.getD i 0).toNat : Int)])]
  · rw [Option.map_some, hm, flat_one]
  · intro i hi
    have hi' : i < 32 := by simpa using hi
    have : ((bcs xs).drop (i * 1)).take 1 = [.int .u8 ((xs.getD i 0).toNat : Int)] := by
      rw [Nat.mul_one, List.drop_eq_getElem_cons (by simp; omega), List.take_succ_cons, List.take_zero]
      simp [bcs, List.getD, show i < xs.length by omega, bc]
    rw [this]
    exact keyLits_u8 d _
theorem i64_lit_wf {n : Int} (h0 : -9223372036854775808 ≤ n) (h1 : n ≤ 9223372036854775807) : (Lit.int .i64 n).wf = true := by
  simp [Lit.wf, IntKind.min, IntKind.max, IntKind.signed, IntKind.bits]; omega
theorem u64_lit_wf {n : Nat} (h1 : n < 18446744073709551616) : (Lit.int .u64 (n : Int)).wf = true := by
  simp [Lit.wf, IntKind.min, IntKind.max, IntKind.signed, IntKind.bits]; omega
section
variable (d : Nat)
theorem keyLits_int (n : Int) (h : (Lit.int .i64 n).wf = true) : Tryd.prog.keyLits (d + 1) 3 [.int .i64 n] = some [.int .i64 n] := by
  unfold Program.keyLits
  rw [Tryd.underlying3]
  simp [h]
theorem keyLits_errno (n : Int) (h : (Lit.int .i64 n).wf = true) : Tryd.prog.keyLits (d + 1) 31 [.int .i64 n] = some [.int .i64 n] := by
  unfold Program.keyLits
  rw [Tryd.underlying31]
  simp [h]
theorem keyLits_u64 (n : Int) (h : (Lit.int .u64 n).wf = true) : Tryd.prog.keyLits (d + 1) 36 [.int .u64 n] = some [.int .u64 n] := by
  unfold Program.keyLits
  rw [Tryd.underlying36]
  simp [h]
theorem keyLits_bool (b : Bool) : Tryd.prog.keyLits (d + 1) 4 [.bool b] = some [.bool b] := by
  unfold Program.keyLits
  rw [Tryd.underlying4]
theorem keyLits_str (s : List UInt8) (h : s.length ≤ maxLen) : Tryd.prog.keyLits (d + 1) 9 [.string (strOf s)] = some [.string s] := by
  unfold Program.keyLits
  rw [Tryd.underlying9]
  have : (strOf s).size ≤ maxLen := by rw [strOf_size]; exact h
  show (if (strOf s).size ≤ maxLen then some [Lit.string (strOf s).data.toList] else none) = _
  rw [if_pos this]
  simp [strOf]
theorem keyLits_flags (q x : Bool) : Tryd.prog.keyLits (d + 2) 38 [.bool q, .bool x] = some [.bool q, .bool x] := by
  have hc : Tryd.prog.cellsOf 38 = 2 := by kernel_rfl
  have hb : Tryd.prog.cellsOf 4 = 1 := by kernel_rfl
  unfold Program.keyLits
  rw [Tryd.underlying38]
  simp only
  rw [if_pos (by rw [hc]; exact ⟨rfl, by decide +kernel⟩)]
  simp [hb, keyLits_bool]
theorem keyLits_edit (e : Ed) (h : e.Wf) : Tryd.prog.keyLits (d + 3) 40 e.cells = some e.lits := by
  have hc : Tryd.prog.cellsOf 40 = 35 := by kernel_rfl
  have h1 : Tryd.prog.cellsOf 9 = 1 := by kernel_rfl
  have h2 : Tryd.prog.cellsOf 38 = 2 := by kernel_rfl
  have h3 : Tryd.prog.cellsOf 22 = 32 := by kernel_rfl
  unfold Program.keyLits
  rw [Tryd.underlying40]
  simp only
  rw [if_pos (by rw [hc]; exact ⟨Ed.length_cells h.ok, by decide +kernel⟩)]
  have a1 := keyLits_str (d + 1) e.s h.s
  have a2 := keyLits_flags d e.q e.x
  have a3 := keyLits_hash d e.h h.ok
  have e1 : (e.cells.drop 0).take 1 = [.string (strOf e.s)] := rfl
  have e2 : (e.cells.drop 1).take 2 = [.bool e.q, .bool e.x] := rfl
  have e3 : (e.cells.drop 3).take 32 = bcs e.h := by
    show (bcs e.h).take 32 = bcs e.h
    exact List.take_of_length_le (by simp [show e.h.length = 32 from h.ok])
  simp only [h1, h2, h3, e1, e2, e3, a1, a2, a3, List.mapM_cons, List.mapM_nil, Option.bind_eq_bind, Option.bind_some, Option.pure_def, Option.map_some]
  simp [Ed.lits]















































end
theorem bLits_inj {a b : List UInt8} (h : bLits a = bLits b) : a = b := by
  unfold bLits at h
  exact List.map_inj_right (fun x y h => by
    simp only [Lit.int.injEq, true_and, Int.natCast_inj] at h
    exact UInt8.toNat.inj h) |>.1 h
theorem Ed.lits_inj {a b : Ed} (h : a.lits = b.lits) : a = b := by
  simp only [Ed.lits, List.cons_append, List.nil_append, List.cons.injEq, Lit.string.injEq, Lit.bool.injEq] at h
  obtain ⟨h1, h2, h3, h4⟩ := h
  have h5 := bLits_inj h4
  cases a; cases b; simp_all
theorem Ed.length_lits {e : Ed} (h : e.Ok) : e.lits.length = 35 := by simp [Ed.lits, bLits, show e.h.length = 32 from h]
theorem Rec.lits_inj {a b : Rec} (ha : a.Ok) (hb : b.Ok) (h : a.lits = b.lits) : a = b := by
  simp only [Rec.lits, List.cons_append, List.nil_append, List.cons.injEq, Lit.int.injEq, true_and, Int.natCast_inj] at h
  obtain ⟨h1, h2, h3, h4⟩ := h
  obtain ⟨h5, h6⟩ := List.append_inj h4 (by rw [Ed.length_lits ha.ed, Ed.length_lits hb.ed])
  obtain ⟨h7, h8⟩ := List.append_inj h6 (by simp [bLits, ha.root, hb.root])
  simp only [List.cons.injEq, Lit.int.injEq, Lit.bool.injEq, Lit.string.injEq, true_and, and_true] at h8
  obtain ⟨h9, h10, h11, h12⟩ := h8
  have e1 := Ed.lits_inj h5
  have e2 := bLits_inj h7
  cases a; cases b; simp_all
/-- Two edits, two records are the same. -/
def sameE (a b : Ed) : Bool := a.s == b.s && (a.q == b.q && (a.x == b.x && a.h == b.h))
theorem sameE_iff {a b : Ed} : sameE a b = true ↔ a = b := by
  cases a; cases b
  simp [sameE]
def sameR (a b : Rec) : Bool := a.kind == b.kind && (a.id == b.id && (a.base == b.base && (sameE a.ed b.ed && (a.root == b.root && (a.code == b.code && (a.commit == b.commit && (a.has == b.has && a.text == b.text)))))))
theorem sameR_iff {a b : Rec} : sameR a b = true ↔ a = b := by
  cases a; cases b
  simp [sameR, sameE_iff]
theorem sameR_self (a : Rec) : sameR a a = true := sameR_iff.2 rfl



























theorem Ed.zero_wf : Ed.zero.Wf := ⟨Ed.zero_ok, by simp [Ed.zero, maxLen]⟩
theorem bareR_wf {r : Rec} (h : r.Wf) : (bareR r).Wf := by
  have z : (0 : Nat) ≤ maxLen := by decide
  have zn : (0 : Nat) < 18446744073709551616 := by decide
  have zi : -9223372036854775808 ≤ (0 : Int) := by decide
  have zj : (0 : Int) ≤ 9223372036854775807 := by decide
  unfold bareR
  split
  · exact ⟨⟨h.ok.ed, length_zeros 32⟩, h.ed, h.k0, h.k1, h.id, zn, zi, zj, z⟩
  · split
    · exact ⟨⟨h.ok.ed, h.ok.root⟩, h.ed, h.k0, h.k1, h.id, h.base, zi, zj, z⟩
    · split
      · exact ⟨⟨Ed.zero_ok, length_zeros 32⟩, Ed.zero_wf, h.k0, h.k1, h.id, zn, h.c0, h.c1, z⟩
      · split
        · refine ⟨⟨Ed.zero_ok, length_zeros 32⟩, Ed.zero_wf, h.k0, h.k1, h.id, zn, zi, zj, ?_⟩
          show (if r.has = true then r.text else []).length ≤ maxLen
          split
          · exact h.text
          · exact z
        · exact ⟨⟨Ed.zero_ok, length_zeros 32⟩, Ed.zero_wf, h.k0, h.k1, h.id, zn, zi, zj, z⟩
end Go.Proofs.YtibkngjacdggpaaDoor
