/- Messages as they stand in cells; compared with ==; what a message is with just what its kind has; formed ones; their bytes. -/
import Derived.Test.YtibkngjacdggpaaDoorBookA
import Derived.Test.YtibkngjacdggpaaDoorRecD
namespace Go.Proofs.YtibkngjacdggpaaDoor
set_option linter.unusedSimpArgs false
set_option linter.unusedVariables false
open Go.RowKit HP

structure Msg where
  kind : Int
  frm : Int
  to : Int
  id : Nat
  base : Nat
  ed : Ed
  yes : Bool
  code : Int
  hash : List UInt8
  root : List UInt8
  commit : Bool
def Msg.segs (m : Msg) : List Sg :=
  [.o (.int .i64 m.kind), .o (.int .i64 m.frm), .o (.int .i64 m.to), .o (.int .u64 m.id), .o (.int .u64 m.base), .o (.string (strOf m.ed.s)), .o (.bool m.ed.q), .o (.bool m.ed.x), .b 32 m.ed.h, .o (.bool m.yes), .o (.int .i64 m.code), .b 32 m.hash, .b 32 m.root, .o (.bool m.commit)]
def Msg.zero : Msg := ⟨0, 0, 0, 0, 0, Ed.zero, false, 0, zeros 32, zeros 32, false⟩
structure Msg.Ok (m : Msg) : Prop where
  ed : m.ed.Ok
  hash : m.hash.length = 32
  root : m.root.length = 32
theorem Msg.segs_ok {m : Msg} (h : m.Ok) : SgOk m.segs := ⟨rfl, rfl, rfl, rfl, rfl, rfl, rfl, rfl, h.ed, rfl, rfl, h.hash, h.root, rfl, trivial⟩
theorem Msg.zero_ok : Msg.zero.Ok := ⟨Ed.zero_ok, length_zeros 32, length_zeros 32⟩
structure Msg.Wf (m : Msg) : Prop where
  ok : m.Ok
  ed : m.ed.Wf
  k0 : -9223372036854775808 ≤ m.kind
  k1 : m.kind ≤ 9223372036854775807
  f0 : -9223372036854775808 ≤ m.frm
  f1 : m.frm ≤ 9223372036854775807
  t0 : -9223372036854775808 ≤ m.to
  t1 : m.to ≤ 9223372036854775807
  id : m.id < 18446744073709551616
  base : m.base < 18446744073709551616
  c0 : -9223372036854775808 ≤ m.code
  c1 : m.code ≤ 9223372036854775807
theorem Msg.zero_wf : Msg.zero.Wf := ⟨Msg.zero_ok, Ed.zero_wf, by decide, by decide, by decide, by decide, by decide, by decide, by decide, by decide, by decide, by decide⟩
def Msg.lits (m : Msg) : List Lit := [.int .i64 m.kind] ++ ([.int .i64 m.frm] ++ ([.int .i64 m.to] ++ ([.int .u64 m.id] ++ ([.int .u64 m.base] ++ (m.ed.lits ++ ([.bool m.yes] ++ ([.int .i64 m.code] ++ (bLits m.hash ++ (bLits m.root ++ [.bool m.commit])))))))))
def Msg.cells (m : Msg) : List Value := .int .i64 m.kind :: .int .i64 m.frm :: .int .i64 m.to :: .int .u64 m.id :: .int .u64 m.base :: (m.ed.cells ++ (.bool m.yes :: .int .i64 m.code :: (bcs m.hash ++ (bcs m.root ++ [.bool m.commit]))))
theorem Msg.flat_segs (m : Msg) : flat m.segs = m.cells := rfl
theorem Msg.length_cells {m : Msg} (h : m.Ok) : m.cells.length = 107 := by simp [Msg.cells, Ed.length_cells h.ed, h.hash, h.root]
theorem Msg.length_segs {m : Msg} (h : m.Ok) : (flat m.segs).length = 107 := Msg.length_cells h
theorem keyLits_msg (d : Nat) {T : TypeId} (hT : T = 46 ∨ T = 42) (m : Msg) (h : m.Wf) : Tryd.prog.keyLits (d + 4) T m.cells = some m.lits := by
  have h0 : Tryd.prog.cellsOf 3 = 1 := by kernel_rfl
  have h1 : Tryd.prog.cellsOf 36 = 1 := by kernel_rfl
  have h2 : Tryd.prog.cellsOf 40 = 35 := by kernel_rfl
  have h3 : Tryd.prog.cellsOf 22 = 32 := by kernel_rfl
  have h4 : Tryd.prog.cellsOf 31 = 1 := by kernel_rfl
  have h5 : Tryd.prog.cellsOf 4 = 1 := by kernel_rfl
  have a0 := keyLits_int (d + 2) m.kind (i64_lit_wf h.k0 h.k1)
  have a1 := keyLits_int (d + 2) m.frm (i64_lit_wf h.f0 h.f1)
  have a2 := keyLits_int (d + 2) m.to (i64_lit_wf h.t0 h.t1)
  have a3 := keyLits_u64 (d + 2) m.id (u64_lit_wf h.id)
  have a4 := keyLits_u64 (d + 2) m.base (u64_lit_wf h.base)
  have a5 := keyLits_edit d m.ed h.ed
  have a6 := keyLits_bool (d + 2) m.yes
  have a7 := keyLits_errno (d + 2) m.code (i64_lit_wf h.c0 h.c1)
  have a8 := keyLits_hash (d + 1) m.hash h.ok.hash
  have a9 := keyLits_hash (d + 1) m.root h.ok.root
  have a10 := keyLits_bool (d + 2) m.commit
  have hel := Ed.length_cells h.ok.ed
  have e0 : (m.cells.drop 0).take 1 = [.int .i64 m.kind] := rfl
  have e1 : (m.cells.drop 1).take 1 = [.int .i64 m.frm] := rfl
  have e2 : (m.cells.drop 2).take 1 = [.int .i64 m.to] := rfl
  have e3 : (m.cells.drop 3).take 1 = [.int .u64 m.id] := rfl
  have e4 : (m.cells.drop 4).take 1 = [.int .u64 m.base] := rfl
  have d5 : m.cells.drop 5 = m.ed.cells ++ (.bool m.yes :: .int .i64 m.code :: (bcs m.hash ++ (bcs m.root ++ [.bool m.commit]))) := rfl
  have d40 : m.cells.drop 40 = .bool m.yes :: .int .i64 m.code :: (bcs m.hash ++ (bcs m.root ++ [.bool m.commit])) := by
    rw [show (40 : Nat) = 5 + 35 from rfl, ← List.drop_drop, d5, List.drop_left' hel]
  have d42 : m.cells.drop 42 = bcs m.hash ++ (bcs m.root ++ [.bool m.commit]) := by
    rw [show (42 : Nat) = 40 + 2 from rfl, ← List.drop_drop, d40]; rfl
  have d74 : m.cells.drop 74 = bcs m.root ++ [.bool m.commit] := by
    rw [show (74 : Nat) = 42 + 32 from rfl, ← List.drop_drop, d42, List.drop_left' (by simp [h.ok.hash])]
  have d106 : m.cells.drop 106 = [.bool m.commit] := by
    rw [show (106 : Nat) = 74 + 32 from rfl, ← List.drop_drop, d74, List.drop_left' (by simp [h.ok.root])]
  have e5 : (m.cells.drop 5).take 35 = m.ed.cells := by rw [d5, List.take_left' hel]
  have e6 : (m.cells.drop 40).take 1 = [.bool m.yes] := by rw [d40]; rfl
  have e7 : (m.cells.drop 41).take 1 = [.int .i64 m.code] := by rw [show (41 : Nat) = 40 + 1 from rfl, ← List.drop_drop, d40]; rfl
  have e8 : (m.cells.drop 42).take 32 = bcs m.hash := by rw [d42, List.take_left' (by simp [h.ok.hash])]
  have e9 : (m.cells.drop 74).take 32 = bcs m.root := by rw [d74, List.take_left' (by simp [h.ok.root])]
  have e10 : (m.cells.drop 106).take 1 = [.bool m.commit] := by rw [d106]; rfl
  rcases hT with rfl | rfl
  · have hc : Tryd.prog.cellsOf 46 = 107 := by kernel_rfl
    unfold Program.keyLits
    rw [Tryd.underlying46]
    simp only
    rw [if_pos (by rw [hc]; exact ⟨Msg.length_cells h.ok, by decide +kernel⟩)]
    simp only [h0, h1, h2, h3, h4, h5, e0, e1, e2, e3, e4, e5, e6, e7, e8, e9, e10, a0, a1, a2, a3, a4, a5, a6, a7, a8, a9, a10, List.mapM_cons, List.mapM_nil, Option.bind_eq_bind, Option.bind_some, Option.pure_def, Option.map_some]
    simp [Msg.lits]
  · have hc : Tryd.prog.cellsOf 42 = 107 := by kernel_rfl
    unfold Program.keyLits
    rw [Tryd.underlying42]
    simp only
    rw [if_pos (by rw [hc]; exact ⟨Msg.length_cells h.ok, by decide +kernel⟩)]
    simp only [h0, h1, h2, h3, h4, h5, e0, e1, e2, e3, e4, e5, e6, e7, e8, e9, e10, a0, a1, a2, a3, a4, a5, a6, a7, a8, a9, a10, List.mapM_cons, List.mapM_nil, Option.bind_eq_bind, Option.bind_some, Option.pure_def, Option.map_some]
    simp [Msg.lits]
theorem length_bLits (xs : List UInt8) : (bLits xs).length = xs.length := by simp [bLits]
theorem Msg.lits_inj {a b : Msg} (ha : a.Ok) (hb : b.Ok) (h : a.lits = b.lits) : a = b := by
  simp only [Msg.lits, List.cons_append, List.nil_append, List.cons.injEq, Lit.int.injEq, true_and, Int.natCast_inj] at h
  obtain ⟨h1, h2, h3, h4, h5, h6⟩ := h
  obtain ⟨h7, h8⟩ := List.append_inj h6 (by rw [Ed.length_lits ha.ed, Ed.length_lits hb.ed])
  simp only [List.cons.injEq, Lit.int.injEq, Lit.bool.injEq, true_and] at h8
  obtain ⟨h9, h10, h11⟩ := h8
  obtain ⟨h12, h13⟩ := List.append_inj h11 (by rw [length_bLits, length_bLits, ha.hash, hb.hash])
  obtain ⟨h14, h15⟩ := List.append_inj h13 (by rw [length_bLits, length_bLits, ha.root, hb.root])
  simp only [List.cons.injEq, Lit.bool.injEq, and_true] at h15
  have e1 := Ed.lits_inj h7
  have e2 := bLits_inj h12
  have e3 := bLits_inj h14
  cases a; cases b; simp_all
def sameM (a b : Msg) : Bool := a.kind == b.kind && (a.frm == b.frm && (a.to == b.to && (a.id == b.id && (a.base == b.base && (sameE a.ed b.ed && (a.yes == b.yes && (a.code == b.code && (a.hash == b.hash && (a.root == b.root && a.commit == b.commit)))))))))
theorem sameM_iff {a b : Msg} : sameM a b = true ↔ a = b := by
  cases a; cases b
  simp [sameM, sameE_iff]
theorem sameM_self (a : Msg) : sameM a a = true := sameM_iff.2 rfl
theorem run_equal_msg_at (d : Nat) (hd : d + 8 = 10000) {T : TypeId} (hT : T = 46 ∨ T = 42) {a b : Msg} (ha : a.Wf) (hb : b.Wf) (w : World) :
    (Op.equalIn 10000 T (.agg (flat a.segs).toArray) (.agg (flat b.segs).toArray)).run Tryd.prog w = .ok (sameM a b) w := by
  have hk : Tryd.prog.keyTypeAt 8 T = true := by rcases hT with rfl | rfl <;> kernel_rfl
  have hf : ∀ {r : Msg}, r.Wf → (Value.agg r.cells.toArray).formed Tryd.prog T = true := by
    intro r hr
    have hc : Tryd.prog.cellsOf T = 107 := by rcases hT with rfl | rfl <;> kernel_rfl
    have hu : ∃ fs, Tryd.prog.underlying T = some (.struct fs) := by
      rcases hT with rfl | rfl
      · exact ⟨_, Tryd.underlying46⟩
      · exact ⟨_, Tryd.underlying42⟩
    obtain ⟨fs, hu⟩ := hu
    simp only [Value.formed, hu, hc]
    simp [Msg.length_cells hr.ok]
  obtain ⟨r, hr, hi⟩ := run_equalIn_deep d 8 T hk w _ _ _ _ a.lits b.lits (hf ha) (hf hb) (keyLits_msg 0 hT a ha) (keyLits_msg 0 hT b hb)
  have he : r = sameM a b := by
    rw [Bool.eq_iff_iff, hi, sameM_iff]
    exact ⟨Msg.lits_inj ha.ok hb.ok, fun e => by rw [e]⟩
  rw [hd, he] at hr
  exact hr
theorem run_equal_msg {T : TypeId} (hT : T = 46 ∨ T = 42) {a b : Msg} (ha : a.Wf) (hb : b.Wf) (w : World) :
    (Op.equalIn 10000 T (.agg (flat a.segs).toArray) (.agg (flat b.segs).toArray)).run Tryd.prog w = .ok (sameM a b) w := run_equal_msg_at 9992 (by omega) hT ha hb w
/-- with just what its kind has -/
def bareM (m : Msg) : Msg :=
  if m.kind = 1 then { Msg.zero with kind := m.kind, frm := m.frm, to := m.to, id := m.id, base := m.base, ed := m.ed }
  else if m.kind = 2 then (if m.yes = true then { Msg.zero with kind := m.kind, frm := m.frm, to := m.to, id := m.id, yes := true, hash := m.hash, root := m.root } else { Msg.zero with kind := m.kind, frm := m.frm, to := m.to, id := m.id, code := m.code })
  else if m.kind = 3 then { Msg.zero with kind := m.kind, frm := m.frm, to := m.to, id := m.id, commit := m.commit }
  else if m.kind = 6 then { Msg.zero with kind := m.kind, frm := m.frm, to := m.to, id := m.id, commit := m.commit }
  else { Msg.zero with kind := m.kind, frm := m.frm, to := m.to, id := m.id }
theorem bareM_wf {m : Msg} (h : m.Wf) : (bareM m).Wf := by
  have zn : (0 : Nat) < 18446744073709551616 := by decide
  have zi : -9223372036854775808 ≤ (0 : Int) := by decide
  have zj : (0 : Int) ≤ 9223372036854775807 := by decide
  have z := length_zeros 32
  unfold bareM
  repeat' split
  · exact ⟨⟨h.ok.ed, z, z⟩, h.ed, h.k0, h.k1, h.f0, h.f1, h.t0, h.t1, h.id, h.base, zi, zj⟩
  · exact ⟨⟨Ed.zero_ok, h.ok.hash, h.ok.root⟩, Ed.zero_wf, h.k0, h.k1, h.f0, h.f1, h.t0, h.t1, h.id, zn, zi, zj⟩
  · exact ⟨⟨Ed.zero_ok, z, z⟩, Ed.zero_wf, h.k0, h.k1, h.f0, h.f1, h.t0, h.t1, h.id, zn, h.c0, h.c1⟩
  all_goals exact ⟨⟨Ed.zero_ok, z, z⟩, Ed.zero_wf, h.k0, h.k1, h.f0, h.f1, h.t0, h.t1, h.id, zn, zi, zj⟩
theorem bareM_ok {m : Msg} (h : m.Ok) : (bareM m).Ok := by
  have z := length_zeros 32
  unfold bareM
  repeat' split
  · exact ⟨h.ed, z, z⟩
  · exact ⟨Ed.zero_ok, h.hash, h.root⟩
  all_goals exact ⟨Ed.zero_ok, z, z⟩
def nodeOk (n : Int) : Bool := decide (0 ≤ n) && decide (n ≤ 16)
def formedM (m : Msg) : Bool :=
  decide (1 ≤ m.kind) && (decide (m.kind ≤ 6) && (nodeOk m.frm && (nodeOk m.to && (decide (m.frm ≠ m.to) && (decide (0 < m.id) && (decide (m.id ≤ 4294967295) && (decide (m.base ≤ 4294967295) && (decide (m.ed.s.length ≤ 500) &&
    (sameM m (bareM m) && (!decide (m.kind = 2) || (m.yes || codeOk m.code)))))))))))
structure FormedM (m : Msg) : Prop where
  k1 : 1 ≤ m.kind
  k6 : m.kind ≤ 6
  f0 : 0 ≤ m.frm
  f1 : m.frm ≤ 16
  t0 : 0 ≤ m.to
  t1 : m.to ≤ 16
  ft : m.frm ≠ m.to
  i0 : 0 < m.id
  i1 : m.id ≤ 4294967295
  b1 : m.base ≤ 4294967295
  s : m.ed.s.length ≤ 500
  bare : m = bareM m
  code : m.kind = 2 → m.yes = false → 1 ≤ m.code ∧ m.code ≤ 17
theorem formedM_iff (m : Msg) : formedM m = true ↔ FormedM m := by
  constructor
  · intro h
    simp only [formedM, nodeOk, Bool.and_eq_true, decide_eq_true_eq, Bool.or_eq_true, Bool.not_eq_true', decide_eq_false_iff_not, codeOk, sameM_iff] at h
    obtain ⟨h1, h2, ⟨h3, h4⟩, ⟨h5, h6⟩, h7, h8, h9, h10, h11, h12, h13⟩ := h
    exact ⟨h1, h2, h3, h4, h5, h6, h7, h8, h9, h10, h11, h12, fun e f => (h13.resolve_left (fun h => h e)).resolve_left (by rw [f]; decide)⟩
  · rintro ⟨h1, h2, h3, h4, h5, h6, h7, h8, h9, h10, h11, h12, h13⟩
    simp only [formedM, nodeOk, Bool.and_eq_true, decide_eq_true_eq, Bool.or_eq_true, Bool.not_eq_true', decide_eq_false_iff_not, codeOk, sameM_iff]
    refine ⟨h1, h2, ⟨h3, h4⟩, ⟨h5, h6⟩, h7, h8, h9, h10, h11, h12, ?_⟩
    by_cases e : m.kind = 2
    · cases hy : m.yes
      · exact .inr (.inr (h13 e hy))
      · exact .inr (.inl rfl)
    · exact .inl e
/-- what stands in a message's frame -/
def encM (m : Msg) : List UInt8 :=
  beL m.frm.toNat 1 ++ (beL m.to.toNat 1 ++ (beL m.id 4 ++
    (if m.kind = 1 then beL m.base 4 ++ encE m.ed else if m.kind = 2 then (if m.yes = true then beL (bitN true) 1 ++ (m.hash ++ m.root) else beL (bitN false) 1 ++ beL m.code.toNat 1)
      else if m.kind = 3 then beL (bitN m.commit) 1 else if m.kind = 6 then beL (bitN m.commit) 1 else [])))
end Go.Proofs.YtibkngjacdggpaaDoor
