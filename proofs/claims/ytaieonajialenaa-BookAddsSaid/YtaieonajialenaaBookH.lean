/- Votes compared; what a book keeps. -/
import Derived.Test.YtaieonajialenaaBookG
import Derived.Test.YtaieonajialenaaRecG
namespace Go.Proofs.Ytaieonajialenaa
open Go.RowKit HP

structure Vt.Wf (v : Vt) : Prop where
  ok : v.Ok
  ed : v.ed.Wf
  base : v.base < 18446744073709551616
  c0 : -9223372036854775808 ≤ v.code
  c1 : v.code ≤ 9223372036854775807
def Vt.lits (v : Vt) : List Lit := [.bool v.yes] ++ ([.int .u64 v.base] ++ (v.ed.lits ++ (bLits v.root ++ [.int .i64 v.code])))
theorem Vt.zero_wf : Vt.zero.Wf := ⟨Vt.zero_ok, Ed.zero_wf, by decide, by decide, by decide⟩
def Vt.cells (v : Vt) : List Value := .bool v.yes :: .int .u64 v.base :: (v.ed.cells ++ (bcs v.root ++ [.int .i64 v.code]))
theorem Vt.flat_segs (v : Vt) : flat v.segs = v.cells := rfl
theorem Vt.length_cells {v : Vt} (h : v.Ok) : v.cells.length = 70 := by simp [Vt.cells, Ed.length_cells h.ed, h.root]
theorem keyLits_vote (d : Nat) {T : TypeId} (hT : T = 40) (v : Vt) (h : v.Wf) : Try.prog.keyLits (d + 4) T v.cells = some v.lits := by
  have h1 : Try.prog.cellsOf 23 = 1 := by kernel_rfl
  have h2 : Try.prog.cellsOf 35 = 35 := by kernel_rfl
  have h3 : Try.prog.cellsOf 33 = 32 := by kernel_rfl
  have h4 : Try.prog.cellsOf 27 = 1 := by kernel_rfl
  have h5 : Try.prog.cellsOf 4 = 1 := by kernel_rfl
  have a1 := keyLits_u64 (d + 2) v.base (u64_lit_wf h.base)
  have a3 := keyLits_edit d v.ed h.ed
  have a4 := keyLits_hash (d + 1) v.root h.ok.root
  have a5 := keyLits_errno (d + 2) v.code (i64_lit_wf h.c0 h.c1)
  have a6 := keyLits_bool (d + 2) v.yes
  have hel := Ed.length_cells h.ok.ed
  have e0 : (v.cells.drop 0).take 1 = [.bool v.yes] := rfl
  have e1 : (v.cells.drop 1).take 1 = [.int .u64 v.base] := rfl
  have d2 : v.cells.drop 2 = v.ed.cells ++ (bcs v.root ++ [.int .i64 v.code]) := rfl
  have d37 : v.cells.drop 37 = bcs v.root ++ [.int .i64 v.code] := by
    rw [show (37 : Nat) = 2 + 35 from rfl, ← List.drop_drop, d2, List.drop_left' hel]
  have d69 : v.cells.drop 69 = [.int .i64 v.code] := by
    rw [show (69 : Nat) = 37 + 32 from rfl, ← List.drop_drop, d37, List.drop_left' (by simp [h.ok.root])]
  have e3 : (v.cells.drop 2).take 35 = v.ed.cells := by rw [d2, List.take_left' hel]
  have e4 : (v.cells.drop 37).take 32 = bcs v.root := by rw [d37, List.take_left' (by simp [h.ok.root])]
  have e5 : (v.cells.drop 69).take 1 = [.int .i64 v.code] := by rw [d69]; rfl
  subst hT
  have hc : Try.prog.cellsOf 40 = 70 := by kernel_rfl
  unfold Program.keyLits
  rw [Try.underlying40]
  simp only
  rw [if_pos (by rw [hc]; exact ⟨Vt.length_cells h.ok, by decide +kernel⟩)]
  simp only [h1, h2, h3, h4, h5, e0, e1, e3, e4, e5, a1, a3, a4, a5, a6, List.mapM_cons, List.mapM_nil, Option.bind_eq_bind, Option.bind_some, Option.pure_def, Option.map_some]
  simp [Vt.lits]
def sameV (a b : Vt) : Bool := a.yes == b.yes && (a.base == b.base && (sameE a.ed b.ed && (a.root == b.root && a.code == b.code)))
theorem sameV_iff {a b : Vt} : sameV a b = true ↔ a = b := by
  cases a; cases b
  simp [sameV, sameE_iff]
theorem Vt.lits_inj {a b : Vt} (ha : a.Ok) (hb : b.Ok) (h : a.lits = b.lits) : a = b := by
  simp only [Vt.lits, List.cons_append, List.nil_append, List.cons.injEq, Lit.int.injEq, Lit.bool.injEq, true_and, Int.natCast_inj] at h
  obtain ⟨h1, h2, h4⟩ := h
  obtain ⟨h5, h6⟩ := List.append_inj h4 (by rw [Ed.length_lits ha.ed, Ed.length_lits hb.ed])
  obtain ⟨h7, h8⟩ := List.append_inj h6 (by simp [bLits, ha.root, hb.root])
  simp only [List.cons.injEq, Lit.int.injEq, true_and, and_true] at h8
  have e1 := Ed.lits_inj h5
  have e2 := bLits_inj h7
  cases a; cases b; simp_all
theorem run_equal_vote_at (d : Nat) (hd : d + 8 = 10000) {T : TypeId} (hT : T = 40) {a b : Vt} (ha : a.Wf) (hb : b.Wf) (w : World) :
    (Op.equalIn 10000 T a.val b.val).run Try.prog w = .ok (sameV a b) w := by
  have hk : Try.prog.keyTypeAt 8 T = true := by subst hT; kernel_rfl
  have hf : ∀ {r : Vt}, r.Wf → (Value.agg r.cells.toArray).formed Try.prog T = true := by
    intro r hr
    have hc : Try.prog.cellsOf T = 70 := by subst hT; kernel_rfl
    have hu : ∃ fs, Try.prog.underlying T = some (.struct fs) := by
      subst hT
      exact ⟨_, Try.underlying40⟩
    obtain ⟨fs, hu⟩ := hu
    simp only [Value.formed, hu, hc]
    simp [Vt.length_cells hr.ok]
  obtain ⟨r, hr, hi⟩ := run_equalIn_deep d 8 T hk w _ _ _ _ a.lits b.lits (hf ha) (hf hb) (keyLits_vote 0 hT a ha) (keyLits_vote 0 hT b hb)
  have he : r = sameV a b := by
    rw [Bool.eq_iff_iff, hi, sameV_iff]
    exact ⟨Vt.lits_inj ha.ok hb.ok, fun e => by rw [e]⟩
  rw [hd, he] at hr
  exact hr
theorem run_equal_vote {a b : Vt} (ha : a.Wf) (hb : b.Wf) (w : World) : (Op.equalIn 10000 40 a.val b.val).run Try.prog w = .ok (sameV a b) w := run_equal_vote_at 9992 (by omega) rfl ha hb w

/-! ### what stays -/
def Bk.adds (k : Bk) (l : List Rec) : Bk := l.foldl (fun k r => (k.add r).1) k
theorem Bk.adds_snoc (k : Bk) {l : List Rec} {j : Nat} (hj : j < l.length) : k.adds (l.take (j + 1)) = ((k.adds (l.take j)).add l[j]).1 := by
  unfold Bk.adds
  rw [List.take_succ_eq_append_getElem hj, List.foldl_append]
  rfl
theorem Bk.add_cases (k : Bk) (r : Rec) : (k.add r).1 = k ∨ ((k.add r).1 = k.say r ∧ formedR r = true ∧ k.fits r = true) := by
  unfold Bk.add
  split
  · split
    · exact .inr ⟨rfl, ‹_›, ‹_›⟩
    · exact .inl rfl
  · exact .inl rfl
/-- what holds of a book behind records that are well formed -/
structure Bk.Wf (k : Bk) : Prop where
  ok : k.Ok
  votes : ∀ p ∈ k.votes, p.2.Wf
theorem Bk.new_wf (s : List UInt8) : (Bk.new s).Wf := ⟨Bk.new_ok s, fun _ h => by cases h⟩
theorem Rec.vt_wf {r : Rec} (h : r.Wf) : r.vt.Wf := by
  unfold Rec.vt
  split
  · exact ⟨⟨h.ok.ed, h.ok.root⟩, h.ed, h.base, (by decide : -9223372036854775808 ≤ (0 : Int)), (by decide : (0 : Int) ≤ 9223372036854775807)⟩
  · exact ⟨⟨Ed.zero_ok, length_zeros 32⟩, Ed.zero_wf, (by decide : 0 < 18446744073709551616), h.c0, h.c1⟩
theorem Bk.say_wf {k : Bk} (h : k.Wf) {r : Rec} (hr : r.Wf) : (k.say r).Wf := by
  refine ⟨Bk.say_ok h.ok hr.ok, ?_⟩
  unfold Bk.say
  split
  · exact h.votes
  · split
    · exact fun p hp => (kput_mem _ _ _ p hp).elim (h.votes p) (fun e => by rw [e]; exact Rec.vt_wf hr)
    · split
      · exact fun p hp => (kput_mem _ _ _ p hp).elim (h.votes p) (fun e => by rw [e]; exact Rec.vt_wf hr)
      · exact h.votes
theorem Bk.add_wf {k : Bk} (h : k.Wf) {r : Rec} (hr : r.Wf) : (k.add r).1.Wf := by
  rcases Bk.add_cases k r with e | ⟨e, _⟩
  · rw [e]; exact h
  · rw [e]; exact Bk.say_wf h hr
theorem Bk.adds_ind {Z : Bk → Prop} (hs : ∀ k r, r.Wf → Z k → Z (k.add r).1) : ∀ (l : List Rec) (k : Bk), (∀ r ∈ l, r.Wf) → Z k → Z (k.adds l)
  | [], _, _, h => h
  | r :: l, k, hl, h => Bk.adds_ind hs l (k.add r).1 (fun x hx => hl x (List.mem_cons_of_mem _ hx)) (hs k r (hl r List.mem_cons_self) h)
theorem Bk.adds_wf {k : Bk} (h : k.Wf) (l : List Rec) (hl : ∀ r ∈ l, r.Wf) : (k.adds l).Wf := Bk.adds_ind (Z := Bk.Wf) (fun _ _ hr hk => Bk.add_wf hk hr) l k hl h
theorem Bk.say_len (k : Bk) (r : Rec) : (k.say r).edits.length ≤ k.edits.length + 1 ∧ (k.say r).vers.length ≤ k.vers.length + 1 := by
  unfold Bk.say
  split
  · simp
  · split
    · simp
    · split
      · simp
      · refine ⟨by simp, ?_⟩
        show (if r.has = true then k.vers ++ [r.text] else k.vers).length ≤ _
        split <;> simp
theorem Bk.adds_len : ∀ (l : List Rec) (k : Bk), (k.adds l).edits.length ≤ k.edits.length + l.length ∧ (k.adds l).vers.length ≤ k.vers.length + l.length
  | [], _ => by simp [Bk.adds]
  | r :: l, k => by
    have h := Bk.adds_len l (k.add r).1
    have h2 : (k.add r).1.edits.length ≤ k.edits.length + 1 ∧ (k.add r).1.vers.length ≤ k.vers.length + 1 := by
      rcases Bk.add_cases k r with e | ⟨e, _⟩
      · rw [e]; omega
      · rw [e]; exact Bk.say_len k r
    have e : k.adds (r :: l) = (k.add r).1.adds l := rfl
    rw [e]
    simp only [List.length_cons]
    omega
/-- k2 keeps what k says of votes, ends and versions -/
structure Bk.Keeps (k k2 : Bk) : Prop where
  votes : ∀ id v, kget k.votes id = some v → kget k2.votes id = some v
  ends : ∀ id v, kget k.ends id = some v → kget k2.ends id = some v
  vers : k.vers <+: k2.vers
theorem Bk.fresh_iff {k : Bk} {id : Nat} (h : k.fresh id = true) : kget k.votes id = none ∧ kget k.ends id = none := by
  unfold Bk.fresh at h
  simpa using h
theorem Bk.say_keeps {k : Bk} {r : Rec} (hf : formedR r = true) (h : k.fits r = true) : k.Keeps (k.say r) := by
  have hF := (formedR_iff r).1 hf
  unfold Bk.fits at h
  unfold Bk.say
  split
  · exact ⟨fun _ _ h => h, fun _ _ h => h, List.prefix_refl _⟩
  · rename_i h1
    rw [if_neg h1] at h
    split
    · rename_i h2
      rw [if_pos h2] at h
      simp only [Bool.and_eq_true] at h
      refine ⟨fun id v hv => ?_, fun _ _ h => h, List.prefix_refl _⟩
      show kget (kput k.votes r.id r.vt) id = some v
      rw [kget_put, if_neg (fun e => by rw [e, (Bk.fresh_iff h.1).1] at hv; cases hv)]
      exact hv
    · rename_i h2
      rw [if_neg h2] at h
      split
      · rename_i h3
        rw [if_pos h3] at h
        refine ⟨fun id v hv => ?_, fun _ _ h => h, List.prefix_refl _⟩
        show kget (kput k.votes r.id r.vt) id = some v
        rw [kget_put, if_neg (fun e => by rw [e, (Bk.fresh_iff h).1] at hv; cases hv)]
        exact hv
      · rename_i h3
        rw [if_neg h3] at h
        simp only [Bool.and_eq_true, Bool.not_eq_true', Option.isSome_eq_false_iff, Option.isNone_iff_eq_none] at h
        refine ⟨fun _ _ h => h, fun id v hv => ?_, ?_⟩
        · show kget (kput k.ends r.id r.commit) id = some v
          rw [kget_put, if_neg (fun e => by rw [e, h.1] at hv; cases hv)]
          exact hv
        · show k.vers <+: (if r.has = true then k.vers ++ [r.text] else k.vers)
          split
          · exact List.prefix_append _ _
          · exact List.prefix_refl _
theorem Bk.Keeps.refl (k : Bk) : k.Keeps k := ⟨fun _ _ h => h, fun _ _ h => h, List.prefix_refl _⟩
theorem Bk.Keeps.trans {a b c : Bk} (h : a.Keeps b) (h2 : b.Keeps c) : a.Keeps c := ⟨fun _ _ x => h2.votes _ _ (h.votes _ _ x), fun _ _ x => h2.ends _ _ (h.ends _ _ x), h.vers.trans h2.vers⟩
theorem Bk.adds_keeps (k : Bk) (l : List Rec) (hl : ∀ r ∈ l, r.Wf) : k.Keeps (k.adds l) := Bk.adds_ind (Z := fun k2 => k.Keeps k2) (fun k2 r _ h => by
  rcases Bk.add_cases k2 r with e | ⟨e, h1, h2⟩
  · rw [e]; exact h
  · rw [e]; exact h.trans (Bk.say_keeps h1 h2)) l k hl (Bk.Keeps.refl k)
end Go.Proofs.Ytaieonajialenaa
