/- pack: the writer. -/
import Derived.Test.YtibkngjacdggpaaDoorBase
namespace Go.Proofs.YtibkngjacdggpaaDoor
open Go.RowKit

/-- Can a number have so many bytes? -/
def szB (k : Int) : Bool := k == 1 || k == 2 || k == 4 || k == 8
theorem sized_ok (k : Int) (w : World) : Calls Tryd.prog 79 #[.int .i64 k] w fun e w' => e = .returned (.bool (szB k)) ∧ w = w' := by
  go_enter Tryd.func79, Tryd.ntmps79
  go_wp2
  all_goals go_ret
  all_goals first | exact ⟨rfl, rfl⟩ | (subst_vars; exact ⟨rfl, rfl⟩)

theorem Wr.kept {w w' : World} {b : Nat} {v : Value} {xs : List UInt8} {bad : Bool} {L : Nat → Prop} (h : Blk w b 70 #[v, .bool bad] ∧ OB w v xs) (hk : Kept w w' L) (hb : ¬ L b) (hr : ∀ k, v.ownBlock = some k → ¬ L k) : Blk w' b 70 #[v, .bool bad] ∧ OB w' v xs := ⟨h.1.kept hk hb, h.2.kept hk hr⟩

def Wr (w : World) (b : Nat) (v : Value) (xs : List UInt8) (bad : Bool) : Prop := Blk w b 70 #[v, .bool bad] ∧ OB w v xs
theorem Wr.c0 {w : World} {b : Nat} {v : Value} {xs : List UInt8} {bad : Bool} (h : Wr w b v xs bad) : w.cell? ⟨b, 0, none⟩ = some v := h.1.cell_ rfl
theorem Wr.c1 {w : World} {b : Nat} {v : Value} {xs : List UInt8} {bad : Bool} (h : Wr w b v xs bad) : w.cell? ⟨b, 1, none⟩ = some (.bool bad) := h.1.cell_ rfl
theorem Wr.ne {w : World} {b : Nat} {v : Value} {xs : List UInt8} {bad : Bool} (h : Wr w b v xs bad) : ∀ k, v.ownBlock = some k → k ≠ b := h.2.blk_ne h.1 (by decide)
/-- What a writer's call may turn: its struct, its own row. -/
structure WStep (w w' : World) (b : Nat) (v v' : Value) : Prop where
  kept : Kept w w' (fun k => k = b ∨ some k = v.ownBlock)
  place : Place w.heap.size v v'
theorem WStep.refl (w : World) (b : Nat) (v : Value) : WStep w w b v v := ⟨Kept.refl _ _, Place.refl _ _⟩
theorem WStep.drew {w w' : World} {b : Nat} {v v' : Value} (h : WStep w w' b v v') : WStep w w'.drew b v v' := ⟨h.kept.drew, h.place⟩
theorem WStep.trans {w w1 w' : World} {b : Nat} {v v1 v' : Value} (h : WStep w w1 b v v1) (h' : WStep w1 w' b v1 v') : WStep w w' b v v' :=
  ⟨h.kept.trans h'.kept (fun k hk hh => by
    rcases hh with hh | hh | hh
    · exact hh
    · exact .inl hh
    · rcases h.place with e | ⟨g, hg, e⟩
      · exact .inr (by rw [← e]; exact hh)
      · rw [e] at hh; cases hh; omega), h.place.trans h'.place h.kept.size⟩

/-- Behind an append to a writer's row, and the store of the row into its struct. -/
theorem Wr.put {w w2 : World} {b : Nat} {v v2 : Value} {xs ys : List UInt8} {bad : Bool} (h : Wr w b v xs bad) (hk : Kept w w2 (fun k => some k = v.ownBlock)) (ho : OB w2 v2 ys) (hp : Place w.heap.size v v2) :
    Wr (w2.setCell ⟨b, 0, none⟩ v2) b v2 ys bad ∧ WStep w (w2.setCell ⟨b, 0, none⟩ v2) b v v2 := by
  have hB2 := h.1.kept hk (fun e => h.ne _ e.symm rfl)
  refine ⟨⟨hB2.set_ 0 v2, ho.far (p := ⟨b, 0, none⟩) (ho.blk_ne hB2 (by decide)) _⟩, ⟨Kept.set_ (L := fun k => k = b ∨ some k = v.ownBlock) (hk.mono (fun k _ e => Or.inr e)) (p := ⟨b, 0, none⟩) (Or.inl (Or.inl rfl)) v2, hp⟩⟩
theorem Kept.of_alloc {w w2 : World} {L : Nat → Prop} {o : Obj} (h : Kept (w.alloc o) w2 L) : Kept w w2 L := ((Kept.refl w No).alloc o).trans h (by simp [No])
theorem Place.of_alloc {w : World} {o : Obj} {v v2 : Value} (h : Place (w.alloc o).heap.size v v2) : Place w.heap.size v v2 := by
  rcases h with e | ⟨g, hg, e⟩
  · exact .inl e
  · exact .inr ⟨g, by simp at hg; omega, e⟩

theorem ready_ok (b : Nat) (bad : Bool) (w : World) (h : w.cell? ⟨b, 1, none⟩ = some (.bool bad)) : Calls Tryd.prog 78 #[.pointer (some ⟨b, 0, none⟩)] w fun e w' => e = .returned (.bool (!bad)) ∧ w = w' := by
  go_enter Tryd.func78, Tryd.ntmps78
  go_wp2
  go_ret
  exact ⟨rfl, rfl⟩
theorem ready_nil (w : World) : Calls Tryd.prog 78 #[.pointer none] w fun e w' => e = .returned (.bool false) ∧ w = w' := by
  go_enter Tryd.func78, Tryd.ntmps78
  go_wp2
  go_ret
  exact ⟨rfl, rfl⟩

theorem number_ok (b : Nat) (v : Value) (xs : List UInt8) (n : Nat) (_hn : n < 18446744073709551616) (k : Nat) (hk : k ≤ 8) (w : World) (h : Wr w b v xs false) (hsz : szB k = true) (hfit : Hid (k = 8) ∧ 8 ≤ k ∨ k < 8 ∧ ((n : Int) / 2 ^ (8 * k) != 0) = false) (hbd : xs.length + 8 ≤ 140737488355328) :
    Calls Tryd.prog 46 #[.pointer (some ⟨b, 0, none⟩), .int .u64 n, .int .i64 k] w fun e w' => e = .returned (.tuple #[]) ∧ ∃ v', Wr w' b v' (xs ++ beL n k) false ∧ WStep w w' b v v' := by
  have c1 := h.c1
  rcases hfit with ⟨h8, h8'⟩ | ⟨h8, hd⟩
  all_goals
    go_enter Tryd.func46, Tryd.ntmps46
    go_wp2_with (first | (go_at_call 78; refine (ready_ok b _ _ c1).mono ?_; rintro e w' ⟨rfl, rfl⟩) | (go_at_call 79; refine (sized_ok _ _).mono ?_; rintro e w' ⟨rfl, rfl⟩))
    go_loopw [6] (fun i wr => ∃ (j : Nat) (v' : Value), j ≤ k ∧ i = .int .i64 ((k : Int) - 1 - (j : Int)) ∧ Wr wr b v' (xs ++ (beL n k).take j) false ∧ WStep w wr b v v') (fun i _ => (intOf i + 1).toNat)
    case atStart => exact ⟨0, v, by omega, by simp, by simpa using h, WStep.refl _ _ _⟩
    case round =>
      obtain ⟨j, v1, hj, rfl, hw1, hs1⟩ := hrel
      by_cases hlt : j < k
      · have c0 := hw1.c0
        have hne := hw1.ne
        have hlen : ((beL n k).take j).length ≤ 8 := by simp; omega
        have hbd2 : (xs ++ (beL n k).take j).length + 1 ≤ 140737488355328 := by simp at hlen ⊢; omega
        go_wp2_with (at_builtin
                     refine wpList_app_b _ rfl (.tmp 38) (.tmp 45) 23 rfl Tryd.underlying23 Tryd.infoByte v1 _ (hw1.2.alloc _) rfl wr.heap.size _ [UInt8.ofNat (n / 2 ^ (8 * (k - 1 - j)))] 1 1 rfl rfl (RB.of_byte (bc_shr _ _).symm) hbd2 ?_
                     intro v2 w2 ho2 hk2 hp2
                     have HP := Lib.hid (hw1.put hk2.of_alloc ho2 hp2.of_alloc)
                     have hB2 := hw1.1.kept hk2.of_alloc (fun e => hne _ e.symm rfl)
                     have f2 := hB2.frozen 0
                     have e2 := hB2.cell_ (i := 0) (v := v1) rfl
                     clear hk2 hp2 hB2
                     obtain ⟨A2, n2, m2, rfl, hn2, hc2, -, -⟩ := ho2.form)
        go_roundw
        case rel =>
          obtain ⟨hw3, hs3⟩ := HP.out
          exact ⟨j + 1, _, by omega, by go_num, by rw [beL_take n k j hlt, ← List.append_assoc]; exact hw3, hs1.trans hs3⟩
        case measure => simp [intOf]; omega
      · obtain rfl : j = k := by omega
        go_wp2
        go_returns
        exact ⟨rfl, v1, by rw [List.take_of_length_le (by simp)] at hw1; exact hw1, hs1⟩

/-- Does n fit into k bytes? -/
def fitsB (n : Nat) (k : Int) : Bool := k == 8 || n / 2 ^ (8 * k.toNat) == 0
/-- What Number does. -/
def wnum (s : List UInt8 × Bool) (n : Nat) (k : Int) : List UInt8 × Bool :=
  if s.2 then s else if szB k && fitsB n k then (s.1 ++ beL n k.toNat, false) else (s.1, true)
theorem szB_cases {k : Int} (h : szB k = true) : k = 1 ∨ k = 2 ∨ k = 4 ∨ k = 8 := by
  simp [szB] at h; omega

theorem Wr.setBad {w : World} {b : Nat} {v : Value} {xs : List UInt8} {bad : Bool} (h : Wr w b v xs bad) : Wr (w.setCell ⟨b, 1, none⟩ (.bool true)) b v xs true ∧ WStep w (w.setCell ⟨b, 1, none⟩ (.bool true)) b v v :=
  ⟨⟨h.1.set_ 1 _, h.2.far (p := ⟨b, 1, none⟩) h.ne _⟩, ⟨Kept.set_ (L := fun k => k = b ∨ some k = v.ownBlock) (Kept.refl _ _) (p := ⟨b, 1, none⟩) (Or.inl (Or.inl rfl)) _, Place.refl _ _⟩⟩

theorem number_no (b : Nat) (v : Value) (xs : List UInt8) (n : Nat) (k : Int) (w : World) (h : Wr w b v xs false) (hsz : szB k = false ∨ (szB k = true ∧ 0 ≤ k ∧ k < 8 ∧ ((n : Int) / 2 ^ (8 * k).toNat != 0) = true)) :
    Calls Tryd.prog 46 #[.pointer (some ⟨b, 0, none⟩), .int .u64 n, .int .i64 k] w fun e w' => e = .returned (.tuple #[]) ∧ Wr w' b v xs true ∧ WStep w w' b v v := by
  have c1 := h.c1
  have f1 := h.1.frozen 1
  rcases hsz with hsz | ⟨hsz, h0, h8, hd⟩
  all_goals
    go_enter Tryd.func46, Tryd.ntmps46
    go_wp2_with (first | (go_at_call 78; refine (ready_ok b _ _ c1).mono ?_; rintro e w' ⟨rfl, rfl⟩) | (go_at_call 79; refine (sized_ok _ _).mono ?_; rintro e w' ⟨rfl, rfl⟩))
    go_returns
    exact ⟨rfl, h.setBad⟩

theorem number_bad (b : Nat) (n k : Int) (w : World) (c1 : w.cell? ⟨b, 1, none⟩ = some (.bool true)) :
    Calls Tryd.prog 46 #[.pointer (some ⟨b, 0, none⟩), .int .u64 n, .int .i64 k] w fun e w' => e = .returned (.tuple #[]) ∧ w = w' := by
  go_enter Tryd.func46, Tryd.ntmps46
  go_wp2_with (go_at_call 78; refine (ready_ok b _ _ c1).mono ?_; rintro e w' ⟨rfl, rfl⟩)
  go_returns
  exact ⟨rfl, rfl⟩
theorem number_nil (n k : Int) (w : World) :
    Calls Tryd.prog 46 #[.pointer none, .int .u64 n, .int .i64 k] w fun e w' => e = .returned (.tuple #[]) ∧ w = w' := by
  go_enter Tryd.func46, Tryd.ntmps46
  go_wp2_with (go_at_call 78; refine (ready_nil _).mono ?_; rintro e w' ⟨rfl, rfl⟩)
  go_returns
  exact ⟨rfl, rfl⟩

/-- A writer's call: what the writer holds behind it is s'. -/
def WPost (w : World) (b : Nat) (v : Value) (s' : List UInt8 × Bool) (e : Ending) (w' : World) : Prop := e = .returned (.tuple #[]) ∧ ∃ v', Wr w' b v' s'.1 s'.2 ∧ WStep w w' b v v'

theorem number_any (b : Nat) (v : Value) (s : List UInt8 × Bool) (n : Nat) (hn : n < 18446744073709551616) (k : Int) (w : World) (h : Wr w b v s.1 s.2) (hbd : s.1.length + 8 ≤ 140737488355328) :
    Calls Tryd.prog 46 #[.pointer (some ⟨b, 0, none⟩), .int .u64 n, .int .i64 k] w (WPost w b v (wnum s n k)) := by
  obtain ⟨xs, bad⟩ := s
  cases bad with
  | true => exact (number_bad b n k w h.c1).mono fun e w' ⟨he, hw⟩ => by subst hw; exact ⟨he, v, h, WStep.refl _ _ _⟩
  | false =>
    by_cases hs : szB k = true
    · have hk := szB_cases hs
      by_cases hf : fitsB n k = true
      · have e : wnum (xs, false) n k = (xs ++ beL n k.toNat, false) := by simp [wnum, hs, hf]
        rw [e]
        have hk' : k = (k.toNat : Int) := by omega
        refine (show Calls Tryd.prog 46 #[.pointer (some ⟨b, 0, none⟩), .int .u64 n, .int .i64 k] w _ from ?_)
        have := number_ok b v xs n hn k.toNat (by omega) w h (by rw [← hk']; exact hs) (by
          by_cases h8 : k = 8
          · subst h8; exact .inl ⟨rfl, by decide⟩
          · refine .inr ⟨by omega, ?_⟩
            have hd : n / 2 ^ (8 * k.toNat) = 0 := by simpa [fitsB, h8] using hf
            have : ((n : Int) / 2 ^ (8 * k.toNat)) = 0 := by
              have := congrArg (Nat.cast (R := Int)) hd
              simpa using this
            rw [this]; rfl) hbd
        rw [← hk'] at this
        exact this
      · have e : wnum (xs, false) n k = (xs, true) := by simp [wnum, hs, hf]
        rw [e]
        refine (number_no b v xs n k w h (.inr ⟨hs, by omega, ?_, ?_⟩)).mono fun e w' ⟨he, h1, h2⟩ => ⟨he, v, h1, h2⟩
        · simp [fitsB] at hf; omega
        · rw [show (8 * k).toNat = 8 * k.toNat by omega]
          have hd : ¬ n / 2 ^ (8 * k.toNat) = 0 := by
            intro e0; apply hf; simp [fitsB, e0]
          have : ¬ ((n : Int) / 2 ^ (8 * k.toNat)) = 0 := by
            intro h0; apply hd
            have h1 : ((n / 2 ^ (8 * k.toNat) : Nat) : Int) = 0 := by simpa using h0
            omega
          simpa using this
    · have e : wnum (xs, false) n k = (xs, true) := by simp [wnum, hs]
      rw [e]
      exact (number_no b v xs n k w h (.inl (by simpa using hs))).mono fun e w' ⟨he, h1, h2⟩ => ⟨he, v, h1, h2⟩

/-- What Truth does. -/
def wtruth (s : List UInt8 × Bool) (t : Bool) : List UInt8 × Bool := wnum s (if t then 1 else 0) 1
theorem truth_any (b : Nat) (v : Value) (s : List UInt8 × Bool) (t : Bool) (w : World) (h : Wr w b v s.1 s.2) (hbd : s.1.length + 8 ≤ 140737488355328) :
    Calls Tryd.prog 48 #[.pointer (some ⟨b, 0, none⟩), .bool t] w (WPost w b v (wtruth s t)) := by
  have H := Lib.hid h; clear h
  cases t
  · go_enter Tryd.func48, Tryd.ntmps48
    go_wp2_with fail
    refine (number_any b v s 0 (by decide) 1 w H.out hbd).mono ?_
    rintro e w' ⟨rfl, hp⟩
    go_wp2
    go_returns
    exact ⟨rfl, hp⟩
  · go_enter Tryd.func48, Tryd.ntmps48
    go_wp2_with fail
    refine (number_any b v s 1 (by decide) 1 w H.out hbd).mono ?_
    rintro e w' ⟨rfl, hp⟩
    go_wp2
    go_returns
    exact ⟨rfl, hp⟩
theorem truth_nil (t : Bool) (w : World) : Calls Tryd.prog 48 #[.pointer none, .bool t] w fun e w' => e = .returned (.tuple #[]) ∧ w = w' := by
  cases t
  all_goals
    go_enter Tryd.func48, Tryd.ntmps48
    go_wp2_with fail
    refine (number_nil _ _ w).mono ?_
    rintro e w' ⟨rfl, rfl⟩
    go_wp2
    go_returns
    exact ⟨rfl, rfl⟩

/-- What Text does. -/
def wtext (s : List UInt8 × Bool) (t : List UInt8) : List UInt8 × Bool := if s.2 then s else if 65535 < t.length then (s.1, true) else (s.1 ++ beL t.length 2 ++ t, false)
theorem text_any (b : Nat) (v : Value) (s : List UInt8 × Bool) (t : ByteArray) (w : World) (h : Wr w b v s.1 s.2) (hbd : s.1.length + 70000 ≤ 140737488355328) (ht : t.size ≤ 9223372036854775807) :
    Calls Tryd.prog 80 #[.pointer (some ⟨b, 0, none⟩), .string t] w (WPost w b v (wtext s t.data.toList)) := by
  obtain ⟨xs, bad⟩ := s
  have c1 := h.c1
  have hsz : t.data.toList.length = t.size := by rw [Array.length_toList]; rfl
  cases bad with
  | true =>
    go_enter Tryd.func80, Tryd.ntmps80
    go_wp2_with (go_at_call 78; refine (ready_ok b _ _ c1).mono ?_; rintro e w' ⟨rfl, rfl⟩)
    go_returns
    exact ⟨rfl, v, h, WStep.refl _ _ _⟩
  | false =>
    by_cases hl : 65535 < t.size
    · have e : wtext (xs, false) t.data.toList = (xs, true) := by
        unfold wtext; rw [if_neg (by simp), if_pos (by rw [hsz]; exact hl)]
      rw [e]
      have f1 := h.1.frozen 1
      have HS := Lib.hid hsz; clear hsz
      clear e
      go_enter Tryd.func80, Tryd.ntmps80
      go_wp2_with (go_at_call 78; refine (ready_ok b _ _ c1).mono ?_; rintro e w' ⟨rfl, rfl⟩)
      go_returns
      exact ⟨rfl, v, h.setBad⟩
    · have e : wtext (xs, false) t.data.toList = (xs ++ beL t.size 2 ++ t.data.toList, false) := by
        unfold wtext; rw [if_neg (by simp), if_neg (by rw [hsz]; exact hl), hsz]
      rw [e]
      have e2 : wnum (xs, false) t.size 2 = (xs ++ beL t.size 2, false) := by
        have hf : fitsB t.size 2 = true := by
          have : t.size / 2 ^ (8 * (2 : Int).toNat) = 0 := Nat.div_eq_of_lt (by show t.size < 65536; omega)
          simp only [fitsB, this]; rfl
        have hs : szB 2 = true := rfl
        simp only [wnum, hf, hs]; rfl
      have hb0 : xs.length + 70000 ≤ 140737488355328 := hbd
      have hn := number_any b v (xs, false) t.size (by omega) 2 w h (by simp; omega)
      rw [e2] at hn
      have HN := Lib.hid hn; clear hn
      have HS := Lib.hid hsz; clear hsz
      clear e e2 hbd h
      go_enter Tryd.func80, Tryd.ntmps80
      go_wp2_with (go_at_call 78; refine (ready_ok b _ _ c1).mono ?_; rintro e w' ⟨rfl, rfl⟩)
      refine HN.out.mono ?_
      rintro e w1 ⟨rfl, v1, hw1, hs1⟩
      have c01 := hw1.c0
      have hne := hw1.ne
      clear c1
      have hbd2 : (xs ++ beL t.size 2).length + t.size ≤ 140737488355328 := by simp; omega
      go_wp2_with (at_builtin
                   refine wpList_app_s _ rfl (.tmp 22) (.tmp 23) 23 9 rfl Tryd.underlying23 Tryd.underlying9 Tryd.infoByte v1 _ hw1.2 rfl t rfl hbd2 ?_
                   intro v2 w2 ho2 hk2 hp2
                   have HP := Lib.hid (hw1.put hk2 ho2 hp2)
                   have hB2 := hw1.1.kept hk2 (fun e => hne _ e.symm rfl)
                   have f2 := hB2.frozen 0
                   have e2 := hB2.cell_ (i := 0) (v := v1) rfl
                   clear hk2 hp2 hB2
                   obtain ⟨A2, n2, m2, rfl, hn2, hc2, -, -⟩ := ho2.form)
      go_returns
      obtain ⟨hw3, hs3⟩ := HP.out
      exact ⟨rfl, _, hw3, hs1.trans hs3⟩
theorem text_nil (t : ByteArray) (w : World) : Calls Tryd.prog 80 #[.pointer none, .string t] w fun e w' => e = .returned (.tuple #[]) ∧ w = w' := by
  go_enter Tryd.func80, Tryd.ntmps80
  go_wp2_with (go_at_call 78; refine (ready_nil _).mono ?_; rintro e w' ⟨rfl, rfl⟩)
  go_returns
  exact ⟨rfl, rfl⟩












/-- A slice of bytes of its own, in new memory. -/
def Fresh (w : World) (xs : List UInt8) (v : Value) (w' : World) : Prop := OB w' v xs ∧ Kept w w' No ∧ (∀ k, v.ownBlock = some k → w.heap.size ≤ k)
theorem Fresh.app {w w1 w2 : World} {xs ys : List UInt8} {v v2 : Value} (h : Fresh w xs v w1) (ho : OB w2 v2 ys) (hk : Kept w1 w2 (fun k => some k = v.ownBlock)) (hp : Place w1.heap.size v v2) : Fresh w ys v2 w2 := by
  obtain ⟨h1, h2, h3⟩ := h
  refine ⟨ho, h2.trans hk (fun g hg h => ?_), fun g hg => ?_⟩
  · rcases h with h | h
    · exact h
    · have := h3 g h.symm; omega
  · rcases hp with e | ⟨g', hg', e⟩
    · exact h3 g (by rw [← e]; exact hg)
    · rw [e] at hg; cases hg; have := h2.size; omega
theorem clone_any (A : Option Addr) (g n c : Nat) (xs : List UInt8) (w : World) (hn : Hid (n = xs.length)) (hr : RB w g A xs) (hb : xs.length ≤ 140737488355328) :
    Calls Tryd.prog 57 #[.slice A n c] w fun e w' => ∃ v, e = .returned v ∧ Fresh w xs v w' := by
  have hq := Lib.run_eql_slice_nil (P := Tryd.prog) w 23 5 A n c 0 0 Tryd.underlying23
  rcases A with _ | a
  · have hx : xs = [] := by
      by_cases h : xs = []
      · exact h
      · obtain ⟨o, ho, _⟩ := hr h; cases ho
    have HX := Lib.hid hx; clear hx
    go_enter Tryd.func57, Tryd.ntmps57
    go_wp2
    go_returns
    exact ⟨_, rfl, by rw [HX.out]; exact OB.nil w, Kept.refl _ _, fun k hk => by simp [Value.ownBlock] at hk⟩
  · go_enter Tryd.func57, Tryd.ntmps57
    have h0 := OB.new w [] (by simp [maxLen])
    go_wp2_with (at_builtin
                 refine wpList_app_b _ rfl (.tmp 5) (.tmp 6) 23 rfl Tryd.underlying23 Tryd.infoByte (.slice (some ⟨w.heap.size, 0, none⟩) 0 0) [] h0 rfl g (some a) xs n c hn.out rfl (hr.alloc _) (by simpa using hb) ?_
                 intro v2 w2 ho2 hk2 hp2
                 have HK := Lib.hid hk2; have HP := Lib.hid hp2; clear hk2 hp2
                 obtain ⟨A2, n2, m2, rfl, hn2, hc2, -, -⟩ := ho2.form)
    go_returns
    refine ⟨.slice A2 n2 m2, rfl, ho2, ?_, ?_⟩
    · refine ((Kept.refl w No).alloc (.cells #[] 5)).trans HK.out (fun k hk h => ?_)
      rcases h with h | h
      · exact h
      · simp [Value.ownBlock] at h; omega
    · intro k hk
      rcases HP.out with e | ⟨g', hg', e⟩
      · rw [e] at hk; simp [Value.ownBlock] at hk; omega
      · rw [e] at hk; cases hk; simp at hg'; omega

theorem bytes_ok (b : Nat) (v : Value) (xs : List UInt8) (w : World) (h : Wr w b v xs false) (hb : xs.length ≤ 140737488355328) :
    Calls Tryd.prog 51 #[.pointer (some ⟨b, 0, none⟩)] w fun e w' => ∃ v', e = .returned v' ∧ Fresh w xs v' w' := by
  have c1 := h.c1
  have c0 := h.c0
  obtain ⟨A, n, c, rfl, hn, hc, hr, -⟩ := h.2.form
  go_enter Tryd.func51, Tryd.ntmps51
  go_wp2_with (first | (go_at_call 78; refine (ready_ok b _ _ c1).mono ?_; rintro e w' ⟨rfl, rfl⟩) |
    (go_at_call 57; refine (clone_any A _ n c xs _ hn hr hb).mono ?_; rintro e w' ⟨v', rfl, hf⟩; have HF := Lib.hid hf; clear hf))
  go_returns
  exact ⟨v', rfl, HF.out⟩
theorem bytes_bad (b : Nat) (w : World) (c1 : w.cell? ⟨b, 1, none⟩ = some (.bool true)) :
    Calls Tryd.prog 51 #[.pointer (some ⟨b, 0, none⟩)] w fun e w' => e = .returned (.slice none 0 0) ∧ w = w' := by
  go_enter Tryd.func51, Tryd.ntmps51
  go_wp2_with (go_at_call 78; refine (ready_ok b _ _ c1).mono ?_; rintro e w' ⟨rfl, rfl⟩)
  go_returns
  exact ⟨rfl, rfl⟩
theorem bytes_nil (w : World) :
    Calls Tryd.prog 51 #[.pointer none] w fun e w' => e = .returned (.slice none 0 0) ∧ w = w' := by
  go_enter Tryd.func51, Tryd.ntmps51
  go_wp2_with (go_at_call 78; refine (ready_nil _).mono ?_; rintro e w' ⟨rfl, rfl⟩)
  go_returns
  exact ⟨rfl, rfl⟩
theorem Fresh.nil (w : World) : Fresh w [] (.slice none 0 0) w := ⟨OB.nil w, Kept.refl _ _, fun k hk => by simp [Value.ownBlock] at hk⟩
/-- What Bytes tells. -/
def wbytes (s : List UInt8 × Bool) : List UInt8 := if s.2 then [] else s.1
theorem bytes_any (b : Nat) (v : Value) (s : List UInt8 × Bool) (w : World) (h : Wr w b v s.1 s.2) (hb : s.1.length ≤ 140737488355328) :
    Calls Tryd.prog 51 #[.pointer (some ⟨b, 0, none⟩)] w fun e w' => ∃ v', e = .returned v' ∧ Fresh w (wbytes s) v' w' := by
  obtain ⟨xs, bad⟩ := s
  cases bad with
  | true => exact (bytes_bad b w h.c1).mono fun e w' ⟨he, hw⟩ => by subst hw; exact ⟨_, he, Fresh.nil w⟩
  | false => exact bytes_ok b v xs w h hb

/-- What Hash does. -/
def whash (s : List UInt8 × Bool) (t : List UInt8) : List UInt8 × Bool := if s.2 then s else (s.1 ++ t, false)
theorem hash_nil (hs : List UInt8) (w : World) : Calls Tryd.prog 49 #[.pointer none, .agg (bcs hs).toArray] w fun e w' => e = .returned (.tuple #[]) ∧ Kept w w' No := by
  go_enter Tryd.func49, Tryd.ntmps49
  go_wp2_with (go_at_call 78; refine (ready_nil _).mono ?_; rintro e w' ⟨rfl, rfl⟩)
  go_returns
  exact ⟨rfl, (Kept.refl _ _).alloc _⟩
theorem hash_any (b : Nat) (v : Value) (s : List UInt8 × Bool) (hs : List UInt8) (h32 : hs.length = 32) (w : World) (h : Wr w b v s.1 s.2) (hbd : s.1.length + 32 ≤ 140737488355328) :
    Calls Tryd.prog 49 #[.pointer (some ⟨b, 0, none⟩), .agg (bcs hs).toArray] w (WPost w b v (whash s hs)) := by
  obtain ⟨xs, bad⟩ := s
  have h0 : Wr (w.alloc (.cells (bcs hs).toArray 22)) b v xs bad := ⟨h.1.alloc _, h.2.alloc _⟩
  have hst : ∀ v', WStep w (w.alloc (.cells (bcs hs).toArray 22)) b v' v' := fun v' => ⟨(Kept.refl _ _).alloc _, Place.refl _ _⟩
  have c1 := h0.c1
  have HS := Lib.hid hst; clear hst
  cases bad with
  | true =>
    go_enter Tryd.func49, Tryd.ntmps49
    go_wp2_with (go_at_call 78; refine (ready_ok b _ _ c1).mono ?_; rintro e w' ⟨rfl, rfl⟩)
    go_returns
    exact ⟨rfl, v, h0, HS.out v⟩
  | false =>
    have c0 := h0.c0
    have hne := h.ne
    have H32 := Lib.hid h32; clear h32
    have hbd2 : xs.length + hs.length ≤ 140737488355328 := by rw [H32.out]; exact hbd
    obtain ⟨A, n, c, rfl, hn, hc, hr, -⟩ := h.2.form
    go_enter Tryd.func49, Tryd.ntmps49
    go_wp2_with (go_at_call 78; refine (ready_ok b _ _ c1).mono ?_; rintro e w' ⟨rfl, rfl⟩)
    go_region_law (refine step_app_b _ rfl (.tmp 10) (.tmp 11) 23 rfl Tryd.underlying23 Tryd.infoByte (.slice A n c) xs (h0.2.drew) rfl w.heap.size _ hs 32 32 H32.out.symm rfl (RB.of_blk (Blk.new w _ _) rfl).drew hbd2 ?_
                   intro v2 w2 ho2 hk2 hp2
                   have HP := Lib.hid (Wr.put (w := (w.alloc (.cells (bcs hs).toArray 22)).drew) ⟨h0.1.drew, h0.2.drew⟩ hk2 ho2 hp2)
                   have hB2 := h0.1.drew.kept hk2 (fun e => hne _ e.symm rfl)
                   have f2 := hB2.frozen 0
                   have e2 := hB2.cell_ (i := 0) (v := .slice A n c) rfl
                   clear hk2 hp2 hB2
                   obtain ⟨A2, n2, m2, rfl, hn2, hc2, -, -⟩ := ho2.form)
    go_wp2
    go_returns
    exact ⟨rfl, _, HP.out.1, (HS.out _).drew.trans HP.out.2⟩
end Go.Proofs.YtibkngjacdggpaaDoor
