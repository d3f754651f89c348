/- Layer 3's laws: the reference's own writer: number, right; the law's first look. -/
import Derived.Test.YtaipgkbnmfjpfaaPackItm
namespace Go.Proofs.Ytaipgkbnmfjpfaa
open Go.RowKit

set_option maxRecDepth 100000 in
theorem refnumber_ok (n : Nat) (k : Nat) (hk : k ≤ 8) (w : World) :
    Calls Try.prog 37 #[.int .u64 n, .int .i64 k] w fun e w' => ∃ v, e = .returned v ∧ Fresh w (beL n k) v w' := by
  go_enter Try.func37, Try.ntmps37
  go_wp2_with fail
  go_loopw [5, 6] (fun v i wr => ∃ j : Nat, j ≤ k ∧ i = .int .i64 ((k : Int) - 1 - (j : Int)) ∧ Fresh w ((beL n k).take j) v wr) (fun _ i _ => (intOf i + 1).toNat)
  case atStart => exact ⟨0, by omega, by simp, Fresh.nil w⟩
  case round =>
    obtain ⟨j, hj, rfl, hf⟩ := hrel
    by_cases hlt : j < k
    · have hown := hf.1
      have hlen : ((beL n k).take j).length + 1 ≤ 140737488355328 := by simp; omega
      have HF := Lib.hid hf; clear hf
      go_wp2_with (at_builtin
                   refine wpList_app_b _ rfl (.tmp 13) (.tmp 19) 27 rfl Try.underlying27 Try.infoByte _ _ (hown.alloc _) rfl wr.heap.size _ [UInt8.ofNat (n / 2 ^ (8 * (k - 1 - j)))] 1 1 rfl rfl (RB.of_byte (bc_shr _ _).symm) hlen ?_
                   intro v2 w2 ho2 hk2 hp2
                   have HK := Lib.hid hk2.of_alloc; have HP := Lib.hid hp2.of_alloc; clear hk2 hp2
                   obtain ⟨A2, n2, m2, rfl, hn2, hc2, -, -⟩ := ho2.form)
      go_roundw
      case rel =>
        obtain ⟨h1, h2, h3⟩ := HF.out
        refine ⟨j + 1, by omega, by go_num, by rw [beL_take n k j hlt]; exact ho2, h2.trans HK.out (fun g hg h => ?_), fun g hg => ?_⟩
        · rcases h with h | h
          · exact h
          · have := h3 g h.symm; omega
        · rcases HP.out with e | ⟨g', hg', e⟩
          · exact h3 g (by rw [← e]; exact hg)
          · rw [e] at hg; cases hg; have := h2.size; omega
      case measure => simp [intOf]; omega
    · obtain rfl : j = k := by omega
      rw [List.take_of_length_le (by simp)] at hf
      go_wp2
      go_returns
      exact ⟨_, rfl, hf⟩

/-- An item's bytes, if it can be written. -/
def encI (x : Itm) : Option (List UInt8) :=
  if x.kind = 0 then (if szB x.size && fitsB x.n x.size then some (beL x.n x.size.toNat) else none)
  else if x.kind = 1 then some [if x.b then 1 else 0]
  else if x.kind = 2 then (if 65535 < x.s.data.toList.length then none else some (beL x.s.data.toList.length 2 ++ x.s.data.toList))
  else some x.h
theorem wput_enc (s : List UInt8 × Bool) (x : Itm) : wput s x = if s.2 then s else match encI x with | some l => (s.1 ++ l, false) | none => (s.1, true) := by
  obtain ⟨xs, bad⟩ := s
  cases bad
  · unfold wput encI
    split
    · unfold wnum
      simp only [Bool.false_eq_true, if_false]
      split <;> rfl
    · split
      · cases x.b <;> rfl
      · split
        · unfold wtext
          simp only [Bool.false_eq_true, if_false]
          split
          · rfl
          · simp
        · rfl
  · unfold wput
    split
    · simp [wnum]
    · split
      · simp [wtruth, wnum]
      · split
        · simp [wtext]
        · simp [whash]
theorem encI_len {x : Itm} (hx : x.Ok) {l : List UInt8} (h : encI x = some l) : l.length ≤ 65537 := by
  unfold encI at h
  split at h
  · split at h
    · rename_i hs
      simp only [Bool.and_eq_true] at hs
      have := szB_cases hs.1
      cases h; simp; omega
    · cases h
  · split at h
    · cases h; simp
    · split at h
      · split at h
        · cases h
        · cases h
          rw [List.length_append, length_beL]; omega
      · cases h; have := hx.h; omega

/-- What right gives. -/
def RightPost (w : World) (r : Option (List UInt8)) (e : Ending) (w' : World) : Prop :=
  ∃ A m c g, e = .returned (.tuple #[.slice A m c, .bool r.isSome]) ∧ Hid (m = (r.getD []).length) ∧ m ≤ c ∧ RB w' g A (r.getD []) ∧ Kept w w' No ∧ w.heap.size ≤ g
theorem RightPost.of_fresh {w w1 w' : World} {xs : List UInt8} {v : Value} (h : Fresh w1 xs v w') (hk : Kept w w1 No) : RightPost w (some xs) (.returned (.tuple #[v, .bool true])) w' := by
  obtain ⟨h1, h2, h3⟩ := h
  obtain ⟨A, n, c, rfl, hn, hc, hr, hno⟩ := h1.form
  by_cases hx : xs = []
  · subst hx
    exact ⟨A, n, c, w.heap.size, rfl, hn, hc, RB.nil _ _ _, hk.trans h2 (by simp [No]), Nat.le_refl _⟩
  · cases ho : (Value.slice A n c).ownBlock with
    | none => exact absurd (hno.out ho).2 hx
    | some g =>
      rw [ho] at hr
      exact ⟨A, n, c, g, rfl, hn, hc, hr, hk.trans h2 (by simp [No]), Nat.le_trans hk.size (h3 g ho)⟩

set_option maxRecDepth 100000 in
set_option maxHeartbeats 1600000 in
theorem right0_yes (x : Itm) (w : World) (k0 : x.kind = 0) (hs : szB x.size = true) (hf : fitsB x.n x.size = true) :
    Calls Try.prog 25 #[.agg x.cells.toArray] w (RightPost w (some (beL x.n x.size.toNat))) := by
  have hI := ItmAt.new w x
  have hst := (Kept.refl w No).alloc (.cells x.cells.toArray 38)
  have c0 := hI.c0
  have c1 := hI.c1
  have c2 := hI.c2
  simp only [Nat.zero_add] at c1 c2
  have hk := szB_cases hs
  obtain ⟨kn, hkn⟩ : ∃ kn : Nat, x.size = kn := ⟨x.size.toNat, by omega⟩
  have hnum := refnumber_ok x.n kn (by omega) (w.alloc (.cells x.cells.toArray 38))
  rw [hkn] at c2 hs hf ⊢
  simp only [Int.toNat_natCast]
  rw [k0] at c0
  have hd : (kn : Int) = 8 ∨ (kn < 8 ∧ ((x.n : Int) / 2 ^ (8 * kn) == 0) = true) := by
    by_cases h8 : kn = 8
    · exact .inl (by omega)
    · have h0 : x.n / 2 ^ (8 * kn) = 0 := by
        have : ¬ (kn : Int) = 8 := by omega
        simpa [fitsB, this] using hf
      refine .inr ⟨by omega, ?_⟩
      have := congrArg (Nat.cast (R := Int)) h0
      simpa using this
  generalize x.cells = cs at c0 c1 c2 hst hnum ⊢
  generalize x.n = nn at c1 hnum hd ⊢
  have HT := Lib.hid hst; have HN := Lib.hid hnum; clear hst hnum hI
  clear hf hs
  have hk2 : kn = 8 ∨ kn = 1 ∨ kn = 2 ∨ kn = 4 := by omega
  clear hk hkn
  rcases hk2 with rfl | rfl | rfl | rfl
  all_goals
    rcases hd with hd8 | ⟨hd8, hd⟩
    all_goals try (exfalso; omega)
    all_goals clear hd8
    all_goals try simp only [Nat.reduceMul, Int.reducePow] at hd
    all_goals
      go_enter Try.func25, Try.ntmps25
      go_wp2_with (go_at_call 37; refine HN.out.mono ?_; rintro e w1 ⟨v, rfl, hf⟩; have HF := Lib.hid hf; clear hf)
      go_returns
      exact RightPost.of_fresh HF.out HT.out

theorem RightPost.no {w w1 : World} (hk : Kept w w1 No) : RightPost w none (.returned (.tuple #[.slice none 0 0, .bool false])) w1 := ⟨none, 0, 0, w.heap.size, rfl, rfl, Nat.le_refl _, RB.nil _ _ _, hk, Nat.le_refl _⟩
set_option maxRecDepth 100000 in
set_option maxHeartbeats 1600000 in
theorem right0_no (x : Itm) (w : World) (k0 : x.kind = 0) (hs : szB x.size = false ∨ fitsB x.n x.size = false) :
    Calls Try.prog 25 #[.agg x.cells.toArray] w (RightPost w none) := by
  have hI := ItmAt.new w x
  have hst := (Kept.refl w No).alloc (.cells x.cells.toArray 38)
  have c0 := hI.c0
  have c1 := hI.c1
  have c2 := hI.c2
  simp only [Nat.zero_add] at c1 c2
  rw [k0] at c0
  have hd : (¬ x.size = 8 ∧ ¬ x.size = 1 ∧ ¬ x.size = 2 ∧ ¬ x.size = 4) ∨ (∃ kn : Nat, x.size = kn ∧ kn < 8 ∧ (kn = 1 ∨ kn = 2 ∨ kn = 4) ∧ ((x.n : Int) / 2 ^ (8 * kn) == 0) = false) := by
    by_cases h : szB x.size = true
    · have hk := szB_cases h
      rcases hs with hs | hs
      · rw [h] at hs; cases hs
      · have h8 : ¬ x.size = 8 := by intro e; simp [fitsB, e] at hs
        have h0 : ¬ x.n / 2 ^ (8 * x.size.toNat) = 0 := by intro e; simp [fitsB, e] at hs
        refine .inr ⟨x.size.toNat, by omega, by omega, by omega, ?_⟩
        have : ¬ ((x.n : Int) / 2 ^ (8 * x.size.toNat)) = 0 := by
          intro e; apply h0
          have h1 : ((x.n / 2 ^ (8 * x.size.toNat) : Nat) : Int) = 0 := by simpa using e
          omega
        simpa using this
    · left
      simp [szB] at h
      omega
  generalize x.cells = cs at c0 c1 c2 hst ⊢
  generalize x.n = nn at c1 hd ⊢
  clear hs
  have HT := Lib.hid hst; clear hst hI
  rcases hd with ⟨h8, h1, h2, h4⟩ | ⟨kn, hkn, h8, hk, hd⟩
  · generalize x.size = sz at c2 h8 h1 h2 h4 ⊢
    have e8 : (sz == 8) = false := by simpa using h8
    have e1 : (sz == 1) = false := by simpa using h1
    have e2 : (sz == 2) = false := by simpa using h2
    have e4 : (sz == 4) = false := by simpa using h4
    clear h8 h1 h2 h4
    go_enter Try.func25, Try.ntmps25
    go_wp2
    go_returns
    exact RightPost.no HT.out
  · rw [hkn] at c2
    clear hkn
    clear h8
    rcases hk with rfl | rfl | rfl
    all_goals
      simp only [Nat.reduceMul, Int.reducePow] at hd
      go_enter Try.func25, Try.ntmps25
      go_wp2
      go_returns
      exact RightPost.no HT.out

set_option maxRecDepth 100000 in
theorem right1 (x : Itm) (w : World) (k1 : x.kind = 1) : Calls Try.prog 25 #[.agg x.cells.toArray] w (RightPost w (some [if x.b then 1 else 0])) := by
  have hI := ItmAt.new w x
  have hst := (Kept.refl w No).alloc (.cells x.cells.toArray 38)
  have c0 := hI.c0
  have c3 := hI.c3
  simp only [Nat.zero_add] at c3
  rw [k1] at c0
  generalize x.cells = cs at c0 c3 hst ⊢
  have HT := Lib.hid hst; clear hst hI
  have ho := fun b : UInt8 => OB.new (w.alloc (.cells cs.toArray 38)) [b] (by simp [maxLen])
  have HO := Lib.hid ho; clear ho
  have hnew : ∀ b : UInt8, RightPost w (some [b]) (.returned (.tuple #[.slice (some ⟨w.heap.size + 1, 0, none⟩) 1 1, .bool true])) ((w.alloc (.cells cs.toArray 38)).alloc (.cells #[bc b] 5)) := fun b => by
    have h1 := HO.out b
    simp only [heap_size_alloc] at h1
    exact RightPost.of_fresh (w1 := w.alloc (.cells cs.toArray 38)) ⟨h1, (Kept.refl _ No).alloc _, fun k hk => by simp [Value.ownBlock] at hk; simp; omega⟩ HT.out
  have HN := Lib.hid hnew; clear hnew
  generalize x.b = bb at c3 ⊢
  cases bb
  all_goals
    go_enter Try.func25, Try.ntmps25
    go_wp2
    go_returns
  · exact HN.out 0
  · exact HN.out 1

set_option maxRecDepth 100000 in
theorem right2_no (x : Itm) (w : World) (k2 : x.kind = 2) (hs : 65535 < x.s.size) (hx : x.s.size ≤ 9223372036854775807) : Calls Try.prog 25 #[.agg x.cells.toArray] w (RightPost w none) := by
  have hI := ItmAt.new w x
  have hst := (Kept.refl w No).alloc (.cells x.cells.toArray 38)
  have c0 := hI.c0
  have c4 := hI.c4
  simp only [Nat.zero_add] at c4
  rw [k2] at c0
  generalize x.cells = cs at c0 c4 hst ⊢
  generalize x.s = str at c4 hs hx ⊢
  have HT := Lib.hid hst; clear hst hI
  go_enter Try.func25, Try.ntmps25
  go_wp2
  go_returns
  exact RightPost.no HT.out

end Go.Proofs.Ytaipgkbnmfjpfaa
