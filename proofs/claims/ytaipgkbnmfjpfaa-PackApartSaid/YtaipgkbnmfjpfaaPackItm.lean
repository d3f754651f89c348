/- Items of layer 3's laws: what they are, and put. -/
import Derived.Test.YtaipgkbnmfjpfaaPackR
namespace Go.Proofs.Ytaipgkbnmfjpfaa
open Go.RowKit

/-- An item, as data. -/
structure Itm where
  kind : UInt8
  n : Nat
  size : Int
  b : Bool
  s : ByteArray
  h : List UInt8
  deriving Inhabited
structure Itm.Ok (x : Itm) : Prop where
  n : x.n < 18446744073709551616
  lo : -9223372036854775808 ≤ x.size
  hi : x.size ≤ 9223372036854775807
  s : x.s.size ≤ 9223372036854775807
  h : x.h.length = 32
/-- Its cells. -/
def Itm.cells (x : Itm) : List Value := [bc x.kind, .int .u64 x.n, .int .i64 x.size, .bool x.b, .string x.s] ++ bcs x.h
theorem Itm.len (x : Itm) (h : x.Ok) : x.cells.length = 37 := by simp [Itm.cells, h.h]
theorem Itm.one (x : Itm) : ∀ u ∈ x.cells, u.oneCell' = true := by
  intro u hu
  simp only [Itm.cells, List.mem_append, List.mem_cons, List.not_mem_nil, or_false] at hu
  rcases hu with (rfl | rfl | rfl | rfl | rfl) | hu
  any_goals rfl
  exact bcs_one u hu
/-- An item lies at ⟨g, o⟩. -/
def ItmAt (w : World) (g o : Nat) (x : Itm) : Prop := w.rangeAt g o x.cells
section
variable {w w' : World} {g o : Nat} {x : Itm} {L : Nat → Prop}
theorem ItmAt.rg (h : ItmAt w g o x) : w.rangeAt g o x.cells := h
theorem ItmAt.c0 (h : ItmAt w g o x) : w.cell? ⟨g, o, none⟩ = some (.int .u8 x.kind.toNat) := h 0 _ rfl
theorem ItmAt.c1 (h : ItmAt w g o x) : w.cell? ⟨g, o + 1, none⟩ = some (.int .u64 x.n) := h 1 _ rfl
theorem ItmAt.c2 (h : ItmAt w g o x) : w.cell? ⟨g, o + 2, none⟩ = some (.int .i64 x.size) := h 2 _ rfl
theorem ItmAt.c3 (h : ItmAt w g o x) : w.cell? ⟨g, o + 3, none⟩ = some (.bool x.b) := h 3 _ rfl
theorem ItmAt.c4 (h : ItmAt w g o x) : w.cell? ⟨g, o + 4, none⟩ = some (.string x.s) := h 4 _ rfl
theorem ItmAt.c5 (h : ItmAt w g o x) : w.rangeAt g (o + 5) (bcs x.h) := fun j v hv => by
  rw [Nat.add_assoc]
  refine h (5 + j) v ?_
  unfold Itm.cells
  rw [List.getElem?_append_right (by simp)]
  simpa using hv
theorem ItmAt.kept (h : ItmAt w g o x) (hk : Kept w w' L) (hg : ¬ L g) : ItmAt w' g o x := rangeAt_kept h hk hg
theorem ItmAt.new (w : World) (x : Itm) : ItmAt (w.alloc (.cells x.cells.toArray 38)) w.heap.size 0 x := (Blk.new w 38 x.cells.toArray).range
end

/-- What put does. -/
def wput (s : List UInt8 × Bool) (x : Itm) : List UInt8 × Bool :=
  if x.kind = 0 then wnum s x.n x.size else if x.kind = 1 then wtruth s x.b else if x.kind = 2 then wtext s x.s.data.toList else whash s x.h

theorem WPost.trans {w w1 : World} {b : Nat} {v v1 : Value} {s' : List UInt8 × Bool} {e : Ending} {w' : World} (h : WStep w w1 b v v1) (h' : WPost w1 b v1 s' e w') : WPost w b v s' e w' := by
  obtain ⟨he, v', h1, h2⟩ := h'
  exact ⟨he, v', h1, h.trans h2⟩
theorem WStep.alloc1 {w : World} {b : Nat} (v : Value) (o : Obj) : WStep w (w.alloc o) b v v := ⟨(Kept.refl _ _).alloc _, Place.refl _ _⟩
theorem u8_ne {x : UInt8} {n : Nat} (hn : n < 256) (h : ¬ x = UInt8.ofNat n) : ((x.toNat : Int) == (n : Int)) = false := by
  rw [castB]
  simp only [beq_eq_false_iff_ne, ne_eq]
  intro e
  apply h
  apply UInt8.toNat_inj.1
  rw [e, UInt8.toNat_ofNat']
  omega

set_option maxRecDepth 100000 in
set_option maxHeartbeats 1000000 in
theorem put_any (b : Nat) (v : Value) (s : List UInt8 × Bool) (x : Itm) (hx : x.Ok) (w : World) (h : Wr w b v s.1 s.2) (hbd : s.1.length + 70000 ≤ 140737488355328) :
    Calls Try.prog 24 #[.pointer (some ⟨b, 0, none⟩), .agg x.cells.toArray] w (WPost w b v (wput s x)) := by
  have h0 : Wr (w.alloc (.cells x.cells.toArray 38)) b v s.1 s.2 := ⟨h.1.alloc _, h.2.alloc _⟩
  have hI := ItmAt.new w x
  have hst := WStep.alloc1 (w := w) (b := b) v (.cells x.cells.toArray 38)
  have hsz : (Try.prog.info? 36).map (·.size) = some (bcs x.h).length := by rw [Try.sizeHash]; simp [hx.h]
  have c0 := hI.c0
  unfold wput
  by_cases k0 : x.kind = 0
  · rw [if_pos k0]
    have hn := number_any b v s x.n hx.n x.size _ h0 (by omega)
    have c1 := hI.c1
    have c2 := hI.c2
    rw [k0] at c0
    simp only [Nat.zero_add] at c1 c2
    have HN := Lib.hid hn; have HT := Lib.hid hst
    clear hn hst h h0 hsz hbd hI k0
    generalize x.cells = cs at c0 c1 c2 HN HT ⊢
    go_enter Try.func24, Try.ntmps24
    go_wp2_with fail
    refine HN.out.mono ?_
    rintro e w1 ⟨rfl, hp⟩
    go_wp2
    go_returns
    exact ⟨rfl, _, hp.choose_spec.1, HT.out.trans hp.choose_spec.2⟩
  rw [if_neg k0]
  have k0' := u8_ne (n := 0) (by omega) k0
  by_cases k1 : x.kind = 1
  · rw [if_pos k1]
    have hn := truth_any b v s x.b _ h0 (by omega)
    have c3 := hI.c3
    rw [k1] at c0 k0'
    simp only [Nat.zero_add] at c3
    have HN := Lib.hid hn; have HT := Lib.hid hst
    clear hn hst h h0 hsz hbd hI k1 k0
    generalize x.cells = cs at c0 c3 HN HT ⊢
    go_enter Try.func24, Try.ntmps24
    go_wp2_with fail
    refine HN.out.mono ?_
    rintro e w1 ⟨rfl, hp⟩
    go_wp2
    go_returns
    exact ⟨rfl, _, hp.choose_spec.1, HT.out.trans hp.choose_spec.2⟩
  rw [if_neg k1]
  have k1' := u8_ne (n := 1) (by omega) k1
  by_cases k2 : x.kind = 2
  · rw [if_pos k2]
    have hn := text_any b v s x.s _ h0 hbd hx.s
    have c4 := hI.c4
    rw [k2] at c0 k0' k1'
    simp only [Nat.zero_add] at c4
    have HN := Lib.hid hn; have HT := Lib.hid hst
    clear hn hst h h0 hsz hbd hI k2 k1 k0
    generalize x.cells = cs at c0 c4 HN HT ⊢
    go_enter Try.func24, Try.ntmps24
    go_wp2_with fail
    refine HN.out.mono ?_
    rintro e w1 ⟨rfl, hp⟩
    go_wp2
    go_returns
    exact ⟨rfl, _, hp.choose_spec.1, HT.out.trans hp.choose_spec.2⟩
  rw [if_neg k2]
  have k2' := u8_ne (n := 2) (by omega) k2
  have hn := hash_any b v s x.h hx.h _ h0 (by omega)
  have c5 := hI.c5
  simp only [Nat.zero_add] at c5
  generalize x.kind = kd at c0 k0' k1' k2'
  have HN := Lib.hid hn; have HT := Lib.hid hst; have HS := Lib.hid hsz; have H5 := Lib.hid c5
  clear hn hst h h0 hbd hI hsz c5
  generalize x.cells = cs at c0 H5 HN HT ⊢
  go_enter Try.func24, Try.ntmps24
  go_wp2_with (first
    | (with_reducible refine wpList_load_mid rfl 36 (.tmp 7) rfl w.heap.size 5 rfl (bcs x.h) _ H5.out Try.underlying36 rfl HS.out ?_)
    | (go_at_call 36; refine HN.out.mono ?_; rintro e w1 ⟨rfl, hp⟩))
  go_returns
  exact ⟨rfl, _, hp.choose_spec.1, HT.out.trans hp.choose_spec.2⟩

theorem put_nil (x : Itm) (hx : x.Ok) (w : World) :
    Calls Try.prog 24 #[.pointer none, .agg x.cells.toArray] w fun e w' => e = .returned (.tuple #[]) ∧ Kept w w' No := by
  have hI := ItmAt.new w x
  have hst := (Kept.refl w No).alloc (.cells x.cells.toArray 38)
  have hsz : (Try.prog.info? 36).map (·.size) = some (bcs x.h).length := by rw [Try.sizeHash]; simp [hx.h]
  have c0 := hI.c0
  have c1 := hI.c1
  have c2 := hI.c2
  have c3 := hI.c3
  have c4 := hI.c4
  have c5 := hI.c5
  simp only [Nat.zero_add] at c1 c2 c3 c4 c5
  have HT := Lib.hid hst; have HS := Lib.hid hsz; have H5 := Lib.hid c5
  clear hst hsz c5 hI
  generalize x.cells = cs at c0 c1 c2 c3 c4 H5 HT ⊢
  go_enter Try.func24, Try.ntmps24
  go_wp2_with (first
    | (with_reducible refine wpList_load_mid rfl 36 (.tmp 7) rfl w.heap.size 5 rfl (bcs x.h) _ H5.out Try.underlying36 rfl HS.out ?_)
    | (go_at_call 30; refine (number_nil _ _ _).mono ?_; rintro e w1 ⟨rfl, rfl⟩)
    | (go_at_call 34; refine (truth_nil _ _).mono ?_; rintro e w1 ⟨rfl, rfl⟩)
    | (go_at_call 35; refine (text_nil _ _).mono ?_; rintro e w1 ⟨rfl, rfl⟩)
    | (go_at_call 36; refine (hash_nil _ _).mono ?_; rintro e w1 ⟨rfl, hp⟩))
  all_goals go_returns
  all_goals first | exact ⟨rfl, HT.out⟩ | exact ⟨rfl, HT.out.trans hp (by simp [No])⟩

/-! ### the items that came in -/
/-- A slice of items at A reads l; they lie in block g. -/
def Items (w : World) (g : Nat) (A : Option Addr) (l : List Itm) : Prop :=
  l ≠ [] → ∃ o, A = some ⟨g, o, none⟩ ∧ ∀ j (h : j < l.length), ItmAt w g (o + j * 37) l[j] ∧ l[j].Ok
theorem Items.kept {w w' : World} {g : Nat} {A : Option Addr} {l : List Itm} {L : Nat → Prop} (h : Items w g A l) (hk : Kept w w' L) (hg : ¬ L g) : Items w' g A l := fun hl => by
  obtain ⟨o, ho, hc⟩ := h hl
  exact ⟨o, ho, fun j hj => ⟨(hc j hj).1.kept hk hg, (hc j hj).2⟩⟩
theorem Items.at_ {w : World} {g : Nat} {A : Option Addr} {l : List Itm} (h : Items w g A l) {j : Nat} (hj : j < l.length) : ∃ o, A = some ⟨g, o, none⟩ ∧ ItmAt w g (o + j * 37) l[j] ∧ l[j].Ok := by
  obtain ⟨o, ho, hc⟩ := h (by intro e; subst e; simp at hj)
  exact ⟨o, ho, hc j hj⟩

/-- What few tells: item by item, from place i on with n so far. -/
def fewGo : List Itm → Nat → Nat → Bool
  | [], _, _ => true
  | x :: l, i, n => if 100 ≤ i ∨ 200000 < n + min x.s.size 70000 then false else fewGo l (i + 1) (n + min x.s.size 70000)
def fewB (l : List Itm) : Bool := fewGo l 0 0
theorem fewGo_le : ∀ (l : List Itm) (i n : Nat), fewGo l i n = true → l = [] ∨ i + l.length ≤ 100
  | [], _, _, _ => .inl rfl
  | x :: l, i, n, h => by
    unfold fewGo at h
    split at h
    · cases h
    · rename_i hc
      rcases fewGo_le l _ _ h with rfl | h'
      · right; simp; omega
      · right; simp; omega
theorem fewB_le {l : List Itm} (h : fewB l = true) : l.length ≤ 100 := by
  rcases fewGo_le l 0 0 h with rfl | h'
  · simp
  · omega
theorem fewGo_drop {l : List Itm} {j n : Nat} (hj : j < l.length) : fewGo (l.drop j) j n = if 100 ≤ j ∨ 200000 < n + min l[j].s.size 70000 then false else fewGo (l.drop (j + 1)) (j + 1) (n + min l[j].s.size 70000) := by
  rw [List.drop_eq_getElem_cons hj]; rfl

set_option maxRecDepth 100000 in
theorem few_ok (A : Option Addr) (g n c : Nat) (l : List Itm) (w : World) (hn : Hid (n = l.length)) (hl : Items w g A l) (hb : n ≤ 140737488355328) :
    Calls Try.prog 13 #[.slice A n c] w fun e w' => e = .returned (.bool (fewB l)) ∧ w = w' := by
  go_enter Try.func13, Try.ntmps13
  go_wp2_with fail
  go_loop [3, 7] (fun t i => ∃ j m : Nat, j ≤ n ∧ i = .int .i64 j ∧ t = .int .i64 m ∧ m ≤ 200000 ∧ Hid (fewB l = fewGo (l.drop j) j m)) (fun _ i => n - (intOf i).toNat)
  case atStart => exact ⟨0, 0, by omega, rfl, rfl, by omega, rfl⟩
  case round =>
    obtain ⟨j, m, hj, rfl, rfl, hm, hf⟩ := hrel
    by_cases hlt : j < n
    · have hjl : j < l.length := by rw [← hn.out]; exact hlt
      obtain ⟨o, rfl, hi, hok⟩ := hl.at_ hjl
      have HF := Lib.hid (hf.out.trans (fewGo_drop hjl))
      have c4 := hi.c4
      have hs := hok.s
      generalize l[j].s = s at c4 hs HF
      have HI := Lib.hid hi; clear hi hf hok
      by_cases h1 : 100 ≤ j
      · go_wp2
        all_goals go_returns
        all_goals exact ⟨ret_bool (a := false) (by rw [HF.out, if_pos (.inl h1)]), rfl⟩
      · by_cases h2 : 200000 < m + min s.size 70000
        · go_wp2
          all_goals go_returns
          all_goals exact ⟨ret_bool (a := false) (by rw [HF.out, if_pos (.inr h2)]), rfl⟩
        · have HF2 := Lib.hid (HF.out.trans (if_neg (by omega))); clear HF
          go_wp2
          all_goals
            go_round
            case rel => exact ⟨j + 1, m + min s.size 70000, by omega, by go_num, by congr 1; omega, by omega, HF2.out⟩
            case measure => simp [intOf]; omega
    · go_wp2
      go_returns
      have : l.drop j = [] := List.drop_eq_nil_of_le (by rw [← hn.out]; omega)
      exact ⟨ret_bool (a := true) (by rw [hf.out, this]; rfl), rfl⟩
end Go.Proofs.Ytaipgkbnmfjpfaa
