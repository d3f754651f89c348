/- PackWrites: the walk. -/
import Derived.Test.YtaipgkbnmfjpfaaPackRef2
namespace Go.Proofs.Ytaipgkbnmfjpfaa
open Go.RowKit

def wputs (l : List Itm) : List UInt8 × Bool := l.foldl wput ([], false)
def encAll (l : List Itm) : List UInt8 := l.flatMap fun x => (encI x).getD []
def badAll (l : List Itm) : Bool := l.any fun x => (encI x).isNone
theorem wputs_snoc (l : List Itm) (x : Itm) : wputs (l ++ [x]) = wput (wputs l) x := by simp [wputs]
theorem encAll_snoc (l : List Itm) (x : Itm) : encAll (l ++ [x]) = encAll l ++ (encI x).getD [] := by simp [encAll]
theorem badAll_snoc (l : List Itm) (x : Itm) : badAll (l ++ [x]) = (badAll l || (encI x).isNone) := by simp [badAll]
theorem take_snocI {l : List Itm} {j : Nat} (h : j < l.length) : l.take (j + 1) = l.take j ++ [l[j]] := by rw [List.take_succ_eq_append_getElem h]
theorem wputs_spec (l : List Itm) (n : Nat) : (wputs (l.take n)).2 = badAll (l.take n) ∧ (badAll (l.take n) = false → (wputs (l.take n)).1 = encAll (l.take n)) := by
  induction n with
  | zero => exact ⟨rfl, fun _ => rfl⟩
  | succ n ih =>
    by_cases h : n < l.length
    · rw [take_snocI h, wputs_snoc, encAll_snoc, badAll_snoc, wput_enc]
      obtain ⟨h1, h2⟩ := ih
      rw [h1]
      cases hb : badAll (l.take n)
      · cases he : encI l[n]
        · simp
        · simp [h2 hb]
      · simp [h1, hb]
    · rw [List.take_of_length_le (by omega)] at ih ⊢
      exact ih
theorem wput_good {l : List Itm} {j : Nat} {x : Itm} {b : List UInt8} (h1 : badAll (l.take j) = false) (h2 : encI x = some b) : wput (wputs (l.take j)) x = (encAll (l.take j) ++ b, false) := by
  obtain ⟨e1, e2⟩ := wputs_spec l j
  rw [wput_enc, e1, h1, h2, e2 h1]
  rfl
theorem wput_bad {l : List Itm} {j : Nat} {x : Itm} (h : badAll (l.take j) = true ∨ encI x = none) : (wput (wputs (l.take j)) x).2 = true := by
  obtain ⟨e1, e2⟩ := wputs_spec l j
  rw [wput_enc, e1]
  cases hb : badAll (l.take j) with
  | true => simp [e1, hb]
  | false =>
    rcases h with h | h
    · rw [hb] at h; cases h
    · simp [h]
theorem encAll_len {l : List Itm} (hok : ∀ x ∈ l, x.Ok) : (encAll l).length ≤ 65537 * l.length := by
  induction l with
  | nil => simp [encAll]
  | cons x l ih =>
    have h1 := ih (fun y hy => hok y (by simp [hy]))
    have h2 : ((encI x).getD []).length ≤ 65537 := by
      cases he : encI x with
      | none => simp
      | some b => exact encI_len (hok x (by simp)) he
    simp only [encAll, List.flatMap_cons, List.length_append, List.length_cons] at h1 ⊢
    omega
theorem wput_len (s : List UInt8 × Bool) {x : Itm} (hx : x.Ok) : (wput s x).1.length ≤ s.1.length + 65537 := by
  rw [wput_enc]
  split
  · omega
  · cases he : encI x with
    | none => simp
    | some b => have := encI_len hx he; simp; omega
theorem wputs_len {l : List Itm} (hok : ∀ x ∈ l, x.Ok) (n : Nat) : (wputs (l.take n)).1.length ≤ 65537 * (l.take n).length := by
  induction n with
  | zero => simp [wputs]
  | succ n ih =>
    by_cases h : n < l.length
    · rw [take_snocI h, wputs_snoc, List.length_append, List.length_singleton]
      have := wput_len (wputs (l.take n)) (hok _ (List.getElem_mem h))
      omega
    · rw [List.take_of_length_le (by omega)] at ih ⊢
      exact ih
theorem Items.ok {w : World} {g : Nat} {A : Option Addr} {l : List Itm} (h : Items w g A l) : ∀ x ∈ l, x.Ok := fun x hx => by
  obtain ⟨j, hj, rfl⟩ := List.getElem_of_mem hx
  obtain ⟨o, _, _, hok⟩ := h.at_ hj
  exact hok

theorem Items.next {w : World} {g : Nat} {A : Option Addr} {l : List Itm} (h : Items w g A l) {j : Nat} (hj : j < l.length) : ∃ o x, A = some ⟨g, o, none⟩ ∧ ItmAt w g (o + j * 37) x ∧ x.Ok ∧ Hid (l.take (j + 1) = l.take j ++ [x]) := by
  obtain ⟨o, h1, h2, h3⟩ := h.at_ hj
  exact ⟨o, l[j], h1, h2, h3, take_snocI hj⟩
theorem Try.sizeItem : (Try.prog.info? 38).map (·.size) = some 37 := by kernel_rfl
/-- What holds at each round's head. -/
structure WrInv (w wr : World) (B : Nat) (v : Value) (l : List Itm) : Prop where
  writer : ∃ vw, Wr wr B vw (wputs l).1 (wputs l).2 ∧ (∀ k, vw.ownBlock = some k → w.heap.size ≤ k ∧ v.ownBlock ≠ some k)
  own : OB wr v (encAll l)
  new : ∀ k, v.ownBlock = some k → w.heap.size ≤ k
  kept : Kept w wr No

/-- What a round does to the relation. -/
theorem WrInv.next {w wr w2 w3 w4 : World} {B : Nat} {v vw vw2 v4 : Value} {s s' : List UInt8 × Bool} {xs ys : List UInt8} (hB : w.heap.size ≤ B) (hk : Kept w wr No) (hwr : Wr wr B vw s.1 s.2) (hr : ∀ k, vw.ownBlock = some k → w.heap.size ≤ k ∧ v.ownBlock ≠ some k)
    (hown : OB wr v xs) (hnew : ∀ k, v.ownBlock = some k → w.heap.size ≤ k) (hst : WStep wr w2 B vw vw2) (hwr2 : Wr w2 B vw2 s'.1 s'.2) (hk3 : Kept w2 w3 No) (ho4 : OB w4 v4 ys) (hk4 : Kept w3 w4 (fun k => some k = v.ownBlock)) (hp4 : Place w3.heap.size v v4) :
    Wr w4 B vw2 s'.1 s'.2 ∧ (∀ k, vw2.ownBlock = some k → w.heap.size ≤ k ∧ v4.ownBlock ≠ some k) ∧ OB w4 v4 ys ∧ (∀ k, v4.ownBlock = some k → w.heap.size ≤ k) ∧ Kept w w4 No := by
  have hBv : ∀ k, v.ownBlock = some k → k ≠ B := hown.blk_ne hwr.1 (by decide)
  have hs1 := hk.size
  have hs2 := hst.kept.size
  have hs3 := hk3.size
  have hvlt := hown.lt
  have hw2lt := hwr2.2.lt
  have hrow2 : ∀ k, vw2.ownBlock = some k → w.heap.size ≤ k ∧ v.ownBlock ≠ some k := by
    intro k hk2
    rcases hst.place with e | ⟨g, hg, e⟩
    · exact hr k (by rw [← e]; exact hk2)
    · rw [e] at hk2; cases hk2
      exact ⟨by omega, fun h => by have := hvlt _ h; omega⟩
  refine ⟨⟨(hwr2.1.kept hk3 (fun h => h)).kept hk4 (fun e => hBv B e.symm rfl), (hwr2.2.kept hk3 (fun _ _ h => h)).kept hk4 (fun k hk2 e => (hrow2 k hk2).2 e.symm)⟩, fun k hk2 => ⟨(hrow2 k hk2).1, ?_⟩, ho4, fun k hk4' => ?_, ?_⟩
  · rcases hp4 with e | ⟨g, hg, e⟩
    · rw [e]; exact (hrow2 k hk2).2
    · rw [e]; intro h; cases h; have := hw2lt _ hk2; omega
  · rcases hp4 with e | ⟨g, hg, e⟩
    · exact hnew k (by rw [← e]; exact hk4')
    · rw [e] at hk4'; cases hk4'; omega
  · exact ((hk.new_ hst.kept (fun k h => h.elim (fun h => by omega) (fun h => (hr k h.symm).1))).seq hk3).new_ hk4 (fun k h => hnew k h.symm)

set_option maxRecDepth 100000 in
set_option maxHeartbeats 4000000 in
theorem packWrites_walk (A : Option Addr) (g n c : Nat) (l : List Itm) (w : World) (hn : Hid (n = l.length)) (hl : Items w g A l) (hb : n ≤ 140737488355328) (hg : l ≠ [] → g < w.heap.size) :
    Calls Try.prog 5 #[.slice A n c] w fun e w' => e = .returned (.bool true) ∧ Kept w w' No := by
  have haw := packawake_ok w
  have HA := Lib.hid haw; clear haw
  have HL := Lib.hid hl; clear hl
  cases hf : fewB l with
  | false =>
    go_enter Try.func5, Try.ntmps5
    go_wp2_with fail
    refine HA.out.mono ?_
    rintro e w1 ⟨rfl, hk1⟩
    have hl1 : Items w1 g A l := HL.out.kept hk1 (fun h => h)
    have HK1 := Lib.hid hk1; clear hk1
    have hfw := few_ok A g n c l w1 hn hl1 hb
    rw [hf] at hfw
    have HF := Lib.hid hfw; have HA2 := Lib.hid (packawake_ok w1); clear hfw hl1 hf
    go_wp2_with (first | (go_at_call 13; refine HF.out.mono ?_; rintro e w2 ⟨rfl, rfl⟩) | (go_at_call 12; refine HA2.out.mono ?_; rintro e w2 ⟨rfl, hk2⟩))
    go_returns
    exact ⟨rfl, HK1.out.seq hk2⟩
  | true =>
    have hle := fewB_le hf
    go_enter Try.func5, Try.ntmps5
    go_wp2_with fail
    refine HA.out.mono ?_
    rintro e w1 ⟨rfl, hk1⟩
    have hl1 : Items w1 g A l := HL.out.kept hk1 (fun h => h)
    have HK1 := Lib.hid hk1; clear hk1
    have hfw := few_ok A g n c l w1 hn hl1 hb
    rw [hf] at hfw
    have HF := Lib.hid hfw; clear hfw hl1 hf
    go_wp2_with (go_at_call 13; refine HF.out.mono ?_; rintro e w2 ⟨rfl, rfl⟩)
    have hB := HK1.out.size
    go_loopw [4, 5, 19] (fun v bd i wr => ∃ j : Nat, j ≤ n ∧ i = .int .i64 j ∧ bd = .bool (badAll (l.take j)) ∧ WrInv w wr w1.heap.size v (l.take j)) (fun _ _ i _ => n - (intOf i).toNat)
    case atStart =>
      exact ⟨0, by omega, rfl, rfl, ⟨⟨.slice none 0 0, Wr.new w1, fun k hk => by simp [Value.ownBlock] at hk⟩, OB.nil _, fun k hk => by simp [Value.ownBlock] at hk, HK1.out.alloc _⟩⟩
    case round =>
      obtain ⟨j, hj, rfl, rfl, hinv⟩ := hrel
      by_cases hlt : j < n
      · have hjl : j < l.length := by rw [← hn.out]; exact hlt
        have hgB : g < w.heap.size := hg (by intro e; rw [e] at hjl; simp at hjl)
        have hbd := wputs_len HL.out.ok j
        have hbl : (l.take j).length ≤ 100 := by simp; omega
        obtain ⟨o, x, rfl, hi, hok, hT⟩ := (HL.out.kept hinv.kept (fun h => h)).next hjl
        obtain ⟨vw, hwr, hrow⟩ := hinv.writer
        have hput := put_any w1.heap.size vw _ x hok wr hwr (by omega)
        have hsz : (Try.prog.info? 38).map (·.size) = some x.cells.length := by rw [Try.sizeItem, Itm.len _ hok]
        have hown := hinv.own
        have hrb : ∀ k, vw.ownBlock = some k → k ≠ w1.heap.size := hwr.ne
        have hob : ∀ k, (_ : Value).ownBlock = some k → k ≠ w1.heap.size := hown.blk_ne hwr.1 (by decide)
        have hra := fun w => right_any x hok w
        have hel := encAll_len (l := l.take j) (fun y hy => HL.out.ok y (List.mem_of_mem_take hy))
        have hll : (l.take j).length ≤ 100 := by simp; omega
        have hxl : ((encI x).getD []).length ≤ 65537 := by
          cases he : encI x with
          | none => simp
          | some b => exact encI_len hok he
        have hapl : (encAll (l.take j)).length + ((encI x).getD []).length ≤ 140737488355328 := by omega
        have hgood := fun b => wput_good (l := l) (j := j) (x := x) (b := b)
        have hbad := wput_bad (l := l) (j := j) (x := x)
        have HJ := Lib.hid hjl; have HI := Lib.hid hi; have HP := Lib.hid hput; have HS := Lib.hid hsz; have HW := Lib.hid hwr; have HR := Lib.hid hrow; have HV := Lib.hid hinv; have HO := Lib.hid hok; have HOB := Lib.hid hob; have HOW := Lib.hid hown; have HRA := Lib.hid hra; have HAL := Lib.hid hapl; have HG := Lib.hid hgood; have HBD := Lib.hid hbad
        clear hjl hi hput hsz hwr hrow hinv hbd hbl hok hown hrb hob hra hel hll hxl hapl hgood hbad
        generalize hbj : badAll (l.take j) = bd at HG HBD ⊢
        have HBJ := Lib.hid hbj; clear hbj
        generalize hen : encI x = en at HRA HAL HG HBD
        have HEN := Lib.hid hen; clear hen
        by_cases hgd : bd = false ∧ en.isSome = true
        · obtain ⟨rfl, he⟩ := hgd
          obtain ⟨b, rfl⟩ := Option.isSome_iff_exists.1 he
          have hG := HG.out b rfl rfl
          rw [hG] at HP
          have HGG := Lib.hid hG
          clear hG he HG HBD
          go_wp2_with (first
            | (with_reducible refine wpList_load_mid rfl 38 (.tmp 24) rfl g (o + j * 37) rfl x.cells _ HI.out.rg Try.underlying38 rfl HS.out ?_)
            | (go_at_call 24; refine HP.out.mono ?_; rintro e w2 ⟨rfl, vw2, hwr2, hst2⟩
               have hi2 := HI.out.kept hst2.kept (fun e => e.elim (fun e => by omega) (fun e => by have := (HR.out g e.symm).1; omega))
               have HI2 := Lib.hid hi2; have HW2 := Lib.hid hwr2; have HST := Lib.hid hst2; clear hi2 hwr2 hst2)
            | (with_reducible refine wpList_load_mid rfl 38 (.tmp 30) rfl g (o + j * 37) rfl x.cells _ HI2.out.rg Try.underlying38 rfl HS.out ?_)
            | (go_at_call 25; refine (HRA.out _).mono ?_; rintro e w3 ⟨A3, m3, c3, g3, rfl, hm3, hc3, hr3, hk3, hg3⟩; have HR3 := Lib.hid hr3; have HK3 := Lib.hid hk3; have HM3 := Lib.hid hm3; clear hr3 hk3 hm3
               have hst2 := HST.out.kept
               have ho3 := (HOW.out.kept hst2 (fun k hk e => e.elim (HOB.out k hk) (fun e => (HR.out k e.symm).2 hk))).kept HK3.out (fun k hk h => h)
               have HO3 := Lib.hid ho3; clear ho3 hst2)
            | (at_builtin
               refine wpList_app_b _ rfl (.tmp 40) (.tmp 41) 27 rfl Try.underlying27 Try.infoByte _ _ HO3.out rfl g3 A3 b m3 c3 HM3.out.out rfl HR3.out HAL.out ?_
               intro v4 w4 ho4 hk4 hp4
               have HO4 := Lib.hid ho4; have HK4 := Lib.hid hk4; have HP4 := Lib.hid hp4; clear ho4 hk4 hp4))
          obtain ⟨hw4, hr4, ho4, hn4, hk4⟩ := WrInv.next (s := wputs (l.take j)) (s' := (encAll (l.take j) ++ b, false)) hB HV.out.kept HW.out HR.out HOW.out HV.out.new HST.out HW2.out HK3.out HO4.out HK4.out HP4.out
          have HW4 := Lib.hid hw4; have HR4 := Lib.hid hr4; have HO4' := Lib.hid ho4; have HN4 := Lib.hid hn4; have HK4' := Lib.hid hk4
          obtain ⟨A4, n4, c4, rfl, hn4, hc4, hrb4, -⟩ := ho4.form
          have hcv : ∀ w', Kept w4 w' No → (convert 27 9 (.slice A4 n4 c4)).run Try.prog w' = .ok (.string (strOf (encAll (l.take j) ++ b))) w' := fun w' hk => run_conv_str w' 27 9 Try.underlying27 Try.underlying5 Try.underlying9 _ A4 _ n4 c4 hn4.out (hrb4.kept hk (fun h => h))
          clear hw4 hr4 ho4 hn4 hk4 hrb4 hc4
          have hk0 : Kept w4 w4.drew No := (Kept.refl w4 No).drew
          refine wp_region_held_drew (S := (fun w' => Kept w4 w' No)) (by kernel_rfl) ?_ (fun hHeld => ?_)
          · exact hk0
          refine takeH 1 ?_ rfl (by kernel_rfl) (by kernel_rfl) (by kernel_rfl) (fun _ _ _ h => h) (by kernel_rfl) (by assumption) (fun w hSw => ?_) ?_
          rotate_left
          · (try dsimp only at hSw); go_simp <;> (try with_reducible rfl)
          try simp only [Act.put, List.setIfInBounds_toArray, List.set_cons_zero, List.set_cons_succ]
          refine effH 0 rfl (by kernel_rfl) (by kernel_rfl) (fun K hK => ?_)
          go_simp
          refine (wbad_ok w1.heap.size false w4.drew HW4.out.c1).mono ?_
          rintro e w5 ⟨rfl, rfl⟩
          refine hK.out _ _ hk0 (fun hHeld => ?_)
          clear hK K
          refine takeH 2 ?_ rfl (by kernel_rfl) (by kernel_rfl) (by kernel_rfl) (fun _ _ _ h => h) (by kernel_rfl) (by assumption) (fun w hSw => ?_) ?_
          rotate_left
          · (try dsimp only at hSw); go_simp <;> (try with_reducible rfl)
          try simp only [Act.put, List.setIfInBounds_toArray, List.set_cons_zero, List.set_cons_succ]
          refine takeH 3 ?_ rfl (by kernel_rfl) (by kernel_rfl) (by kernel_rfl) (fun _ _ _ h => h) (by kernel_rfl) (by assumption) (fun w hSw => ?_) ?_
          rotate_left
          · (try dsimp only at hSw); go_simp <;> (try with_reducible rfl)
          try simp only [Act.put, List.setIfInBounds_toArray, List.set_cons_zero, List.set_cons_succ]
          refine takeH 4 ?_ rfl (by kernel_rfl) (by kernel_rfl) (by kernel_rfl) (fun _ _ _ h => h) (by kernel_rfl) (by assumption) (fun w hSw => ?_) ?_
          rotate_left
          · (try dsimp only at hSw); go_simp <;> (try with_reducible rfl)
          try simp only [Act.put, List.setIfInBounds_toArray, List.set_cons_zero, List.set_cons_succ]
          refine takeH 5 ?_ rfl (by kernel_rfl) (by kernel_rfl) (by kernel_rfl) (fun _ _ _ h => h) (by kernel_rfl) (by assumption) (fun w hSw => ?_) ?_
          rotate_left
          · (try dsimp only at hSw); go_simp <;> (try with_reducible rfl)
          try simp only [Act.put, List.setIfInBounds_toArray, List.set_cons_zero, List.set_cons_succ]
          refine takeH 6 ?_ rfl (by kernel_rfl) (by kernel_rfl) (by kernel_rfl) (fun _ _ _ h => h) (by kernel_rfl) (by assumption) (fun w hSw => ?_) ?_
          rotate_left
          · (try dsimp only at hSw); go_simp <;> (try with_reducible rfl)
          try simp only [Act.put, List.setIfInBounds_toArray, List.set_cons_zero, List.set_cons_succ]
          refine takeH 9 ?_ rfl (by kernel_rfl) (by kernel_rfl) (by kernel_rfl) (fun _ _ _ h => h) (by kernel_rfl) (by assumption) (fun w hSw => ?_) ?_
          rotate_left
          · (try dsimp only at hSw); go_simp <;> (try with_reducible rfl)
          try simp only [Act.put, List.setIfInBounds_toArray, List.set_cons_zero, List.set_cons_succ]
          refine takeH 10 ?_ rfl (by kernel_rfl) (by kernel_rfl) (by kernel_rfl) (fun _ _ _ h => h) (by kernel_rfl) (by assumption) (fun w hSw => ?_) ?_
          rotate_left
          · (try dsimp only at hSw); go_simp <;> (try with_reducible rfl)
          try simp only [Act.put, List.setIfInBounds_toArray, List.set_cons_zero, List.set_cons_succ]
          refine effH 7 rfl (by kernel_rfl) (by kernel_rfl) (fun K hK => ?_)
          go_simp
          refine (bytes_ok w1.heap.size vw2 _ _ ⟨HW4.out.1.drew, HW4.out.2.drew⟩ (by rw [List.length_append]; exact HAL.out)).mono ?_
          rintro e w5 ⟨v5, rfl, hf5⟩
          have hk5 : Kept w4 w5 No := hk0.seq hf5.2.1
          obtain ⟨A5, n5, c5, rfl, hn5, hc5, hrb5, -⟩ := hf5.1.form
          have hcv5 : ∀ w', Kept w5 w' No → (convert 27 9 (.slice A5 n5 c5)).run Try.prog w' = .ok (.string (strOf (encAll (l.take j) ++ b))) w' := fun w' hk => run_conv_str w' 27 9 Try.underlying27 Try.underlying5 Try.underlying9 _ A5 _ n5 c5 hn5.out (hrb5.kept hk (fun h => h))
          clear hf5 hrb5
          refine hK.out _ _ hk5 (fun hHeld => ?_)
          clear hK K hHeld
          refine wpAnyH_strong (S' := fun w' => Kept w5 w' No) (fun w' h => hk5.seq h) ?_
          have hHeld : Kept w5 w5 No := Kept.refl _ _
          refine takeH 8 ?_ rfl (by kernel_rfl) (by kernel_rfl) (by kernel_rfl) (fun _ _ _ h => h) (by kernel_rfl) (by assumption) (fun w hSw => ?_) ?_
          rotate_left
          · (try dsimp only at hSw); go_simp <;> (try with_reducible rfl)
          try simp only [Act.put, List.setIfInBounds_toArray, List.set_cons_zero, List.set_cons_succ]
          refine takeH 11 ?_ rfl (by kernel_rfl) (by kernel_rfl) (by kernel_rfl) (fun _ _ _ h => h) (by kernel_rfl) (by assumption) (fun w hSw => ?_) ?_
          rotate_left
          · (try dsimp only at hSw); go_simp <;> (try with_reducible rfl)
          try simp only [Act.put, List.setIfInBounds_toArray, List.set_cons_zero, List.set_cons_succ]
          refine takeH 12 ?_ rfl (by kernel_rfl) (by kernel_rfl) (by kernel_rfl) (fun _ _ _ h => h) (by kernel_rfl) (by assumption) (fun w hSw => ?_) ?_
          rotate_left
          · (try dsimp only at hSw); go_simp <;> (try with_reducible rfl)
          try simp only [Act.put, List.setIfInBounds_toArray, List.set_cons_zero, List.set_cons_succ]
          refine takeH 13 ?_ rfl (by kernel_rfl) (by kernel_rfl) (by kernel_rfl) (fun _ _ _ h => h) (by kernel_rfl) (by assumption) (fun w hSw => ?_) ?_
          rotate_left
          · (try dsimp only at hSw); go_simp <;> (try with_reducible rfl)
          try simp only [Act.put, List.setIfInBounds_toArray, List.set_cons_zero, List.set_cons_succ]
          refine takeH 14 ?_ rfl (by kernel_rfl) (by kernel_rfl) (by kernel_rfl) (fun _ _ _ h => h) (by kernel_rfl) (by assumption) (fun w hSw => ?_) ?_
          rotate_left
          · (try dsimp only at hSw); go_simp <;> (try with_reducible rfl)
          try simp only [Act.put, List.setIfInBounds_toArray, List.set_cons_zero, List.set_cons_succ]
          refine takeH 15 ?_ rfl (by kernel_rfl) (by kernel_rfl) (by kernel_rfl) (fun _ _ _ h => h) (by kernel_rfl) (by assumption) (fun w hSw => ?_) ?_
          rotate_left
          · (try dsimp only at hSw); go_simp <;> (try with_reducible rfl)
          try simp only [Act.put, List.setIfInBounds_toArray, List.set_cons_zero, List.set_cons_succ]
          refine takeH 16 ?_ rfl (by kernel_rfl) (by kernel_rfl) (by kernel_rfl) (fun _ _ _ h => h) (by kernel_rfl) (by assumption) (fun w hSw => ?_) ?_
          rotate_left
          · (try dsimp only at hSw); go_simp <;> (try with_reducible rfl)
          try simp only [Act.put, List.setIfInBounds_toArray, List.set_cons_zero, List.set_cons_succ]
          refine skipH 17 rfl (by kernel_rfl) (by kernel_rfl) (by kernel_rfl) (fun _ _ _ h => h) (by kernel_rfl) (by assumption) ?_
          try simp only [Act.put, List.setIfInBounds_toArray, List.set_cons_zero, List.set_cons_succ]
          refine skipH 18 rfl (by kernel_rfl) (by kernel_rfl) (by kernel_rfl) (fun _ _ _ h => h) (by kernel_rfl) (by assumption) ?_
          try simp only [Act.put, List.setIfInBounds_toArray, List.set_cons_zero, List.set_cons_succ]
          refine skipH 19 rfl (by kernel_rfl) (by kernel_rfl) (by kernel_rfl) (fun _ _ _ h => h) (by kernel_rfl) (by assumption) ?_
          try simp only [Act.put, List.setIfInBounds_toArray, List.set_cons_zero, List.set_cons_succ]
          refine takeH 20 ?_ rfl (by kernel_rfl) (by kernel_rfl) (by kernel_rfl) (fun _ _ _ h => h) (by kernel_rfl) (by assumption) (fun w hSw => ?_) ?_
          rotate_left
          · (try dsimp only at hSw); go_simp <;> (try with_reducible rfl)
          try simp only [Act.put, List.setIfInBounds_toArray, List.set_cons_zero, List.set_cons_succ]
          refine takeH 21 ?_ rfl (by kernel_rfl) (by kernel_rfl) (by kernel_rfl) (fun _ _ _ h => h) (by kernel_rfl) (by assumption) (fun w hSw => ?_) ?_
          rotate_left
          · (try dsimp only at hSw); go_simp <;> (try with_reducible rfl)
          try simp only [Act.put, List.setIfInBounds_toArray, List.set_cons_zero, List.set_cons_succ]
          refine wpAnyH_done (by kernel_rfl) ?_ _
          go_wp2
          go_roundw
          case rel =>
            have hk5' : Kept w4 w5 No := by assumption
            refine ⟨j + 1, by omega, by go_num, by rw [hT.out, badAll_snoc, HBJ.out, HEN.out]; rfl, ⟨⟨vw2, ?_, HR4.out⟩, ?_, HN4.out, HK4'.out.seq hk5'⟩⟩
            · rw [hT.out, wputs_snoc, HGG.out]
              exact ⟨HW4.out.1.kept hk5' (fun h => h), HW4.out.2.kept hk5' (fun _ _ h => h)⟩
            · rw [hT.out, encAll_snoc, HEN.out]
              exact HO4'.out.kept hk5' (fun _ _ h => h)
          case measure => simp [intOf]; omega
        · have hb2 := HBD.out (by
            cases bd
            · cases en
              · exact .inr rfl
              · simp at hgd
            · exact .inl rfl)
          generalize hs' : wput (wputs (l.take j)) x = s' at hb2 HP
          have HS' := Lib.hid hs'; clear hs'
          obtain ⟨xs', bd'⟩ := s'
          simp only at hb2
          subst hb2
          clear HG HBD
          rcases (show (bd = true ∧ ∃ b, en = some b) ∨ (bd = true ∧ en = none) ∨ (bd = false ∧ en = none) by
            cases bd <;> cases en <;> simp at hgd ⊢) with ⟨rfl, b, rfl⟩ | ⟨rfl, rfl⟩ | ⟨rfl, rfl⟩
          all_goals
            clear hgd
            go_wp2_with (first
              | (with_reducible refine wpList_load_mid rfl 38 (.tmp 24) rfl g (o + j * 37) rfl x.cells _ HI.out.rg Try.underlying38 rfl HS.out ?_)
              | (go_at_call 24; refine HP.out.mono ?_; rintro e w2 ⟨rfl, vw2, hwr2, hst2⟩
                 have hi2 := HI.out.kept hst2.kept (fun e => e.elim (fun e => by omega) (fun e => by have := (HR.out g e.symm).1; omega))
                 have HI2 := Lib.hid hi2; have HW2 := Lib.hid hwr2; have HST := Lib.hid hst2; clear hi2 hwr2 hst2)
              | (with_reducible refine wpList_load_mid rfl 38 (.tmp 30) rfl g (o + j * 37) rfl x.cells _ HI2.out.rg Try.underlying38 rfl HS.out ?_)
              | (go_at_call 25; refine (HRA.out _).mono ?_; rintro e w3 ⟨A3, m3, c3, g3, rfl, hm3, hc3, hr3, hk3, hg3⟩; have HR3 := Lib.hid hr3; have HK3 := Lib.hid hk3; have HM3 := Lib.hid hm3; clear hr3 hk3 hm3
                 have hst2 := HST.out.kept
                 have ho3 := (HOW.out.kept hst2 (fun k hk e => e.elim (HOB.out k hk) (fun e => (HR.out k e.symm).2 hk))).kept HK3.out (fun k hk h => h)
                 have HO3 := Lib.hid ho3; clear ho3 hst2)
              | (at_builtin
                 refine wpList_app_b _ rfl (.tmp 40) (.tmp 41) 27 rfl Try.underlying27 Try.infoByte _ _ HO3.out rfl g3 A3 _ m3 c3 HM3.out.out rfl HR3.out HAL.out ?_
                 intro v4 w4 ho4 hk4 hp4
                 have HO4 := Lib.hid ho4; have HK4 := Lib.hid hk4; have HP4 := Lib.hid hp4; clear ho4 hk4 hp4))
            obtain ⟨hw4, hr4, ho4, hn4, hk4⟩ := WrInv.next (s := wputs (l.take j)) (s' := (xs', true)) hB HV.out.kept HW.out HR.out HOW.out HV.out.new HST.out HW2.out HK3.out HO4.out HK4.out HP4.out
            have HW4 := Lib.hid hw4; have HR4 := Lib.hid hr4; have HO4' := Lib.hid ho4; have HN4 := Lib.hid hn4; have HK4' := Lib.hid hk4
            clear hw4 hr4 ho4 hn4 hk4
            go_quiet (first
              | (go_at_call 26; exact quiet_same (wbad_ok w1.heap.size true _ HW4.out.c1))
              | (go_at_call 27; exact quiet_same (bytes_bad w1.heap.size _ HW4.out.c1)))
            go_wp2
            go_roundw
            case rel =>
              refine ⟨j + 1, by omega, by go_num, by rw [hT.out, badAll_snoc, HBJ.out, HEN.out]; rfl, ⟨⟨vw2, ?_, HR4.out⟩, ?_, HN4.out, HK4'.out.drewN _⟩⟩
              · rw [hT.out, wputs_snoc, HS'.out]
                exact ⟨HW4.out.1.drewN _, HW4.out.2.drewN _⟩
              · rw [hT.out, encAll_snoc, HEN.out]
                exact HO4'.out.drewN _
            case measure => simp [intOf]; omega
      · have hlj : l.take j = l := List.take_of_length_le (by rw [← hn.out]; omega)
        obtain ⟨vw, hwr, hrow⟩ := hinv.writer
        have h2 := (wputs_spec l j).1
        have hk := hinv.kept
        rw [h2] at hwr
        have HK := Lib.hid hk
        have c1 := hwr.c1
        clear hk hinv hrow hwr h2 hlj
        generalize badAll (l.take j) = bd at c1 ⊢
        go_wp2_with (go_at_call 26; refine (wbad_ok w1.heap.size _ _ c1).mono ?_; rintro e w5 ⟨rfl, rfl⟩)
        go_returns
        exact ⟨ret_bool (by simp), HK.out⟩
end Go.Proofs.Ytaipgkbnmfjpfaa
