/- The reference's OfFrame: what is shared. -/
import Derived.Test.YtibkngjacdggpaaDoorMsgW
import Derived.Test.YtibkngjacdggpaaDoorRecW
namespace Go.Proofs.YtibkngjacdggpaaDoor
set_option linter.unusedSimpArgs false
set_option linter.unusedVariables false
open Go.RowKit HP

theorem Holds.of_appendM {w : World} {R : List HP} : ∀ {L : List HP}, Holds w (L ++ R) → Holds w R
  | [], h => h
  | _ :: _, h => Holds.of_appendM h.tail
theorem wp_runsM {P : Program} {o : Oper} {a : Act} {w : World} {Q : Exit → Act → World → Prop} {L : List HP} {K : Act → World → Prop} {v : Value} (h : Holds w L) (hr : RunsH P o a L v) (hK : K (a.put o.dst v) w) : o.wp P a w K Q := by
  unfold Oper.wp
  rw [hr w h]
  exact hK
theorem rofM (A : Option Addr) (n c : Nat) (xs : List UInt8) (w : World) (L : List HP) (hh : Holds w L) (hr : RD w A xs) (hn : Hid (n = xs.length)) (h8 : n ≤ 8) :
    Calls Tryd.prog 62 #[.slice A n c] w fun e w' => e = .returned (.int .u64 (unbe xs : Nat)) ∧ Holds w' L := by
  refine (rof_ok A n c xs w hr hn h8).mono ?_
  rintro e w2 ⟨rfl, rfl⟩
  exact ⟨rfl, hh⟩
theorem encB_drop (t : UInt8) (body : List UInt8) : (encB t body).drop 10 = body := by
  rw [encB_cons]
  simp
theorem encB_inj {t : UInt8} {a b : List UInt8} (h : encB t a = encB t b) : a = b := by
  have := congrArg (List.drop 10) h
  rwa [encB_drop, encB_drop] at this
theorem eq_one (x : UInt8) : (x == 1) = ((x.toNat : Int) == 1) := by
  rw [Bool.eq_iff_iff]
  simp only [beq_iff_eq]
  constructor
  · intro h; rw [h]; rfl
  · intro h; apply UInt8.toNat.inj; have : x.toNat = 1 := by omega
    rw [this]; rfl
theorem rWriteS (r : Msg) (h : r.Wf) (w : World) (R : List HP) (hh : Holds w R) {b : Bool} (hb : formedM r = b) :
    Calls Tryd.prog 36 #[.agg (flat r.segs).toArray] w fun e w' => ∃ A n c, e = .returned (.tuple #[.slice A n c, .int .i64 (if b = true then 0 else 1)]) ∧ Hid (n = (if b = true then encB r.kb (encM r) else []).length) ∧ n ≤ c ∧ Holds w' (own (.slice A n c) (if b = true then encB r.kb (encM r) else []) :: R) := by
  subst hb
  refine (rWrite_ok r h w R hh).mono ?_
  rintro e w2 ⟨v, rfl, hw⟩
  obtain ⟨A, n, c, rfl, hn, hc, -⟩ := hw.own_form
  exact ⟨A, n, c, rfl, hn, hc, hw⟩
theorem rencodeS (t : UInt8) (A : Option Addr) (n c : Nat) (xs : List UInt8) (w : World) (R : List HP) (hh : Holds w R) (hr : Ent R fun w => RD w A xs) (hn : Hid (n = xs.length)) (hc : n ≤ c) (hb : n ≤ 1000) {X : List UInt8} {q : Nat} (hx : encF t xs = (X, q)) :
    Calls Tryd.prog 68 #[.agg #[.int .u8 (t.toNat : Int), .slice A n c]] w fun e w' => ∃ A n c, e = .returned (.tuple #[.slice A n c, .int .i64 (q : Int)]) ∧ Hid (n = X.length) ∧ n ≤ c ∧ Holds w' (own (.slice A n c) X :: R) := by
  refine (rencode_ok t A n c xs w R hh hr hn hc (by omega)).mono ?_
  rintro e w2 ⟨v, rfl, hw⟩
  obtain ⟨A, n, c, rfl, hn, hc, -⟩ := hw.own_form
  rw [hx] at hn hw ⊢
  exact ⟨A, n, c, rfl, hn, hc, hw⟩
theorem mParse_wf (t : UInt8) (xs : List UInt8) (hb : xs.length ≤ 1000) : (mParse t xs).Wf := by
  have zn : (0 : Nat) < 18446744073709551616 := by decide
  have zi : -9223372036854775808 ≤ (0 : Int) := by decide
  have zj : (0 : Int) ≤ 9223372036854775807 := by decide
  have z := length_zeros 32
  have ht := t.toNat_lt
  have h0 := (xs.getD 0 0).toNat_lt
  have h1 := (xs.getD 1 0).toNat_lt
  have h7 := (xs.getD 7 0).toNat_lt
  have hi : unbe ((xs.drop 2).take 4) < 18446744073709551616 := Nat.lt_of_lt_of_le (unbe_lt8 _ 8 (by simp; omega)) (by decide)
  have hbs : unbe ((xs.drop 6).take 4) < 18446744073709551616 := Nat.lt_of_lt_of_le (unbe_lt8 _ 8 (by simp; omega)) (by decide)
  have a1 : -9223372036854775808 ≤ (t.toNat : Int) := by omega
  have a2 : (t.toNat : Int) ≤ 9223372036854775807 := by omega
  have a3 : -9223372036854775808 ≤ ((xs.getD 0 0).toNat : Int) := by omega
  have a4 : ((xs.getD 0 0).toNat : Int) ≤ 9223372036854775807 := by omega
  have a5 : -9223372036854775808 ≤ ((xs.getD 1 0).toNat : Int) := by omega
  have a6 : ((xs.getD 1 0).toNat : Int) ≤ 9223372036854775807 := by omega
  have a7 : -9223372036854775808 ≤ ((xs.getD 7 0).toNat : Int) := by omega
  have a8 : ((xs.getD 7 0).toNat : Int) ≤ 9223372036854775807 := by omega
  have hok := mParse_ok t xs
  revert hok
  unfold mParse
  repeat' split
  · intro hok; exact ⟨hok, ⟨hok.ed, by show (xs.drop 46).length ≤ maxLen; simp [maxLen]; omega⟩, a1, a2, a3, a4, a5, a6, hi, hbs, zi, zj⟩
  · intro hok; exact ⟨hok, Ed.zero_wf, a1, a2, a3, a4, a5, a6, hi, zn, zi, zj⟩
  · intro hok; exact ⟨hok, Ed.zero_wf, a1, a2, a3, a4, a5, a6, hi, zn, a7, a8⟩
  all_goals intro hok; exact ⟨hok, Ed.zero_wf, a1, a2, a3, a4, a5, a6, hi, zn, zi, zj⟩
theorem kb_of {m : Msg} {t : UInt8} (h : m.kind = (t.toNat : Int)) : m.kb = t := by
  unfold Msg.kb
  apply UInt8.toNat.inj
  rw [UInt8.toNat_ofNat', h]
  have := t.toNat_lt
  omega
end Go.Proofs.YtibkngjacdggpaaDoor
