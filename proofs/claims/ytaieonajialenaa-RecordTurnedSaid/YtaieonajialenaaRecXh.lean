/- The reference's DecodeRecord: what is shared. -/
import Derived.Test.YtaieonajialenaaRecX0
import Derived.Test.YtaieonajialenaaRecV
namespace Go.Proofs.Ytaieonajialenaa
open Go.RowKit HP

theorem recX_wf {m idv base : Nat} {ed : Ed} {root : List UInt8} {code : Int} {commit has : Bool} {text : List UInt8} (hm : m < 256) (hi : idv < 18446744073709551616) (hb : base < 18446744073709551616) (he : ed.Wf) (hr : root.length = 32) (c0 : 0 ≤ code) (c1 : code ≤ 255) (ht : text.length ≤ maxLen) :
    Rec.Wf ⟨(m : Int), idv, base, ed, root, code, commit, has, text⟩ :=
  ⟨⟨he.ok, hr⟩, he, by show (-9223372036854775808 : Int) ≤ (m : Int); omega, by show (m : Int) ≤ 9223372036854775807; omega, hi, hb, by show (-9223372036854775808 : Int) ≤ code; omega, by show code ≤ 9223372036854775807; omega, ht⟩
theorem Holds.of_append {w : World} {R : List HP} : ∀ {L : List HP}, Holds w (L ++ R) → Holds w R
  | [], h => h
  | _ :: _, h => Holds.of_append h.tail
theorem wp_runs {P : Program} {o : Oper} {a : Act} {w : World} {Q : Exit → Act → World → Prop} {L : List HP} {K : Act → World → Prop} {v : Value} (h : Holds w L) (hr : RunsH P o a L v) (hK : K (a.put o.dst v) w) : o.wp P a w K Q := by
  unfold Oper.wp
  rw [hr w h]
  exact hK
theorem rofS (A : Option Addr) (n c : Nat) (xs : List UInt8) (w : World) (L : List HP) (hh : Holds w L) (hr : RD w A xs) (hn : Hid (n = xs.length)) (h8 : n ≤ 8) :
    Calls Try.prog 88 #[.slice A n c] w fun e w' => e = .returned (.int .u64 (unbe xs : Nat)) ∧ Holds w' L := by
  refine (rof_ok A n c xs w hr hn h8).mono ?_
  rintro e w2 ⟨rfl, rfl⟩
  exact ⟨rfl, hh⟩
end Go.Proofs.Ytaieonajialenaa
