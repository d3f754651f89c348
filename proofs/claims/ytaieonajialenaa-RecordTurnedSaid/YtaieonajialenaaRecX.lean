/- The reference's DecodeRecord. -/
import Derived.Test.YtaieonajialenaaRecX1
import Derived.Test.YtaieonajialenaaRecX2
import Derived.Test.YtaieonajialenaaRecX3
import Derived.Test.YtaieonajialenaaRecX4
import Derived.Test.YtaieonajialenaaRecX5
namespace Go.Proofs.Ytaieonajialenaa
open Go.RowKit HP

theorem rDecodeRec_ok (A : Option Addr) (n c : Nat) (xs : List UInt8) (w : World) (R : List HP) (hh : Holds w R) (hr : Ent R fun w => RD w A xs) (hn : Hid (n = xs.length)) (hc : n ≤ c) (hb : n ≤ 140737488351232) :
    Calls Try.prog 38 #[.slice A n c] w fun e w' => e = .returned (.tuple #[.agg (flat (decR xs).1.segs).toArray, .int .i64 (decR xs).2]) ∧ Holds w' R := by
  have h : (xs.getD 0 0).toNat = 1 ∨ (xs.getD 0 0).toNat = 2 ∨ (xs.getD 0 0).toNat = 3 ∨ (xs.getD 0 0).toNat = 4 ∨ ((xs.getD 0 0).toNat = 0 ∨ 4 < (xs.getD 0 0).toNat) := by omega
  rcases h with h | h | h | h | h
  · exact rDecodeRec_k1 A n c xs w R hh hr hn hc hb h
  · exact rDecodeRec_k2 A n c xs w R hh hr hn hc hb h
  · exact rDecodeRec_k3 A n c xs w R hh hr hn hc hb h
  · exact rDecodeRec_k4 A n c xs w R hh hr hn hc hb h
  · exact rDecodeRec_k5 A n c xs w R hh hr hn hc hb h
end Go.Proofs.Ytaieonajialenaa
