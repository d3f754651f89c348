/- The reference's bytes of a record: truth, text, EditBytes. -/
import Derived.Test.YtaieonajialenaaEff2
import Derived.Test.YtaieonajialenaaRefA
import Derived.Test.YtaieonajialenaaRecO
import Derived.Test.YtaieonajialenaaRecD
namespace Go.Proofs.Ytaieonajialenaa
open Go.RowKit HP

theorem rnumb_at2 (n k : Nat) (K : Int) (hK : K = k) (hk : k ≤ 8) (w : World) (R : List HP) (hh : Holds w R) :
    Calls Try.prog 74 #[.int .u64 n, .int .i64 K] w fun e w' => ∃ v, e = .returned v ∧ Holds w' (own v (beL n k) :: R) := by
  subst hK
  exact rnumb_ok n k hk w R hh
section
variable {w : World} {R : List HP} (hh : Holds w R)
include hh
theorem rtruth22_ok (b : Bool) : Calls Try.prog 76 #[.bool b] w fun e w' => ∃ v, e = .returned v ∧ Holds w' (own v (beL (bitN b) 1) :: R) := by
  have HW := Lib.hid hh
  clear hh
  cases b
  · go_enter Try.func76, Try.ntmps76
    go_wp2_with (first
      | go_skip
      | (refine wpList_byte1 HW.out rfl rfl Try.underlying51 (by kernel_rfl) (b := 0) rfl (fun g w' hw' => ?_)
         clear HW; have HW := Lib.hid hw'; clear hw'; (try simp only [hps_rules] at HW); (try simp only [put_rules])))
    go_ret
    exact ⟨_, rfl, HW.out⟩
  · go_enter Try.func76, Try.ntmps76
    go_wp2_with (first
      | go_skip
      | (refine wpList_byte1 HW.out rfl rfl Try.underlying51 (by kernel_rfl) (b := 1) rfl (fun g w' hw' => ?_)
         clear HW; have HW := Lib.hid hw'; clear hw'; (try simp only [hps_rules] at HW); (try simp only [put_rules])))
    go_ret
    exact ⟨_, rfl, HW.out⟩
theorem rtruth1_ok (b : Bool) : Calls Try.prog 109 #[.bool b] w fun e w' => e = .returned (.int .u8 ((UInt8.ofNat (bitN b)).toNat : Int)) ∧ Holds w' R := by
  have HW := Lib.hid hh
  clear hh
  cases b
  · go_enter Try.func109, Try.ntmps109
    go_wp2
    go_ret
    exact ⟨rfl, HW.out⟩
  · go_enter Try.func109, Try.ntmps109
    go_wp2
    go_ret
    exact ⟨rfl, HW.out⟩
end
end Go.Proofs.Ytaieonajialenaa
