/- Any frame is a message's, or none, as the document says (the walk of MessageFrames). -/
import Derived.Test.YtibkngjacdggpaaDoorMsgX
import Derived.Test.YtibkngjacdggpaaDoorMsgO
namespace Go.Proofs.YtibkngjacdggpaaDoor
set_option linter.unusedSimpArgs false
set_option linter.unusedVariables false
open Go.RowKit HP

theorem kept_ofM {P : Program} {f : FuncId} {args : Array Value} {w : World} {v : Value} (h : Calls P f args w fun e w' => e = .returned v ∧ Holds w' [since w]) : Calls P f args w fun e w' => e = .returned v ∧ Kept w w' No :=
  h.mono fun _ _ ⟨he, hw⟩ => ⟨he, hw.since_kept⟩
def msgAwk : Msg := { Msg.zero with kind := 4, frm := 1, id := 1 }
theorem msgAwk_wf : msgAwk.Wf := ⟨⟨Ed.zero_ok, length_zeros 32, length_zeros 32⟩, Ed.zero_wf, by decide, by decide, by decide, by decide, by decide, by decide, by decide, by decide, by decide, by decide⟩
theorem msgAwk_formed : formedM msgAwk = true := by decide +kernel
theorem msgZero_formed : formedM Msg.zero = false := by decide +kernel
set_option maxRecDepth 100000 in
set_option maxHeartbeats 4000000 in
theorem msgawake_ok (w : World) (R : List HP) (hh : Holds w R) : Calls Tryd.prog 22 #[] w fun e w' => e = .returned (.bool true) ∧ Holds w' R := by
  have HW := Lib.hid hh
  have HZ := Lib.hid (Msg.segs_ok Msg.zero_ok)
  have HB : Hid (∀ (o : Oper) (a : Act) (L : List HP), o.op = .build 46 #[(0, .const (.int .i64 4)), (1, .const (.int .i64 1)), (3, .const (.int .u64 1))] → RunsH Tryd.prog o a L (.agg (flat (Msg.segs msgAwk)).toArray)) := fun o a L ho => by
    refine runs_build (zs := Msg.zero.segs) (M := Msg.segs msgAwk) ho Tryd.underlying46 #[(0, 1), (1, 1), (2, 1), (3, 1), (4, 1), (5, 35), (40, 1), (41, 1), (42, 32), (74, 32), (106, 1)] (fun w => by kernel_rfl) (by kernel_rfl) ?_
    simp only [List.map_cons, List.map_nil]
    refine fill_cons (off := 0) (n := 1) (M := [.o (.int .i64 4)]) rfl rfl ⟨rfl, trivial⟩ rfl HZ.out rfl (fun h1 => ?_)
    refine fill_cons (off := 1) (n := 1) (M := [.o (.int .i64 1)]) rfl rfl ⟨rfl, trivial⟩ rfl h1 rfl (fun h2 => ?_)
    refine fill_cons (off := 3) (n := 1) (M := [.o (.int .u64 1)]) rfl rfl ⟨rfl, trivial⟩ rfl h2 rfl (fun h3 => ?_)
    rfl
  clear hh
  go_enter Tryd.func22, Tryd.ntmps22
  go_wp2_with (first
    | go_skip
    | (refine wpList_runs HW.out rfl (HB.out _ _ _ rfl) ?_; simp only [put_rules])
    | (refine wpList_runs HW.out rfl (runs_build (zs := Msg.zero.segs) (M := Msg.zero.segs) rfl Tryd.underlying46 #[(0, 1), (1, 1), (2, 1), (3, 1), (4, 1), (5, 35), (40, 1), (41, 1), (42, 32), (74, 32), (106, 1)] (fun w => by kernel_rfl) (by kernel_rfl) rfl) ?_; simp only [put_rules])
    | ((go_at_call 37; have hc := mformed_ok msgAwk msgAwk_wf _ _ HW.out msgAwk_formed; with_reducible refine hc.mono ?_; clear hc)
       rintro e w2 ⟨rfl, hw'⟩
       clear HW; have HW := Lib.hid hw'; clear hw'; (try simp only [hps_rules] at HW))
    | ((go_at_call 37; have hc := mformed_ok Msg.zero Msg.zero_wf _ _ HW.out msgZero_formed; with_reducible refine hc.mono ?_; clear hc)
       rintro e w2 ⟨rfl, hw'⟩
       clear HW; have HW := Lib.hid hw'; clear hw'; (try simp only [hps_rules] at HW)))
  go_ret
  exact ⟨rfl, HW.out⟩
set_option maxRecDepth 100000 in
set_option maxHeartbeats 4000000 in
theorem messageFrames_ok (t : UInt8) (A : Option Addr) (n c : Nat) (xs : List UInt8) (w : World) (R : List HP) (hh : Holds w R) (hr : Ent R fun w => RD w A xs) (hn : Hid (n = xs.length)) (hc : n ≤ c) (hb : n ≤ 140737488351232) :
    Calls Tryd.prog 41 #[.int .u8 (t.toNat : Int), .slice A n c] w fun e w' => e = .returned (.bool true) ∧ Holds w' R := by
  have HW := Lib.hid hh
  have HR := Lib.hid hr
  have HZ := Lib.hid (Msg.segs_ok Msg.zero_ok)
  have hZ := HZ.out
  clear hh hr
  by_cases h1 : n ≤ 1000
  rotate_left
  · have d1 : decide ((1000 : Int) < (n : Int)) = true := decide_eq_true (by omega)
    clear h1
    go_enter Tryd.func41, Tryd.ntmps41
    go_wp2_with (first
      | go_skip
      | ((go_at_call 22; have hc := msgawake_ok _ _ HW.out; with_reducible refine hc.mono ?_; clear hc)
         rintro e w2 ⟨rfl, hw'⟩
         clear HW; have HW := Lib.hid hw'; clear hw'; (try simp only [hps_rules] at HW)))
    go_ret
    exact ⟨rfl, HW.out⟩
  have d1 : decide ((1000 : Int) < (n : Int)) = false := decide_eq_false (by omega)
  have HWD := Lib.hid (decM_wf t xs (by rw [← hn.out]; omega))
  obtain ⟨m, HM⟩ : ∃ m, Hid ((decM t xs).1 = m) := ⟨_, rfl⟩
  obtain ⟨q, HQ⟩ : ∃ m, Hid ((decM t xs).2 = m) := ⟨_, rfl⟩
  rw [HM.out] at HWD
  have hS := Msg.segs_ok HWD.out.ok
  have HLN : Hid (sglen m.segs = 107) := by unfold Hid; rw [← flat_len hS]; exact Msg.length_segs HWD.out.ok
  have he : ∀ w, (Op.equalIn 10000 42 (.agg (flat m.segs).toArray) (.agg (flat m.segs).toArray)).run Tryd.prog w = .ok true w := fun w => by
    have := run_equal_msg (T := 42) (.inr rfl) HWD.out HWD.out w
    rwa [sameM_self] at this
  have HO : Hid (∀ w R, Holds w R → (Ent R fun w => RD w A xs) → Calls Tryd.prog 74 #[.agg #[.int .u8 (t.toNat : Int), .slice A n c]] w fun e w' => e = .returned (.tuple #[.agg (flat m.segs).toArray, .int .i64 q]) ∧ Holds w' R) := fun w R hw hr => by
    have := msgOf_ok t A n c xs w R hw hr hn (by omega)
    rwa [HM.out, HQ.out] at this
  have HP : Hid (∀ w R, Holds w R → (Ent R fun w => RD w A xs) → Calls Tryd.prog 76 #[.agg #[.int .u8 (t.toNat : Int), .slice A n c]] w fun e w' => e = .returned (.tuple #[.agg (flat m.segs).toArray, .int .i64 q]) ∧ Holds w' R) := fun w R hw hr => by
    have := rOfFrame_ok t A n c xs w R hw hr hn hc h1
    rwa [HM.out, HQ.out] at this
  clear h1
  go_enter Tryd.func41, Tryd.ntmps41
  go_wp2_with (first
    | go_skip
    | (refine wpList_runs HW.out rfl (runs_ldA 1 (ty := 46) (n := 107) rfl rfl rfl HLN.out Tryd.underlying46 rfl (by kernel_rfl)) ?_; simp only [put_rules])
    | (refine wpList_runs HW.out rfl (runs_ldA 0 (ty := 42) (n := 107) rfl rfl rfl HLN.out Tryd.underlying42 rfl (by kernel_rfl)) ?_; simp only [put_rules])
    | (refine wpList_alloc HW.out rfl (ty := 46) rfl (z := .agg (flat Msg.zero.segs).toArray) (by kernel_rfl) (M := Msg.zero.segs) rfl hZ (fun g1 w' hw' => ?_)
       clear HW; have HW := Lib.hid hw'; clear hw'; (try simp only [hps_rules] at HW); (try simp only [put_rules]))
    | (refine wpList_alloc HW.out rfl (ty := 42) rfl (z := .agg (flat Msg.zero.segs).toArray) (by kernel_rfl) (M := Msg.zero.segs) rfl hZ (fun g2 w' hw' => ?_)
       clear HW; have HW := Lib.hid hw'; clear hw'; (try simp only [hps_rules] at HW); (try simp only [put_rules]))
    | (refine wpList_stA HW.out rfl (ty := 46) (n := 107) rfl rfl 0 rfl (M := Msg.segs m) rfl hS (by kernel_rfl) HLN.out (by kernel_rfl) (fun w' hw' => ?_)
       clear HW; have HW := Lib.hid hw'; clear hw'; (try simp only [hps_rules] at HW); (try simp only [put_rules]))
    | (refine wpList_stA HW.out rfl (ty := 42) (n := 107) rfl rfl 0 rfl (M := Msg.segs m) rfl hS (by kernel_rfl) HLN.out (by kernel_rfl) (fun w' hw' => ?_)
       clear HW; have HW := Lib.hid hw'; clear hw'; (try simp only [hps_rules] at HW); (try simp only [put_rules]))
    | ((go_at_call 22; have hc := msgawake_ok _ _ HW.out; with_reducible refine hc.mono ?_; clear hc)
       rintro e w2 ⟨rfl, hw'⟩
       clear HW; have HW := Lib.hid hw'; clear hw'; (try simp only [hps_rules] at HW))
    | (go_at_call 74; have hc := HO.out _ _ HW.out HR.out; with_reducible refine hc.mono ?_; clear hc
       rintro e w2 ⟨rfl, hw'⟩
       clear HW; have HW := Lib.hid hw'; clear hw')
    | (go_at_call 76; have hc := HP.out _ _ HW.out (HR.out.cons _); with_reducible refine hc.mono ?_; clear hc
       rintro e w3 ⟨rfl, hw'⟩
       clear HW; have HW := Lib.hid hw'; clear hw'))
  go_ret
  exact ⟨rfl, HW.out.tail.tail⟩
end Go.Proofs.YtibkngjacdggpaaDoor
