/- Books: Edit, Version, Last, Fits, Add, New. -/
import Derived.Test.YtaieonajialenaaBookD
namespace Go.Proofs.Ytaieonajialenaa
open Go.RowKit HP

def Bk.edit (k : Bk) (id : Nat) : Option Ed := if id = 0 then none else k.edits[id - 1]?
def Bk.version (k : Bk) (i : Int) : Option (List UInt8) := if i < 0 then none else k.vers[i.toNat]?
def strV (s : List UInt8) : Value := .string (strOf s)
@[go_sem] theorem strV_eq (s : List UInt8) : strV s = .string (strOf s) := rfl
theorem strOf_nil : strOf [] = ⟨#[]⟩ := rfl
section
variable (k : Bk) (b : Nat) (x : BX) (w : World) (R : List HP) (hh : Holds w (BkL b x k R))
include hh
set_option maxRecDepth 100000 in
theorem bEdit_ok (hl : k.edits.length < 1099511627776) (id : Nat) (hid : id < 18446744073709551616) :
    Calls Try.prog 32 #[.pointer (some ⟨b, 0, none⟩), .int .u64 (id : Int)] w fun e w' => e = .returned (.tuple #[((k.edit id).getD Ed.zero).val, .bool (k.edit id).isSome]) ∧ Holds w' (BkL b x k R) := by
  have HW : Hid (Holds w (_ :: _)) := hh
  have hZ : SgOk Ed.zero.segs := Ed.segs_ok Ed.zero_ok
  have HZ := Lib.hid hZ
  have hw0 := wrapU (n := k.edits.length) (by omega)
  clear hh hZ
  by_cases h0 : id = 0
  · subst h0
    clear hid hl hw0
    go_enter Try.func32, Try.ntmps32
    go_wp2_with (first
      | (refine wpList_alloc HW.out rfl rfl (z := Ed.zero.val) (by kernel_rfl) (M := Ed.zero.segs) rfl HZ.out (fun g w' hw' => ?_)
         clear HW; have HW := Lib.hid hw'; clear hw'; (try simp only [hps_rules] at HW); (try simp only [put_rules]))
      | (refine wpList_runs HW.out rfl (runs_build (zs := Ed.zero.segs) (M := Ed.zero.segs) rfl Try.underlying35 #[(0, 1), (1, 2), (3, 32)] (fun w => by kernel_rfl) (by kernel_rfl) rfl) ?_; simp only [put_rules])
      | (refine wpList_stR HW.out rfl (ty := 35) (n := 35) rfl rfl 0 rfl rfl rfl HZ.out rfl (by kernel_rfl) (fun w' hw' => ?_)
         clear HW; have HW := Lib.hid hw'; clear hw'; (try simp only [hps_rules] at HW); (try simp only [put_rules])))
    refine bodyPost_ret (results_cellS rfl HW.out 0 rfl rfl Try.underlying35 rfl (by kernel_rfl)) rfl ?_
    exact ⟨rfl, HW.out.tail⟩
  · have d0 : ((id : Int) == 0) = false := beq_eq_false_iff_ne.2 (by omega)
    by_cases h1 : k.edits.length < id
    · have d1 : decide ((k.edits.length : Int) < (id : Int)) = true := decide_eq_true (by omega)
      have d1' : decide (k.edits.length < id) = true := decide_eq_true h1
      have HN : Hid (k.edit id = none) := by unfold Hid Bk.edit; rw [if_neg h0, List.getElem?_eq_none (by omega)]
      rw [HN.out]
      clear hid hl h0 h1
      go_enter Try.func32, Try.ntmps32
      go_wp2_with (first
        | (refine wpList_alloc HW.out rfl rfl (z := Ed.zero.val) (by kernel_rfl) (M := Ed.zero.segs) rfl HZ.out (fun g w' hw' => ?_)
           clear HW; have HW := Lib.hid hw'; clear hw'; (try simp only [hps_rules] at HW); (try simp only [put_rules]))
        | ((go_at_call 33; have hc := bEdits_ok k b x _ _ (BkL.behind (x := x) (k := k) HW.out); refine hc.mono ?_; clear hc)
           rintro e w2 ⟨rfl, hw'⟩
           replace hw' := BkL.front hw'
           unfold BkL at hw'
           clear HW; have HW := Lib.hid hw'; clear hw'; (try simp only [hps_rules] at HW))
        | (refine wpList_runs HW.out rfl (runs_build (zs := Ed.zero.segs) (M := Ed.zero.segs) rfl Try.underlying35 #[(0, 1), (1, 2), (3, 32)] (fun w => by kernel_rfl) (by kernel_rfl) rfl) ?_; simp only [put_rules])
        | (refine wpList_stR HW.out rfl (ty := 35) (n := 35) rfl rfl 0 rfl rfl rfl HZ.out rfl (by kernel_rfl) (fun w' hw' => ?_)
           clear HW; have HW := Lib.hid hw'; clear hw'; (try simp only [hps_rules] at HW); (try simp only [put_rules])))
      refine bodyPost_ret (results_cellS rfl HW.out 0 rfl rfl Try.underlying35 rfl (by kernel_rfl)) rfl ?_
      exact ⟨rfl, HW.out.tail⟩
    · obtain ⟨j, rfl⟩ : ∃ j, id = j + 1 := ⟨id - 1, by omega⟩
      have hj : j < k.edits.length := by omega
      have d1 : decide ((k.edits.length : Int) < ((j : Nat) : Int) + 1) = false := decide_eq_false (by omega)
      have d1' : decide (k.edits.length < j + 1) = false := decide_eq_false h1
      have d2 : decide (j < k.edits.length) = true := decide_eq_true hj
      obtain ⟨ed, hed⟩ : ∃ ed, k.edits[j]? = some ed := ⟨_, List.getElem?_eq_getElem hj⟩
      have HN : Hid (k.edit (j + 1) = some ed) := by unfold Hid Bk.edit; rw [if_neg h0, Nat.add_sub_cancel, hed]
      rw [HN.out]
      have hjw := wrapU (n := j) (by omega)
      have HED := Lib.hid hed
      have HE : Hid (SgOk (Ed.segs ed)) := (((HW.out.pull 1 rfl).cond_).1 ed (List.mem_of_getElem? hed)).1
      obtain ⟨A, c, he, hc, hc2, hg⟩ := HW.out.arr_form 1 rfl
      cases he
      obtain ⟨g0, hg0⟩ := hg (fun e => by rw [e] at hj; simp at hj)
      have HG0 := Lib.hid hg0
      have HX : Hid (x.eA = some ⟨g0, 0, none⟩) := hg0
      obtain ⟨eA, ec, mv, me, vA, vc⟩ := x
      obtain rfl : eA = some ⟨g0, 0, none⟩ := HX.out
      clear hid hl h0 h1 hed hg hg0 HG0 HX
      go_enter Try.func32, Try.ntmps32
      go_wp2_with (first
        | go_skip
        | (refine wpList_runs HW.out rfl (runs_ld1 1 rfl rfl rfl rfl (by kernel_rfl)) ?_; simp only [put_rules])
        | (refine wpList_alloc HW.out rfl rfl (z := Ed.zero.val) (by kernel_rfl) (M := Ed.zero.segs) rfl HZ.out (fun g w' hw' => ?_)
           clear HW; have HW := Lib.hid hw'; clear hw'; (try simp only [put_rules]))
        | ((go_at_call 33; have hc := bEdits_ok k b ⟨some ⟨g0, 0, none⟩, ec, mv, me, vA, vc⟩ _ _ (BkL.behind (x := ⟨some ⟨g0, 0, none⟩, ec, mv, me, vA, vc⟩) (k := k) HW.out); refine hc.mono ?_; clear hc)
           rintro e w2 ⟨rfl, hw'⟩
           replace hw' := BkL.front hw'
           unfold BkL at hw'
           clear HW; have HW := Lib.hid hw'; clear hw')
        | (refine wpList_runs HW.out rfl (runs_ldrowR 2 (ty := 35) rfl rfl rfl HED.out (by first | rfl | (simp; omega) | omega) Try.underlying35 rfl (by kernel_rfl)) ?_; simp only [put_rules])
        | (refine wpList_stR HW.out rfl (ty := 35) (n := 35) rfl rfl 0 rfl rfl rfl HE.out rfl (by kernel_rfl) (fun w' hw' => ?_)
           clear HW; have HW := Lib.hid hw'; clear hw'; (try simp only [hps_rules] at HW); (try simp only [put_rules])))
      refine bodyPost_ret (results_cellS rfl HW.out 0 rfl rfl Try.underlying35 rfl (by kernel_rfl)) rfl ?_
      exact ⟨rfl, HW.out.tail⟩
theorem bVersion_ok (_hl : k.vers.length < 1099511627776) (i : Int) (hi0 : -9223372036854775808 ≤ i) (hi1 : i ≤ 9223372036854775807) :
    Calls Try.prog 23 #[.pointer (some ⟨b, 0, none⟩), .int .i64 i] w fun e w' => e = .returned (.tuple #[strV ((k.version i).getD []), .bool (k.version i).isSome]) ∧ Holds w' (BkL b x k R) := by
  have HW : Hid (Holds w (_ :: _)) := hh
  clear hh
  by_cases h0 : i < 0
  · have d0 : decide (i < 0) = true := decide_eq_true h0
    have HN : Hid (k.version i = none) := by unfold Hid Bk.version; rw [if_pos h0]
    rw [HN.out]
    clear _hl h0
    go_enter Try.func23, Try.ntmps23
    go_wp2
    go_ret2
    exact ⟨rfl, HW.out⟩
  · obtain ⟨j, rfl⟩ : ∃ j : Nat, i = j := ⟨i.toNat, by omega⟩
    have d0 : decide ((j : Int) < 0) = false := decide_eq_false h0
    by_cases h1 : j < k.vers.length
    · have d1 : decide ((k.vers.length : Int) ≤ (j : Int)) = false := decide_eq_false (by omega)
      have d1' : decide (k.vers.length ≤ j) = false := decide_eq_false (by omega)
      have d2 : decide (j < k.vers.length) = true := decide_eq_true h1
      obtain ⟨t, ht⟩ : ∃ t, k.vers[j]? = some t := ⟨_, List.getElem?_eq_getElem h1⟩
      have HN : Hid (k.version j = some t) := by unfold Hid Bk.version; rw [if_neg h0, Int.toNat_natCast, ht]
      rw [HN.out]
      have HED := Lib.hid ht
      obtain ⟨A, c, he, hc, hc2, hg⟩ := HW.out.arr_form 4 rfl
      cases he
      obtain ⟨g0, hg0⟩ := hg (fun e => by rw [e] at h1; simp at h1)
      have HX : Hid (x.vA = some ⟨g0, 0, none⟩) := hg0
      obtain ⟨eA, ec, mv, me, vA, vc⟩ := x
      obtain rfl : vA = some ⟨g0, 0, none⟩ := HX.out
      clear _hl h0 ht hg hg0 HX hi0 hi1
      go_enter Try.func23, Try.ntmps23
      go_wp2_with (first
        | ((go_at_call 21; have hc := bVersions_ok k b ⟨eA, ec, mv, me, some ⟨g0, 0, none⟩, vc⟩ _ _ HW.out; refine hc.mono ?_; clear hc)
           rintro e w2 ⟨rfl, hw'⟩
           unfold BkL at hw'
           clear HW; have HW := Lib.hid hw'; clear hw')
        | (refine wpList_runs HW.out rfl (runs_ldrow1 4 (ty := 9) rfl rfl rfl HED.out (by first | rfl | (simp; done) | omega) rfl (by kernel_rfl)) ?_; simp only [put_rules])
        | go_skip
        | (refine wpList_runs HW.out rfl (runs_ld1 0 rfl rfl rfl rfl (by kernel_rfl)) ?_; simp only [put_rules]))
      go_ret2
      exact ⟨rfl, HW.out⟩
    · have d1 : decide ((k.vers.length : Int) ≤ (j : Int)) = true := decide_eq_true (by omega)
      have d1' : decide (k.vers.length ≤ j) = true := decide_eq_true (by omega)
      have HN : Hid (k.version j = none) := by unfold Hid Bk.version; rw [if_neg h0, Int.toNat_natCast, List.getElem?_eq_none (by omega)]
      rw [HN.out]
      clear _hl h0 h1 hi0 hi1
      go_enter Try.func23, Try.ntmps23
      go_wp2_with (first
        | ((go_at_call 21; have hc := bVersions_ok k b x _ _ HW.out; refine hc.mono ?_; clear hc)
           rintro e w2 ⟨rfl, hw'⟩
           unfold BkL at hw'
           clear HW; have HW := Lib.hid hw'; clear hw'; (try simp only [hps_rules] at HW)))
      go_ret2
      exact ⟨rfl, HW.out⟩
def Bk.last (k : Bk) : List UInt8 := (k.version ((k.vers.length : Int) - 1)).getD []
theorem bLast_ok (hl : k.vers.length < 1099511627776) : Calls Try.prog 22 #[.pointer (some ⟨b, 0, none⟩)] w fun e w' => e = .returned (strV k.last) ∧ Holds w' (BkL b x k R) := by
  have HW : Hid (Holds w (_ :: _)) := hh
  have hv := Lib.hid hl
  clear hh
  go_enter Try.func22, Try.ntmps22
  go_wp2_with (first
    | ((go_at_call 21; have hc := bVersions_ok k b x _ _ HW.out; refine hc.mono ?_; clear hc)
       rintro e w2 ⟨rfl, hw'⟩
       unfold BkL at hw'
       clear HW; have HW := Lib.hid hw'; clear hw'; (try simp only [hps_rules] at HW))
    | ((go_at_call 23; have hc := bVersion_ok k b x _ _ HW.out hv.out ((k.vers.length : Int) - 1) (by omega) (by omega); refine hc.mono ?_; clear hc)
       rintro e w2 ⟨rfl, hw'⟩
       unfold BkL at hw'
       clear HW; have HW := Lib.hid hw'; clear hw'; (try simp only [hps_rules] at HW)))
  go_ret
  exact ⟨rfl, HW.out⟩
end
end Go.Proofs.Ytaieonajialenaa
