/- Books: New. -/
import Derived.Test.YtaieonajialenaaBookF
namespace Go.Proofs.Ytaieonajialenaa
open Go.RowKit HP

def Bk.new (s : List UInt8) : Bk := ⟨[], [], [], 0, [s]⟩
theorem Bk.new_ok (s : List UInt8) : (Bk.new s).Ok := ⟨fun _ h => by cases h⟩
theorem bNew_ok (s : List UInt8) (hs : s.length ≤ 2000) (w : World) (R : List HP) (hh : Holds w R) :
    Calls Try.prog 17 #[.string (strOf s)] w fun e w' => ∃ b, e = .returned (.tuple #[.pointer (some ⟨b, 0, none⟩), .int .i64 0]) ∧ Holds w' (BkH b (Bk.new s) :: R) := by
  have HW := Lib.hid hh
  have n1 := strSize s
  have d1 : decide ((2000 : Int) < ((strOf s).size : Int)) = false := decide_eq_false (by omega)
  have d2 : decide (2000 < (strOf s).size) = false := decide_eq_false (by omega)
  clear hh n1 hs
  go_enter Try.func17, Try.ntmps17
  go_wp2_with (first
    | (refine wpList_makeMap .u64 Vt.val HW.out rfl (ty := 110) rfl (fun g1 w' hw' => ?_)
       clear HW; have HW := Lib.hid hw'; clear hw'; (try simp only [hps_rules] at HW); (try simp only [put_rules]))
    | (refine wpList_makeMap .u64 Value.bool HW.out rfl (ty := 111) rfl (fun g2 w' hw' => ?_)
       clear HW; have HW := Lib.hid hw'; clear hw'; (try simp only [hps_rules] at HW); (try simp only [put_rules]))
    | (refine wpList_slice1 HW.out rfl rfl Try.underlying112 (z := .string ⟨#[]⟩) (n := 1) (by kernel_rfl) (by decide) (by decide) (M := tsegs s) rfl (tsegs_ok s) rfl (fun g3 w' hw' => ?_)
       clear HW; have HW := Lib.hid hw'; clear hw'; (try simp only [hps_rules] at HW); (try simp only [put_rules]))
    | (refine wpList_box HW.out rfl rfl rfl (M := [.o _, .o _, .o _, .o _, .o _]) rfl ⟨rfl, rfl, rfl, rfl, rfl, trivial⟩ (fun g4 w' hw' => ?_)
       clear HW; have HW := Lib.hid hw'; clear hw'; (try simp only [hps_rules] at HW); (try simp only [put_rules])))
  go_ret2
  have h1 := HW.out.sblk_arr1 (E := 9) (sz := 1) (enc := tsegs) 1 s rfl rfl
  have h2 := h1.arr_nil 35 35 Ed.segs
  have h3 : Holds w' (BkL g4 ⟨none, 0, g1, g2, some ⟨g3, 0, none⟩, 1⟩ (Bk.new s) R) := by
    refine h2.perm ?_
    refine (List.Perm.swap _ _ _).trans (List.Perm.cons _ (List.Perm.cons _ ?_))
    refine (List.Perm.cons _ (List.Perm.swap _ _ _)).trans ((List.Perm.swap _ _ _).trans (List.Perm.cons _ (List.Perm.swap _ _ _)))
  exact ⟨g4, rfl, h3.bk_close (Bk.new_ok s)⟩
end Go.Proofs.Ytaieonajialenaa
