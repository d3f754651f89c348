/- sha: New, Reset. -/
import Derived.Test.YtaipgkbnmfjpfaaDoorShaWrite
namespace Go.Proofs.YtaipgkbnmfjpfaaDoor
open Go.RowKit HP

theorem new_ok (w : World) (R : List HP) (hh : Holds w R) : Calls Tryd.prog 15 #[] w fun e w' => ∃ b, e = .returned (.pointer (some ⟨b, 0, none⟩)) ∧ Holds w' (HashH b [] :: R) := by
  have HH := Lib.hid hh; clear hh
  have hb : ∀ w, (zeroValue 40).run Tryd.prog w = .ok (.agg (hcells HS.zero)) w := fun _ => by kernel_rfl
  have hx : (hcells HS.zero).size = 74 := rfl
  generalize hZ : hcells HS.zero = Z at hb hx
  have HZ := Lib.hid hZ; clear hZ
  go_enter Tryd.func15, Tryd.ntmps15
  go_wp2
  go_returns
  exact ⟨_, rfl, (HH.out.alloc 40 _).hash_new HZ.out.symm⟩
theorem reset_nil (w : World) : Calls Tryd.prog 19 #[.pointer none] w fun e w' => e = .returned (.tuple #[]) ∧ w = w' := by
  go_enter Tryd.func19, Tryd.ntmps19
  go_wp2
  go_returns
  exact ⟨rfl, rfl⟩
theorem reset_ok (b : Nat) (xs : List UInt8) (w : World) (R : List HP) (hh : Holds w (HashH b xs :: R)) : Calls Tryd.prog 19 #[.pointer (some ⟨b, 0, none⟩)] w fun e w' => e = .returned (.tuple #[]) ∧ Holds w' (HashH b [] :: R) := by
  obtain ⟨h, hh⟩ := hh.ex_
  obtain ⟨hi, hh⟩ := hh.cond_
  have hs := size_hcells hi.ok
  have HH := Lib.hid hh; have HB := Lib.hid hh.blk; have HSZ := Lib.hid hs; clear hh hi hs
  have hb : ∀ w, (zeroValue 40).run Tryd.prog w = .ok (.agg (hcells HS.zero)) w := fun _ => by kernel_rfl
  have hx : (hcells HS.zero).size = 74 := rfl
  have h1 := hcells_one HS.zero
  generalize hZ : hcells HS.zero = Z at hb hx h1
  have HZ := Lib.hid hZ; clear hZ
  have HQ := Lib.hid (show (Tryd.prog.info? 40).map (·.size) = some Z.size by rw [Tryd.sizeHashT, hx])
  have HF := Lib.hid (show 0 + Z.size ≤ (hcells h).size by rw [HSZ.out, hx]; exact Nat.le_refl _)
  have HE := Lib.hid (show Z.toList.length = (hcells h).size by rw [HSZ.out, Array.length_toList, hx])
  have H1 := Lib.hid h1
  clear h1 hx
  go_enter Tryd.func19, Tryd.ntmps19
  go_wp2_with (with_reducible refine wpList_store_blk rfl 40 (.tmp 6) (.tmp 5) rfl b 0 Z rfl rfl 40 (hcells h) HB.out HQ.out HF.out H1.out ?_; (
    intro w2 hb2 hk2
    rw [putA_all _ _ HE.out] at hb2
    have hh2 := HH.out.reblk hb2 hk2
    have HH2 := Lib.hid (hh2.hash_new (by simpa using HZ.out.symm))
    clear hb2 hk2 hh2))
  go_returns
  exact ⟨rfl, HH2.out⟩
end Go.Proofs.YtaipgkbnmfjpfaaDoor
