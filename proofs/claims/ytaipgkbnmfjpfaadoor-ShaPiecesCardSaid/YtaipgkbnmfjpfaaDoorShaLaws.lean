/- Layer 1's laws: the law's first look; ShaSums: the walk. -/
import Derived.Test.YtaipgkbnmfjpfaaDoorRefSum
import Derived.Test.YtaipgkbnmfjpfaaDoorSl2
import Derived.Test.YtaipgkbnmfjpfaaDoorEqHash
import Derived.Lib.SlBytesConst
namespace Go.Proofs.YtaipgkbnmfjpfaaDoor
open Go.RowKit HP

@[simp] theorem length_shaL (xs : List UInt8) : (shaL xs).length = 32 := by simp [shaL]
theorem abc_first : (shaL [97, 98, 99])[0]? = some 186 := by decide +kernel
theorem abc_last : (shaL [97, 98, 99])[31]? = some 173 := by decide +kernel

set_option maxRecDepth 100000 in
set_option maxHeartbeats 1000000 in
theorem shaawake_ok (w : World) (R : List HP) (hh : Holds w R) (hk : Ent R KF) : Calls Tryd.prog 9 #[] w fun e w' => e = .returned (.bool true) ∧ Holds w' R := by
  have h0 := (hh.allocF 5 #[.int .u8 97, .int .u8 98, .int .u8 99] (3, 4))
  have hrd : Ent (blkF w.heap.size 5 #[.int .u8 97, .int .u8 98, .int .u8 99] (3, 4) :: R) fun w' => RD w' (some ⟨w.heap.size, 0, none⟩) [97, 98, 99] := fun w' hw' => ⟨_, fun _ => ⟨0, rfl, fun j hj => by
    rw [Nat.zero_add, hw'.cellsF]
    have : j = 0 ∨ j = 1 ∨ j = 2 := by simp at hj; omega
    rcases this with rfl | rfl | rfl <;> rfl⟩⟩
  have hs := sumb_ok (some ⟨w.heap.size, 0, none⟩) 3 3 [97, 98, 99] _ _ h0 hrd rfl (by omega) (hk.cons _) (by simp)
  have h1 := abc_first
  have h2 := abc_last
  have h32 := length_shaL [97, 98, 99]
  generalize shaL [97, 98, 99] = L at hs h1 h2 h32
  have HS := Lib.hid hs; clear hs hh h0 hrd
  have HQ := Lib.hid (show (Tryd.prog.info? 24).map (·.size) = some (bcs L).toArray.size by rw [Tryd.sizeHash]; simp [h32])
  have H32 := Lib.hid h32; clear h32
  have HL1 := Lib.hid h1; have HL2 := Lib.hid h2; clear h1 h2
  have H1B := Lib.hid (show ∀ v ∈ (bcs L).toArray.toList, v.oneCell' = true from bcs_one)
  have kc := fun (w : World) (C : Array Value) (n c : Nat) => Lib.run_convert_bytes_const (P := Tryd.prog) w 22 5 C n c Tryd.underlying22 Tryd.underlying5
  go_enter Tryd.func9, Tryd.ntmps9
  go_wp2_with (first
    | (go_at_call 10; refine HS.out.mono ?_; rintro e w1 ⟨rfl, hh1⟩; have HH1 := Lib.hid hh1; clear hh1)
    | ((with_reducible refine (?_ : wpList _ _ _ [_] _ _)); refine wpList_store_blk rfl 24 (.tmp 1) (.tmp 4) rfl w1.heap.size 0 (bcs L).toArray rfl rfl 24 _ (Blk.new _ _ _) HQ.out (by rw [show (bcs L).toArray.size = 32 by simp [H32.out]]; exact Nat.le_refl _) H1B.out ?_; (
       intro w2 hb2 hk2
       rw [putA_all _ _ (by simp [H32.out])] at hb2
       have hh2 := (HH1.out.alloc 24 _).reblk hb2 hk2
       have c0 : w2.cell? ⟨w1.heap.size, 0, none⟩ = some (.int .u8 186) := (hh2.cells 0).trans (by simp [bcs, HL1.out, bc])
       have c31 : w2.cell? ⟨w1.heap.size, 31, none⟩ = some (.int .u8 173) := (hh2.cells 31).trans (by simp [bcs, HL2.out, bc])
       have HH2 := Lib.hid hh2
       clear hb2 hk2 hh2)))
  go_returns
  exact ⟨rfl, HH2.out.tail.tail⟩
end Go.Proofs.YtaipgkbnmfjpfaaDoor
