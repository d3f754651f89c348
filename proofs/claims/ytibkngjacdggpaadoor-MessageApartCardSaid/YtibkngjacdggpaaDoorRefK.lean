/- the reference: the table of constants. -/
import Derived.Test.YtibkngjacdggpaaDoorRefA
import Derived.Test.YtibkngjacdggpaaDoorShaOf
namespace Go.Proofs.YtibkngjacdggpaaDoor
open Go.RowKit HP

set_option maxRecDepth 100000 in
set_option maxHeartbeats 2000000 in
theorem rk256_ok (w : World) (R : List HP) (hh : Holds w R) :
    Calls Tryd.prog 60 #[] w fun e w' => e = .returned (.agg (wcs kList).toArray) ∧ Holds w' R := by
  have HH := Lib.hid hh; clear hh
  go_enter Tryd.func60, Tryd.ntmps60
  go_wp2_with ((with_reducible refine (?_ : wpList _ _ _ [_] _ _)); refine wpList_store_blk rfl 91 (.tmp 0) (.tmp 1) rfl w.heap.size 0 _ rfl rfl 91 _ (Blk.new _ _ _) Tryd.sizeA64 (by exact Nat.le_refl _) (fun v hv => wcs_one (l := kList) v hv) ?_; (
       intro w2 hb2 hk2
       rw [putA_all _ _ (by rfl)] at hb2
       have hh2 := (HH.out.alloc 91 _).reblk hb2 hk2
       have HH2 := Lib.hid hh2.tail
       have HCC := Lib.hid (show w2.heap[w.heap.size]? = some (.cells (wcs kList).toArray 91 (0, 0)) from hb2)
       clear hb2 hk2 hh2))
  refine bodyPost_ret (results_cell_row rfl _ _ w.heap.size 91 _ (0, 0) _ rfl HCC.out Tryd.underlying91 rfl Tryd.sizeA64) rfl ?_
  exact ⟨rfl, HH2.out⟩
end Go.Proofs.YtibkngjacdggpaaDoor
