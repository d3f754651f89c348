/- ShaSums: the walk. -/
import Derived.Test.YtmaiokjcgijdcaaDoorShaLaws
namespace Go.Proofs.YtmaiokjcgijdcaaDoor
open Go.RowKit HP

theorem KF.kept {w w' : World} (h : KF w) (hk : Kept w w' No) : KF w' := fun i hi => by
  have := h i hi
  rw [hk.cell (block_lt_of_cell this) (fun h => h)]; exact this
theorem Ent.sinceK {w0 : World} {R : List HP} (h : KF w0) : Ent (HP.since w0 :: R) KF := fun _ hw => h.kept hw.since_kept

























end Go.Proofs.YtmaiokjcgijdcaaDoor
