/- sha: New, Reset. -/
import Derived.Test.YtmaiokjcgijdcaaDoorShaWrite
namespace Go.Proofs.YtmaiokjcgijdcaaDoor
open Go.RowKit HP








































end Go.Proofs.YtmaiokjcgijdcaaDoor
