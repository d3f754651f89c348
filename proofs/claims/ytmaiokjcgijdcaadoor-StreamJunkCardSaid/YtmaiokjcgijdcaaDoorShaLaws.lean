/- Layer 1's laws: the law's first look; ShaSums: the walk. -/
import Derived.Test.YtmaiokjcgijdcaaDoorRefSum
import Derived.Test.YtmaiokjcgijdcaaDoorSl
import Derived.Lib.SlBytesConst
namespace Go.Proofs.YtmaiokjcgijdcaaDoor
open Go.RowKit HP

@[simp] theorem length_shaL (xs : List UInt8) : (shaL xs).length = 32 := by simp [shaL]
theorem abc_first : (shaL [97, 98, 99])[0]? = some 186 := by decide +kernel
theorem abc_last : (shaL [97, 98, 99])[31]? = some 173 := by decide +kernel

































end Go.Proofs.YtmaiokjcgijdcaaDoor
