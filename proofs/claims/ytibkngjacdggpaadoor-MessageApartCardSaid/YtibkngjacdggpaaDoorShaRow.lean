import Derived.Test.YtibkngjacdggpaaDoorRefSum
import Derived.Test.YtibkngjacdggpaaDoorSl
import Derived.Lib.SlBytesConst
import Derived.Test.YtibkngjacdggpaaDoorCards
import Derived.Test.YtibkngjacdggpaaDoorTie
import Derived.Test.YtibkngjacdggpaaDoorOpen
import Derived.Deep.DeepHandedRow
import Derived.Lib.LaidTab
/- Layer 1's laws: the law's first look; ShaSums: the walk. -/
namespace Go.Proofs.YtibkngjacdggpaaDoor
open Go.RowKit HP

@[simp] theorem length_shaL (xs : List UInt8) : (shaL xs).length = 32 := by simp [shaL]
theorem abc_first : (shaL [97, 98, 99])[0]? = some 186 := by decide +kernel
theorem abc_last : (shaL [97, 98, 99])[31]? = some 173 := by decide +kernel

































end Go.Proofs.YtibkngjacdggpaaDoor
/- ShaSums: the walk. -/
namespace Go.Proofs.YtibkngjacdggpaaDoor
open Go.RowKit HP

theorem KF.kept {w w' : World} (h : KF w) (hk : Kept w w' No) : KF w' := fun i hi => by
  have := h i hi
  rw [hk.cell (block_lt_of_cell this) (fun h => h)]; exact this
theorem Ent.sinceK {w0 : World} {R : List HP} (h : KF w0) : Ent (HP.since w0 :: R) KF := fun _ hw => h.kept hw.since_kept

























end Go.Proofs.YtibkngjacdggpaaDoor
/- The table that the rows of the sha laws list: what it gives the walks, and a world that holds it. -/
namespace Go.Proofs.YtibkngjacdggpaaDoor
open Go.ChangeShapes Go.WideShapes Go.ChangeAt Go.RowKit

def kInts : List Int := [1116352408, 1899447441, 3049323471, 3921009573, 961987163, 1508970993, 2453635748, 2870763221, 3624381080, 310598401, 607225278, 1426881987, 1925078388, 2162078206, 2614888103, 3248222580, 3835390401, 4022224774, 264347078, 604807628, 770255983, 1249150122, 1555081692, 1996064986, 2554220882, 2821834349, 2952996808, 3210313671, 3336571891, 3584528711, 113926993, 338241895, 666307205, 773529912, 1294757372, 1396182291, 1695183700, 1986661051, 2177026350, 2456956037, 2730485921, 2820302411, 3259730800, 3345764771, 3516065817, 3600352804, 4094571909, 275423344, 430227734, 506948616, 659060556, 883997877, 958139571, 1322822218, 1537002063, 1747873779, 1955562222, 2024104815, 2227730452, 2361852424, 2428436474, 2756734187, 3204031479, 3329325298]
theorem kInts_eq : kInts = kList.map fun x => (x.toNat : Int) := by decide +kernel
theorem gTab : Tryd.prog.globalNamed "redactor/sha.k256" = some 2 := by kernel_rfl
theorem gTabType : (Tryd.prog.globals[2]?).map (·.type) = some 91 := by kernel_rfl
theorem cellsA64 : Tryd.prog.cellsOf 91 = 64 := by kernel_rfl
theorem cellsU32 : Tryd.prog.cellsOf 89 = 1 := by kernel_rfl
theorem kf_of_laid {W : World} (h : laidMetH Tryd.prog [("redactor/sha.k256", Rows.laid_redactor_sha_k256)] W) : KF W := by
  have ht : Lib.TabIs Tryd.prog W "redactor/sha.k256" .u32 kInts := Lib.tabIs_of_head (rest := []) gTab gTabType Tryd.underlying91 Tryd.underlying89 cellsU32 cellsA64 h
  intro i hi
  have := ht.cell gTab i hi
  rw [this]
  congr 1
  unfold wc
  rw [kInts_eq]
  simp [List.getD, show i < kList.length from hi]

/-- A WORLD FOR THE WITNESS: the settled one, the table (block 0) holding what its initialiser lays. -/
noncomputable def laidWorld (os : Os) : World :=
  { World.holding Tryd.prog os ⟨#[], #[], []⟩ with heap := (World.holding Tryd.prog os ⟨#[], #[], []⟩).heap.modify 2 fun
      | .cells _ t frozen => .cells #[.int .u32 1116352408, .int .u32 1899447441, .int .u32 3049323471, .int .u32 3921009573, .int .u32 961987163, .int .u32 1508970993, .int .u32 2453635748, .int .u32 2870763221, .int .u32 3624381080, .int .u32 310598401, .int .u32 607225278, .int .u32 1426881987, .int .u32 1925078388, .int .u32 2162078206, .int .u32 2614888103, .int .u32 3248222580, .int .u32 3835390401, .int .u32 4022224774, .int .u32 264347078, .int .u32 604807628, .int .u32 770255983, .int .u32 1249150122, .int .u32 1555081692, .int .u32 1996064986, .int .u32 2554220882, .int .u32 2821834349, .int .u32 2952996808, .int .u32 3210313671, .int .u32 3336571891, .int .u32 3584528711, .int .u32 113926993, .int .u32 338241895, .int .u32 666307205, .int .u32 773529912, .int .u32 1294757372, .int .u32 1396182291, .int .u32 1695183700, .int .u32 1986661051, .int .u32 2177026350, .int .u32 2456956037, .int .u32 2730485921, .int .u32 2820302411, .int .u32 3259730800, .int .u32 3345764771, .int .u32 3516065817, .int .u32 3600352804, .int .u32 4094571909, .int .u32 275423344, .int .u32 430227734, .int .u32 506948616, .int .u32 659060556, .int .u32 883997877, .int .u32 958139571, .int .u32 1322822218, .int .u32 1537002063, .int .u32 1747873779, .int .u32 1955562222, .int .u32 2024104815, .int .u32 2227730452, .int .u32 2361852424, .int .u32 2428436474, .int .u32 2756734187, .int .u32 3204031479, .int .u32 3329325298] t frozen
      | o => o }
end Go.Proofs.YtibkngjacdggpaaDoor
