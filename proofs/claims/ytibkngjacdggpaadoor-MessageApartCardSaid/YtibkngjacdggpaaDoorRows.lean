/-
  NARROWER THAN 'FOR EVERY INPUT', by the rows' own cells (each row's printed sentence says how): MerkleChecks: laid · MerkleTurned: laid · MessageApart: laid · MerkleOver: laid · MerkleHalves: laid · MerkleRoots: laid · MerkleApart: laid · MerkleProofs: laid · MessageEncodes: laid · MessageDecodes: laid · MessageTurned: laid.
  DERIVED. THE GIVEN ROWS OF THIS SEAT. 11 by the template 'for every input the law returns true; each argument reads behind the call as it read before'; 0 by the template 'total and deterministic' (their statements: YtibkngjacdggpaaDoorTotals.lean).
  GIVEN WITH THE SEED: the statements are not yours to turn. If you find one false, say at which input.
  Laid BY PROGRAM, IN A SANDBOX (cutbox-rows.mjs): the forced cells as the released guide's own fill.sh prints them over the translation 46d4b6f2bc3ef947… (all of the seat's roots in one cut). By AI agents, Wed Nov 11 2026. No macro, syntax, notation, axiom, sorry.
-/
import Derived.Test.YtibkngjacdggpaaDoorChecked
import GoSem.Claim
import GoSem.ClaimJoined
import GoSem.ClaimMapViews
import Derived.JoinedTies
import Derived.KernelRfl
namespace Go.Proofs.YtibkngjacdggpaaDoor
/- THE CELL 'sum', in the pinned program and in every row, IS THE sha256 OF THE DUMP (.gsa) THAT YtibkngjacdggpaaDoorProg.lean LOADS. Nothing in Lean hashes anything: it is a label: what it is worth is what the hold of that sum in a sandbox is worth. -/
noncomputable def Tryd.pinned : Pinned := { name := "ytibkngjacdggpaadoor", sum := "46d4b6f2bc3ef9474c8f3bd0044b53e9fc7a9c16a533eb8cd22518ad2dce694a", checked := Tryd.checked }
namespace Rows
def none {H : Type} : Left H := { results := [], args := [] }

/- WHAT THE LISTED PACKAGE-LEVEL VARIABLES READ AS WHEN THE CALL BEGINS. Each datum BY PROGRAM (the guide's laid-datum.mjs) off the statement by which the dump's own 'gosem.cut.vars' lays the variable. In a bare row this is a premise. The card (YtibkngjacdggpaaDoorCards.lean) ties it to the program's text. -/
def laid_redactor_sha_k256 {H : Type} : DataW H := .agg [.lit (.int .u32 1116352408), .lit (.int .u32 1899447441), .lit (.int .u32 3049323471), .lit (.int .u32 3921009573), .lit (.int .u32 961987163), .lit (.int .u32 1508970993), .lit (.int .u32 2453635748), .lit (.int .u32 2870763221), .lit (.int .u32 3624381080), .lit (.int .u32 310598401), .lit (.int .u32 607225278), .lit (.int .u32 1426881987), .lit (.int .u32 1925078388), .lit (.int .u32 2162078206), .lit (.int .u32 2614888103), .lit (.int .u32 3248222580), .lit (.int .u32 3835390401), .lit (.int .u32 4022224774), .lit (.int .u32 264347078), .lit (.int .u32 604807628), .lit (.int .u32 770255983), .lit (.int .u32 1249150122), .lit (.int .u32 1555081692), .lit (.int .u32 1996064986), .lit (.int .u32 2554220882), .lit (.int .u32 2821834349), .lit (.int .u32 2952996808), .lit (.int .u32 3210313671), .lit (.int .u32 3336571891), .lit (.int .u32 3584528711), .lit (.int .u32 113926993), .lit (.int .u32 338241895), .lit (.int .u32 666307205), .lit (.int .u32 773529912), .lit (.int .u32 1294757372), .lit (.int .u32 1396182291), .lit (.int .u32 1695183700), .lit (.int .u32 1986661051), .lit (.int .u32 2177026350), .lit (.int .u32 2456956037), .lit (.int .u32 2730485921), .lit (.int .u32 2820302411), .lit (.int .u32 3259730800), .lit (.int .u32 3345764771), .lit (.int .u32 3516065817), .lit (.int .u32 3600352804), .lit (.int .u32 4094571909), .lit (.int .u32 275423344), .lit (.int .u32 430227734), .lit (.int .u32 506948616), .lit (.int .u32 659060556), .lit (.int .u32 883997877), .lit (.int .u32 958139571), .lit (.int .u32 1322822218), .lit (.int .u32 1537002063), .lit (.int .u32 1747873779), .lit (.int .u32 1955562222), .lit (.int .u32 2024104815), .lit (.int .u32 2227730452), .lit (.int .u32 2361852424), .lit (.int .u32 2428436474), .lit (.int .u32 2756734187), .lit (.int .u32 3204031479), .lit (.int .u32 3329325298)]
def laid_math_bits_deBruijn32tab {H : Type} : DataW H := .agg [.lit (.int .u8 0), .lit (.int .u8 1), .lit (.int .u8 28), .lit (.int .u8 2), .lit (.int .u8 29), .lit (.int .u8 14), .lit (.int .u8 24), .lit (.int .u8 3), .lit (.int .u8 30), .lit (.int .u8 22), .lit (.int .u8 20), .lit (.int .u8 15), .lit (.int .u8 25), .lit (.int .u8 17), .lit (.int .u8 4), .lit (.int .u8 8), .lit (.int .u8 31), .lit (.int .u8 27), .lit (.int .u8 13), .lit (.int .u8 23), .lit (.int .u8 21), .lit (.int .u8 19), .lit (.int .u8 16), .lit (.int .u8 7), .lit (.int .u8 26), .lit (.int .u8 12), .lit (.int .u8 18), .lit (.int .u8 6), .lit (.int .u8 11), .lit (.int .u8 5), .lit (.int .u8 10), .lit (.int .u8 9)]
def laid_math_bits_deBruijn64tab {H : Type} : DataW H := .agg [.lit (.int .u8 0), .lit (.int .u8 1), .lit (.int .u8 56), .lit (.int .u8 2), .lit (.int .u8 57), .lit (.int .u8 49), .lit (.int .u8 28), .lit (.int .u8 3), .lit (.int .u8 61), .lit (.int .u8 58), .lit (.int .u8 42), .lit (.int .u8 50), .lit (.int .u8 38), .lit (.int .u8 29), .lit (.int .u8 17), .lit (.int .u8 4), .lit (.int .u8 62), .lit (.int .u8 47), .lit (.int .u8 59), .lit (.int .u8 36), .lit (.int .u8 45), .lit (.int .u8 43), .lit (.int .u8 51), .lit (.int .u8 22), .lit (.int .u8 53), .lit (.int .u8 39), .lit (.int .u8 33), .lit (.int .u8 30), .lit (.int .u8 24), .lit (.int .u8 18), .lit (.int .u8 12), .lit (.int .u8 5), .lit (.int .u8 63), .lit (.int .u8 55), .lit (.int .u8 48), .lit (.int .u8 27), .lit (.int .u8 60), .lit (.int .u8 41), .lit (.int .u8 37), .lit (.int .u8 16), .lit (.int .u8 46), .lit (.int .u8 35), .lit (.int .u8 44), .lit (.int .u8 21), .lit (.int .u8 52), .lit (.int .u8 32), .lit (.int .u8 23), .lit (.int .u8 11), .lit (.int .u8 54), .lit (.int .u8 26), .lit (.int .u8 40), .lit (.int .u8 15), .lit (.int .u8 34), .lit (.int .u8 20), .lit (.int .u8 31), .lit (.int .u8 10), .lit (.int .u8 25), .lit (.int .u8 14), .lit (.int .u8 19), .lit (.int .u8 9), .lit (.int .u8 13), .lit (.int .u8 8), .lit (.int .u8 7), .lit (.int .u8 6)]

/-- 'redactorlaw02.MerkleChecks': WHATEVER THE INPUT: true; the input reads as it did. -/
def merkleChecksSpec : ChangeSpec := { name := "merkleChecks", fn := fun _ => fun
  | [d1, d2, d3, d4, d5] => { results := [.lit (.bool true)], args := [d1, d2, d3, d4, d5] }
  | _ => none }
def merkleChecksRow : OpenClaim := { program := "ytibkngjacdggpaadoor", sum := "46d4b6f2bc3ef9474c8f3bd0044b53e9fc7a9c16a533eb8cd22518ad2dce694a", func := "redactor/redactorlaw02.MerkleChecks", spec := "merkleChecks", unfollowed := true, recurses := true, named := ["redactor/sha.k256"], apart := false, laid := [("redactor/sha.k256", laid_redactor_sha_k256)] }
def MerkleChecksSaid : Prop := merkleChecksRow.holds Tryd.pinned (OpenSpec.ofChange merkleChecksSpec)

/-- ITS FALSE NEIGHBOUR: 'it returns false'. Refute it at one input. -/
def merkleChecksWrong : ChangeSpec := { name := "merkleChecks", fn := fun _ => fun
  | [d1, d2, d3, d4, d5] => { results := [.lit (.bool false)], args := [d1, d2, d3, d4, d5] }
  | _ => none }
def MerkleChecksWrongFalsely : Prop := merkleChecksRow.holds Tryd.pinned (OpenSpec.ofChange merkleChecksWrong)

/-- 'redactorlaw02.MerkleTurned': WHATEVER THE INPUT: true; the input reads as it did. -/
def merkleTurnedSpec : ChangeSpec := { name := "merkleTurned", fn := fun _ => fun
  | [d1, d2, d3, d4, d5, d6] => { results := [.lit (.bool true)], args := [d1, d2, d3, d4, d5, d6] }
  | _ => none }
def merkleTurnedRow : OpenClaim := { program := "ytibkngjacdggpaadoor", sum := "46d4b6f2bc3ef9474c8f3bd0044b53e9fc7a9c16a533eb8cd22518ad2dce694a", func := "redactor/redactorlaw02.MerkleTurned", spec := "merkleTurned", unfollowed := true, recurses := true, named := ["redactor/sha.k256"], apart := false, laid := [("redactor/sha.k256", laid_redactor_sha_k256)] }
def MerkleTurnedSaid : Prop := merkleTurnedRow.holds Tryd.pinned (OpenSpec.ofChange merkleTurnedSpec)

/-- ITS FALSE NEIGHBOUR: 'it returns false'. Refute it at one input. -/
def merkleTurnedWrong : ChangeSpec := { name := "merkleTurned", fn := fun _ => fun
  | [d1, d2, d3, d4, d5, d6] => { results := [.lit (.bool false)], args := [d1, d2, d3, d4, d5, d6] }
  | _ => none }
def MerkleTurnedWrongFalsely : Prop := merkleTurnedRow.holds Tryd.pinned (OpenSpec.ofChange merkleTurnedWrong)

/-- 'redactorlaw05.MessageApart': WHATEVER THE INPUT: true; the input reads as it did. -/
def messageApartSpec : ChangeSpec := { name := "messageApart", fn := fun _ => fun
  | [d1, d2] => { results := [.lit (.bool true)], args := [d1, d2] }
  | _ => none }
def messageApartRow : OpenClaim := { program := "ytibkngjacdggpaadoor", sum := "46d4b6f2bc3ef9474c8f3bd0044b53e9fc7a9c16a533eb8cd22518ad2dce694a", func := "redactor/redactorlaw05.MessageApart", spec := "messageApart", named := ["redactor/sha.k256"], apart := false, laid := [("redactor/sha.k256", laid_redactor_sha_k256)] }
def MessageApartSaid : Prop := messageApartRow.holds Tryd.pinned (OpenSpec.ofChange messageApartSpec)

/-- ITS FALSE NEIGHBOUR: 'it returns false'. Refute it at one input. -/
def messageApartWrong : ChangeSpec := { name := "messageApart", fn := fun _ => fun
  | [d1, d2] => { results := [.lit (.bool false)], args := [d1, d2] }
  | _ => none }
def MessageApartWrongFalsely : Prop := messageApartRow.holds Tryd.pinned (OpenSpec.ofChange messageApartWrong)

/-- 'redactorlaw02.MerkleOver': WHATEVER THE INPUT: true; the input reads as it did. -/
def merkleOverSpec : ChangeSpec := { name := "merkleOver", fn := fun _ => fun
  | [d] => { results := [.lit (.bool true)], args := [d] }
  | _ => none }
def merkleOverRow : OpenClaim := { program := "ytibkngjacdggpaadoor", sum := "46d4b6f2bc3ef9474c8f3bd0044b53e9fc7a9c16a533eb8cd22518ad2dce694a", func := "redactor/redactorlaw02.MerkleOver", spec := "merkleOver", unfollowed := true, recurses := true, named := ["redactor/sha.k256", "math/bits.deBruijn32tab", "math/bits.deBruijn64tab"], apart := false, laid := [("math/bits.deBruijn32tab", laid_math_bits_deBruijn32tab), ("math/bits.deBruijn64tab", laid_math_bits_deBruijn64tab), ("redactor/sha.k256", laid_redactor_sha_k256)] }
def MerkleOverSaid : Prop := merkleOverRow.holds Tryd.pinned (OpenSpec.ofChange merkleOverSpec)

/-- ITS FALSE NEIGHBOUR: 'it returns false'. Refute it at one input. -/
def merkleOverWrong : ChangeSpec := { name := "merkleOver", fn := fun _ => fun
  | [d] => { results := [.lit (.bool false)], args := [d] }
  | _ => none }
def MerkleOverWrongFalsely : Prop := merkleOverRow.holds Tryd.pinned (OpenSpec.ofChange merkleOverWrong)

/-- 'redactorlaw02.MerkleHalves': WHATEVER THE INPUT: true; the input reads as it did. -/
def merkleHalvesSpec : ChangeSpec := { name := "merkleHalves", fn := fun _ => fun
  | [d] => { results := [.lit (.bool true)], args := [d] }
  | _ => none }
def merkleHalvesRow : OpenClaim := { program := "ytibkngjacdggpaadoor", sum := "46d4b6f2bc3ef9474c8f3bd0044b53e9fc7a9c16a533eb8cd22518ad2dce694a", func := "redactor/redactorlaw02.MerkleHalves", spec := "merkleHalves", unfollowed := true, recurses := true, named := ["redactor/sha.k256", "math/bits.deBruijn32tab", "math/bits.deBruijn64tab"], apart := false, laid := [("math/bits.deBruijn32tab", laid_math_bits_deBruijn32tab), ("math/bits.deBruijn64tab", laid_math_bits_deBruijn64tab), ("redactor/sha.k256", laid_redactor_sha_k256)] }
def MerkleHalvesSaid : Prop := merkleHalvesRow.holds Tryd.pinned (OpenSpec.ofChange merkleHalvesSpec)

/-- ITS FALSE NEIGHBOUR: 'it returns false'. Refute it at one input. -/
def merkleHalvesWrong : ChangeSpec := { name := "merkleHalves", fn := fun _ => fun
  | [d] => { results := [.lit (.bool false)], args := [d] }
  | _ => none }
def MerkleHalvesWrongFalsely : Prop := merkleHalvesRow.holds Tryd.pinned (OpenSpec.ofChange merkleHalvesWrong)

/-- 'redactorlaw02.MerkleRoots': WHATEVER THE INPUT: true; the input reads as it did. -/
def merkleRootsSpec : ChangeSpec := { name := "merkleRoots", fn := fun _ => fun
  | [d] => { results := [.lit (.bool true)], args := [d] }
  | _ => none }
def merkleRootsRow : OpenClaim := { program := "ytibkngjacdggpaadoor", sum := "46d4b6f2bc3ef9474c8f3bd0044b53e9fc7a9c16a533eb8cd22518ad2dce694a", func := "redactor/redactorlaw02.MerkleRoots", spec := "merkleRoots", unfollowed := true, recurses := true, named := ["redactor/sha.k256", "math/bits.deBruijn32tab", "math/bits.deBruijn64tab"], apart := false, laid := [("math/bits.deBruijn32tab", laid_math_bits_deBruijn32tab), ("math/bits.deBruijn64tab", laid_math_bits_deBruijn64tab), ("redactor/sha.k256", laid_redactor_sha_k256)] }
def MerkleRootsSaid : Prop := merkleRootsRow.holds Tryd.pinned (OpenSpec.ofChange merkleRootsSpec)

/-- ITS FALSE NEIGHBOUR: 'it returns false'. Refute it at one input. -/
def merkleRootsWrong : ChangeSpec := { name := "merkleRoots", fn := fun _ => fun
  | [d] => { results := [.lit (.bool false)], args := [d] }
  | _ => none }
def MerkleRootsWrongFalsely : Prop := merkleRootsRow.holds Tryd.pinned (OpenSpec.ofChange merkleRootsWrong)

/-- 'redactorlaw02.MerkleApart': WHATEVER THE INPUT: true; the input reads as it did. -/
def merkleApartSpec : ChangeSpec := { name := "merkleApart", fn := fun _ => fun
  | [d1, d2, d3, d4] => { results := [.lit (.bool true)], args := [d1, d2, d3, d4] }
  | _ => none }
def merkleApartRow : OpenClaim := { program := "ytibkngjacdggpaadoor", sum := "46d4b6f2bc3ef9474c8f3bd0044b53e9fc7a9c16a533eb8cd22518ad2dce694a", func := "redactor/redactorlaw02.MerkleApart", spec := "merkleApart", unfollowed := true, recurses := true, named := ["redactor/sha.k256", "math/bits.deBruijn32tab", "math/bits.deBruijn64tab"], apart := false, laid := [("math/bits.deBruijn32tab", laid_math_bits_deBruijn32tab), ("math/bits.deBruijn64tab", laid_math_bits_deBruijn64tab), ("redactor/sha.k256", laid_redactor_sha_k256)] }
def MerkleApartSaid : Prop := merkleApartRow.holds Tryd.pinned (OpenSpec.ofChange merkleApartSpec)

/-- ITS FALSE NEIGHBOUR: 'it returns false'. Refute it at one input. -/
def merkleApartWrong : ChangeSpec := { name := "merkleApart", fn := fun _ => fun
  | [d1, d2, d3, d4] => { results := [.lit (.bool false)], args := [d1, d2, d3, d4] }
  | _ => none }
def MerkleApartWrongFalsely : Prop := merkleApartRow.holds Tryd.pinned (OpenSpec.ofChange merkleApartWrong)

/-- 'redactorlaw02.MerkleProofs': WHATEVER THE INPUT: true; the input reads as it did. -/
def merkleProofsSpec : ChangeSpec := { name := "merkleProofs", fn := fun _ => fun
  | [d1, d2] => { results := [.lit (.bool true)], args := [d1, d2] }
  | _ => none }
def merkleProofsRow : OpenClaim := { program := "ytibkngjacdggpaadoor", sum := "46d4b6f2bc3ef9474c8f3bd0044b53e9fc7a9c16a533eb8cd22518ad2dce694a", func := "redactor/redactorlaw02.MerkleProofs", spec := "merkleProofs", unfollowed := true, recurses := true, named := ["redactor/sha.k256", "math/bits.deBruijn32tab", "math/bits.deBruijn64tab"], apart := false, laid := [("math/bits.deBruijn32tab", laid_math_bits_deBruijn32tab), ("math/bits.deBruijn64tab", laid_math_bits_deBruijn64tab), ("redactor/sha.k256", laid_redactor_sha_k256)] }
def MerkleProofsSaid : Prop := merkleProofsRow.holds Tryd.pinned (OpenSpec.ofChange merkleProofsSpec)

/-- ITS FALSE NEIGHBOUR: 'it returns false'. Refute it at one input. -/
def merkleProofsWrong : ChangeSpec := { name := "merkleProofs", fn := fun _ => fun
  | [d1, d2] => { results := [.lit (.bool false)], args := [d1, d2] }
  | _ => none }
def MerkleProofsWrongFalsely : Prop := merkleProofsRow.holds Tryd.pinned (OpenSpec.ofChange merkleProofsWrong)

/-- 'redactorlaw05.MessageEncodes': WHATEVER THE INPUT: true; the input reads as it did. -/
def messageEncodesSpec : ChangeSpec := { name := "messageEncodes", fn := fun _ => fun
  | [d] => { results := [.lit (.bool true)], args := [d] }
  | _ => none }
def messageEncodesRow : OpenClaim := { program := "ytibkngjacdggpaadoor", sum := "46d4b6f2bc3ef9474c8f3bd0044b53e9fc7a9c16a533eb8cd22518ad2dce694a", func := "redactor/redactorlaw05.MessageEncodes", spec := "messageEncodes", named := ["redactor/sha.k256"], apart := false, laid := [("redactor/sha.k256", laid_redactor_sha_k256)] }
def MessageEncodesSaid : Prop := messageEncodesRow.holds Tryd.pinned (OpenSpec.ofChange messageEncodesSpec)

/-- ITS FALSE NEIGHBOUR: 'it returns false'. Refute it at one input. -/
def messageEncodesWrong : ChangeSpec := { name := "messageEncodes", fn := fun _ => fun
  | [d] => { results := [.lit (.bool false)], args := [d] }
  | _ => none }
def MessageEncodesWrongFalsely : Prop := messageEncodesRow.holds Tryd.pinned (OpenSpec.ofChange messageEncodesWrong)

/-- 'redactorlaw05.MessageDecodes': WHATEVER THE INPUT: true; the input reads as it did. -/
def messageDecodesSpec : ChangeSpec := { name := "messageDecodes", fn := fun _ => fun
  | [d] => { results := [.lit (.bool true)], args := [d] }
  | _ => none }
def messageDecodesRow : OpenClaim := { program := "ytibkngjacdggpaadoor", sum := "46d4b6f2bc3ef9474c8f3bd0044b53e9fc7a9c16a533eb8cd22518ad2dce694a", func := "redactor/redactorlaw05.MessageDecodes", spec := "messageDecodes", named := ["redactor/sha.k256"], apart := false, laid := [("redactor/sha.k256", laid_redactor_sha_k256)] }
def MessageDecodesSaid : Prop := messageDecodesRow.holds Tryd.pinned (OpenSpec.ofChange messageDecodesSpec)

/-- ITS FALSE NEIGHBOUR: 'it returns false'. Refute it at one input. -/
def messageDecodesWrong : ChangeSpec := { name := "messageDecodes", fn := fun _ => fun
  | [d] => { results := [.lit (.bool false)], args := [d] }
  | _ => none }
def MessageDecodesWrongFalsely : Prop := messageDecodesRow.holds Tryd.pinned (OpenSpec.ofChange messageDecodesWrong)

/-- 'redactorlaw05.MessageTurned': WHATEVER THE INPUT: true; the input reads as it did. -/
def messageTurnedSpec : ChangeSpec := { name := "messageTurned", fn := fun _ => fun
  | [d1, d2, d3, d4] => { results := [.lit (.bool true)], args := [d1, d2, d3, d4] }
  | _ => none }
def messageTurnedRow : OpenClaim := { program := "ytibkngjacdggpaadoor", sum := "46d4b6f2bc3ef9474c8f3bd0044b53e9fc7a9c16a533eb8cd22518ad2dce694a", func := "redactor/redactorlaw05.MessageTurned", spec := "messageTurned", named := ["redactor/sha.k256"], apart := false, laid := [("redactor/sha.k256", laid_redactor_sha_k256)] }
def MessageTurnedSaid : Prop := messageTurnedRow.holds Tryd.pinned (OpenSpec.ofChange messageTurnedSpec)

/-- ITS FALSE NEIGHBOUR: 'it returns false'. Refute it at one input. -/
def messageTurnedWrong : ChangeSpec := { name := "messageTurned", fn := fun _ => fun
  | [d1, d2, d3, d4] => { results := [.lit (.bool false)], args := [d1, d2, d3, d4] }
  | _ => none }
def MessageTurnedWrongFalsely : Prop := messageTurnedRow.holds Tryd.pinned (OpenSpec.ofChange messageTurnedWrong)

/- THE SECOND FORM. 'bulk': how many values and letters a reading holds, each counted each time it is reached (what is shared counts as often as it is met; a slice's spare places count too). A statement '..UptoSaid' is the law's where the arguments, and the package variables that the reading takes, are together of bulk at most 1048576: NARROWER than '..Said'. Prove '..Said' where nothing that the law and all that it calls make is longer than what came in: it says more and counts as full. Else prove '..UptoSaid'. A law counts once. -/
mutual
def uptoBulk {H : Type} : DataW H → Nat
  | .lit (.string bytes) => bytes.length + 1
  | .lit _ => 1
  | .nil => 1
  | .ptr d => uptoBulk d + 1
  | .slice elems spare => uptoBulkAll elems + uptoBulkAll spare + 1
  | .agg parts => uptoBulkAll parts + 1
  | .iface _ d => uptoBulk d + 1
  | .map entries => uptoBulkEntries entries + 1
  | .held _ => 1
def uptoBulkAll {H : Type} : List (DataW H) → Nat
  | [] => 0
  | d :: r => uptoBulk d + uptoBulkAll r
def uptoBulkEntries {H : Type} : List (Lit × DataW H) → Nat
  | [] => 0
  | x :: r => uptoBulkEntry x + uptoBulkEntries r
def uptoBulkEntry {H : Type} : Lit × DataW H → Nat
  | (.string bytes, d) => bytes.length + uptoBulk d + 1
  | (_, d) => uptoBulk d + 1
 end
def uptoSmall : (H : Type) → List (DataW H) → Bool := fun _ ds => decide (uptoBulkAll ds ≤ 1048576)
def OpenSpec.upto (s : _root_.Go.ChangeSpec) : _root_.Go.OpenSpec := { _root_.Go.OpenSpec.ofChange s with cond := some uptoSmall }

/-- 'redactorlaw02.MerkleChecks', WHERE WHAT IT READS IS OF BULK AT MOST 1048576: true; the input reads as it did. -/
def merkleChecksUptoRow : OpenClaim := { program := "ytibkngjacdggpaadoor", sum := "46d4b6f2bc3ef9474c8f3bd0044b53e9fc7a9c16a533eb8cd22518ad2dce694a", func := "redactor/redactorlaw02.MerkleChecks", spec := "merkleChecks", unfollowed := true, recurses := true, named := ["redactor/sha.k256"], apart := false, laid := [("redactor/sha.k256", laid_redactor_sha_k256)], narrowed := true }
def MerkleChecksUptoSaid : Prop := merkleChecksUptoRow.holds Tryd.pinned (OpenSpec.upto merkleChecksSpec)

/-- 'redactorlaw02.MerkleTurned', WHERE WHAT IT READS IS OF BULK AT MOST 1048576: true; the input reads as it did. -/
def merkleTurnedUptoRow : OpenClaim := { program := "ytibkngjacdggpaadoor", sum := "46d4b6f2bc3ef9474c8f3bd0044b53e9fc7a9c16a533eb8cd22518ad2dce694a", func := "redactor/redactorlaw02.MerkleTurned", spec := "merkleTurned", unfollowed := true, recurses := true, named := ["redactor/sha.k256"], apart := false, laid := [("redactor/sha.k256", laid_redactor_sha_k256)], narrowed := true }
def MerkleTurnedUptoSaid : Prop := merkleTurnedUptoRow.holds Tryd.pinned (OpenSpec.upto merkleTurnedSpec)

/-- 'redactorlaw05.MessageApart', WHERE WHAT IT READS IS OF BULK AT MOST 1048576: true; the input reads as it did. -/
def messageApartUptoRow : OpenClaim := { program := "ytibkngjacdggpaadoor", sum := "46d4b6f2bc3ef9474c8f3bd0044b53e9fc7a9c16a533eb8cd22518ad2dce694a", func := "redactor/redactorlaw05.MessageApart", spec := "messageApart", named := ["redactor/sha.k256"], apart := false, laid := [("redactor/sha.k256", laid_redactor_sha_k256)], narrowed := true }
def MessageApartUptoSaid : Prop := messageApartUptoRow.holds Tryd.pinned (OpenSpec.upto messageApartSpec)

/-- 'redactorlaw02.MerkleOver', WHERE WHAT IT READS IS OF BULK AT MOST 1048576: true; the input reads as it did. -/
def merkleOverUptoRow : OpenClaim := { program := "ytibkngjacdggpaadoor", sum := "46d4b6f2bc3ef9474c8f3bd0044b53e9fc7a9c16a533eb8cd22518ad2dce694a", func := "redactor/redactorlaw02.MerkleOver", spec := "merkleOver", unfollowed := true, recurses := true, named := ["redactor/sha.k256", "math/bits.deBruijn32tab", "math/bits.deBruijn64tab"], apart := false, laid := [("math/bits.deBruijn32tab", laid_math_bits_deBruijn32tab), ("math/bits.deBruijn64tab", laid_math_bits_deBruijn64tab), ("redactor/sha.k256", laid_redactor_sha_k256)], narrowed := true }
def MerkleOverUptoSaid : Prop := merkleOverUptoRow.holds Tryd.pinned (OpenSpec.upto merkleOverSpec)

/-- 'redactorlaw02.MerkleHalves', WHERE WHAT IT READS IS OF BULK AT MOST 1048576: true; the input reads as it did. -/
def merkleHalvesUptoRow : OpenClaim := { program := "ytibkngjacdggpaadoor", sum := "46d4b6f2bc3ef9474c8f3bd0044b53e9fc7a9c16a533eb8cd22518ad2dce694a", func := "redactor/redactorlaw02.MerkleHalves", spec := "merkleHalves", unfollowed := true, recurses := true, named := ["redactor/sha.k256", "math/bits.deBruijn32tab", "math/bits.deBruijn64tab"], apart := false, laid := [("math/bits.deBruijn32tab", laid_math_bits_deBruijn32tab), ("math/bits.deBruijn64tab", laid_math_bits_deBruijn64tab), ("redactor/sha.k256", laid_redactor_sha_k256)], narrowed := true }
def MerkleHalvesUptoSaid : Prop := merkleHalvesUptoRow.holds Tryd.pinned (OpenSpec.upto merkleHalvesSpec)

/-- 'redactorlaw02.MerkleRoots', WHERE WHAT IT READS IS OF BULK AT MOST 1048576: true; the input reads as it did. -/
def merkleRootsUptoRow : OpenClaim := { program := "ytibkngjacdggpaadoor", sum := "46d4b6f2bc3ef9474c8f3bd0044b53e9fc7a9c16a533eb8cd22518ad2dce694a", func := "redactor/redactorlaw02.MerkleRoots", spec := "merkleRoots", unfollowed := true, recurses := true, named := ["redactor/sha.k256", "math/bits.deBruijn32tab", "math/bits.deBruijn64tab"], apart := false, laid := [("math/bits.deBruijn32tab", laid_math_bits_deBruijn32tab), ("math/bits.deBruijn64tab", laid_math_bits_deBruijn64tab), ("redactor/sha.k256", laid_redactor_sha_k256)], narrowed := true }
def MerkleRootsUptoSaid : Prop := merkleRootsUptoRow.holds Tryd.pinned (OpenSpec.upto merkleRootsSpec)

/-- 'redactorlaw02.MerkleApart', WHERE WHAT IT READS IS OF BULK AT MOST 1048576: true; the input reads as it did. -/
def merkleApartUptoRow : OpenClaim := { program := "ytibkngjacdggpaadoor", sum := "46d4b6f2bc3ef9474c8f3bd0044b53e9fc7a9c16a533eb8cd22518ad2dce694a", func := "redactor/redactorlaw02.MerkleApart", spec := "merkleApart", unfollowed := true, recurses := true, named := ["redactor/sha.k256", "math/bits.deBruijn32tab", "math/bits.deBruijn64tab"], apart := false, laid := [("math/bits.deBruijn32tab", laid_math_bits_deBruijn32tab), ("math/bits.deBruijn64tab", laid_math_bits_deBruijn64tab), ("redactor/sha.k256", laid_redactor_sha_k256)], narrowed := true }
def MerkleApartUptoSaid : Prop := merkleApartUptoRow.holds Tryd.pinned (OpenSpec.upto merkleApartSpec)

/-- 'redactorlaw02.MerkleProofs', WHERE WHAT IT READS IS OF BULK AT MOST 1048576: true; the input reads as it did. -/
def merkleProofsUptoRow : OpenClaim := { program := "ytibkngjacdggpaadoor", sum := "46d4b6f2bc3ef9474c8f3bd0044b53e9fc7a9c16a533eb8cd22518ad2dce694a", func := "redactor/redactorlaw02.MerkleProofs", spec := "merkleProofs", unfollowed := true, recurses := true, named := ["redactor/sha.k256", "math/bits.deBruijn32tab", "math/bits.deBruijn64tab"], apart := false, laid := [("math/bits.deBruijn32tab", laid_math_bits_deBruijn32tab), ("math/bits.deBruijn64tab", laid_math_bits_deBruijn64tab), ("redactor/sha.k256", laid_redactor_sha_k256)], narrowed := true }
def MerkleProofsUptoSaid : Prop := merkleProofsUptoRow.holds Tryd.pinned (OpenSpec.upto merkleProofsSpec)

/-- 'redactorlaw05.MessageEncodes', WHERE WHAT IT READS IS OF BULK AT MOST 1048576: true; the input reads as it did. -/
def messageEncodesUptoRow : OpenClaim := { program := "ytibkngjacdggpaadoor", sum := "46d4b6f2bc3ef9474c8f3bd0044b53e9fc7a9c16a533eb8cd22518ad2dce694a", func := "redactor/redactorlaw05.MessageEncodes", spec := "messageEncodes", named := ["redactor/sha.k256"], apart := false, laid := [("redactor/sha.k256", laid_redactor_sha_k256)], narrowed := true }
def MessageEncodesUptoSaid : Prop := messageEncodesUptoRow.holds Tryd.pinned (OpenSpec.upto messageEncodesSpec)

/-- 'redactorlaw05.MessageDecodes', WHERE WHAT IT READS IS OF BULK AT MOST 1048576: true; the input reads as it did. -/
def messageDecodesUptoRow : OpenClaim := { program := "ytibkngjacdggpaadoor", sum := "46d4b6f2bc3ef9474c8f3bd0044b53e9fc7a9c16a533eb8cd22518ad2dce694a", func := "redactor/redactorlaw05.MessageDecodes", spec := "messageDecodes", named := ["redactor/sha.k256"], apart := false, laid := [("redactor/sha.k256", laid_redactor_sha_k256)], narrowed := true }
def MessageDecodesUptoSaid : Prop := messageDecodesUptoRow.holds Tryd.pinned (OpenSpec.upto messageDecodesSpec)

/-- 'redactorlaw05.MessageTurned', WHERE WHAT IT READS IS OF BULK AT MOST 1048576: true; the input reads as it did. -/
def messageTurnedUptoRow : OpenClaim := { program := "ytibkngjacdggpaadoor", sum := "46d4b6f2bc3ef9474c8f3bd0044b53e9fc7a9c16a533eb8cd22518ad2dce694a", func := "redactor/redactorlaw05.MessageTurned", spec := "messageTurned", named := ["redactor/sha.k256"], apart := false, laid := [("redactor/sha.k256", laid_redactor_sha_k256)], narrowed := true }
def MessageTurnedUptoSaid : Prop := messageTurnedUptoRow.holds Tryd.pinned (OpenSpec.upto messageTurnedSpec)

end Rows
end Go.Proofs.YtibkngjacdggpaaDoor
