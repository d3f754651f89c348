/-
  NARROWER THAN 'FOR EVERY INPUT', by the rows' own cells (each row's printed sentence says how): FrameEncodes: laid · FrameDecodes: laid · FrameBack: laid · FrameTurned: laid · StreamFeeds: laid · StreamFrames: laid · StreamJunk: laid · StreamNil: laid · StreamCut: laid.
  DERIVED. THE GIVEN ROWS OF THIS SEAT. 9 by the template 'for every input the law returns true; each argument reads behind the call as it read before'; 0 by the template 'total and deterministic' (their statements: YtmaiokjcgijdcaaDoorTotals.lean).
  GIVEN WITH THE SEED: the statements are not yours to turn. If you find one false, say at which input.
  Laid BY PROGRAM, IN A SANDBOX (cutbox-rows.mjs): the forced cells as the released guide's own fill.sh prints them over the translation f0dc86a9b8d5104e… (all of the seat's roots in one cut). By AI agents, Wed Nov 11 2026. No macro, syntax, notation, axiom, sorry.
-/
import Derived.Test.YtmaiokjcgijdcaaDoorChecked
import GoSem.Claim
import GoSem.ClaimJoined
import GoSem.ClaimMapViews
import Derived.JoinedTies
import Derived.KernelRfl
namespace Go.Proofs.YtmaiokjcgijdcaaDoor
/- THE CELL 'sum', in the pinned program and in every row, IS THE sha256 OF THE DUMP (.gsa) THAT YtmaiokjcgijdcaaDoorProg.lean LOADS. Nothing in Lean hashes anything: it is a label: what it is worth is what the hold of that sum in a sandbox is worth. -/
noncomputable def Tryd.pinned : Pinned := { name := "ytmaiokjcgijdcaadoor", sum := "f0dc86a9b8d5104ed35b19ca54f54c392f825e97a8ffe76a47bf3214f7194ac2", checked := Tryd.checked }
namespace Rows
def none {H : Type} : Left H := { results := [], args := [] }

/- WHAT THE LISTED PACKAGE-LEVEL VARIABLES READ AS WHEN THE CALL BEGINS. Each datum BY PROGRAM (the guide's laid-datum.mjs) off the statement by which the dump's own 'gosem.cut.vars' lays the variable. In a bare row this is a premise. The card (YtmaiokjcgijdcaaDoorCards.lean) ties it to the program's text. -/
def laid_redactor_sha_k256 {H : Type} : DataW H := .agg [.lit (.int .u32 1116352408), .lit (.int .u32 1899447441), .lit (.int .u32 3049323471), .lit (.int .u32 3921009573), .lit (.int .u32 961987163), .lit (.int .u32 1508970993), .lit (.int .u32 2453635748), .lit (.int .u32 2870763221), .lit (.int .u32 3624381080), .lit (.int .u32 310598401), .lit (.int .u32 607225278), .lit (.int .u32 1426881987), .lit (.int .u32 1925078388), .lit (.int .u32 2162078206), .lit (.int .u32 2614888103), .lit (.int .u32 3248222580), .lit (.int .u32 3835390401), .lit (.int .u32 4022224774), .lit (.int .u32 264347078), .lit (.int .u32 604807628), .lit (.int .u32 770255983), .lit (.int .u32 1249150122), .lit (.int .u32 1555081692), .lit (.int .u32 1996064986), .lit (.int .u32 2554220882), .lit (.int .u32 2821834349), .lit (.int .u32 2952996808), .lit (.int .u32 3210313671), .lit (.int .u32 3336571891), .lit (.int .u32 3584528711), .lit (.int .u32 113926993), .lit (.int .u32 338241895), .lit (.int .u32 666307205), .lit (.int .u32 773529912), .lit (.int .u32 1294757372), .lit (.int .u32 1396182291), .lit (.int .u32 1695183700), .lit (.int .u32 1986661051), .lit (.int .u32 2177026350), .lit (.int .u32 2456956037), .lit (.int .u32 2730485921), .lit (.int .u32 2820302411), .lit (.int .u32 3259730800), .lit (.int .u32 3345764771), .lit (.int .u32 3516065817), .lit (.int .u32 3600352804), .lit (.int .u32 4094571909), .lit (.int .u32 275423344), .lit (.int .u32 430227734), .lit (.int .u32 506948616), .lit (.int .u32 659060556), .lit (.int .u32 883997877), .lit (.int .u32 958139571), .lit (.int .u32 1322822218), .lit (.int .u32 1537002063), .lit (.int .u32 1747873779), .lit (.int .u32 1955562222), .lit (.int .u32 2024104815), .lit (.int .u32 2227730452), .lit (.int .u32 2361852424), .lit (.int .u32 2428436474), .lit (.int .u32 2756734187), .lit (.int .u32 3204031479), .lit (.int .u32 3329325298)]

/-- 'redactorlaw04.FrameEncodes': WHATEVER THE INPUT: true; the input reads as it did. -/
def frameEncodesSpec : ChangeSpec := { name := "frameEncodes", fn := fun _ => fun
  | [d1, d2] => { results := [.lit (.bool true)], args := [d1, d2] }
  | _ => none }
def frameEncodesRow : OpenClaim := { program := "ytmaiokjcgijdcaadoor", sum := "f0dc86a9b8d5104ed35b19ca54f54c392f825e97a8ffe76a47bf3214f7194ac2", func := "redactor/redactorlaw04.FrameEncodes", spec := "frameEncodes", named := ["redactor/sha.k256"], apart := false, laid := [("redactor/sha.k256", laid_redactor_sha_k256)] }
def FrameEncodesSaid : Prop := frameEncodesRow.holds Tryd.pinned (OpenSpec.ofChange frameEncodesSpec)

/-- ITS FALSE NEIGHBOUR: 'it returns false'. Refute it at one input. -/
def frameEncodesWrong : ChangeSpec := { name := "frameEncodes", fn := fun _ => fun
  | [d1, d2] => { results := [.lit (.bool false)], args := [d1, d2] }
  | _ => none }
def FrameEncodesWrongFalsely : Prop := frameEncodesRow.holds Tryd.pinned (OpenSpec.ofChange frameEncodesWrong)

/-- 'redactorlaw04.FrameDecodes': WHATEVER THE INPUT: true; the input reads as it did. -/
def frameDecodesSpec : ChangeSpec := { name := "frameDecodes", fn := fun _ => fun
  | [d] => { results := [.lit (.bool true)], args := [d] }
  | _ => none }
def frameDecodesRow : OpenClaim := { program := "ytmaiokjcgijdcaadoor", sum := "f0dc86a9b8d5104ed35b19ca54f54c392f825e97a8ffe76a47bf3214f7194ac2", func := "redactor/redactorlaw04.FrameDecodes", spec := "frameDecodes", named := ["redactor/sha.k256"], apart := false, laid := [("redactor/sha.k256", laid_redactor_sha_k256)] }
def FrameDecodesSaid : Prop := frameDecodesRow.holds Tryd.pinned (OpenSpec.ofChange frameDecodesSpec)

/-- ITS FALSE NEIGHBOUR: 'it returns false'. Refute it at one input. -/
def frameDecodesWrong : ChangeSpec := { name := "frameDecodes", fn := fun _ => fun
  | [d] => { results := [.lit (.bool false)], args := [d] }
  | _ => none }
def FrameDecodesWrongFalsely : Prop := frameDecodesRow.holds Tryd.pinned (OpenSpec.ofChange frameDecodesWrong)

/-- 'redactorlaw04.FrameBack': WHATEVER THE INPUT: true; the input reads as it did. -/
def frameBackSpec : ChangeSpec := { name := "frameBack", fn := fun _ => fun
  | [d1, d2, d3, d4] => { results := [.lit (.bool true)], args := [d1, d2, d3, d4] }
  | _ => none }
def frameBackRow : OpenClaim := { program := "ytmaiokjcgijdcaadoor", sum := "f0dc86a9b8d5104ed35b19ca54f54c392f825e97a8ffe76a47bf3214f7194ac2", func := "redactor/redactorlaw04.FrameBack", spec := "frameBack", named := ["redactor/sha.k256"], apart := false, laid := [("redactor/sha.k256", laid_redactor_sha_k256)] }
def FrameBackSaid : Prop := frameBackRow.holds Tryd.pinned (OpenSpec.ofChange frameBackSpec)

/-- ITS FALSE NEIGHBOUR: 'it returns false'. Refute it at one input. -/
def frameBackWrong : ChangeSpec := { name := "frameBack", fn := fun _ => fun
  | [d1, d2, d3, d4] => { results := [.lit (.bool false)], args := [d1, d2, d3, d4] }
  | _ => none }
def FrameBackWrongFalsely : Prop := frameBackRow.holds Tryd.pinned (OpenSpec.ofChange frameBackWrong)

/-- 'redactorlaw04.FrameTurned': WHATEVER THE INPUT: true; the input reads as it did. -/
def frameTurnedSpec : ChangeSpec := { name := "frameTurned", fn := fun _ => fun
  | [d1, d2, d3, d4] => { results := [.lit (.bool true)], args := [d1, d2, d3, d4] }
  | _ => none }
def frameTurnedRow : OpenClaim := { program := "ytmaiokjcgijdcaadoor", sum := "f0dc86a9b8d5104ed35b19ca54f54c392f825e97a8ffe76a47bf3214f7194ac2", func := "redactor/redactorlaw04.FrameTurned", spec := "frameTurned", named := ["redactor/sha.k256"], apart := false, laid := [("redactor/sha.k256", laid_redactor_sha_k256)] }
def FrameTurnedSaid : Prop := frameTurnedRow.holds Tryd.pinned (OpenSpec.ofChange frameTurnedSpec)

/-- ITS FALSE NEIGHBOUR: 'it returns false'. Refute it at one input. -/
def frameTurnedWrong : ChangeSpec := { name := "frameTurned", fn := fun _ => fun
  | [d1, d2, d3, d4] => { results := [.lit (.bool false)], args := [d1, d2, d3, d4] }
  | _ => none }
def FrameTurnedWrongFalsely : Prop := frameTurnedRow.holds Tryd.pinned (OpenSpec.ofChange frameTurnedWrong)

/-- 'redactorlaw06.StreamFeeds': WHATEVER THE INPUT: true; the input reads as it did. -/
def streamFeedsSpec : ChangeSpec := { name := "streamFeeds", fn := fun _ => fun
  | [d] => { results := [.lit (.bool true)], args := [d] }
  | _ => none }
def streamFeedsRow : OpenClaim := { program := "ytmaiokjcgijdcaadoor", sum := "f0dc86a9b8d5104ed35b19ca54f54c392f825e97a8ffe76a47bf3214f7194ac2", func := "redactor/redactorlaw06.StreamFeeds", spec := "streamFeeds", named := ["redactor/sha.k256"], apart := false, laid := [("redactor/sha.k256", laid_redactor_sha_k256)] }
def StreamFeedsSaid : Prop := streamFeedsRow.holds Tryd.pinned (OpenSpec.ofChange streamFeedsSpec)

/-- ITS FALSE NEIGHBOUR: 'it returns false'. Refute it at one input. -/
def streamFeedsWrong : ChangeSpec := { name := "streamFeeds", fn := fun _ => fun
  | [d] => { results := [.lit (.bool false)], args := [d] }
  | _ => none }
def StreamFeedsWrongFalsely : Prop := streamFeedsRow.holds Tryd.pinned (OpenSpec.ofChange streamFeedsWrong)

/-- 'redactorlaw06.StreamFrames': WHATEVER THE INPUT: true; the input reads as it did. -/
def streamFramesSpec : ChangeSpec := { name := "streamFrames", fn := fun _ => fun
  | [d1, d2] => { results := [.lit (.bool true)], args := [d1, d2] }
  | _ => none }
def streamFramesRow : OpenClaim := { program := "ytmaiokjcgijdcaadoor", sum := "f0dc86a9b8d5104ed35b19ca54f54c392f825e97a8ffe76a47bf3214f7194ac2", func := "redactor/redactorlaw06.StreamFrames", spec := "streamFrames", named := ["redactor/sha.k256"], apart := false, laid := [("redactor/sha.k256", laid_redactor_sha_k256)] }
def StreamFramesSaid : Prop := streamFramesRow.holds Tryd.pinned (OpenSpec.ofChange streamFramesSpec)

/-- ITS FALSE NEIGHBOUR: 'it returns false'. Refute it at one input. -/
def streamFramesWrong : ChangeSpec := { name := "streamFrames", fn := fun _ => fun
  | [d1, d2] => { results := [.lit (.bool false)], args := [d1, d2] }
  | _ => none }
def StreamFramesWrongFalsely : Prop := streamFramesRow.holds Tryd.pinned (OpenSpec.ofChange streamFramesWrong)

/-- 'redactorlaw06.StreamJunk': WHATEVER THE INPUT: true; the input reads as it did. -/
def streamJunkSpec : ChangeSpec := { name := "streamJunk", fn := fun _ => fun
  | [d] => { results := [.lit (.bool true)], args := [d] }
  | _ => none }
def streamJunkRow : OpenClaim := { program := "ytmaiokjcgijdcaadoor", sum := "f0dc86a9b8d5104ed35b19ca54f54c392f825e97a8ffe76a47bf3214f7194ac2", func := "redactor/redactorlaw06.StreamJunk", spec := "streamJunk", named := ["redactor/sha.k256"], apart := false, laid := [("redactor/sha.k256", laid_redactor_sha_k256)] }
def StreamJunkSaid : Prop := streamJunkRow.holds Tryd.pinned (OpenSpec.ofChange streamJunkSpec)

/-- ITS FALSE NEIGHBOUR: 'it returns false'. Refute it at one input. -/
def streamJunkWrong : ChangeSpec := { name := "streamJunk", fn := fun _ => fun
  | [d] => { results := [.lit (.bool false)], args := [d] }
  | _ => none }
def StreamJunkWrongFalsely : Prop := streamJunkRow.holds Tryd.pinned (OpenSpec.ofChange streamJunkWrong)

/-- 'redactorlaw06.StreamNil': WHATEVER THE INPUT: true; the input reads as it did. -/
def streamNilSpec : ChangeSpec := { name := "streamNil", fn := fun _ => fun
  | [d] => { results := [.lit (.bool true)], args := [d] }
  | _ => none }
def streamNilRow : OpenClaim := { program := "ytmaiokjcgijdcaadoor", sum := "f0dc86a9b8d5104ed35b19ca54f54c392f825e97a8ffe76a47bf3214f7194ac2", func := "redactor/redactorlaw06.StreamNil", spec := "streamNil", named := ["redactor/sha.k256"], apart := false, laid := [("redactor/sha.k256", laid_redactor_sha_k256)] }
def StreamNilSaid : Prop := streamNilRow.holds Tryd.pinned (OpenSpec.ofChange streamNilSpec)

/-- ITS FALSE NEIGHBOUR: 'it returns false'. Refute it at one input. -/
def streamNilWrong : ChangeSpec := { name := "streamNil", fn := fun _ => fun
  | [d] => { results := [.lit (.bool false)], args := [d] }
  | _ => none }
def StreamNilWrongFalsely : Prop := streamNilRow.holds Tryd.pinned (OpenSpec.ofChange streamNilWrong)

/-- 'redactorlaw06.StreamCut': WHATEVER THE INPUT: true; the input reads as it did. -/
def streamCutSpec : ChangeSpec := { name := "streamCut", fn := fun _ => fun
  | [d1, d2, d3] => { results := [.lit (.bool true)], args := [d1, d2, d3] }
  | _ => none }
def streamCutRow : OpenClaim := { program := "ytmaiokjcgijdcaadoor", sum := "f0dc86a9b8d5104ed35b19ca54f54c392f825e97a8ffe76a47bf3214f7194ac2", func := "redactor/redactorlaw06.StreamCut", spec := "streamCut", named := ["redactor/sha.k256"], apart := false, laid := [("redactor/sha.k256", laid_redactor_sha_k256)] }
def StreamCutSaid : Prop := streamCutRow.holds Tryd.pinned (OpenSpec.ofChange streamCutSpec)

/-- ITS FALSE NEIGHBOUR: 'it returns false'. Refute it at one input. -/
def streamCutWrong : ChangeSpec := { name := "streamCut", fn := fun _ => fun
  | [d1, d2, d3] => { results := [.lit (.bool false)], args := [d1, d2, d3] }
  | _ => none }
def StreamCutWrongFalsely : Prop := streamCutRow.holds Tryd.pinned (OpenSpec.ofChange streamCutWrong)

/- THE SECOND FORM. 'bulk': how many values and letters a reading holds, each counted each time it is reached (what is shared counts as often as it is met; a slice's spare places count too). A statement '..UptoSaid' is the law's where the arguments, and the package variables that the reading takes, are together of bulk at most 1048576: NARROWER than '..Said'. Prove '..Said' where nothing that the law and all that it calls make is longer than what came in: it says more and counts as full. Else prove '..UptoSaid'. A law counts once. -/
mutual
def uptoBulk {H : Type} : DataW H → Nat
  | .lit (.string bytes) => bytes.length + 1
  | .lit _ => 1
  | .nil => 1
  | .ptr d => uptoBulk d + 1
  | .slice elems spare => uptoBulkAll elems + uptoBulkAll spare + 1
  | .agg parts => uptoBulkAll parts + 1
  | .iface _ d => uptoBulk d + 1
  | .map entries => uptoBulkEntries entries + 1
  | .held _ => 1
def uptoBulkAll {H : Type} : List (DataW H) → Nat
  | [] => 0
  | d :: r => uptoBulk d + uptoBulkAll r
def uptoBulkEntries {H : Type} : List (Lit × DataW H) → Nat
  | [] => 0
  | x :: r => uptoBulkEntry x + uptoBulkEntries r
def uptoBulkEntry {H : Type} : Lit × DataW H → Nat
  | (.string bytes, d) => bytes.length + uptoBulk d + 1
  | (_, d) => uptoBulk d + 1
 end
def uptoSmall : (H : Type) → List (DataW H) → Bool := fun _ ds => decide (uptoBulkAll ds ≤ 1048576)
def OpenSpec.upto (s : _root_.Go.ChangeSpec) : _root_.Go.OpenSpec := { _root_.Go.OpenSpec.ofChange s with cond := some uptoSmall }

/-- 'redactorlaw04.FrameEncodes', WHERE WHAT IT READS IS OF BULK AT MOST 1048576: true; the input reads as it did. -/
def frameEncodesUptoRow : OpenClaim := { program := "ytmaiokjcgijdcaadoor", sum := "f0dc86a9b8d5104ed35b19ca54f54c392f825e97a8ffe76a47bf3214f7194ac2", func := "redactor/redactorlaw04.FrameEncodes", spec := "frameEncodes", named := ["redactor/sha.k256"], apart := false, laid := [("redactor/sha.k256", laid_redactor_sha_k256)], narrowed := true }
def FrameEncodesUptoSaid : Prop := frameEncodesUptoRow.holds Tryd.pinned (OpenSpec.upto frameEncodesSpec)

/-- 'redactorlaw04.FrameDecodes', WHERE WHAT IT READS IS OF BULK AT MOST 1048576: true; the input reads as it did. -/
def frameDecodesUptoRow : OpenClaim := { program := "ytmaiokjcgijdcaadoor", sum := "f0dc86a9b8d5104ed35b19ca54f54c392f825e97a8ffe76a47bf3214f7194ac2", func := "redactor/redactorlaw04.FrameDecodes", spec := "frameDecodes", named := ["redactor/sha.k256"], apart := false, laid := [("redactor/sha.k256", laid_redactor_sha_k256)], narrowed := true }
def FrameDecodesUptoSaid : Prop := frameDecodesUptoRow.holds Tryd.pinned (OpenSpec.upto frameDecodesSpec)

/-- 'redactorlaw04.FrameBack', WHERE WHAT IT READS IS OF BULK AT MOST 1048576: true; the input reads as it did. -/
def frameBackUptoRow : OpenClaim := { program := "ytmaiokjcgijdcaadoor", sum := "f0dc86a9b8d5104ed35b19ca54f54c392f825e97a8ffe76a47bf3214f7194ac2", func := "redactor/redactorlaw04.FrameBack", spec := "frameBack", named := ["redactor/sha.k256"], apart := false, laid := [("redactor/sha.k256", laid_redactor_sha_k256)], narrowed := true }
def FrameBackUptoSaid : Prop := frameBackUptoRow.holds Tryd.pinned (OpenSpec.upto frameBackSpec)

/-- 'redactorlaw04.FrameTurned', WHERE WHAT IT READS IS OF BULK AT MOST 1048576: true; the input reads as it did. -/
def frameTurnedUptoRow : OpenClaim := { program := "ytmaiokjcgijdcaadoor", sum := "f0dc86a9b8d5104ed35b19ca54f54c392f825e97a8ffe76a47bf3214f7194ac2", func := "redactor/redactorlaw04.FrameTurned", spec := "frameTurned", named := ["redactor/sha.k256"], apart := false, laid := [("redactor/sha.k256", laid_redactor_sha_k256)], narrowed := true }
def FrameTurnedUptoSaid : Prop := frameTurnedUptoRow.holds Tryd.pinned (OpenSpec.upto frameTurnedSpec)

/-- 'redactorlaw06.StreamFeeds', WHERE WHAT IT READS IS OF BULK AT MOST 1048576: true; the input reads as it did. -/
def streamFeedsUptoRow : OpenClaim := { program := "ytmaiokjcgijdcaadoor", sum := "f0dc86a9b8d5104ed35b19ca54f54c392f825e97a8ffe76a47bf3214f7194ac2", func := "redactor/redactorlaw06.StreamFeeds", spec := "streamFeeds", named := ["redactor/sha.k256"], apart := false, laid := [("redactor/sha.k256", laid_redactor_sha_k256)], narrowed := true }
def StreamFeedsUptoSaid : Prop := streamFeedsUptoRow.holds Tryd.pinned (OpenSpec.upto streamFeedsSpec)

/-- 'redactorlaw06.StreamFrames', WHERE WHAT IT READS IS OF BULK AT MOST 1048576: true; the input reads as it did. -/
def streamFramesUptoRow : OpenClaim := { program := "ytmaiokjcgijdcaadoor", sum := "f0dc86a9b8d5104ed35b19ca54f54c392f825e97a8ffe76a47bf3214f7194ac2", func := "redactor/redactorlaw06.StreamFrames", spec := "streamFrames", named := ["redactor/sha.k256"], apart := false, laid := [("redactor/sha.k256", laid_redactor_sha_k256)], narrowed := true }
def StreamFramesUptoSaid : Prop := streamFramesUptoRow.holds Tryd.pinned (OpenSpec.upto streamFramesSpec)

/-- 'redactorlaw06.StreamJunk', WHERE WHAT IT READS IS OF BULK AT MOST 1048576: true; the input reads as it did. -/
def streamJunkUptoRow : OpenClaim := { program := "ytmaiokjcgijdcaadoor", sum := "f0dc86a9b8d5104ed35b19ca54f54c392f825e97a8ffe76a47bf3214f7194ac2", func := "redactor/redactorlaw06.StreamJunk", spec := "streamJunk", named := ["redactor/sha.k256"], apart := false, laid := [("redactor/sha.k256", laid_redactor_sha_k256)], narrowed := true }
def StreamJunkUptoSaid : Prop := streamJunkUptoRow.holds Tryd.pinned (OpenSpec.upto streamJunkSpec)

/-- 'redactorlaw06.StreamNil', WHERE WHAT IT READS IS OF BULK AT MOST 1048576: true; the input reads as it did. -/
def streamNilUptoRow : OpenClaim := { program := "ytmaiokjcgijdcaadoor", sum := "f0dc86a9b8d5104ed35b19ca54f54c392f825e97a8ffe76a47bf3214f7194ac2", func := "redactor/redactorlaw06.StreamNil", spec := "streamNil", named := ["redactor/sha.k256"], apart := false, laid := [("redactor/sha.k256", laid_redactor_sha_k256)], narrowed := true }
def StreamNilUptoSaid : Prop := streamNilUptoRow.holds Tryd.pinned (OpenSpec.upto streamNilSpec)

/-- 'redactorlaw06.StreamCut', WHERE WHAT IT READS IS OF BULK AT MOST 1048576: true; the input reads as it did. -/
def streamCutUptoRow : OpenClaim := { program := "ytmaiokjcgijdcaadoor", sum := "f0dc86a9b8d5104ed35b19ca54f54c392f825e97a8ffe76a47bf3214f7194ac2", func := "redactor/redactorlaw06.StreamCut", spec := "streamCut", named := ["redactor/sha.k256"], apart := false, laid := [("redactor/sha.k256", laid_redactor_sha_k256)], narrowed := true }
def StreamCutUptoSaid : Prop := streamCutUptoRow.holds Tryd.pinned (OpenSpec.upto streamCutSpec)

end Rows
end Go.Proofs.YtmaiokjcgijdcaaDoor
