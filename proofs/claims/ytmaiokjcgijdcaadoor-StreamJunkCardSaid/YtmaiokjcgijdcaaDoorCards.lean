/-
  DERIVED. GIVEN WITH THE SEED: THE CARDS: each row of YtmaiokjcgijdcaaDoorRows.lean that lists a variable, with what it lists TIED to the program's text (the seventh form; the later family's looks); each row that meets fmt, with fmt's text TOLD by the authors' own Lean function (tested against real Go, not proved from fmt's source: count such statements apart). THE CARD IS WHAT COUNTS. Prove the row's statement (the work); the ties are given (YtmaiokjcgijdcaaDoorTie.lean); close each card by the builder's one call (the guide's Derived/Test/ToyasCard.lean, 'card_holds'). Laid BY PROGRAM, IN A SANDBOX (cutbox-door.mjs). By AI agents, Wed Nov 11 2026. No macro, syntax, notation, axiom, sorry.
-/
import Derived.Test.YtmaiokjcgijdcaaDoorRows
import GoSem.ClaimSeven
namespace Go.Proofs.YtmaiokjcgijdcaaDoor
namespace Rows

/-- THE TIED CARD OF 'redactorlaw04.FrameEncodes'. -/
def frameEncodesCard : Claim7 := { stood := { row := frameEncodesRow, standIns := [], harness := (true, "f03a2623409f1ab91165aa921e053c7d5ee9afa5690c9998a952b4368b1705ed"), looks := false }, kinds := [], alts := [], laidByText := true, laidKinds := [.data], laidTests := true, laidLooks := .later }
def FrameEncodesCardSaid : Prop := Claim7.holds Tryd.pinned (.plain (OpenSpec.ofChange frameEncodesSpec)) frameEncodesCard

/-- THE TIED CARD OF 'redactorlaw04.FrameDecodes'. -/
def frameDecodesCard : Claim7 := { stood := { row := frameDecodesRow, standIns := [], harness := (true, "f03a2623409f1ab91165aa921e053c7d5ee9afa5690c9998a952b4368b1705ed"), looks := false }, kinds := [], alts := [], laidByText := true, laidKinds := [.data], laidTests := true, laidLooks := .later }
def FrameDecodesCardSaid : Prop := Claim7.holds Tryd.pinned (.plain (OpenSpec.ofChange frameDecodesSpec)) frameDecodesCard

/-- THE TIED CARD OF 'redactorlaw04.FrameBack'. -/
def frameBackCard : Claim7 := { stood := { row := frameBackRow, standIns := [], harness := (true, "f03a2623409f1ab91165aa921e053c7d5ee9afa5690c9998a952b4368b1705ed"), looks := false }, kinds := [], alts := [], laidByText := true, laidKinds := [.data], laidTests := true, laidLooks := .later }
def FrameBackCardSaid : Prop := Claim7.holds Tryd.pinned (.plain (OpenSpec.ofChange frameBackSpec)) frameBackCard

/-- THE TIED CARD OF 'redactorlaw04.FrameTurned'. -/
def frameTurnedCard : Claim7 := { stood := { row := frameTurnedRow, standIns := [], harness := (true, "f03a2623409f1ab91165aa921e053c7d5ee9afa5690c9998a952b4368b1705ed"), looks := false }, kinds := [], alts := [], laidByText := true, laidKinds := [.data], laidTests := true, laidLooks := .later }
def FrameTurnedCardSaid : Prop := Claim7.holds Tryd.pinned (.plain (OpenSpec.ofChange frameTurnedSpec)) frameTurnedCard

/-- THE TIED CARD OF 'redactorlaw06.StreamFeeds'. -/
def streamFeedsCard : Claim7 := { stood := { row := streamFeedsRow, standIns := [], harness := (true, "f03a2623409f1ab91165aa921e053c7d5ee9afa5690c9998a952b4368b1705ed"), looks := false }, kinds := [], alts := [], laidByText := true, laidKinds := [.data], laidTests := true, laidLooks := .later }
def StreamFeedsCardSaid : Prop := Claim7.holds Tryd.pinned (.plain (OpenSpec.ofChange streamFeedsSpec)) streamFeedsCard

/-- THE TIED CARD OF 'redactorlaw06.StreamFrames'. -/
def streamFramesCard : Claim7 := { stood := { row := streamFramesRow, standIns := [], harness := (true, "f03a2623409f1ab91165aa921e053c7d5ee9afa5690c9998a952b4368b1705ed"), looks := false }, kinds := [], alts := [], laidByText := true, laidKinds := [.data], laidTests := true, laidLooks := .later }
def StreamFramesCardSaid : Prop := Claim7.holds Tryd.pinned (.plain (OpenSpec.ofChange streamFramesSpec)) streamFramesCard

/-- THE TIED CARD OF 'redactorlaw06.StreamJunk'. -/
def streamJunkCard : Claim7 := { stood := { row := streamJunkRow, standIns := [], harness := (true, "f03a2623409f1ab91165aa921e053c7d5ee9afa5690c9998a952b4368b1705ed"), looks := false }, kinds := [], alts := [], laidByText := true, laidKinds := [.data], laidTests := true, laidLooks := .later }
def StreamJunkCardSaid : Prop := Claim7.holds Tryd.pinned (.plain (OpenSpec.ofChange streamJunkSpec)) streamJunkCard

/-- THE TIED CARD OF 'redactorlaw06.StreamNil'. -/
def streamNilCard : Claim7 := { stood := { row := streamNilRow, standIns := [], harness := (true, "f03a2623409f1ab91165aa921e053c7d5ee9afa5690c9998a952b4368b1705ed"), looks := false }, kinds := [], alts := [], laidByText := true, laidKinds := [.data], laidTests := true, laidLooks := .later }
def StreamNilCardSaid : Prop := Claim7.holds Tryd.pinned (.plain (OpenSpec.ofChange streamNilSpec)) streamNilCard

/-- THE TIED CARD OF 'redactorlaw06.StreamCut'. -/
def streamCutCard : Claim7 := { stood := { row := streamCutRow, standIns := [], harness := (true, "f03a2623409f1ab91165aa921e053c7d5ee9afa5690c9998a952b4368b1705ed"), looks := false }, kinds := [], alts := [], laidByText := true, laidKinds := [.data], laidTests := true, laidLooks := .later }
def StreamCutCardSaid : Prop := Claim7.holds Tryd.pinned (.plain (OpenSpec.ofChange streamCutSpec)) streamCutCard

/-- THE SECOND FORM's CARD OF 'redactorlaw04.FrameEncodes'. -/
def frameEncodesUptoCard : Claim7 := { stood := { row := frameEncodesUptoRow, standIns := [], harness := (true, "f03a2623409f1ab91165aa921e053c7d5ee9afa5690c9998a952b4368b1705ed"), looks := false }, kinds := [], alts := [], laidByText := true, laidKinds := [.data], laidTests := true, laidLooks := .later }
def FrameEncodesUptoCardSaid : Prop := Claim7.holds Tryd.pinned (.plain (OpenSpec.upto frameEncodesSpec)) frameEncodesUptoCard

/-- THE SECOND FORM's CARD OF 'redactorlaw04.FrameDecodes'. -/
def frameDecodesUptoCard : Claim7 := { stood := { row := frameDecodesUptoRow, standIns := [], harness := (true, "f03a2623409f1ab91165aa921e053c7d5ee9afa5690c9998a952b4368b1705ed"), looks := false }, kinds := [], alts := [], laidByText := true, laidKinds := [.data], laidTests := true, laidLooks := .later }
def FrameDecodesUptoCardSaid : Prop := Claim7.holds Tryd.pinned (.plain (OpenSpec.upto frameDecodesSpec)) frameDecodesUptoCard

/-- THE SECOND FORM's CARD OF 'redactorlaw04.FrameBack'. -/
def frameBackUptoCard : Claim7 := { stood := { row := frameBackUptoRow, standIns := [], harness := (true, "f03a2623409f1ab91165aa921e053c7d5ee9afa5690c9998a952b4368b1705ed"), looks := false }, kinds := [], alts := [], laidByText := true, laidKinds := [.data], laidTests := true, laidLooks := .later }
def FrameBackUptoCardSaid : Prop := Claim7.holds Tryd.pinned (.plain (OpenSpec.upto frameBackSpec)) frameBackUptoCard

/-- THE SECOND FORM's CARD OF 'redactorlaw04.FrameTurned'. -/
def frameTurnedUptoCard : Claim7 := { stood := { row := frameTurnedUptoRow, standIns := [], harness := (true, "f03a2623409f1ab91165aa921e053c7d5ee9afa5690c9998a952b4368b1705ed"), looks := false }, kinds := [], alts := [], laidByText := true, laidKinds := [.data], laidTests := true, laidLooks := .later }
def FrameTurnedUptoCardSaid : Prop := Claim7.holds Tryd.pinned (.plain (OpenSpec.upto frameTurnedSpec)) frameTurnedUptoCard

/-- THE SECOND FORM's CARD OF 'redactorlaw06.StreamFeeds'. -/
def streamFeedsUptoCard : Claim7 := { stood := { row := streamFeedsUptoRow, standIns := [], harness := (true, "f03a2623409f1ab91165aa921e053c7d5ee9afa5690c9998a952b4368b1705ed"), looks := false }, kinds := [], alts := [], laidByText := true, laidKinds := [.data], laidTests := true, laidLooks := .later }
def StreamFeedsUptoCardSaid : Prop := Claim7.holds Tryd.pinned (.plain (OpenSpec.upto streamFeedsSpec)) streamFeedsUptoCard

/-- THE SECOND FORM's CARD OF 'redactorlaw06.StreamFrames'. -/
def streamFramesUptoCard : Claim7 := { stood := { row := streamFramesUptoRow, standIns := [], harness := (true, "f03a2623409f1ab91165aa921e053c7d5ee9afa5690c9998a952b4368b1705ed"), looks := false }, kinds := [], alts := [], laidByText := true, laidKinds := [.data], laidTests := true, laidLooks := .later }
def StreamFramesUptoCardSaid : Prop := Claim7.holds Tryd.pinned (.plain (OpenSpec.upto streamFramesSpec)) streamFramesUptoCard

/-- THE SECOND FORM's CARD OF 'redactorlaw06.StreamJunk'. -/
def streamJunkUptoCard : Claim7 := { stood := { row := streamJunkUptoRow, standIns := [], harness := (true, "f03a2623409f1ab91165aa921e053c7d5ee9afa5690c9998a952b4368b1705ed"), looks := false }, kinds := [], alts := [], laidByText := true, laidKinds := [.data], laidTests := true, laidLooks := .later }
def StreamJunkUptoCardSaid : Prop := Claim7.holds Tryd.pinned (.plain (OpenSpec.upto streamJunkSpec)) streamJunkUptoCard

/-- THE SECOND FORM's CARD OF 'redactorlaw06.StreamNil'. -/
def streamNilUptoCard : Claim7 := { stood := { row := streamNilUptoRow, standIns := [], harness := (true, "f03a2623409f1ab91165aa921e053c7d5ee9afa5690c9998a952b4368b1705ed"), looks := false }, kinds := [], alts := [], laidByText := true, laidKinds := [.data], laidTests := true, laidLooks := .later }
def StreamNilUptoCardSaid : Prop := Claim7.holds Tryd.pinned (.plain (OpenSpec.upto streamNilSpec)) streamNilUptoCard

/-- THE SECOND FORM's CARD OF 'redactorlaw06.StreamCut'. -/
def streamCutUptoCard : Claim7 := { stood := { row := streamCutUptoRow, standIns := [], harness := (true, "f03a2623409f1ab91165aa921e053c7d5ee9afa5690c9998a952b4368b1705ed"), looks := false }, kinds := [], alts := [], laidByText := true, laidKinds := [.data], laidTests := true, laidLooks := .later }
def StreamCutUptoCardSaid : Prop := Claim7.holds Tryd.pinned (.plain (OpenSpec.upto streamCutSpec)) streamCutUptoCard
end Rows
end Go.Proofs.YtmaiokjcgijdcaaDoor
