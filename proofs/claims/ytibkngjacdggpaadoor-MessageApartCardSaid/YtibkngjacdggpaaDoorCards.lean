/-
  DERIVED. GIVEN WITH THE SEED: THE CARDS: each row of YtibkngjacdggpaaDoorRows.lean that lists a variable, with what it lists TIED to the program's text (the seventh form; the later family's looks); each row that meets fmt, with fmt's text TOLD by the authors' own Lean function (tested against real Go, not proved from fmt's source: count such statements apart). THE CARD IS WHAT COUNTS. Prove the row's statement (the work); the ties are given (YtibkngjacdggpaaDoorTie.lean); close each card by the builder's one call (the guide's Derived/Test/ToyasCard.lean, 'card_holds'). Laid BY PROGRAM, IN A SANDBOX (cutbox-door.mjs). By AI agents, Wed Nov 11 2026. No macro, syntax, notation, axiom, sorry.
-/
import Derived.Test.YtibkngjacdggpaaDoorRows
import GoSem.ClaimSeven
namespace Go.Proofs.YtibkngjacdggpaaDoor
namespace Rows

/-- THE TIED CARD OF 'redactorlaw02.MerkleChecks'. -/
def merkleChecksCard : Claim7 := { stood := { row := merkleChecksRow, standIns := [], harness := (true, "90b8641fca6a1e1d4c873ff245c6719875b8be9e3bf73be1c5282674a3a83884"), looks := false }, kinds := [], alts := [], laidByText := true, laidKinds := [.data], laidTests := true, laidLooks := .later }
def MerkleChecksCardSaid : Prop := Claim7.holds Tryd.pinned (.plain (OpenSpec.ofChange merkleChecksSpec)) merkleChecksCard

/-- THE TIED CARD OF 'redactorlaw02.MerkleTurned'. -/
def merkleTurnedCard : Claim7 := { stood := { row := merkleTurnedRow, standIns := [], harness := (true, "90b8641fca6a1e1d4c873ff245c6719875b8be9e3bf73be1c5282674a3a83884"), looks := false }, kinds := [], alts := [], laidByText := true, laidKinds := [.data], laidTests := true, laidLooks := .later }
def MerkleTurnedCardSaid : Prop := Claim7.holds Tryd.pinned (.plain (OpenSpec.ofChange merkleTurnedSpec)) merkleTurnedCard

/-- THE TIED CARD OF 'redactorlaw05.MessageApart'. -/
def messageApartCard : Claim7 := { stood := { row := messageApartRow, standIns := [], harness := (true, "90b8641fca6a1e1d4c873ff245c6719875b8be9e3bf73be1c5282674a3a83884"), looks := false }, kinds := [], alts := [], laidByText := true, laidKinds := [.data], laidTests := true, laidLooks := .later }
def MessageApartCardSaid : Prop := Claim7.holds Tryd.pinned (.plain (OpenSpec.ofChange messageApartSpec)) messageApartCard

/-- THE TIED CARD OF 'redactorlaw02.MerkleOver'. -/
def merkleOverCard : Claim7 := { stood := { row := merkleOverRow, standIns := [], harness := (true, "90b8641fca6a1e1d4c873ff245c6719875b8be9e3bf73be1c5282674a3a83884"), looks := false }, kinds := [], alts := [], laidByText := true, laidKinds := [.data, .data, .data], laidTests := true, laidLooks := .later }
def MerkleOverCardSaid : Prop := Claim7.holds Tryd.pinned (.plain (OpenSpec.ofChange merkleOverSpec)) merkleOverCard

/-- THE TIED CARD OF 'redactorlaw02.MerkleHalves'. -/
def merkleHalvesCard : Claim7 := { stood := { row := merkleHalvesRow, standIns := [], harness := (true, "90b8641fca6a1e1d4c873ff245c6719875b8be9e3bf73be1c5282674a3a83884"), looks := false }, kinds := [], alts := [], laidByText := true, laidKinds := [.data, .data, .data], laidTests := true, laidLooks := .later }
def MerkleHalvesCardSaid : Prop := Claim7.holds Tryd.pinned (.plain (OpenSpec.ofChange merkleHalvesSpec)) merkleHalvesCard

/-- THE TIED CARD OF 'redactorlaw02.MerkleRoots'. -/
def merkleRootsCard : Claim7 := { stood := { row := merkleRootsRow, standIns := [], harness := (true, "90b8641fca6a1e1d4c873ff245c6719875b8be9e3bf73be1c5282674a3a83884"), looks := false }, kinds := [], alts := [], laidByText := true, laidKinds := [.data, .data, .data], laidTests := true, laidLooks := .later }
def MerkleRootsCardSaid : Prop := Claim7.holds Tryd.pinned (.plain (OpenSpec.ofChange merkleRootsSpec)) merkleRootsCard

/-- THE TIED CARD OF 'redactorlaw02.MerkleApart'. -/
def merkleApartCard : Claim7 := { stood := { row := merkleApartRow, standIns := [], harness := (true, "90b8641fca6a1e1d4c873ff245c6719875b8be9e3bf73be1c5282674a3a83884"), looks := false }, kinds := [], alts := [], laidByText := true, laidKinds := [.data, .data, .data], laidTests := true, laidLooks := .later }
def MerkleApartCardSaid : Prop := Claim7.holds Tryd.pinned (.plain (OpenSpec.ofChange merkleApartSpec)) merkleApartCard

/-- THE TIED CARD OF 'redactorlaw02.MerkleProofs'. -/
def merkleProofsCard : Claim7 := { stood := { row := merkleProofsRow, standIns := [], harness := (true, "90b8641fca6a1e1d4c873ff245c6719875b8be9e3bf73be1c5282674a3a83884"), looks := false }, kinds := [], alts := [], laidByText := true, laidKinds := [.data, .data, .data], laidTests := true, laidLooks := .later }
def MerkleProofsCardSaid : Prop := Claim7.holds Tryd.pinned (.plain (OpenSpec.ofChange merkleProofsSpec)) merkleProofsCard

/-- THE TIED CARD OF 'redactorlaw05.MessageEncodes'. -/
def messageEncodesCard : Claim7 := { stood := { row := messageEncodesRow, standIns := [], harness := (true, "90b8641fca6a1e1d4c873ff245c6719875b8be9e3bf73be1c5282674a3a83884"), looks := false }, kinds := [], alts := [], laidByText := true, laidKinds := [.data], laidTests := true, laidLooks := .later }
def MessageEncodesCardSaid : Prop := Claim7.holds Tryd.pinned (.plain (OpenSpec.ofChange messageEncodesSpec)) messageEncodesCard

/-- THE TIED CARD OF 'redactorlaw05.MessageDecodes'. -/
def messageDecodesCard : Claim7 := { stood := { row := messageDecodesRow, standIns := [], harness := (true, "90b8641fca6a1e1d4c873ff245c6719875b8be9e3bf73be1c5282674a3a83884"), looks := false }, kinds := [], alts := [], laidByText := true, laidKinds := [.data], laidTests := true, laidLooks := .later }
def MessageDecodesCardSaid : Prop := Claim7.holds Tryd.pinned (.plain (OpenSpec.ofChange messageDecodesSpec)) messageDecodesCard

/-- THE TIED CARD OF 'redactorlaw05.MessageTurned'. -/
def messageTurnedCard : Claim7 := { stood := { row := messageTurnedRow, standIns := [], harness := (true, "90b8641fca6a1e1d4c873ff245c6719875b8be9e3bf73be1c5282674a3a83884"), looks := false }, kinds := [], alts := [], laidByText := true, laidKinds := [.data], laidTests := true, laidLooks := .later }
def MessageTurnedCardSaid : Prop := Claim7.holds Tryd.pinned (.plain (OpenSpec.ofChange messageTurnedSpec)) messageTurnedCard

/-- THE SECOND FORM's CARD OF 'redactorlaw02.MerkleChecks'. -/
def merkleChecksUptoCard : Claim7 := { stood := { row := merkleChecksUptoRow, standIns := [], harness := (true, "90b8641fca6a1e1d4c873ff245c6719875b8be9e3bf73be1c5282674a3a83884"), looks := false }, kinds := [], alts := [], laidByText := true, laidKinds := [.data], laidTests := true, laidLooks := .later }
def MerkleChecksUptoCardSaid : Prop := Claim7.holds Tryd.pinned (.plain (OpenSpec.upto merkleChecksSpec)) merkleChecksUptoCard

/-- THE SECOND FORM's CARD OF 'redactorlaw02.MerkleTurned'. -/
def merkleTurnedUptoCard : Claim7 := { stood := { row := merkleTurnedUptoRow, standIns := [], harness := (true, "90b8641fca6a1e1d4c873ff245c6719875b8be9e3bf73be1c5282674a3a83884"), looks := false }, kinds := [], alts := [], laidByText := true, laidKinds := [.data], laidTests := true, laidLooks := .later }
def MerkleTurnedUptoCardSaid : Prop := Claim7.holds Tryd.pinned (.plain (OpenSpec.upto merkleTurnedSpec)) merkleTurnedUptoCard

/-- THE SECOND FORM's CARD OF 'redactorlaw05.MessageApart'. -/
def messageApartUptoCard : Claim7 := { stood := { row := messageApartUptoRow, standIns := [], harness := (true, "90b8641fca6a1e1d4c873ff245c6719875b8be9e3bf73be1c5282674a3a83884"), looks := false }, kinds := [], alts := [], laidByText := true, laidKinds := [.data], laidTests := true, laidLooks := .later }
def MessageApartUptoCardSaid : Prop := Claim7.holds Tryd.pinned (.plain (OpenSpec.upto messageApartSpec)) messageApartUptoCard

/-- THE SECOND FORM's CARD OF 'redactorlaw02.MerkleOver'. -/
def merkleOverUptoCard : Claim7 := { stood := { row := merkleOverUptoRow, standIns := [], harness := (true, "90b8641fca6a1e1d4c873ff245c6719875b8be9e3bf73be1c5282674a3a83884"), looks := false }, kinds := [], alts := [], laidByText := true, laidKinds := [.data, .data, .data], laidTests := true, laidLooks := .later }
def MerkleOverUptoCardSaid : Prop := Claim7.holds Tryd.pinned (.plain (OpenSpec.upto merkleOverSpec)) merkleOverUptoCard

/-- THE SECOND FORM's CARD OF 'redactorlaw02.MerkleHalves'. -/
def merkleHalvesUptoCard : Claim7 := { stood := { row := merkleHalvesUptoRow, standIns := [], harness := (true, "90b8641fca6a1e1d4c873ff245c6719875b8be9e3bf73be1c5282674a3a83884"), looks := false }, kinds := [], alts := [], laidByText := true, laidKinds := [.data, .data, .data], laidTests := true, laidLooks := .later }
def MerkleHalvesUptoCardSaid : Prop := Claim7.holds Tryd.pinned (.plain (OpenSpec.upto merkleHalvesSpec)) merkleHalvesUptoCard

/-- THE SECOND FORM's CARD OF 'redactorlaw02.MerkleRoots'. -/
def merkleRootsUptoCard : Claim7 := { stood := { row := merkleRootsUptoRow, standIns := [], harness := (true, "90b8641fca6a1e1d4c873ff245c6719875b8be9e3bf73be1c5282674a3a83884"), looks := false }, kinds := [], alts := [], laidByText := true, laidKinds := [.data, .data, .data], laidTests := true, laidLooks := .later }
def MerkleRootsUptoCardSaid : Prop := Claim7.holds Tryd.pinned (.plain (OpenSpec.upto merkleRootsSpec)) merkleRootsUptoCard

/-- THE SECOND FORM's CARD OF 'redactorlaw02.MerkleApart'. -/
def merkleApartUptoCard : Claim7 := { stood := { row := merkleApartUptoRow, standIns := [], harness := (true, "90b8641fca6a1e1d4c873ff245c6719875b8be9e3bf73be1c5282674a3a83884"), looks := false }, kinds := [], alts := [], laidByText := true, laidKinds := [.data, .data, .data], laidTests := true, laidLooks := .later }
def MerkleApartUptoCardSaid : Prop := Claim7.holds Tryd.pinned (.plain (OpenSpec.upto merkleApartSpec)) merkleApartUptoCard

/-- THE SECOND FORM's CARD OF 'redactorlaw02.MerkleProofs'. -/
def merkleProofsUptoCard : Claim7 := { stood := { row := merkleProofsUptoRow, standIns := [], harness := (true, "90b8641fca6a1e1d4c873ff245c6719875b8be9e3bf73be1c5282674a3a83884"), looks := false }, kinds := [], alts := [], laidByText := true, laidKinds := [.data, .data, .data], laidTests := true, laidLooks := .later }
def MerkleProofsUptoCardSaid : Prop := Claim7.holds Tryd.pinned (.plain (OpenSpec.upto merkleProofsSpec)) merkleProofsUptoCard

/-- THE SECOND FORM's CARD OF 'redactorlaw05.MessageEncodes'. -/
def messageEncodesUptoCard : Claim7 := { stood := { row := messageEncodesUptoRow, standIns := [], harness := (true, "90b8641fca6a1e1d4c873ff245c6719875b8be9e3bf73be1c5282674a3a83884"), looks := false }, kinds := [], alts := [], laidByText := true, laidKinds := [.data], laidTests := true, laidLooks := .later }
def MessageEncodesUptoCardSaid : Prop := Claim7.holds Tryd.pinned (.plain (OpenSpec.upto messageEncodesSpec)) messageEncodesUptoCard

/-- THE SECOND FORM's CARD OF 'redactorlaw05.MessageDecodes'. -/
def messageDecodesUptoCard : Claim7 := { stood := { row := messageDecodesUptoRow, standIns := [], harness := (true, "90b8641fca6a1e1d4c873ff245c6719875b8be9e3bf73be1c5282674a3a83884"), looks := false }, kinds := [], alts := [], laidByText := true, laidKinds := [.data], laidTests := true, laidLooks := .later }
def MessageDecodesUptoCardSaid : Prop := Claim7.holds Tryd.pinned (.plain (OpenSpec.upto messageDecodesSpec)) messageDecodesUptoCard

/-- THE SECOND FORM's CARD OF 'redactorlaw05.MessageTurned'. -/
def messageTurnedUptoCard : Claim7 := { stood := { row := messageTurnedUptoRow, standIns := [], harness := (true, "90b8641fca6a1e1d4c873ff245c6719875b8be9e3bf73be1c5282674a3a83884"), looks := false }, kinds := [], alts := [], laidByText := true, laidKinds := [.data], laidTests := true, laidLooks := .later }
def MessageTurnedUptoCardSaid : Prop := Claim7.holds Tryd.pinned (.plain (OpenSpec.upto messageTurnedSpec)) messageTurnedUptoCard
end Rows
end Go.Proofs.YtibkngjacdggpaaDoor
