/-
  DERIVED. GIVEN WITH THE SEED: THE CARDS: each row of YthnpiimiimiijaaGreatDoorRows.lean that lists a variable, with what it lists TIED to the program's text (the seventh form; the later family's looks); each row that meets fmt, with fmt's text TOLD by the authors' own Lean function (tested against real Go, not proved from fmt's source: count such statements apart). THE CARD IS WHAT COUNTS. Prove the row's statement (the work); the ties are given (YthnpiimiimiijaaGreatDoorTie.lean); close each card by the builder's one call (the guide's Derived/Test/ToyasCard.lean, 'card_holds'). Laid BY PROGRAM, IN A SANDBOX (cutbox-door.mjs). By AI agents, Wed Nov 11 2026. No macro, syntax, notation, axiom, sorry.
-/
import Derived.Test.YthnpiimiimiijaaGreatDoorRows
import GoSem.ClaimSeven
namespace Go.Proofs.YthnpiimiimiijaaGreatDoor
namespace Rows

/-- THE TIED CARD OF 'causewaylaw21.DirectNever'. -/
def directNeverCard : Claim7 := { stood := { row := directNeverRow, standIns := [], harness := (true, "2b874cfe1f762df65449f14d1b857dc5567cf46c0524e3a8f91bbeb0d6746924"), looks := true }, kinds := [], alts := [], laidByText := true, laidKinds := [.data, .data, .data, .data, .sentinel, .sentinel, .pinned], laidTests := true, laidLooks := .later }
def DirectNeverCardSaid : Prop := Claim7.holds Tryz.pinned (.plain (OpenSpec.ofChange directNeverSpec)) directNeverCard

/-- THE TIED CARD OF 'causewaylaw21.DirectLater'. -/
def directLaterCard : Claim7 := { stood := { row := directLaterRow, standIns := [], harness := (true, "2b874cfe1f762df65449f14d1b857dc5567cf46c0524e3a8f91bbeb0d6746924"), looks := true }, kinds := [], alts := [], laidByText := true, laidKinds := [.data, .data, .data, .data, .sentinel, .sentinel, .pinned], laidTests := true, laidLooks := .later }
def DirectLaterCardSaid : Prop := Claim7.holds Tryz.pinned (.plain (OpenSpec.ofChange directLaterSpec)) directLaterCard

/-- THE TIED CARD OF 'causewaylaw21.DirectSpends'. -/
def directSpendsCard : Claim7 := { stood := { row := directSpendsRow, standIns := [], harness := (true, "2b874cfe1f762df65449f14d1b857dc5567cf46c0524e3a8f91bbeb0d6746924"), looks := true }, kinds := [], alts := [], laidByText := true, laidKinds := [.data, .data, .data, .data, .sentinel, .sentinel, .pinned], laidTests := true, laidLooks := .later }
def DirectSpendsCardSaid : Prop := Claim7.holds Tryz.pinned (.plain (OpenSpec.ofChange directSpendsSpec)) directSpendsCard

/-- THE TIED CARD OF 'causewaylaw21.DirectCounts'. -/
def directCountsCard : Claim7 := { stood := { row := directCountsRow, standIns := [], harness := (true, "2b874cfe1f762df65449f14d1b857dc5567cf46c0524e3a8f91bbeb0d6746924"), looks := true }, kinds := [], alts := [], laidByText := true, laidKinds := [.data, .data, .data, .data, .sentinel, .sentinel, .pinned], laidTests := true, laidLooks := .later }
def DirectCountsCardSaid : Prop := Claim7.holds Tryz.pinned (.plain (OpenSpec.ofChange directCountsSpec)) directCountsCard

/-- THE TIED CARD OF 'causewaylaw21.DirectApplies'. -/
def directAppliesCard : Claim7 := { stood := { row := directAppliesRow, standIns := [], harness := (true, "2b874cfe1f762df65449f14d1b857dc5567cf46c0524e3a8f91bbeb0d6746924"), looks := true }, kinds := [], alts := [], laidByText := true, laidKinds := [.data, .data, .data, .data, .sentinel, .sentinel, .pinned], laidTests := true, laidLooks := .later }
def DirectAppliesCardSaid : Prop := Claim7.holds Tryz.pinned (.plain (OpenSpec.ofChange directAppliesSpec)) directAppliesCard

/-- THE TIED CARD OF 'causewaylaw21.DirectAgain'. -/
def directAgainCard : Claim7 := { stood := { row := directAgainRow, standIns := [], harness := (true, "2b874cfe1f762df65449f14d1b857dc5567cf46c0524e3a8f91bbeb0d6746924"), looks := true }, kinds := [], alts := [], laidByText := true, laidKinds := [.data, .data, .data, .data, .sentinel, .sentinel, .pinned], laidTests := true, laidLooks := .later }
def DirectAgainCardSaid : Prop := Claim7.holds Tryz.pinned (.plain (OpenSpec.ofChange directAgainSpec)) directAgainCard

/-- THE TIED CARD OF 'causewaylaw21.DirectChecks'. -/
def directChecksCard : Claim7 := { stood := { row := directChecksRow, standIns := [], harness := (true, "2b874cfe1f762df65449f14d1b857dc5567cf46c0524e3a8f91bbeb0d6746924"), looks := true }, kinds := [], alts := [], laidByText := true, laidKinds := [.data, .data, .data, .data, .sentinel, .sentinel, .pinned], laidTests := true, laidLooks := .later }
def DirectChecksCardSaid : Prop := Claim7.holds Tryz.pinned (.plain (OpenSpec.ofChange directChecksSpec)) directChecksCard

/-- THE TIED CARD OF 'causewaylaw21.DirectParses'. -/
def directParsesCard : Claim7 := { stood := { row := directParsesRow, standIns := [], harness := (true, "2b874cfe1f762df65449f14d1b857dc5567cf46c0524e3a8f91bbeb0d6746924"), looks := true }, kinds := [], alts := [], laidByText := true, laidKinds := [.data, .data, .data, .data, .sentinel, .sentinel, .pinned], laidTests := true, laidLooks := .later }
def DirectParsesCardSaid : Prop := Claim7.holds Tryz.pinned (.plain (OpenSpec.ofChange directParsesSpec)) directParsesCard

/-- THE TIED CARD OF 'causewaylaw21.DirectBack'. -/
def directBackCard : Claim7 := { stood := { row := directBackRow, standIns := [], harness := (true, "2b874cfe1f762df65449f14d1b857dc5567cf46c0524e3a8f91bbeb0d6746924"), looks := true }, kinds := [], alts := [], laidByText := true, laidKinds := [.data, .data, .data, .data, .sentinel, .sentinel, .pinned], laidTests := true, laidLooks := .later }
def DirectBackCardSaid : Prop := Claim7.holds Tryz.pinned (.plain (OpenSpec.ofChange directBackSpec)) directBackCard

/-- THE TIED CARD OF 'causewaylaw21.DirectKnown'. -/
def directKnownCard : Claim7 := { stood := { row := directKnownRow, standIns := [], harness := (true, "2b874cfe1f762df65449f14d1b857dc5567cf46c0524e3a8f91bbeb0d6746924"), looks := true }, kinds := [], alts := [], laidByText := true, laidKinds := [.data, .data, .data, .data, .sentinel, .sentinel, .pinned], laidTests := true, laidLooks := .later }
def DirectKnownCardSaid : Prop := Claim7.holds Tryz.pinned (.plain (OpenSpec.ofChange directKnownSpec)) directKnownCard

/-- THE SECOND FORM's CARD OF 'causewaylaw21.DirectNever'. -/
def directNeverUptoCard : Claim7 := { stood := { row := directNeverUptoRow, standIns := [], harness := (true, "2b874cfe1f762df65449f14d1b857dc5567cf46c0524e3a8f91bbeb0d6746924"), looks := true }, kinds := [], alts := [], laidByText := true, laidKinds := [.data, .data, .data, .data, .sentinel, .sentinel, .pinned], laidTests := true, laidLooks := .later }
def DirectNeverUptoCardSaid : Prop := Claim7.holds Tryz.pinned (.plain (OpenSpec.upto directNeverSpec)) directNeverUptoCard

/-- THE SECOND FORM's CARD OF 'causewaylaw21.DirectLater'. -/
def directLaterUptoCard : Claim7 := { stood := { row := directLaterUptoRow, standIns := [], harness := (true, "2b874cfe1f762df65449f14d1b857dc5567cf46c0524e3a8f91bbeb0d6746924"), looks := true }, kinds := [], alts := [], laidByText := true, laidKinds := [.data, .data, .data, .data, .sentinel, .sentinel, .pinned], laidTests := true, laidLooks := .later }
def DirectLaterUptoCardSaid : Prop := Claim7.holds Tryz.pinned (.plain (OpenSpec.upto directLaterSpec)) directLaterUptoCard

/-- THE SECOND FORM's CARD OF 'causewaylaw21.DirectSpends'. -/
def directSpendsUptoCard : Claim7 := { stood := { row := directSpendsUptoRow, standIns := [], harness := (true, "2b874cfe1f762df65449f14d1b857dc5567cf46c0524e3a8f91bbeb0d6746924"), looks := true }, kinds := [], alts := [], laidByText := true, laidKinds := [.data, .data, .data, .data, .sentinel, .sentinel, .pinned], laidTests := true, laidLooks := .later }
def DirectSpendsUptoCardSaid : Prop := Claim7.holds Tryz.pinned (.plain (OpenSpec.upto directSpendsSpec)) directSpendsUptoCard

/-- THE SECOND FORM's CARD OF 'causewaylaw21.DirectCounts'. -/
def directCountsUptoCard : Claim7 := { stood := { row := directCountsUptoRow, standIns := [], harness := (true, "2b874cfe1f762df65449f14d1b857dc5567cf46c0524e3a8f91bbeb0d6746924"), looks := true }, kinds := [], alts := [], laidByText := true, laidKinds := [.data, .data, .data, .data, .sentinel, .sentinel, .pinned], laidTests := true, laidLooks := .later }
def DirectCountsUptoCardSaid : Prop := Claim7.holds Tryz.pinned (.plain (OpenSpec.upto directCountsSpec)) directCountsUptoCard

/-- THE SECOND FORM's CARD OF 'causewaylaw21.DirectApplies'. -/
def directAppliesUptoCard : Claim7 := { stood := { row := directAppliesUptoRow, standIns := [], harness := (true, "2b874cfe1f762df65449f14d1b857dc5567cf46c0524e3a8f91bbeb0d6746924"), looks := true }, kinds := [], alts := [], laidByText := true, laidKinds := [.data, .data, .data, .data, .sentinel, .sentinel, .pinned], laidTests := true, laidLooks := .later }
def DirectAppliesUptoCardSaid : Prop := Claim7.holds Tryz.pinned (.plain (OpenSpec.upto directAppliesSpec)) directAppliesUptoCard

/-- THE SECOND FORM's CARD OF 'causewaylaw21.DirectAgain'. -/
def directAgainUptoCard : Claim7 := { stood := { row := directAgainUptoRow, standIns := [], harness := (true, "2b874cfe1f762df65449f14d1b857dc5567cf46c0524e3a8f91bbeb0d6746924"), looks := true }, kinds := [], alts := [], laidByText := true, laidKinds := [.data, .data, .data, .data, .sentinel, .sentinel, .pinned], laidTests := true, laidLooks := .later }
def DirectAgainUptoCardSaid : Prop := Claim7.holds Tryz.pinned (.plain (OpenSpec.upto directAgainSpec)) directAgainUptoCard

/-- THE SECOND FORM's CARD OF 'causewaylaw21.DirectChecks'. -/
def directChecksUptoCard : Claim7 := { stood := { row := directChecksUptoRow, standIns := [], harness := (true, "2b874cfe1f762df65449f14d1b857dc5567cf46c0524e3a8f91bbeb0d6746924"), looks := true }, kinds := [], alts := [], laidByText := true, laidKinds := [.data, .data, .data, .data, .sentinel, .sentinel, .pinned], laidTests := true, laidLooks := .later }
def DirectChecksUptoCardSaid : Prop := Claim7.holds Tryz.pinned (.plain (OpenSpec.upto directChecksSpec)) directChecksUptoCard

/-- THE SECOND FORM's CARD OF 'causewaylaw21.DirectParses'. -/
def directParsesUptoCard : Claim7 := { stood := { row := directParsesUptoRow, standIns := [], harness := (true, "2b874cfe1f762df65449f14d1b857dc5567cf46c0524e3a8f91bbeb0d6746924"), looks := true }, kinds := [], alts := [], laidByText := true, laidKinds := [.data, .data, .data, .data, .sentinel, .sentinel, .pinned], laidTests := true, laidLooks := .later }
def DirectParsesUptoCardSaid : Prop := Claim7.holds Tryz.pinned (.plain (OpenSpec.upto directParsesSpec)) directParsesUptoCard

/-- THE SECOND FORM's CARD OF 'causewaylaw21.DirectBack'. -/
def directBackUptoCard : Claim7 := { stood := { row := directBackUptoRow, standIns := [], harness := (true, "2b874cfe1f762df65449f14d1b857dc5567cf46c0524e3a8f91bbeb0d6746924"), looks := true }, kinds := [], alts := [], laidByText := true, laidKinds := [.data, .data, .data, .data, .sentinel, .sentinel, .pinned], laidTests := true, laidLooks := .later }
def DirectBackUptoCardSaid : Prop := Claim7.holds Tryz.pinned (.plain (OpenSpec.upto directBackSpec)) directBackUptoCard

/-- THE SECOND FORM's CARD OF 'causewaylaw21.DirectKnown'. -/
def directKnownUptoCard : Claim7 := { stood := { row := directKnownUptoRow, standIns := [], harness := (true, "2b874cfe1f762df65449f14d1b857dc5567cf46c0524e3a8f91bbeb0d6746924"), looks := true }, kinds := [], alts := [], laidByText := true, laidKinds := [.data, .data, .data, .data, .sentinel, .sentinel, .pinned], laidTests := true, laidLooks := .later }
def DirectKnownUptoCardSaid : Prop := Claim7.holds Tryz.pinned (.plain (OpenSpec.upto directKnownSpec)) directKnownUptoCard
end Rows
end Go.Proofs.YthnpiimiimiijaaGreatDoor
