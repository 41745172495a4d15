/-
  DERIVED. GIVEN WITH THE SEED: THE CARDS: each row of YtmgbaefgcdglpaaGreatDoorRows.lean that lists a variable, with what it lists TIED to the program's text (the seventh form; the later family's looks); each row that meets fmt, with fmt's text TOLD by the authors' own Lean function (tested against real Go, not proved from fmt's source: count such statements apart). THE CARD IS WHAT COUNTS. Prove the row's statement (the work); the ties are given (YtmgbaefgcdglpaaGreatDoorTie.lean); close each card by the builder's one call (the guide's Derived/Test/ToyasCard.lean, 'card_holds'). Laid BY PROGRAM, IN A SANDBOX (cutbox-door.mjs). By AI agents, Wed Nov 11 2026. No macro, syntax, notation, axiom, sorry.
-/
import Derived.Test.YtmgbaefgcdglpaaGreatDoorRows
import GoSem.ClaimSeven
namespace Go.Proofs.YtmgbaefgcdglpaaGreatDoor
namespace Rows

/-- THE TIED CARD OF 'causewaylaw23.NetmapOf'. -/
def netmapOfCard : Claim7 := { stood := { row := netmapOfRow, standIns := [], harness := (true, "e0334a705c368339259ff24536afd121c8b5cea6c26ed92632cdf79044599a53"), looks := true }, kinds := [], alts := [], laidByText := true, laidKinds := [.data, .data, .data, .data, .sentinel, .sentinel, .pinned], laidTests := true, laidLooks := .later }
def NetmapOfCardSaid : Prop := Claim7.holds Tryz.pinned (.plain (OpenSpec.ofChange netmapOfSpec)) netmapOfCard

/-- THE TIED CARD OF 'causewaylaw23.NetmapJust'. -/
def netmapJustCard : Claim7 := { stood := { row := netmapJustRow, standIns := [], harness := (true, "e0334a705c368339259ff24536afd121c8b5cea6c26ed92632cdf79044599a53"), looks := true }, kinds := [], alts := [], laidByText := true, laidKinds := [.data, .data, .data, .data, .sentinel, .sentinel, .pinned], laidTests := true, laidLooks := .later }
def NetmapJustCardSaid : Prop := Claim7.holds Tryz.pinned (.plain (OpenSpec.ofChange netmapJustSpec)) netmapJustCard

/-- THE TIED CARD OF 'causewaylaw23.NetmapBoth'. -/
def netmapBothCard : Claim7 := { stood := { row := netmapBothRow, standIns := [], harness := (true, "e0334a705c368339259ff24536afd121c8b5cea6c26ed92632cdf79044599a53"), looks := true }, kinds := [], alts := [], laidByText := true, laidKinds := [.data, .data, .data, .data, .sentinel, .sentinel, .pinned], laidTests := true, laidLooks := .later }
def NetmapBothCardSaid : Prop := Claim7.holds Tryz.pinned (.plain (OpenSpec.ofChange netmapBothSpec)) netmapBothCard

/-- THE TIED CARD OF 'causewaylaw23.NetmapDiff'. -/
def netmapDiffCard : Claim7 := { stood := { row := netmapDiffRow, standIns := [], harness := (true, "e0334a705c368339259ff24536afd121c8b5cea6c26ed92632cdf79044599a53"), looks := true }, kinds := [], alts := [], laidByText := true, laidKinds := [.data, .data, .data, .data, .sentinel, .sentinel, .pinned], laidTests := true, laidLooks := .later }
def NetmapDiffCardSaid : Prop := Claim7.holds Tryz.pinned (.plain (OpenSpec.ofChange netmapDiffSpec)) netmapDiffCard

/-- THE TIED CARD OF 'causewaylaw23.NetmapArrives'. -/
def netmapArrivesCard : Claim7 := { stood := { row := netmapArrivesRow, standIns := [], harness := (true, "e0334a705c368339259ff24536afd121c8b5cea6c26ed92632cdf79044599a53"), looks := true }, kinds := [], alts := [], laidByText := true, laidKinds := [.data, .data, .data, .data, .sentinel, .sentinel, .pinned], laidTests := true, laidLooks := .later }
def NetmapArrivesCardSaid : Prop := Claim7.holds Tryz.pinned (.plain (OpenSpec.ofChange netmapArrivesSpec)) netmapArrivesCard

/-- THE TIED CARD OF 'causewaylaw23.NetmapChain'. -/
def netmapChainCard : Claim7 := { stood := { row := netmapChainRow, standIns := [], harness := (true, "e0334a705c368339259ff24536afd121c8b5cea6c26ed92632cdf79044599a53"), looks := true }, kinds := [], alts := [], laidByText := true, laidKinds := [.data, .data, .data, .data, .sentinel, .sentinel, .pinned], laidTests := true, laidLooks := .later }
def NetmapChainCardSaid : Prop := Claim7.holds Tryz.pinned (.plain (OpenSpec.ofChange netmapChainSpec)) netmapChainCard

/-- THE TIED CARD OF 'causewaylaw23.NetmapSelf'. -/
def netmapSelfCard : Claim7 := { stood := { row := netmapSelfRow, standIns := [], harness := (true, "e0334a705c368339259ff24536afd121c8b5cea6c26ed92632cdf79044599a53"), looks := true }, kinds := [], alts := [], laidByText := true, laidKinds := [.data, .data, .data, .data, .sentinel, .sentinel, .pinned], laidTests := true, laidLooks := .later }
def NetmapSelfCardSaid : Prop := Claim7.holds Tryz.pinned (.plain (OpenSpec.ofChange netmapSelfSpec)) netmapSelfCard

/-- THE TIED CARD OF 'causewaylaw23.NetmapPacks'. -/
def netmapPacksCard : Claim7 := { stood := { row := netmapPacksRow, standIns := [], harness := (true, "e0334a705c368339259ff24536afd121c8b5cea6c26ed92632cdf79044599a53"), looks := true }, kinds := [], alts := [], laidByText := true, laidKinds := [.data, .data, .data, .data, .sentinel, .sentinel, .pinned], laidTests := true, laidLooks := .later }
def NetmapPacksCardSaid : Prop := Claim7.holds Tryz.pinned (.plain (OpenSpec.ofChange netmapPacksSpec)) netmapPacksCard

/-- THE TIED CARD OF 'causewaylaw23.NetmapDeltas'. -/
def netmapDeltasCard : Claim7 := { stood := { row := netmapDeltasRow, standIns := [], harness := (true, "e0334a705c368339259ff24536afd121c8b5cea6c26ed92632cdf79044599a53"), looks := true }, kinds := [], alts := [], laidByText := true, laidKinds := [.data, .data, .data, .data, .sentinel, .sentinel, .pinned], laidTests := true, laidLooks := .later }
def NetmapDeltasCardSaid : Prop := Claim7.holds Tryz.pinned (.plain (OpenSpec.ofChange netmapDeltasSpec)) netmapDeltasCard

/-- THE TIED CARD OF 'causewaylaw23.NetmapKnown'. -/
def netmapKnownCard : Claim7 := { stood := { row := netmapKnownRow, standIns := [], harness := (true, "e0334a705c368339259ff24536afd121c8b5cea6c26ed92632cdf79044599a53"), looks := true }, kinds := [], alts := [], laidByText := true, laidKinds := [.data, .data, .data, .data, .sentinel, .sentinel, .pinned], laidTests := true, laidLooks := .later }
def NetmapKnownCardSaid : Prop := Claim7.holds Tryz.pinned (.plain (OpenSpec.ofChange netmapKnownSpec)) netmapKnownCard

/-- THE TIED CARD OF 'causewaylaw23.NetmapBack'. -/
def netmapBackCard : Claim7 := { stood := { row := netmapBackRow, standIns := [], harness := (true, "e0334a705c368339259ff24536afd121c8b5cea6c26ed92632cdf79044599a53"), looks := true }, kinds := [], alts := [], laidByText := true, laidKinds := [.data, .data, .data, .data, .sentinel, .sentinel, .pinned], laidTests := true, laidLooks := .later }
def NetmapBackCardSaid : Prop := Claim7.holds Tryz.pinned (.plain (OpenSpec.ofChange netmapBackSpec)) netmapBackCard

/-- THE SECOND FORM's CARD OF 'causewaylaw23.NetmapOf'. -/
def netmapOfUptoCard : Claim7 := { stood := { row := netmapOfUptoRow, standIns := [], harness := (true, "e0334a705c368339259ff24536afd121c8b5cea6c26ed92632cdf79044599a53"), looks := true }, kinds := [], alts := [], laidByText := true, laidKinds := [.data, .data, .data, .data, .sentinel, .sentinel, .pinned], laidTests := true, laidLooks := .later }
def NetmapOfUptoCardSaid : Prop := Claim7.holds Tryz.pinned (.plain (OpenSpec.upto netmapOfSpec)) netmapOfUptoCard

/-- THE SECOND FORM's CARD OF 'causewaylaw23.NetmapJust'. -/
def netmapJustUptoCard : Claim7 := { stood := { row := netmapJustUptoRow, standIns := [], harness := (true, "e0334a705c368339259ff24536afd121c8b5cea6c26ed92632cdf79044599a53"), looks := true }, kinds := [], alts := [], laidByText := true, laidKinds := [.data, .data, .data, .data, .sentinel, .sentinel, .pinned], laidTests := true, laidLooks := .later }
def NetmapJustUptoCardSaid : Prop := Claim7.holds Tryz.pinned (.plain (OpenSpec.upto netmapJustSpec)) netmapJustUptoCard

/-- THE SECOND FORM's CARD OF 'causewaylaw23.NetmapBoth'. -/
def netmapBothUptoCard : Claim7 := { stood := { row := netmapBothUptoRow, standIns := [], harness := (true, "e0334a705c368339259ff24536afd121c8b5cea6c26ed92632cdf79044599a53"), looks := true }, kinds := [], alts := [], laidByText := true, laidKinds := [.data, .data, .data, .data, .sentinel, .sentinel, .pinned], laidTests := true, laidLooks := .later }
def NetmapBothUptoCardSaid : Prop := Claim7.holds Tryz.pinned (.plain (OpenSpec.upto netmapBothSpec)) netmapBothUptoCard

/-- THE SECOND FORM's CARD OF 'causewaylaw23.NetmapDiff'. -/
def netmapDiffUptoCard : Claim7 := { stood := { row := netmapDiffUptoRow, standIns := [], harness := (true, "e0334a705c368339259ff24536afd121c8b5cea6c26ed92632cdf79044599a53"), looks := true }, kinds := [], alts := [], laidByText := true, laidKinds := [.data, .data, .data, .data, .sentinel, .sentinel, .pinned], laidTests := true, laidLooks := .later }
def NetmapDiffUptoCardSaid : Prop := Claim7.holds Tryz.pinned (.plain (OpenSpec.upto netmapDiffSpec)) netmapDiffUptoCard

/-- THE SECOND FORM's CARD OF 'causewaylaw23.NetmapArrives'. -/
def netmapArrivesUptoCard : Claim7 := { stood := { row := netmapArrivesUptoRow, standIns := [], harness := (true, "e0334a705c368339259ff24536afd121c8b5cea6c26ed92632cdf79044599a53"), looks := true }, kinds := [], alts := [], laidByText := true, laidKinds := [.data, .data, .data, .data, .sentinel, .sentinel, .pinned], laidTests := true, laidLooks := .later }
def NetmapArrivesUptoCardSaid : Prop := Claim7.holds Tryz.pinned (.plain (OpenSpec.upto netmapArrivesSpec)) netmapArrivesUptoCard

/-- THE SECOND FORM's CARD OF 'causewaylaw23.NetmapChain'. -/
def netmapChainUptoCard : Claim7 := { stood := { row := netmapChainUptoRow, standIns := [], harness := (true, "e0334a705c368339259ff24536afd121c8b5cea6c26ed92632cdf79044599a53"), looks := true }, kinds := [], alts := [], laidByText := true, laidKinds := [.data, .data, .data, .data, .sentinel, .sentinel, .pinned], laidTests := true, laidLooks := .later }
def NetmapChainUptoCardSaid : Prop := Claim7.holds Tryz.pinned (.plain (OpenSpec.upto netmapChainSpec)) netmapChainUptoCard

/-- THE SECOND FORM's CARD OF 'causewaylaw23.NetmapSelf'. -/
def netmapSelfUptoCard : Claim7 := { stood := { row := netmapSelfUptoRow, standIns := [], harness := (true, "e0334a705c368339259ff24536afd121c8b5cea6c26ed92632cdf79044599a53"), looks := true }, kinds := [], alts := [], laidByText := true, laidKinds := [.data, .data, .data, .data, .sentinel, .sentinel, .pinned], laidTests := true, laidLooks := .later }
def NetmapSelfUptoCardSaid : Prop := Claim7.holds Tryz.pinned (.plain (OpenSpec.upto netmapSelfSpec)) netmapSelfUptoCard

/-- THE SECOND FORM's CARD OF 'causewaylaw23.NetmapPacks'. -/
def netmapPacksUptoCard : Claim7 := { stood := { row := netmapPacksUptoRow, standIns := [], harness := (true, "e0334a705c368339259ff24536afd121c8b5cea6c26ed92632cdf79044599a53"), looks := true }, kinds := [], alts := [], laidByText := true, laidKinds := [.data, .data, .data, .data, .sentinel, .sentinel, .pinned], laidTests := true, laidLooks := .later }
def NetmapPacksUptoCardSaid : Prop := Claim7.holds Tryz.pinned (.plain (OpenSpec.upto netmapPacksSpec)) netmapPacksUptoCard

/-- THE SECOND FORM's CARD OF 'causewaylaw23.NetmapDeltas'. -/
def netmapDeltasUptoCard : Claim7 := { stood := { row := netmapDeltasUptoRow, standIns := [], harness := (true, "e0334a705c368339259ff24536afd121c8b5cea6c26ed92632cdf79044599a53"), looks := true }, kinds := [], alts := [], laidByText := true, laidKinds := [.data, .data, .data, .data, .sentinel, .sentinel, .pinned], laidTests := true, laidLooks := .later }
def NetmapDeltasUptoCardSaid : Prop := Claim7.holds Tryz.pinned (.plain (OpenSpec.upto netmapDeltasSpec)) netmapDeltasUptoCard

/-- THE SECOND FORM's CARD OF 'causewaylaw23.NetmapKnown'. -/
def netmapKnownUptoCard : Claim7 := { stood := { row := netmapKnownUptoRow, standIns := [], harness := (true, "e0334a705c368339259ff24536afd121c8b5cea6c26ed92632cdf79044599a53"), looks := true }, kinds := [], alts := [], laidByText := true, laidKinds := [.data, .data, .data, .data, .sentinel, .sentinel, .pinned], laidTests := true, laidLooks := .later }
def NetmapKnownUptoCardSaid : Prop := Claim7.holds Tryz.pinned (.plain (OpenSpec.upto netmapKnownSpec)) netmapKnownUptoCard

/-- THE SECOND FORM's CARD OF 'causewaylaw23.NetmapBack'. -/
def netmapBackUptoCard : Claim7 := { stood := { row := netmapBackUptoRow, standIns := [], harness := (true, "e0334a705c368339259ff24536afd121c8b5cea6c26ed92632cdf79044599a53"), looks := true }, kinds := [], alts := [], laidByText := true, laidKinds := [.data, .data, .data, .data, .sentinel, .sentinel, .pinned], laidTests := true, laidLooks := .later }
def NetmapBackUptoCardSaid : Prop := Claim7.holds Tryz.pinned (.plain (OpenSpec.upto netmapBackSpec)) netmapBackUptoCard
end Rows
end Go.Proofs.YtmgbaefgcdglpaaGreatDoor
