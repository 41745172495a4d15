/-
  DERIVED. GIVEN WITH THE SEED: THE CARDS: each row of YtglnnlpkhjijhaaDoorRows.lean that lists a variable, with what it lists TIED to the program's text (the seventh form; the later family's looks); each row that meets fmt, with fmt's text TOLD by the authors' own Lean function (tested against real Go, not proved from fmt's source: count such statements apart). THE CARD IS WHAT COUNTS. Prove the row's statement (the work); the ties are given (YtglnnlpkhjijhaaDoorTie.lean); close each card by the builder's one call (the guide's Derived/Test/ToyasCard.lean, 'card_holds'). Laid BY PROGRAM, IN A SANDBOX (cutbox-door.mjs). By AI agents, Wed Nov 11 2026. No macro, syntax, notation, axiom, sorry.
-/
import Derived.Test.YtglnnlpkhjijhaaDoorRows
import GoSem.ClaimSeven
namespace Go.Proofs.YtglnnlpkhjijhaaDoor
namespace Rows

/-- THE TIED CARD OF 'causewaylaw20.AclAllows'. -/
def aclAllowsCard : Claim7 := { stood := { row := aclAllowsRow, standIns := [], harness := (true, "13d1094452e1657ffaadb1aef3a7a6832ce6096e0a4255934d5d91f07ccab1d0"), looks := true }, kinds := [], alts := [], laidByText := true, laidKinds := [.data, .data, .data, .data, .sentinel, .sentinel, .pinned], laidTests := true, laidLooks := .later }
def AclAllowsCardSaid : Prop := Claim7.holds Tryd.pinned (.plain (OpenSpec.ofChange aclAllowsSpec)) aclAllowsCard

/-- THE TIED CARD OF 'causewaylaw20.AclSpans'. -/
def aclSpansCard : Claim7 := { stood := { row := aclSpansRow, standIns := [], harness := (true, "13d1094452e1657ffaadb1aef3a7a6832ce6096e0a4255934d5d91f07ccab1d0"), looks := true }, kinds := [], alts := [], laidByText := true, laidKinds := [.data, .data, .data, .data, .sentinel, .sentinel, .pinned], laidTests := true, laidLooks := .later }
def AclSpansCardSaid : Prop := Claim7.holds Tryd.pinned (.plain (OpenSpec.ofChange aclSpansSpec)) aclSpansCard

/-- THE TIED CARD OF 'causewaylaw20.AclInside'. -/
def aclInsideCard : Claim7 := { stood := { row := aclInsideRow, standIns := [], harness := (true, "13d1094452e1657ffaadb1aef3a7a6832ce6096e0a4255934d5d91f07ccab1d0"), looks := true }, kinds := [], alts := [], laidByText := true, laidKinds := [.data, .data, .data, .data, .sentinel, .sentinel, .pinned], laidTests := true, laidLooks := .later }
def AclInsideCardSaid : Prop := Claim7.holds Tryd.pinned (.plain (OpenSpec.ofChange aclInsideSpec)) aclInsideCard

/-- THE TIED CARD OF 'causewaylaw20.AclRising'. -/
def aclRisingCard : Claim7 := { stood := { row := aclRisingRow, standIns := [], harness := (true, "13d1094452e1657ffaadb1aef3a7a6832ce6096e0a4255934d5d91f07ccab1d0"), looks := true }, kinds := [], alts := [], laidByText := true, laidKinds := [.data, .data, .data, .data, .sentinel, .sentinel, .pinned], laidTests := true, laidLooks := .later }
def AclRisingCardSaid : Prop := Claim7.holds Tryd.pinned (.plain (OpenSpec.ofChange aclRisingSpec)) aclRisingCard

/-- THE TIED CARD OF 'causewaylaw20.AclBehind'. -/
def aclBehindCard : Claim7 := { stood := { row := aclBehindRow, standIns := [], harness := (true, "13d1094452e1657ffaadb1aef3a7a6832ce6096e0a4255934d5d91f07ccab1d0"), looks := true }, kinds := [], alts := [], laidByText := true, laidKinds := [.data, .data, .data, .data, .sentinel, .sentinel, .pinned], laidTests := true, laidLooks := .later }
def AclBehindCardSaid : Prop := Claim7.holds Tryd.pinned (.plain (OpenSpec.ofChange aclBehindSpec)) aclBehindCard

/-- THE TIED CARD OF 'causewaylaw20.AclFirst'. -/
def aclFirstCard : Claim7 := { stood := { row := aclFirstRow, standIns := [], harness := (true, "13d1094452e1657ffaadb1aef3a7a6832ce6096e0a4255934d5d91f07ccab1d0"), looks := true }, kinds := [], alts := [], laidByText := true, laidKinds := [.data, .data, .data, .data, .sentinel, .sentinel, .pinned], laidTests := true, laidLooks := .later }
def AclFirstCardSaid : Prop := Claim7.holds Tryd.pinned (.plain (OpenSpec.ofChange aclFirstSpec)) aclFirstCard

/-- THE TIED CARD OF 'causewaylaw20.AclClosed'. -/
def aclClosedCard : Claim7 := { stood := { row := aclClosedRow, standIns := [], harness := (true, "13d1094452e1657ffaadb1aef3a7a6832ce6096e0a4255934d5d91f07ccab1d0"), looks := true }, kinds := [], alts := [], laidByText := true, laidKinds := [.data, .data, .data, .data, .sentinel, .sentinel, .pinned], laidTests := true, laidLooks := .later }
def AclClosedCardSaid : Prop := Claim7.holds Tryd.pinned (.plain (OpenSpec.ofChange aclClosedSpec)) aclClosedCard

/-- THE SECOND FORM's CARD OF 'causewaylaw20.AclAllows'. -/
def aclAllowsUptoCard : Claim7 := { stood := { row := aclAllowsUptoRow, standIns := [], harness := (true, "13d1094452e1657ffaadb1aef3a7a6832ce6096e0a4255934d5d91f07ccab1d0"), looks := true }, kinds := [], alts := [], laidByText := true, laidKinds := [.data, .data, .data, .data, .sentinel, .sentinel, .pinned], laidTests := true, laidLooks := .later }
def AclAllowsUptoCardSaid : Prop := Claim7.holds Tryd.pinned (.plain (OpenSpec.upto aclAllowsSpec)) aclAllowsUptoCard

/-- THE SECOND FORM's CARD OF 'causewaylaw20.AclSpans'. -/
def aclSpansUptoCard : Claim7 := { stood := { row := aclSpansUptoRow, standIns := [], harness := (true, "13d1094452e1657ffaadb1aef3a7a6832ce6096e0a4255934d5d91f07ccab1d0"), looks := true }, kinds := [], alts := [], laidByText := true, laidKinds := [.data, .data, .data, .data, .sentinel, .sentinel, .pinned], laidTests := true, laidLooks := .later }
def AclSpansUptoCardSaid : Prop := Claim7.holds Tryd.pinned (.plain (OpenSpec.upto aclSpansSpec)) aclSpansUptoCard

/-- THE SECOND FORM's CARD OF 'causewaylaw20.AclInside'. -/
def aclInsideUptoCard : Claim7 := { stood := { row := aclInsideUptoRow, standIns := [], harness := (true, "13d1094452e1657ffaadb1aef3a7a6832ce6096e0a4255934d5d91f07ccab1d0"), looks := true }, kinds := [], alts := [], laidByText := true, laidKinds := [.data, .data, .data, .data, .sentinel, .sentinel, .pinned], laidTests := true, laidLooks := .later }
def AclInsideUptoCardSaid : Prop := Claim7.holds Tryd.pinned (.plain (OpenSpec.upto aclInsideSpec)) aclInsideUptoCard

/-- THE SECOND FORM's CARD OF 'causewaylaw20.AclRising'. -/
def aclRisingUptoCard : Claim7 := { stood := { row := aclRisingUptoRow, standIns := [], harness := (true, "13d1094452e1657ffaadb1aef3a7a6832ce6096e0a4255934d5d91f07ccab1d0"), looks := true }, kinds := [], alts := [], laidByText := true, laidKinds := [.data, .data, .data, .data, .sentinel, .sentinel, .pinned], laidTests := true, laidLooks := .later }
def AclRisingUptoCardSaid : Prop := Claim7.holds Tryd.pinned (.plain (OpenSpec.upto aclRisingSpec)) aclRisingUptoCard

/-- THE SECOND FORM's CARD OF 'causewaylaw20.AclBehind'. -/
def aclBehindUptoCard : Claim7 := { stood := { row := aclBehindUptoRow, standIns := [], harness := (true, "13d1094452e1657ffaadb1aef3a7a6832ce6096e0a4255934d5d91f07ccab1d0"), looks := true }, kinds := [], alts := [], laidByText := true, laidKinds := [.data, .data, .data, .data, .sentinel, .sentinel, .pinned], laidTests := true, laidLooks := .later }
def AclBehindUptoCardSaid : Prop := Claim7.holds Tryd.pinned (.plain (OpenSpec.upto aclBehindSpec)) aclBehindUptoCard

/-- THE SECOND FORM's CARD OF 'causewaylaw20.AclFirst'. -/
def aclFirstUptoCard : Claim7 := { stood := { row := aclFirstUptoRow, standIns := [], harness := (true, "13d1094452e1657ffaadb1aef3a7a6832ce6096e0a4255934d5d91f07ccab1d0"), looks := true }, kinds := [], alts := [], laidByText := true, laidKinds := [.data, .data, .data, .data, .sentinel, .sentinel, .pinned], laidTests := true, laidLooks := .later }
def AclFirstUptoCardSaid : Prop := Claim7.holds Tryd.pinned (.plain (OpenSpec.upto aclFirstSpec)) aclFirstUptoCard

/-- THE SECOND FORM's CARD OF 'causewaylaw20.AclClosed'. -/
def aclClosedUptoCard : Claim7 := { stood := { row := aclClosedUptoRow, standIns := [], harness := (true, "13d1094452e1657ffaadb1aef3a7a6832ce6096e0a4255934d5d91f07ccab1d0"), looks := true }, kinds := [], alts := [], laidByText := true, laidKinds := [.data, .data, .data, .data, .sentinel, .sentinel, .pinned], laidTests := true, laidLooks := .later }
def AclClosedUptoCardSaid : Prop := Claim7.holds Tryd.pinned (.plain (OpenSpec.upto aclClosedSpec)) aclClosedUptoCard
end Rows
end Go.Proofs.YtglnnlpkhjijhaaDoor
