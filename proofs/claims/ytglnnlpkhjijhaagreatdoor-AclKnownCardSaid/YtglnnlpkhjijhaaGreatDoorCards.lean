/-
  DERIVED. GIVEN WITH THE SEED: THE CARDS: each row of YtglnnlpkhjijhaaGreatDoorRows.lean that lists a variable, with what it lists TIED to the program's text (the seventh form; the later family's looks); each row that meets fmt, with fmt's text TOLD by the authors' own Lean function (tested against real Go, not proved from fmt's source: count such statements apart). THE CARD IS WHAT COUNTS. Prove the row's statement (the work); the ties are given (YtglnnlpkhjijhaaGreatDoorTie.lean); close each card by the builder's one call (the guide's Derived/Test/ToyasCard.lean, 'card_holds'). Laid BY PROGRAM, IN A SANDBOX (cutbox-door.mjs). By AI agents, Wed Nov 11 2026. No macro, syntax, notation, axiom, sorry.
-/
import Derived.Test.YtglnnlpkhjijhaaGreatDoorRows
import GoSem.ClaimSeven
namespace Go.Proofs.YtglnnlpkhjijhaaGreatDoor
namespace Rows

/-- THE TIED CARD OF 'causewaylaw20.AclParse'. -/
def aclParseCard : Claim7 := { stood := { row := aclParseRow, standIns := [], harness := (true, "14e2fa3e405004a06ebcf884a4265a3091d5b9b0d1d9014d2a6f4174b786cad9"), looks := true }, kinds := [], alts := [], laidByText := true, laidKinds := [.data, .data, .data, .data, .sentinel, .sentinel, .pinned], laidTests := true, laidLooks := .later }
def AclParseCardSaid : Prop := Claim7.holds Tryz.pinned (.plain (OpenSpec.ofChange aclParseSpec)) aclParseCard

/-- THE TIED CARD OF 'causewaylaw20.AclText'. -/
def aclTextCard : Claim7 := { stood := { row := aclTextRow, standIns := [], harness := (true, "14e2fa3e405004a06ebcf884a4265a3091d5b9b0d1d9014d2a6f4174b786cad9"), looks := true }, kinds := [], alts := [], laidByText := true, laidKinds := [.data, .data, .data, .data, .sentinel, .sentinel, .pinned], laidTests := true, laidLooks := .later }
def AclTextCardSaid : Prop := Claim7.holds Tryz.pinned (.plain (OpenSpec.ofChange aclTextSpec)) aclTextCard

/-- THE TIED CARD OF 'causewaylaw20.AclBack'. -/
def aclBackCard : Claim7 := { stood := { row := aclBackRow, standIns := [], harness := (true, "14e2fa3e405004a06ebcf884a4265a3091d5b9b0d1d9014d2a6f4174b786cad9"), looks := true }, kinds := [], alts := [], laidByText := true, laidKinds := [.data, .data, .data, .data, .sentinel, .sentinel, .pinned], laidTests := true, laidLooks := .later }
def AclBackCardSaid : Prop := Claim7.holds Tryz.pinned (.plain (OpenSpec.ofChange aclBackSpec)) aclBackCard

/-- THE TIED CARD OF 'causewaylaw20.AclAgain'. -/
def aclAgainCard : Claim7 := { stood := { row := aclAgainRow, standIns := [], harness := (true, "14e2fa3e405004a06ebcf884a4265a3091d5b9b0d1d9014d2a6f4174b786cad9"), looks := true }, kinds := [], alts := [], laidByText := true, laidKinds := [.data, .data, .data, .data, .sentinel, .sentinel, .pinned], laidTests := true, laidLooks := .later }
def AclAgainCardSaid : Prop := Claim7.holds Tryz.pinned (.plain (OpenSpec.ofChange aclAgainSpec)) aclAgainCard

/-- THE TIED CARD OF 'causewaylaw20.AclKnown'. -/
def aclKnownCard : Claim7 := { stood := { row := aclKnownRow, standIns := [], harness := (true, "14e2fa3e405004a06ebcf884a4265a3091d5b9b0d1d9014d2a6f4174b786cad9"), looks := true }, kinds := [], alts := [], laidByText := true, laidKinds := [.data, .data, .data, .data, .sentinel, .sentinel, .pinned], laidTests := true, laidLooks := .later }
def AclKnownCardSaid : Prop := Claim7.holds Tryz.pinned (.plain (OpenSpec.ofChange aclKnownSpec)) aclKnownCard

/-- THE SECOND FORM's CARD OF 'causewaylaw20.AclParse'. -/
def aclParseUptoCard : Claim7 := { stood := { row := aclParseUptoRow, standIns := [], harness := (true, "14e2fa3e405004a06ebcf884a4265a3091d5b9b0d1d9014d2a6f4174b786cad9"), looks := true }, kinds := [], alts := [], laidByText := true, laidKinds := [.data, .data, .data, .data, .sentinel, .sentinel, .pinned], laidTests := true, laidLooks := .later }
def AclParseUptoCardSaid : Prop := Claim7.holds Tryz.pinned (.plain (OpenSpec.upto aclParseSpec)) aclParseUptoCard

/-- THE SECOND FORM's CARD OF 'causewaylaw20.AclText'. -/
def aclTextUptoCard : Claim7 := { stood := { row := aclTextUptoRow, standIns := [], harness := (true, "14e2fa3e405004a06ebcf884a4265a3091d5b9b0d1d9014d2a6f4174b786cad9"), looks := true }, kinds := [], alts := [], laidByText := true, laidKinds := [.data, .data, .data, .data, .sentinel, .sentinel, .pinned], laidTests := true, laidLooks := .later }
def AclTextUptoCardSaid : Prop := Claim7.holds Tryz.pinned (.plain (OpenSpec.upto aclTextSpec)) aclTextUptoCard

/-- THE SECOND FORM's CARD OF 'causewaylaw20.AclBack'. -/
def aclBackUptoCard : Claim7 := { stood := { row := aclBackUptoRow, standIns := [], harness := (true, "14e2fa3e405004a06ebcf884a4265a3091d5b9b0d1d9014d2a6f4174b786cad9"), looks := true }, kinds := [], alts := [], laidByText := true, laidKinds := [.data, .data, .data, .data, .sentinel, .sentinel, .pinned], laidTests := true, laidLooks := .later }
def AclBackUptoCardSaid : Prop := Claim7.holds Tryz.pinned (.plain (OpenSpec.upto aclBackSpec)) aclBackUptoCard

/-- THE SECOND FORM's CARD OF 'causewaylaw20.AclAgain'. -/
def aclAgainUptoCard : Claim7 := { stood := { row := aclAgainUptoRow, standIns := [], harness := (true, "14e2fa3e405004a06ebcf884a4265a3091d5b9b0d1d9014d2a6f4174b786cad9"), looks := true }, kinds := [], alts := [], laidByText := true, laidKinds := [.data, .data, .data, .data, .sentinel, .sentinel, .pinned], laidTests := true, laidLooks := .later }
def AclAgainUptoCardSaid : Prop := Claim7.holds Tryz.pinned (.plain (OpenSpec.upto aclAgainSpec)) aclAgainUptoCard

/-- THE SECOND FORM's CARD OF 'causewaylaw20.AclKnown'. -/
def aclKnownUptoCard : Claim7 := { stood := { row := aclKnownUptoRow, standIns := [], harness := (true, "14e2fa3e405004a06ebcf884a4265a3091d5b9b0d1d9014d2a6f4174b786cad9"), looks := true }, kinds := [], alts := [], laidByText := true, laidKinds := [.data, .data, .data, .data, .sentinel, .sentinel, .pinned], laidTests := true, laidLooks := .later }
def AclKnownUptoCardSaid : Prop := Claim7.holds Tryz.pinned (.plain (OpenSpec.upto aclKnownSpec)) aclKnownUptoCard
end Rows
end Go.Proofs.YtglnnlpkhjijhaaGreatDoor
