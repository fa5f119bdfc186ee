/-
  DERIVED. GIVEN WITH THE SEED: THE CARDS: each row of YtdcjacgaakpejaaDoorRows.lean that lists a variable, with what it lists TIED to the program's text (the seventh form; the later family's looks); each row that meets fmt, with fmt's text TOLD by the authors' own Lean function (tested against real Go, not proved from fmt's source: count such statements apart). THE CARD IS WHAT COUNTS. Prove the row's statement (the work); the ties are given (YtdcjacgaakpejaaDoorTie.lean); close each card by the builder's one call (the guide's Derived/Test/ToyasCard.lean, 'card_holds'). Laid BY PROGRAM, IN A SANDBOX (cutbox-door.mjs). By AI agents, Wed Nov 11 2026. No macro, syntax, notation, axiom, sorry.
-/
import Derived.Test.YtdcjacgaakpejaaDoorRows
import GoSem.ClaimSeven
namespace Go.Proofs.YtdcjacgaakpejaaDoor
namespace Rows

/-- THE TIED CARD OF 'laws.FnExactLeaseHand'. -/
def fnExactLeaseHandCard : Claim7 := { stood := { row := fnExactLeaseHandRow, standIns := [], harness := (true, "26dbefd124290bbaf80768e8a6bb7c8b1e45a3ad605eb9697aba4f984fb370b5"), looks := true }, kinds := [], alts := [], laidByText := true, laidKinds := [.sentinel, .sentinel], laidTests := true, laidLooks := .later }
def FnExactLeaseHandCardSaid : Prop := Claim7.holds Tryd.pinned (.plain (OpenSpec.ofChange fnExactLeaseHandSpec)) fnExactLeaseHandCard

/-- THE TIED CARD OF 'laws.FnHandCount'. -/
def fnHandCountCard : Claim7 := { stood := { row := fnHandCountRow, standIns := [], harness := (true, "26dbefd124290bbaf80768e8a6bb7c8b1e45a3ad605eb9697aba4f984fb370b5"), looks := true }, kinds := [], alts := [], laidByText := true, laidKinds := [.sentinel, .sentinel], laidTests := true, laidLooks := .later }
def FnHandCountCardSaid : Prop := Claim7.holds Tryd.pinned (.plain (OpenSpec.ofChange fnHandCountSpec)) fnHandCountCard

/-- THE TIED CARD OF 'laws.FnHandRefused'. -/
def fnHandRefusedCard : Claim7 := { stood := { row := fnHandRefusedRow, standIns := [], harness := (true, "26dbefd124290bbaf80768e8a6bb7c8b1e45a3ad605eb9697aba4f984fb370b5"), looks := true }, kinds := [], alts := [], laidByText := true, laidKinds := [.sentinel, .sentinel], laidTests := true, laidLooks := .later }
def FnHandRefusedCardSaid : Prop := Claim7.holds Tryd.pinned (.plain (OpenSpec.ofChange fnHandRefusedSpec)) fnHandRefusedCard

/-- THE TIED CARD OF 'laws.FnHandKeys'. -/
def fnHandKeysCard : Claim7 := { stood := { row := fnHandKeysRow, standIns := [], harness := (true, "26dbefd124290bbaf80768e8a6bb7c8b1e45a3ad605eb9697aba4f984fb370b5"), looks := true }, kinds := [], alts := [], laidByText := true, laidKinds := [.sentinel, .sentinel], laidTests := true, laidLooks := .later }
def FnHandKeysCardSaid : Prop := Claim7.holds Tryd.pinned (.plain (OpenSpec.ofChange fnHandKeysSpec)) fnHandKeysCard

/-- THE TIED CARD OF 'laws.FnHandOwner'. -/
def fnHandOwnerCard : Claim7 := { stood := { row := fnHandOwnerRow, standIns := [], harness := (true, "26dbefd124290bbaf80768e8a6bb7c8b1e45a3ad605eb9697aba4f984fb370b5"), looks := true }, kinds := [], alts := [], laidByText := true, laidKinds := [.sentinel, .sentinel], laidTests := true, laidLooks := .later }
def FnHandOwnerCardSaid : Prop := Claim7.holds Tryd.pinned (.plain (OpenSpec.ofChange fnHandOwnerSpec)) fnHandOwnerCard

/-- THE TIED CARD OF 'laws.FnHandBack'. -/
def fnHandBackCard : Claim7 := { stood := { row := fnHandBackRow, standIns := [], harness := (true, "26dbefd124290bbaf80768e8a6bb7c8b1e45a3ad605eb9697aba4f984fb370b5"), looks := true }, kinds := [], alts := [], laidByText := true, laidKinds := [.sentinel, .sentinel], laidTests := true, laidLooks := .later }
def FnHandBackCardSaid : Prop := Claim7.holds Tryd.pinned (.plain (OpenSpec.ofChange fnHandBackSpec)) fnHandBackCard

/-- THE TIED CARD OF 'laws.FnHandSelf'. -/
def fnHandSelfCard : Claim7 := { stood := { row := fnHandSelfRow, standIns := [], harness := (true, "26dbefd124290bbaf80768e8a6bb7c8b1e45a3ad605eb9697aba4f984fb370b5"), looks := true }, kinds := [], alts := [], laidByText := true, laidKinds := [.sentinel, .sentinel], laidTests := true, laidLooks := .later }
def FnHandSelfCardSaid : Prop := Claim7.holds Tryd.pinned (.plain (OpenSpec.ofChange fnHandSelfSpec)) fnHandSelfCard

/-- THE SECOND FORM's CARD OF 'laws.FnExactLeaseHand'. -/
def fnExactLeaseHandUptoCard : Claim7 := { stood := { row := fnExactLeaseHandUptoRow, standIns := [], harness := (true, "26dbefd124290bbaf80768e8a6bb7c8b1e45a3ad605eb9697aba4f984fb370b5"), looks := true }, kinds := [], alts := [], laidByText := true, laidKinds := [.sentinel, .sentinel], laidTests := true, laidLooks := .later }
def FnExactLeaseHandUptoCardSaid : Prop := Claim7.holds Tryd.pinned (.plain (OpenSpec.upto fnExactLeaseHandSpec)) fnExactLeaseHandUptoCard

/-- THE SECOND FORM's CARD OF 'laws.FnHandCount'. -/
def fnHandCountUptoCard : Claim7 := { stood := { row := fnHandCountUptoRow, standIns := [], harness := (true, "26dbefd124290bbaf80768e8a6bb7c8b1e45a3ad605eb9697aba4f984fb370b5"), looks := true }, kinds := [], alts := [], laidByText := true, laidKinds := [.sentinel, .sentinel], laidTests := true, laidLooks := .later }
def FnHandCountUptoCardSaid : Prop := Claim7.holds Tryd.pinned (.plain (OpenSpec.upto fnHandCountSpec)) fnHandCountUptoCard

/-- THE SECOND FORM's CARD OF 'laws.FnHandRefused'. -/
def fnHandRefusedUptoCard : Claim7 := { stood := { row := fnHandRefusedUptoRow, standIns := [], harness := (true, "26dbefd124290bbaf80768e8a6bb7c8b1e45a3ad605eb9697aba4f984fb370b5"), looks := true }, kinds := [], alts := [], laidByText := true, laidKinds := [.sentinel, .sentinel], laidTests := true, laidLooks := .later }
def FnHandRefusedUptoCardSaid : Prop := Claim7.holds Tryd.pinned (.plain (OpenSpec.upto fnHandRefusedSpec)) fnHandRefusedUptoCard

/-- THE SECOND FORM's CARD OF 'laws.FnHandKeys'. -/
def fnHandKeysUptoCard : Claim7 := { stood := { row := fnHandKeysUptoRow, standIns := [], harness := (true, "26dbefd124290bbaf80768e8a6bb7c8b1e45a3ad605eb9697aba4f984fb370b5"), looks := true }, kinds := [], alts := [], laidByText := true, laidKinds := [.sentinel, .sentinel], laidTests := true, laidLooks := .later }
def FnHandKeysUptoCardSaid : Prop := Claim7.holds Tryd.pinned (.plain (OpenSpec.upto fnHandKeysSpec)) fnHandKeysUptoCard

/-- THE SECOND FORM's CARD OF 'laws.FnHandOwner'. -/
def fnHandOwnerUptoCard : Claim7 := { stood := { row := fnHandOwnerUptoRow, standIns := [], harness := (true, "26dbefd124290bbaf80768e8a6bb7c8b1e45a3ad605eb9697aba4f984fb370b5"), looks := true }, kinds := [], alts := [], laidByText := true, laidKinds := [.sentinel, .sentinel], laidTests := true, laidLooks := .later }
def FnHandOwnerUptoCardSaid : Prop := Claim7.holds Tryd.pinned (.plain (OpenSpec.upto fnHandOwnerSpec)) fnHandOwnerUptoCard

/-- THE SECOND FORM's CARD OF 'laws.FnHandBack'. -/
def fnHandBackUptoCard : Claim7 := { stood := { row := fnHandBackUptoRow, standIns := [], harness := (true, "26dbefd124290bbaf80768e8a6bb7c8b1e45a3ad605eb9697aba4f984fb370b5"), looks := true }, kinds := [], alts := [], laidByText := true, laidKinds := [.sentinel, .sentinel], laidTests := true, laidLooks := .later }
def FnHandBackUptoCardSaid : Prop := Claim7.holds Tryd.pinned (.plain (OpenSpec.upto fnHandBackSpec)) fnHandBackUptoCard

/-- THE SECOND FORM's CARD OF 'laws.FnHandSelf'. -/
def fnHandSelfUptoCard : Claim7 := { stood := { row := fnHandSelfUptoRow, standIns := [], harness := (true, "26dbefd124290bbaf80768e8a6bb7c8b1e45a3ad605eb9697aba4f984fb370b5"), looks := true }, kinds := [], alts := [], laidByText := true, laidKinds := [.sentinel, .sentinel], laidTests := true, laidLooks := .later }
def FnHandSelfUptoCardSaid : Prop := Claim7.holds Tryd.pinned (.plain (OpenSpec.upto fnHandSelfSpec)) fnHandSelfUptoCard
end Rows
end Go.Proofs.YtdcjacgaakpejaaDoor
