/-
  DERIVED. GIVEN WITH THE SEED: THE CARDS: each row of YtcndknkdhlmdnaaGreatDoorRows.lean that lists a variable, with what it lists TIED to the program's text (the seventh form; the later family's looks); each row that meets fmt, with fmt's text TOLD by the authors' own Lean function (tested against real Go, not proved from fmt's source: count such statements apart). THE CARD IS WHAT COUNTS. Prove the row's statement (the work); the ties are given (YtcndknkdhlmdnaaGreatDoorTie.lean); close each card by the builder's one call (the guide's Derived/Test/ToyasCard.lean, 'card_holds'). Laid BY PROGRAM, IN A SANDBOX (cutbox-door.mjs). By AI agents, Wed Nov 11 2026. No macro, syntax, notation, axiom, sorry.
-/
import Derived.Test.YtcndknkdhlmdnaaGreatDoorRows
import GoSem.ClaimSeven
namespace Go.Proofs.YtcndknkdhlmdnaaGreatDoor
namespace Rows

/-- THE TIED CARD OF 'usancelaw09.ShowRights'. -/
def showRightsCard : Claim7 := { stood := { row := showRightsRow, standIns := [], harness := (true, "2a05dace89ef250ad561385c1d5c9b7974588a4c8f3f42255cfe1423610d2d65"), looks := true }, kinds := [], alts := [], laidByText := true, laidKinds := [.data, .data, .data, .data, .pinned], laidTests := true, laidLooks := .later }
def ShowRightsCardSaid : Prop := Claim7.holds Tryz.pinned (.plain (OpenSpec.ofChange showRightsSpec)) showRightsCard

/-- THE TIED CARD OF 'usancelaw09.ShowParts'. -/
def showPartsCard : Claim7 := { stood := { row := showPartsRow, standIns := [], harness := (true, "2a05dace89ef250ad561385c1d5c9b7974588a4c8f3f42255cfe1423610d2d65"), looks := true }, kinds := [], alts := [], laidByText := true, laidKinds := [.data, .data, .data, .data, .pinned], laidTests := true, laidLooks := .later }
def ShowPartsCardSaid : Prop := Claim7.holds Tryz.pinned (.plain (OpenSpec.ofChange showPartsSpec)) showPartsCard

/-- THE TIED CARD OF 'usancelaw09.ShowSames'. -/
def showSamesCard : Claim7 := { stood := { row := showSamesRow, standIns := [], harness := (true, "2a05dace89ef250ad561385c1d5c9b7974588a4c8f3f42255cfe1423610d2d65"), looks := true }, kinds := [], alts := [], laidByText := true, laidKinds := [.data, .data, .data, .data, .pinned], laidTests := true, laidLooks := .later }
def ShowSamesCardSaid : Prop := Claim7.holds Tryz.pinned (.plain (OpenSpec.ofChange showSamesSpec)) showSamesCard

/-- THE TIED CARD OF 'usancelaw09.ShowApart'. -/
def showApartCard : Claim7 := { stood := { row := showApartRow, standIns := [], harness := (true, "2a05dace89ef250ad561385c1d5c9b7974588a4c8f3f42255cfe1423610d2d65"), looks := true }, kinds := [], alts := [], laidByText := true, laidKinds := [.data, .data, .data, .data, .pinned], laidTests := true, laidLooks := .later }
def ShowApartCardSaid : Prop := Claim7.holds Tryz.pinned (.plain (OpenSpec.ofChange showApartSpec)) showApartCard

/-- THE TIED CARD OF 'usancelaw07.SyntaxBlanks'. -/
def syntaxBlanksCard : Claim7 := { stood := { row := syntaxBlanksRow, standIns := [], harness := (true, "2a05dace89ef250ad561385c1d5c9b7974588a4c8f3f42255cfe1423610d2d65"), looks := true }, kinds := [], alts := [], laidByText := true, laidKinds := [.data, .listed, .data, .pinned], laidTests := true, laidLooks := .later }
def SyntaxBlanksCardSaid : Prop := Claim7.holds Tryz.pinned (.plain (OpenSpec.ofChange syntaxBlanksSpec)) syntaxBlanksCard

/-- THE TIED CARD OF 'usancelaw07.SyntaxDeep'. -/
def syntaxDeepCard : Claim7 := { stood := { row := syntaxDeepRow, standIns := [], harness := (true, "2a05dace89ef250ad561385c1d5c9b7974588a4c8f3f42255cfe1423610d2d65"), looks := true }, kinds := [], alts := [], laidByText := true, laidKinds := [.data, .listed, .data, .pinned], laidTests := true, laidLooks := .later }
def SyntaxDeepCardSaid : Prop := Claim7.holds Tryz.pinned (.plain (OpenSpec.ofChange syntaxDeepSpec)) syntaxDeepCard

/-- THE TIED CARD OF 'usancelaw07.SyntaxWithin'. -/
def syntaxWithinCard : Claim7 := { stood := { row := syntaxWithinRow, standIns := [], harness := (true, "2a05dace89ef250ad561385c1d5c9b7974588a4c8f3f42255cfe1423610d2d65"), looks := true }, kinds := [], alts := [], laidByText := true, laidKinds := [.data, .listed, .data, .pinned], laidTests := true, laidLooks := .later }
def SyntaxWithinCardSaid : Prop := Claim7.holds Tryz.pinned (.plain (OpenSpec.ofChange syntaxWithinSpec)) syntaxWithinCard

/-- THE TIED CARD OF 'usancelaw07.SyntaxMore'. -/
def syntaxMoreCard : Claim7 := { stood := { row := syntaxMoreRow, standIns := [], harness := (true, "2a05dace89ef250ad561385c1d5c9b7974588a4c8f3f42255cfe1423610d2d65"), looks := true }, kinds := [], alts := [], laidByText := true, laidKinds := [.data, .listed, .data, .pinned], laidTests := true, laidLooks := .later }
def SyntaxMoreCardSaid : Prop := Claim7.holds Tryz.pinned (.plain (OpenSpec.ofChange syntaxMoreSpec)) syntaxMoreCard

/-- THE TIED CARD OF 'usancelaw09.ShowExprs'. -/
def showExprsCard : Claim7 := { stood := { row := showExprsRow, standIns := [], harness := (true, "2a05dace89ef250ad561385c1d5c9b7974588a4c8f3f42255cfe1423610d2d65"), looks := true }, kinds := [], alts := [], laidByText := true, laidKinds := [.data, .data, .data, .data, .listed, .data, .pinned], laidTests := true, laidLooks := .later }
def ShowExprsCardSaid : Prop := Claim7.holds Tryz.pinned (.plain (OpenSpec.ofChange showExprsSpec)) showExprsCard

/-- THE TIED CARD OF 'usancelaw09.ShowBack'. -/
def showBackCard : Claim7 := { stood := { row := showBackRow, standIns := [], harness := (true, "2a05dace89ef250ad561385c1d5c9b7974588a4c8f3f42255cfe1423610d2d65"), looks := true }, kinds := [], alts := [], laidByText := true, laidKinds := [.data, .data, .data, .data, .listed, .data, .pinned], laidTests := true, laidLooks := .later }
def ShowBackCardSaid : Prop := Claim7.holds Tryz.pinned (.plain (OpenSpec.ofChange showBackSpec)) showBackCard

/-- THE TIED CARD OF 'usancelaw09.ShowRead'. -/
def showReadCard : Claim7 := { stood := { row := showReadRow, standIns := [], harness := (true, "2a05dace89ef250ad561385c1d5c9b7974588a4c8f3f42255cfe1423610d2d65"), looks := true }, kinds := [], alts := [], laidByText := true, laidKinds := [.data, .data, .data, .data, .listed, .data, .pinned], laidTests := true, laidLooks := .later }
def ShowReadCardSaid : Prop := Claim7.holds Tryz.pinned (.plain (OpenSpec.ofChange showReadSpec)) showReadCard

/-- THE SECOND FORM's CARD OF 'usancelaw09.ShowRights'. -/
def showRightsUptoCard : Claim7 := { stood := { row := showRightsUptoRow, standIns := [], harness := (true, "2a05dace89ef250ad561385c1d5c9b7974588a4c8f3f42255cfe1423610d2d65"), looks := true }, kinds := [], alts := [], laidByText := true, laidKinds := [.data, .data, .data, .data, .pinned], laidTests := true, laidLooks := .later }
def ShowRightsUptoCardSaid : Prop := Claim7.holds Tryz.pinned (.plain (OpenSpec.upto showRightsSpec)) showRightsUptoCard

/-- THE SECOND FORM's CARD OF 'usancelaw09.ShowParts'. -/
def showPartsUptoCard : Claim7 := { stood := { row := showPartsUptoRow, standIns := [], harness := (true, "2a05dace89ef250ad561385c1d5c9b7974588a4c8f3f42255cfe1423610d2d65"), looks := true }, kinds := [], alts := [], laidByText := true, laidKinds := [.data, .data, .data, .data, .pinned], laidTests := true, laidLooks := .later }
def ShowPartsUptoCardSaid : Prop := Claim7.holds Tryz.pinned (.plain (OpenSpec.upto showPartsSpec)) showPartsUptoCard

/-- THE SECOND FORM's CARD OF 'usancelaw09.ShowSames'. -/
def showSamesUptoCard : Claim7 := { stood := { row := showSamesUptoRow, standIns := [], harness := (true, "2a05dace89ef250ad561385c1d5c9b7974588a4c8f3f42255cfe1423610d2d65"), looks := true }, kinds := [], alts := [], laidByText := true, laidKinds := [.data, .data, .data, .data, .pinned], laidTests := true, laidLooks := .later }
def ShowSamesUptoCardSaid : Prop := Claim7.holds Tryz.pinned (.plain (OpenSpec.upto showSamesSpec)) showSamesUptoCard

/-- THE SECOND FORM's CARD OF 'usancelaw09.ShowApart'. -/
def showApartUptoCard : Claim7 := { stood := { row := showApartUptoRow, standIns := [], harness := (true, "2a05dace89ef250ad561385c1d5c9b7974588a4c8f3f42255cfe1423610d2d65"), looks := true }, kinds := [], alts := [], laidByText := true, laidKinds := [.data, .data, .data, .data, .pinned], laidTests := true, laidLooks := .later }
def ShowApartUptoCardSaid : Prop := Claim7.holds Tryz.pinned (.plain (OpenSpec.upto showApartSpec)) showApartUptoCard

/-- THE SECOND FORM's CARD OF 'usancelaw07.SyntaxBlanks'. -/
def syntaxBlanksUptoCard : Claim7 := { stood := { row := syntaxBlanksUptoRow, standIns := [], harness := (true, "2a05dace89ef250ad561385c1d5c9b7974588a4c8f3f42255cfe1423610d2d65"), looks := true }, kinds := [], alts := [], laidByText := true, laidKinds := [.data, .listed, .data, .pinned], laidTests := true, laidLooks := .later }
def SyntaxBlanksUptoCardSaid : Prop := Claim7.holds Tryz.pinned (.plain (OpenSpec.upto syntaxBlanksSpec)) syntaxBlanksUptoCard

/-- THE SECOND FORM's CARD OF 'usancelaw07.SyntaxDeep'. -/
def syntaxDeepUptoCard : Claim7 := { stood := { row := syntaxDeepUptoRow, standIns := [], harness := (true, "2a05dace89ef250ad561385c1d5c9b7974588a4c8f3f42255cfe1423610d2d65"), looks := true }, kinds := [], alts := [], laidByText := true, laidKinds := [.data, .listed, .data, .pinned], laidTests := true, laidLooks := .later }
def SyntaxDeepUptoCardSaid : Prop := Claim7.holds Tryz.pinned (.plain (OpenSpec.upto syntaxDeepSpec)) syntaxDeepUptoCard

/-- THE SECOND FORM's CARD OF 'usancelaw07.SyntaxWithin'. -/
def syntaxWithinUptoCard : Claim7 := { stood := { row := syntaxWithinUptoRow, standIns := [], harness := (true, "2a05dace89ef250ad561385c1d5c9b7974588a4c8f3f42255cfe1423610d2d65"), looks := true }, kinds := [], alts := [], laidByText := true, laidKinds := [.data, .listed, .data, .pinned], laidTests := true, laidLooks := .later }
def SyntaxWithinUptoCardSaid : Prop := Claim7.holds Tryz.pinned (.plain (OpenSpec.upto syntaxWithinSpec)) syntaxWithinUptoCard

/-- THE SECOND FORM's CARD OF 'usancelaw07.SyntaxMore'. -/
def syntaxMoreUptoCard : Claim7 := { stood := { row := syntaxMoreUptoRow, standIns := [], harness := (true, "2a05dace89ef250ad561385c1d5c9b7974588a4c8f3f42255cfe1423610d2d65"), looks := true }, kinds := [], alts := [], laidByText := true, laidKinds := [.data, .listed, .data, .pinned], laidTests := true, laidLooks := .later }
def SyntaxMoreUptoCardSaid : Prop := Claim7.holds Tryz.pinned (.plain (OpenSpec.upto syntaxMoreSpec)) syntaxMoreUptoCard

/-- THE SECOND FORM's CARD OF 'usancelaw09.ShowExprs'. -/
def showExprsUptoCard : Claim7 := { stood := { row := showExprsUptoRow, standIns := [], harness := (true, "2a05dace89ef250ad561385c1d5c9b7974588a4c8f3f42255cfe1423610d2d65"), looks := true }, kinds := [], alts := [], laidByText := true, laidKinds := [.data, .data, .data, .data, .listed, .data, .pinned], laidTests := true, laidLooks := .later }
def ShowExprsUptoCardSaid : Prop := Claim7.holds Tryz.pinned (.plain (OpenSpec.upto showExprsSpec)) showExprsUptoCard

/-- THE SECOND FORM's CARD OF 'usancelaw09.ShowBack'. -/
def showBackUptoCard : Claim7 := { stood := { row := showBackUptoRow, standIns := [], harness := (true, "2a05dace89ef250ad561385c1d5c9b7974588a4c8f3f42255cfe1423610d2d65"), looks := true }, kinds := [], alts := [], laidByText := true, laidKinds := [.data, .data, .data, .data, .listed, .data, .pinned], laidTests := true, laidLooks := .later }
def ShowBackUptoCardSaid : Prop := Claim7.holds Tryz.pinned (.plain (OpenSpec.upto showBackSpec)) showBackUptoCard

/-- THE SECOND FORM's CARD OF 'usancelaw09.ShowRead'. -/
def showReadUptoCard : Claim7 := { stood := { row := showReadUptoRow, standIns := [], harness := (true, "2a05dace89ef250ad561385c1d5c9b7974588a4c8f3f42255cfe1423610d2d65"), looks := true }, kinds := [], alts := [], laidByText := true, laidKinds := [.data, .data, .data, .data, .listed, .data, .pinned], laidTests := true, laidLooks := .later }
def ShowReadUptoCardSaid : Prop := Claim7.holds Tryz.pinned (.plain (OpenSpec.upto showReadSpec)) showReadUptoCard
end Rows
end Go.Proofs.YtcndknkdhlmdnaaGreatDoor
