/-
  DERIVED. GIVEN WITH THE SEED: THE CARDS: each row of YtilifaemehbleaaDoorRows.lean that lists a variable, with what it lists TIED to the program's text (the seventh form; the later family's looks); each row that meets fmt, with fmt's text TOLD by the authors' own Lean function (tested against real Go, not proved from fmt's source: count such statements apart). THE CARD IS WHAT COUNTS. Prove the row's statement (the work); the ties are given (YtilifaemehbleaaDoorTie.lean); close each card by the builder's one call (the guide's Derived/Test/ToyasCard.lean, 'card_holds'). Laid BY PROGRAM, IN A SANDBOX (cutbox-door.mjs). By AI agents, Wed Nov 11 2026. No macro, syntax, notation, axiom, sorry.
-/
import Derived.Test.YtilifaemehbleaaDoorRows
import GoSem.ClaimSeven
namespace Go.Proofs.YtilifaemehbleaaDoor
namespace Rows

/-- THE TIED CARD OF 'usancelaw03.DateDays'. -/
def dateDaysCard : Claim7 := { stood := { row := dateDaysRow, standIns := [], harness := (true, "4cb22adba2d5fe4741255f95bfc0663593c8fa4616c7cfd1ba1c5cbb8c050593"), looks := false }, kinds := [], alts := [], laidByText := true, laidKinds := [.data, .data, .data], laidTests := true, laidLooks := .later }
def DateDaysCardSaid : Prop := Claim7.holds Tryd.pinned (.plain (OpenSpec.ofChange dateDaysSpec)) dateDaysCard

/-- THE TIED CARD OF 'usancelaw03.DateMonths'. -/
def dateMonthsCard : Claim7 := { stood := { row := dateMonthsRow, standIns := [], harness := (true, "4cb22adba2d5fe4741255f95bfc0663593c8fa4616c7cfd1ba1c5cbb8c050593"), looks := false }, kinds := [], alts := [], laidByText := true, laidKinds := [.data, .data, .data], laidTests := true, laidLooks := .later }
def DateMonthsCardSaid : Prop := Claim7.holds Tryd.pinned (.plain (OpenSpec.ofChange dateMonthsSpec)) dateMonthsCard

/-- THE TIED CARD OF 'usancelaw03.DateTexts'. -/
def dateTextsCard : Claim7 := { stood := { row := dateTextsRow, standIns := [], harness := (true, "4cb22adba2d5fe4741255f95bfc0663593c8fa4616c7cfd1ba1c5cbb8c050593"), looks := false }, kinds := [], alts := [], laidByText := true, laidKinds := [.data, .data, .data], laidTests := true, laidLooks := .later }
def DateTextsCardSaid : Prop := Claim7.holds Tryd.pinned (.plain (OpenSpec.ofChange dateTextsSpec)) dateTextsCard

/-- THE TIED CARD OF 'usancelaw03.DateBack'. -/
def dateBackCard : Claim7 := { stood := { row := dateBackRow, standIns := [], harness := (true, "4cb22adba2d5fe4741255f95bfc0663593c8fa4616c7cfd1ba1c5cbb8c050593"), looks := false }, kinds := [], alts := [], laidByText := true, laidKinds := [.data, .data, .data], laidTests := true, laidLooks := .later }
def DateBackCardSaid : Prop := Claim7.holds Tryd.pinned (.plain (OpenSpec.ofChange dateBackSpec)) dateBackCard

/-- THE TIED CARD OF 'usancelaw03.DateMoves'. -/
def dateMovesCard : Claim7 := { stood := { row := dateMovesRow, standIns := [], harness := (true, "4cb22adba2d5fe4741255f95bfc0663593c8fa4616c7cfd1ba1c5cbb8c050593"), looks := false }, kinds := [], alts := [], laidByText := true, laidKinds := [.data, .data, .data], laidTests := true, laidLooks := .later }
def DateMovesCardSaid : Prop := Claim7.holds Tryd.pinned (.plain (OpenSpec.ofChange dateMovesSpec)) dateMovesCard

/-- THE TIED CARD OF 'usancelaw03.DateSums'. -/
def dateSumsCard : Claim7 := { stood := { row := dateSumsRow, standIns := [], harness := (true, "4cb22adba2d5fe4741255f95bfc0663593c8fa4616c7cfd1ba1c5cbb8c050593"), looks := false }, kinds := [], alts := [], laidByText := true, laidKinds := [.data, .data, .data], laidTests := true, laidLooks := .later }
def DateSumsCardSaid : Prop := Claim7.holds Tryd.pinned (.plain (OpenSpec.ofChange dateSumsSpec)) dateSumsCard

/-- THE SECOND FORM's CARD OF 'usancelaw03.DateDays'. -/
def dateDaysUptoCard : Claim7 := { stood := { row := dateDaysUptoRow, standIns := [], harness := (true, "4cb22adba2d5fe4741255f95bfc0663593c8fa4616c7cfd1ba1c5cbb8c050593"), looks := false }, kinds := [], alts := [], laidByText := true, laidKinds := [.data, .data, .data], laidTests := true, laidLooks := .later }
def DateDaysUptoCardSaid : Prop := Claim7.holds Tryd.pinned (.plain (OpenSpec.upto dateDaysSpec)) dateDaysUptoCard

/-- THE SECOND FORM's CARD OF 'usancelaw03.DateMonths'. -/
def dateMonthsUptoCard : Claim7 := { stood := { row := dateMonthsUptoRow, standIns := [], harness := (true, "4cb22adba2d5fe4741255f95bfc0663593c8fa4616c7cfd1ba1c5cbb8c050593"), looks := false }, kinds := [], alts := [], laidByText := true, laidKinds := [.data, .data, .data], laidTests := true, laidLooks := .later }
def DateMonthsUptoCardSaid : Prop := Claim7.holds Tryd.pinned (.plain (OpenSpec.upto dateMonthsSpec)) dateMonthsUptoCard

/-- THE SECOND FORM's CARD OF 'usancelaw03.DateTexts'. -/
def dateTextsUptoCard : Claim7 := { stood := { row := dateTextsUptoRow, standIns := [], harness := (true, "4cb22adba2d5fe4741255f95bfc0663593c8fa4616c7cfd1ba1c5cbb8c050593"), looks := false }, kinds := [], alts := [], laidByText := true, laidKinds := [.data, .data, .data], laidTests := true, laidLooks := .later }
def DateTextsUptoCardSaid : Prop := Claim7.holds Tryd.pinned (.plain (OpenSpec.upto dateTextsSpec)) dateTextsUptoCard

/-- THE SECOND FORM's CARD OF 'usancelaw03.DateBack'. -/
def dateBackUptoCard : Claim7 := { stood := { row := dateBackUptoRow, standIns := [], harness := (true, "4cb22adba2d5fe4741255f95bfc0663593c8fa4616c7cfd1ba1c5cbb8c050593"), looks := false }, kinds := [], alts := [], laidByText := true, laidKinds := [.data, .data, .data], laidTests := true, laidLooks := .later }
def DateBackUptoCardSaid : Prop := Claim7.holds Tryd.pinned (.plain (OpenSpec.upto dateBackSpec)) dateBackUptoCard

/-- THE SECOND FORM's CARD OF 'usancelaw03.DateMoves'. -/
def dateMovesUptoCard : Claim7 := { stood := { row := dateMovesUptoRow, standIns := [], harness := (true, "4cb22adba2d5fe4741255f95bfc0663593c8fa4616c7cfd1ba1c5cbb8c050593"), looks := false }, kinds := [], alts := [], laidByText := true, laidKinds := [.data, .data, .data], laidTests := true, laidLooks := .later }
def DateMovesUptoCardSaid : Prop := Claim7.holds Tryd.pinned (.plain (OpenSpec.upto dateMovesSpec)) dateMovesUptoCard

/-- THE SECOND FORM's CARD OF 'usancelaw03.DateSums'. -/
def dateSumsUptoCard : Claim7 := { stood := { row := dateSumsUptoRow, standIns := [], harness := (true, "4cb22adba2d5fe4741255f95bfc0663593c8fa4616c7cfd1ba1c5cbb8c050593"), looks := false }, kinds := [], alts := [], laidByText := true, laidKinds := [.data, .data, .data], laidTests := true, laidLooks := .later }
def DateSumsUptoCardSaid : Prop := Claim7.holds Tryd.pinned (.plain (OpenSpec.upto dateSumsSpec)) dateSumsUptoCard
end Rows
end Go.Proofs.YtilifaemehbleaaDoor
