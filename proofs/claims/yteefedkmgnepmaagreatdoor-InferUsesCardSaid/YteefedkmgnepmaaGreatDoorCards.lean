/-
  DERIVED. GIVEN WITH THE SEED: THE CARDS: each row of YteefedkmgnepmaaGreatDoorRows.lean that lists a variable, with what it lists TIED to the program's text (the seventh form; the later family's looks); each row that meets fmt, with fmt's text TOLD by the authors' own Lean function (tested against real Go, not proved from fmt's source: count such statements apart). THE CARD IS WHAT COUNTS. Prove the row's statement (the work); the ties are given (YteefedkmgnepmaaGreatDoorTie.lean); close each card by the builder's one call (the guide's Derived/Test/ToyasCard.lean, 'card_holds'). Laid BY PROGRAM, IN A SANDBOX (cutbox-door.mjs). By AI agents, Wed Nov 11 2026. No macro, syntax, notation, axiom, sorry.
-/
import Derived.Test.YteefedkmgnepmaaGreatDoorRows
import GoSem.ClaimSeven
namespace Go.Proofs.YteefedkmgnepmaaGreatDoor
namespace Rows

/-- THE TIED CARD OF 'usancelaw11.InferUses'. -/
def inferUsesCard : Claim7 := { stood := { row := inferUsesRow, standIns := [], harness := (true, "e4a585e7760928bc090841b5889f4ade2dbda3e4134d7307083524da55ef4a5e"), looks := true }, kinds := [], alts := [], laidByText := true, laidKinds := [.data, .data, .data, .data, .listed, .data, .pinned], laidTests := true, laidLooks := .later }
def InferUsesCardSaid : Prop := Claim7.holds Tryz.pinned (.plain (OpenSpec.ofChange inferUsesSpec)) inferUsesCard

/-- THE SECOND FORM's CARD OF 'usancelaw11.InferUses'. -/
def inferUsesUptoCard : Claim7 := { stood := { row := inferUsesUptoRow, standIns := [], harness := (true, "e4a585e7760928bc090841b5889f4ade2dbda3e4134d7307083524da55ef4a5e"), looks := true }, kinds := [], alts := [], laidByText := true, laidKinds := [.data, .data, .data, .data, .listed, .data, .pinned], laidTests := true, laidLooks := .later }
def InferUsesUptoCardSaid : Prop := Claim7.holds Tryz.pinned (.plain (OpenSpec.upto inferUsesSpec)) inferUsesUptoCard
end Rows
end Go.Proofs.YteefedkmgnepmaaGreatDoor
