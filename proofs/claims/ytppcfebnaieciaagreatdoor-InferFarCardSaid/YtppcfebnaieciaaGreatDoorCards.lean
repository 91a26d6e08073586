/-
  DERIVED. GIVEN WITH THE SEED: THE CARDS: each row of YtppcfebnaieciaaGreatDoorRows.lean that lists a variable, with what it lists TIED to the program's text (the seventh form; the later family's looks); each row that meets fmt, with fmt's text TOLD by the authors' own Lean function (tested against real Go, not proved from fmt's source: count such statements apart). THE CARD IS WHAT COUNTS. Prove the row's statement (the work); the ties are given (YtppcfebnaieciaaGreatDoorTie.lean); close each card by the builder's one call (the guide's Derived/Test/ToyasCard.lean, 'card_holds'). Laid BY PROGRAM, IN A SANDBOX (cutbox-door.mjs). By AI agents, Wed Nov 11 2026. No macro, syntax, notation, axiom, sorry.
-/
import Derived.Test.YtppcfebnaieciaaGreatDoorRows
import GoSem.ClaimSeven
namespace Go.Proofs.YtppcfebnaieciaaGreatDoor
namespace Rows

/-- THE TIED CARD OF 'usancelaw11.InferFinds'. -/
def inferFindsCard : Claim7 := { stood := { row := inferFindsRow, standIns := [], harness := (true, "5dcb2d06548e4044eac4aaf15068235bdc91a8204f018e164e648d86868b2849"), looks := true }, kinds := [], alts := [], laidByText := true, laidKinds := [.data, .data, .data, .data, .listed, .data, .pinned], laidTests := true, laidLooks := .later }
def InferFindsCardSaid : Prop := Claim7.holds Tryz.pinned (.plain (OpenSpec.ofChange inferFindsSpec)) inferFindsCard

/-- THE TIED CARD OF 'usancelaw11.InferTexts'. -/
def inferTextsCard : Claim7 := { stood := { row := inferTextsRow, standIns := [], harness := (true, "5dcb2d06548e4044eac4aaf15068235bdc91a8204f018e164e648d86868b2849"), looks := true }, kinds := [], alts := [], laidByText := true, laidKinds := [.data, .data, .data, .data, .listed, .data, .pinned], laidTests := true, laidLooks := .later }
def InferTextsCardSaid : Prop := Claim7.holds Tryz.pinned (.plain (OpenSpec.ofChange inferTextsSpec)) inferTextsCard

/-- THE TIED CARD OF 'usancelaw11.InferShows'. -/
def inferShowsCard : Claim7 := { stood := { row := inferShowsRow, standIns := [], harness := (true, "5dcb2d06548e4044eac4aaf15068235bdc91a8204f018e164e648d86868b2849"), looks := true }, kinds := [], alts := [], laidByText := true, laidKinds := [.data, .data, .data, .data, .listed, .data, .pinned], laidTests := true, laidLooks := .later }
def InferShowsCardSaid : Prop := Claim7.holds Tryz.pinned (.plain (OpenSpec.ofChange inferShowsSpec)) inferShowsCard

/-- THE TIED CARD OF 'usancelaw11.InferAhead'. -/
def inferAheadCard : Claim7 := { stood := { row := inferAheadRow, standIns := [], harness := (true, "5dcb2d06548e4044eac4aaf15068235bdc91a8204f018e164e648d86868b2849"), looks := true }, kinds := [], alts := [], laidByText := true, laidKinds := [.data, .data, .data, .data, .listed, .data, .pinned], laidTests := true, laidLooks := .later }
def InferAheadCardSaid : Prop := Claim7.holds Tryz.pinned (.plain (OpenSpec.ofChange inferAheadSpec)) inferAheadCard

/-- THE TIED CARD OF 'usancelaw11.InferUses'. -/
def inferUsesCard : Claim7 := { stood := { row := inferUsesRow, standIns := [], harness := (true, "5dcb2d06548e4044eac4aaf15068235bdc91a8204f018e164e648d86868b2849"), looks := true }, kinds := [], alts := [], laidByText := true, laidKinds := [.data, .data, .data, .data, .listed, .data, .pinned], laidTests := true, laidLooks := .later }
def InferUsesCardSaid : Prop := Claim7.holds Tryz.pinned (.plain (OpenSpec.ofChange inferUsesSpec)) inferUsesCard

/-- THE TIED CARD OF 'usancelaw11.InferRight'. -/
def inferRightCard : Claim7 := { stood := { row := inferRightRow, standIns := [], harness := (true, "5dcb2d06548e4044eac4aaf15068235bdc91a8204f018e164e648d86868b2849"), looks := true }, kinds := [], alts := [], laidByText := true, laidKinds := [.data, .data, .data, .data, .listed, .data, .pinned], laidTests := true, laidLooks := .later }
def InferRightCardSaid : Prop := Claim7.holds Tryz.pinned (.plain (OpenSpec.ofChange inferRightSpec)) inferRightCard

/-- THE TIED CARD OF 'usancelaw11.InferFar'. -/
def inferFarCard : Claim7 := { stood := { row := inferFarRow, standIns := [], harness := (true, "5dcb2d06548e4044eac4aaf15068235bdc91a8204f018e164e648d86868b2849"), looks := true }, kinds := [], alts := [], laidByText := true, laidKinds := [.data, .data, .data, .data, .listed, .data, .pinned], laidTests := true, laidLooks := .later }
def InferFarCardSaid : Prop := Claim7.holds Tryz.pinned (.plain (OpenSpec.ofChange inferFarSpec)) inferFarCard

/-- THE SECOND FORM's CARD OF 'usancelaw11.InferFinds'. -/
def inferFindsUptoCard : Claim7 := { stood := { row := inferFindsUptoRow, standIns := [], harness := (true, "5dcb2d06548e4044eac4aaf15068235bdc91a8204f018e164e648d86868b2849"), looks := true }, kinds := [], alts := [], laidByText := true, laidKinds := [.data, .data, .data, .data, .listed, .data, .pinned], laidTests := true, laidLooks := .later }
def InferFindsUptoCardSaid : Prop := Claim7.holds Tryz.pinned (.plain (OpenSpec.upto inferFindsSpec)) inferFindsUptoCard

/-- THE SECOND FORM's CARD OF 'usancelaw11.InferTexts'. -/
def inferTextsUptoCard : Claim7 := { stood := { row := inferTextsUptoRow, standIns := [], harness := (true, "5dcb2d06548e4044eac4aaf15068235bdc91a8204f018e164e648d86868b2849"), looks := true }, kinds := [], alts := [], laidByText := true, laidKinds := [.data, .data, .data, .data, .listed, .data, .pinned], laidTests := true, laidLooks := .later }
def InferTextsUptoCardSaid : Prop := Claim7.holds Tryz.pinned (.plain (OpenSpec.upto inferTextsSpec)) inferTextsUptoCard

/-- THE SECOND FORM's CARD OF 'usancelaw11.InferShows'. -/
def inferShowsUptoCard : Claim7 := { stood := { row := inferShowsUptoRow, standIns := [], harness := (true, "5dcb2d06548e4044eac4aaf15068235bdc91a8204f018e164e648d86868b2849"), looks := true }, kinds := [], alts := [], laidByText := true, laidKinds := [.data, .data, .data, .data, .listed, .data, .pinned], laidTests := true, laidLooks := .later }
def InferShowsUptoCardSaid : Prop := Claim7.holds Tryz.pinned (.plain (OpenSpec.upto inferShowsSpec)) inferShowsUptoCard

/-- THE SECOND FORM's CARD OF 'usancelaw11.InferAhead'. -/
def inferAheadUptoCard : Claim7 := { stood := { row := inferAheadUptoRow, standIns := [], harness := (true, "5dcb2d06548e4044eac4aaf15068235bdc91a8204f018e164e648d86868b2849"), looks := true }, kinds := [], alts := [], laidByText := true, laidKinds := [.data, .data, .data, .data, .listed, .data, .pinned], laidTests := true, laidLooks := .later }
def InferAheadUptoCardSaid : Prop := Claim7.holds Tryz.pinned (.plain (OpenSpec.upto inferAheadSpec)) inferAheadUptoCard

/-- THE SECOND FORM's CARD OF 'usancelaw11.InferUses'. -/
def inferUsesUptoCard : Claim7 := { stood := { row := inferUsesUptoRow, standIns := [], harness := (true, "5dcb2d06548e4044eac4aaf15068235bdc91a8204f018e164e648d86868b2849"), looks := true }, kinds := [], alts := [], laidByText := true, laidKinds := [.data, .data, .data, .data, .listed, .data, .pinned], laidTests := true, laidLooks := .later }
def InferUsesUptoCardSaid : Prop := Claim7.holds Tryz.pinned (.plain (OpenSpec.upto inferUsesSpec)) inferUsesUptoCard

/-- THE SECOND FORM's CARD OF 'usancelaw11.InferRight'. -/
def inferRightUptoCard : Claim7 := { stood := { row := inferRightUptoRow, standIns := [], harness := (true, "5dcb2d06548e4044eac4aaf15068235bdc91a8204f018e164e648d86868b2849"), looks := true }, kinds := [], alts := [], laidByText := true, laidKinds := [.data, .data, .data, .data, .listed, .data, .pinned], laidTests := true, laidLooks := .later }
def InferRightUptoCardSaid : Prop := Claim7.holds Tryz.pinned (.plain (OpenSpec.upto inferRightSpec)) inferRightUptoCard

/-- THE SECOND FORM's CARD OF 'usancelaw11.InferFar'. -/
def inferFarUptoCard : Claim7 := { stood := { row := inferFarUptoRow, standIns := [], harness := (true, "5dcb2d06548e4044eac4aaf15068235bdc91a8204f018e164e648d86868b2849"), looks := true }, kinds := [], alts := [], laidByText := true, laidKinds := [.data, .data, .data, .data, .listed, .data, .pinned], laidTests := true, laidLooks := .later }
def InferFarUptoCardSaid : Prop := Claim7.holds Tryz.pinned (.plain (OpenSpec.upto inferFarSpec)) inferFarUptoCard
end Rows
end Go.Proofs.YtppcfebnaieciaaGreatDoor
