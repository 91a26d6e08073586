/-
  DERIVED. GIVEN WITH THE SEED: THE CARDS: each row of YtmjclolmoobfpaaDoorRows.lean that lists a variable, with what it lists TIED to the program's text (the seventh form; the later family's looks); each row that meets fmt, with fmt's text TOLD by the authors' own Lean function (tested against real Go, not proved from fmt's source: count such statements apart). THE CARD IS WHAT COUNTS. Prove the row's statement (the work); the ties are given (YtmjclolmoobfpaaDoorTie.lean); close each card by the builder's one call (the guide's Derived/Test/ToyasCard.lean, 'card_holds'). Laid BY PROGRAM, IN A SANDBOX (cutbox-door.mjs). By AI agents, Wed Nov 11 2026. No macro, syntax, notation, axiom, sorry.
-/
import Derived.Test.YtmjclolmoobfpaaDoorRows
import GoSem.ClaimSeven
namespace Go.Proofs.YtmjclolmoobfpaaDoor
namespace Rows

/-- THE TIED CARD OF 'usancelaw14.CausalKids'. -/
def causalKidsCard : Claim7 := { stood := { row := causalKidsRow, standIns := [], harness := (true, "fe49beac5433d04385cd3e083101e256a5e2505d7aabf40176aa8f22c61a3671"), looks := false }, kinds := [], alts := [], laidByText := true, laidKinds := [.data, .pinned], laidTests := true, laidLooks := .later }
def CausalKidsCardSaid : Prop := Claim7.holds Tryd.pinned (.plain (OpenSpec.ofChange causalKidsSpec)) causalKidsCard

/-- THE TIED CARD OF 'usancelaw14.CausalBoth'. -/
def causalBothCard : Claim7 := { stood := { row := causalBothRow, standIns := [], harness := (true, "fe49beac5433d04385cd3e083101e256a5e2505d7aabf40176aa8f22c61a3671"), looks := false }, kinds := [], alts := [], laidByText := true, laidKinds := [.data, .pinned], laidTests := true, laidLooks := .later }
def CausalBothCardSaid : Prop := Claim7.holds Tryd.pinned (.plain (OpenSpec.ofChange causalBothSpec)) causalBothCard

/-- THE TIED CARD OF 'usancelaw14.CausalTypes'. -/
def causalTypesCard : Claim7 := { stood := { row := causalTypesRow, standIns := [], harness := (true, "fe49beac5433d04385cd3e083101e256a5e2505d7aabf40176aa8f22c61a3671"), looks := false }, kinds := [], alts := [], laidByText := true, laidKinds := [.data, .pinned], laidTests := true, laidLooks := .later }
def CausalTypesCardSaid : Prop := Claim7.holds Tryd.pinned (.plain (OpenSpec.ofChange causalTypesSpec)) causalTypesCard

/-- THE SECOND FORM's CARD OF 'usancelaw14.CausalKids'. -/
def causalKidsUptoCard : Claim7 := { stood := { row := causalKidsUptoRow, standIns := [], harness := (true, "fe49beac5433d04385cd3e083101e256a5e2505d7aabf40176aa8f22c61a3671"), looks := false }, kinds := [], alts := [], laidByText := true, laidKinds := [.data, .pinned], laidTests := true, laidLooks := .later }
def CausalKidsUptoCardSaid : Prop := Claim7.holds Tryd.pinned (.plain (OpenSpec.upto causalKidsSpec)) causalKidsUptoCard

/-- THE SECOND FORM's CARD OF 'usancelaw14.CausalBoth'. -/
def causalBothUptoCard : Claim7 := { stood := { row := causalBothUptoRow, standIns := [], harness := (true, "fe49beac5433d04385cd3e083101e256a5e2505d7aabf40176aa8f22c61a3671"), looks := false }, kinds := [], alts := [], laidByText := true, laidKinds := [.data, .pinned], laidTests := true, laidLooks := .later }
def CausalBothUptoCardSaid : Prop := Claim7.holds Tryd.pinned (.plain (OpenSpec.upto causalBothSpec)) causalBothUptoCard

/-- THE SECOND FORM's CARD OF 'usancelaw14.CausalTypes'. -/
def causalTypesUptoCard : Claim7 := { stood := { row := causalTypesUptoRow, standIns := [], harness := (true, "fe49beac5433d04385cd3e083101e256a5e2505d7aabf40176aa8f22c61a3671"), looks := false }, kinds := [], alts := [], laidByText := true, laidKinds := [.data, .pinned], laidTests := true, laidLooks := .later }
def CausalTypesUptoCardSaid : Prop := Claim7.holds Tryd.pinned (.plain (OpenSpec.upto causalTypesSpec)) causalTypesUptoCard
end Rows
end Go.Proofs.YtmjclolmoobfpaaDoor
