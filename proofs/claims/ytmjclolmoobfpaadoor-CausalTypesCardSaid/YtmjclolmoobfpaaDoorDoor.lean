/-
  What the given rows' listed variables give, and a world that holds them (for the witness).
-/
import Derived.Test.YtmjclolmoobfpaaDoorLift
import Derived.Test.YtmjclolmoobfpaaDoorCards
import Derived.Test.YtmjclolmoobfpaaDoorTie
import Derived.Stop.LaidErr
namespace Go.Proofs.YtmjclolmoobfpaaDoor
open Go.ChangeShapes Go.WideShapes Go.ChangeAt Go.RowKit
set_option maxRecDepth 100000

/-- the list that each of this seat's rows bears -/
def laids : List (String × DataW Unit) := [("unicode/utf8.acceptRanges", Rows.laid_unicode_utf8_acceptRanges), ("unicode/utf8.first", Rows.laid_unicode_utf8_first)]
/-- a table's cells, off its datum: an array of numbers, or of structs of numbers -/
def flat : DataW Unit → List Value
  | .lit (.int k n) => [.int k n]
  | .agg l => l.flatMap fun
    | .lit (.int k n) => [.int k n]
    | .agg l' => l'.flatMap fun
      | .lit (.int k n) => [.int k n]
      | _ => []
    | _ => []
  | _ => []
/-- other cells in a block -/
def refill (cs : Array Value) : Obj → Obj
  | .cells _ t frozen => .cells cs t frozen
  | o => o
/-- a world for the witness: the settled one, the tables as their initialisers lay them -/
noncomputable def laidWorld (os : Os) (args : Array Value) : World :=
  { World.holding Tryd.prog os ⟨#[], args, []⟩ with heap := (((World.holding Tryd.prog os ⟨#[], args, []⟩).heap.modify 2 (refill (flat Rows.laid_unicode_utf8_acceptRanges).toArray)).modify 1 (refill (flat Rows.laid_unicode_utf8_first).toArray)) }

end Go.Proofs.YtmjclolmoobfpaaDoor
