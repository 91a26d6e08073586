/-
  Complement: what one text more of Toks is rested on.
-/
import Derived.Test.YtcndknkdhlmdnaaGreatDoorS04
import Derived.Test.YtcndknkdhlmdnaaGreatDoorS01
import Derived.Test.YtcndknkdhlmdnaaGreatDoorRows
import Derived.WalkKit
import Derived.Lib.LaidTab
import Derived.Test.YtcndknkdhlmdnaaGreatDoorS02
import Derived.Lib.SlTrimSet
import Derived.Lib.Strings
import Derived.Lib.IndexMore
import Derived.Lib.IndexBytes
import Derived.Test.YtcndknkdhlmdnaaGreatDoorS29
import Derived.Test.YtcndknkdhlmdnaaGreatDoorS30
import Derived.Lib.Hide
import Derived.Deep.AppendLies
import Derived.Test.YtcndknkdhlmdnaaGreatDoorS09
namespace Go.Proofs.YtcndknkdhlmdnaaGreatDoor
open Go.RowKit

/-- what an append of one token leaves -/
theorem tok_append {T : TypeId} {B : Nat} {w W w5 : World} {v : Value} {ts : List Tk} {t : Tk} {g cap' : Nat} (hB : Below B w W) (how : W.ownsRow B T 4 v ts.length (tksCells ts))
    (hown' : w5.ownsRow B T 4 (.slice (some ⟨g, 0, none⟩) (ts.length + 1) cap') (ts.length + 1) (tksCells ts ++ tkCells t)) (hgrow' : W.grownBy w5 v.ownBlock) (hBW : B ≤ W.heap.size) :
    Below B w w5 ∧ w5.ownsRow B T 4 (.slice (some ⟨g, 0, none⟩) (ts ++ [t]).length cap') (ts ++ [t]).length (tksCells (ts ++ [t])) := by
  refine ⟨hB.grown hgrow' hBW (fun r e => (how.lt r e).1), ?_⟩
  rw [tks_snoc, List.length_append]
  exact hown'
end Go.Proofs.YtcndknkdhlmdnaaGreatDoor
