/-
  For regions that are walked operation by operation (region.py).
-/
import Derived.Test.YtmjclolmoobfpaaDoorProg
import Derived.WalkKit
import Derived.Deep.RegionWith
import Derived.Deep.RegionHeld3
namespace Go.Proofs.YtmjclolmoobfpaaDoor

theorem op_at {l : List Oper} {n : Nat} {o : Oper} {r : List Oper} (h : l.drop n = o :: r) : l.toArray[n]? = some o := by
  rw [List.getElem?_toArray]
  have : (l.drop n)[0]? = some o := by rw [h]; rfl
  rw [List.getElem?_drop] at this
  simpa using this

end Go.Proofs.YtmjclolmoobfpaaDoor
