/-
  What comes in is a core term; the variable of the library that the walks read.
-/
import Derived.Test.YtmjclolmoobfpaaDoorKids
import Derived.Test.YtmjclolmoobfpaaDoorDoor
namespace Go.Proofs.YtmjclolmoobfpaaDoor
open Go.ChangeShapes Go.WideShapes Go.ChangeAt Go.RowKit
set_option maxRecDepth 100000

theorem coreU : ∃ fs, Tryd.prog.underlying 24 = some (.struct fs) := ⟨_, Tryd.underlying24⟩
theorem open_core {H : Type} {enc : TypeId × Value → H} {W : World} {sp : Nat → Bool} {held : Bool} {r : Reach} {b : Nat} {v : Value} {d : DataW H} {p : List MemPlace}
    (hv : Value.okWide Tryd.prog W r b 24 v) (h : DataW.Trod enc Tryd.prog W 0 sp held 24 v d p) :
    ∃ (t : Tm) (a : Option Addr) (cap : Nat), v = .agg #[.int .i64 t.op, .int .i64 t.n, .string t.s, .slice a t.kids.length cap] ∧ t.hold W.heap.size W a cap := by
  obtain ⟨cs, rfl, -⟩ := okWide_struct Tryd.underlying24 hv
  obtain ⟨fuel, hf⟩ := h
  obtain ⟨t, a, cap, e, hh⟩ := core_of fuel _ _ hf
  refine ⟨t, a, cap, ?_, hh⟩
  have : cs.toList = [.int .i64 t.op, .int .i64 t.n, .string t.s, .slice a t.kids.length cap] := e
  rw [← this]
theorem env_of {W : World} (h : W.ShapedOpen Tryd.prog) : Env W :=
  Go.Proofs.cell_of_shapedOpen_int (zero := #[.int .i64 0]) (t := 3) (g := 0) h (of_decide_eq_true (by kernel_rfl)) (by kernel_rfl) rfl (by kernel_rfl) (by kernel_rfl) Tryd.underlying3

end Go.Proofs.YtmjclolmoobfpaaDoor
