/-
  Complement: what one text more of OpenI is rested on.
-/
import Derived.Test.YtcndknkdhlmdnaaGreatDoorS50
import Derived.ChangeSlices
import Derived.WideShapes
namespace Go.Proofs.YtcndknkdhlmdnaaGreatDoor
open Go.WideShapes
set_option maxRecDepth 100000

theorem open_intsI {H : Type} {enc : TypeId × Value → H} {W : World} {sp : Nat → Bool} {held : Bool} {r : Reach} {b : Nat} {v : Value} {d : DataW H} {p : List MemPlace}
    (hv : Value.okWide Tryz.prog W r b 32 v) (h : DataW.Trod enc Tryz.prog W 0 sp held 32 v d p) : ∃ zs : List Int, Ints W v zs := by
  obtain ⟨a, len, cap, rfl⟩ := okWide_slice Tryz.underlying32 hv
  obtain ⟨fuel, hf⟩ := h
  rcases Go.ChangeShapes.open_ints Tryz.underlying32 Tryz.underlying3 (by kernel_rfl) hf with ⟨hcs, hx⟩ | ⟨a', len', cap', zs, hcs, -, hl, hm, hz, hx, hcell, hwf⟩
  · simp [Value.cells] at hcs
    obtain ⟨rfl, rfl, rfl⟩ := hcs
    exact ⟨[], none, 0, rfl, Nat.zero_le _, fun i h => by cases h⟩
  · simp [Value.cells] at hcs
    obtain ⟨rfl, rfl, rfl⟩ := hcs
    have hle : len ≤ zs.length := by rw [hz]; split <;> omega
    refine ⟨zs.take len, some a', cap, by rw [List.length_take, Nat.min_eq_left hle], by rw [List.length_take]; omega, fun i hi => ?_⟩
    rw [List.length_take] at hi
    have hc := hcell i (by omega)
    obtain ⟨ab, ao, spot⟩ := a'
    have hspot : spot = none := by simpa [Addr.add] using World.cell?_spot (hcell 0 (by omega))
    subst hspot
    rw [Addr.add_lit] at hc
    refine ⟨ab, ao, rfl, World.block_lt_of_cell? W ⟨ab, ao + i, none⟩ hc, ?_⟩
    rw [hc, List.getElem_take]
    simp [List.getD, List.getElem?_eq_getElem (show i < zs.length by omega)]
end Go.Proofs.YtcndknkdhlmdnaaGreatDoor
