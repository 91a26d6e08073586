/-
  Complement: what one text more of DateA is rested on.
-/
import Derived.Test.YtcndknkdhlmdnaaGreatDoorRows
import Derived.Test.YtcndknkdhlmdnaaGreatDoorS01
import Derived.WalkKit
import Derived.WalkSpells
import Derived.WalkLawsBesides
import Derived.IntWalk
import Derived.Lib.Hide
import Derived.Test.YtcndknkdhlmdnaaGreatDoorS03
namespace Go.Proofs.YtcndknkdhlmdnaaGreatDoor
open Go.RowKit
set_option maxRecDepth 100000

theorem ret_int {k : IntKind} {a b : Int} (h : a = b) : Ending.returned (.int k a) = .returned (.int k b) := by rw [h]
set_option maxHeartbeats 400000 in
theorem rleap_any (y : Int) (w : World) (h0 : 0 ≤ y) (h1 : y ≤ 100000) :
    Calls Tryz.prog 173 #[.int .i64 y] w fun e w' => e = .returned (.bool (Cal.lp y)) ∧ w = w' := by
  go_enter Tryz.func173, Tryz.ntmps173
  go_wp2
  all_goals go_ret
  all_goals exact ⟨by simp [Cal.lp, *], rfl⟩
/-- what stands at a month's place, February aside -/
theorem get28 (y : Int) {m : Int} (h2 : 1 ≤ m) (h3 : m ≤ 12) (hm : ¬ m = 2) : [Value.int IntKind.i64 31, Value.int IntKind.i64 28, Value.int IntKind.i64 31, Value.int IntKind.i64 30, Value.int IntKind.i64 31, Value.int IntKind.i64 30, Value.int IntKind.i64 31, Value.int IntKind.i64 31, Value.int IntKind.i64 30, Value.int IntKind.i64 31, Value.int IntKind.i64 30, Value.int IntKind.i64 31][m.toNat - 1]? = some (.int .i64 (Cal.mlen y m)) := by
  rcases Cal.months_cases h2 h3 with e | e | e | e | e | e | e | e | e | e | e | e <;> subst e <;> first | rfl | omega
set_option maxHeartbeats 400000 in
theorem rlength_any (y m : Int) (w : World) (h0 : 0 ≤ y) (h1 : y ≤ 100000) (h2 : 1 ≤ m) (h3 : m ≤ 12) :
    Calls Tryz.prog 143 #[.int .i64 y, .int .i64 m] w fun e w' => e = .returned (.int .i64 (Cal.mlen y m)) ∧ Below w.heap.size w w' := by
  by_cases hm : m = 2
  · subst hm
    cases hl : Cal.lp y
    all_goals
      go_enter Tryz.func143, Tryz.ntmps143
      go_wp2_with (go_at_call 173; refine (rleap_any _ _ (by omega) (by omega)).mono ?_; rintro e w' ⟨rfl, rfl⟩)
      go_ret
      exact ⟨by simp [Cal.mlen, Cal.lpI, hl], below1 _ _⟩
  · have hg := get28 y h2 h3 hm
    go_enter Tryz.func143, Tryz.ntmps143
    go_wp2_with (go_at_call 173; refine (rleap_any _ _ (by omega) (by omega)).mono ?_; rintro e w' ⟨rfl, rfl⟩)
    go_ret
    exact ⟨rfl, below1 _ _⟩
end Go.Proofs.YtcndknkdhlmdnaaGreatDoor
