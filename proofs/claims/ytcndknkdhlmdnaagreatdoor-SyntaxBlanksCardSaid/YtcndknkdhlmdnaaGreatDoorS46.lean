/-
  Complement: what one text more of SynI is rested on.
-/
import Derived.Test.YtcndknkdhlmdnaaGreatDoorS05
import Derived.Test.YtcndknkdhlmdnaaGreatDoorS04
import Derived.Test.YtcndknkdhlmdnaaGreatDoorS01
import Derived.Test.YtcndknkdhlmdnaaGreatDoorRows
import Derived.WalkKit
import Derived.Lib.LaidTab
import Derived.Test.YtcndknkdhlmdnaaGreatDoorS02
import Derived.Lib.SlTrimSet
import Derived.Lib.Strings
import Derived.Lib.IndexMore
import Derived.Lib.IndexBytes
import Derived.Test.YtcndknkdhlmdnaaGreatDoorS29
import Derived.Test.YtcndknkdhlmdnaaGreatDoorS30
import Derived.Test.YtcndknkdhlmdnaaGreatDoorS35
import Derived.Test.YtcndknkdhlmdnaaGreatDoorS06
namespace Go.Proofs.YtcndknkdhlmdnaaGreatDoor

/-- the same bytes ahead; behind them no pattern is met but one that was there; and no digit may stand behind a digit -/
theorem pat_app : ∀ (body : List UInt8) {y y' : List UInt8}, body ≠ [] → Pat y y' → (dgC (body.getLastD 0) = true → dgC (y.headD 0) = false) → Pat (body ++ y) (body ++ y')
  | [], _, _, h, _, _ => absurd rfl h
  | c :: body, y, y', _, hy, hg => by
    intro P hP e
    cases P with
    | nil => exact absurd rfl hP.1
    | cons b P =>
      rw [List.cons_append, patF, Bool.and_eq_true] at e ⊢
      refine ⟨e.1, ?_⟩
      cases P with
      | nil =>
        have hb : b = true := Option.some.inj hP.2
        cases body with
        | nil =>
          rw [List.nil_append, patF, Bool.not_eq_true']
          refine hg ?_
          rw [hb, if_pos rfl] at e
          exact e.1
        | cons d body => exact e.2
      | cons b2 P =>
        cases body with
        | nil => exact hy _ (hP.tail (List.cons_ne_nil _ _)) e.2
        | cons d body => exact pat_app (d :: body) (List.cons_ne_nil _ _) hy (fun g => hg (by simpa using g)) _ (hP.tail (List.cons_ne_nil _ _)) e.2
end Go.Proofs.YtcndknkdhlmdnaaGreatDoor
