/-
  Complement: what one text more of ModLaw is rested on.
-/
import Derived.Test.YtcndknkdhlmdnaaGreatDoorS02
import Derived.Test.YtcndknkdhlmdnaaGreatDoorS01
import Derived.Test.YtcndknkdhlmdnaaGreatDoorRows
import Derived.WalkKit
import Derived.Lib.LaidTab
import Derived.Lib.SlTrimSet
import Derived.Lib.Strings
import Derived.Lib.IndexMore
import Derived.Lib.IndexBytes
import Derived.Test.YtcndknkdhlmdnaaGreatDoorS29
namespace Go.Proofs.YtcndknkdhlmdnaaGreatDoor

theorem takeWhile_len {α : Type} (p : α → Bool) : ∀ (l : List α) (k : Nat), k ≤ l.length → (∀ j (hj : j < l.length), j < k → p l[j] = true) → (∀ (hk : k < l.length), p l[k] = false) → (l.takeWhile p).length = k
  | [], k, hk, _, _ => by simp at hk; simp [hk]
  | a :: r, 0, _, _, h => by
    have := h (by simp)
    rw [List.takeWhile_cons, if_neg (by rw [show (a :: r)[0] = a from rfl] at this; rw [this]; decide)]
    rfl
  | a :: r, k + 1, hk, h, h' => by
    have := h 0 (by simp) (by omega)
    rw [List.takeWhile_cons, if_pos (by rw [show (a :: r)[0] = a from rfl] at this; exact this), List.length_cons]
    rw [takeWhile_len p r k (by simpa using hk) (fun j hj hjk => by have := h (j + 1) (by simpa using hj) (by omega); simpa using this) (fun hk' => by have := h' (by simpa using hk'); simpa using this)]
theorem all_take {α : Type} {p : α → Bool} {l : List α} {n : Nat} (h : ∀ j (hj : j < l.length), j < n → p l[j] = true) : (l.take n).all p = true := by
  rw [List.all_eq_true]
  intro a ha
  obtain ⟨i, hi, rfl⟩ := List.getElem_of_mem ha
  rw [List.length_take] at hi
  rw [List.getElem_take]
  exact h i (by omega) (by omega)
theorem mem_drop {α : Type} {l : List α} {j n : Nat} (hj : j < l.length) (h : n ≤ j) : l[j] ∈ l.drop n := by
  have : (l.drop n)[j - n]'(by rw [List.length_drop]; omega) = l[j] := by rw [List.getElem_drop]; congr 1; omega
  rw [← this]; exact List.getElem_mem _
end Go.Proofs.YtcndknkdhlmdnaaGreatDoor
