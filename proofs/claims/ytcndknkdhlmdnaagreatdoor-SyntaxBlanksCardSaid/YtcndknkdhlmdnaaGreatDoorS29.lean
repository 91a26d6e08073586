/-
  Complement: what one text more of Text is rested on.
-/
import Derived.Test.YtcndknkdhlmdnaaGreatDoorS01
import Derived.WalkKit
import Derived.Lib.ItoaNum
namespace Go.Proofs.YtcndknkdhlmdnaaGreatDoor.Cal

/-- of digits; below 0: they are none -/
def numL (l : List UInt8) : Int := if l.all isDig then val l else -1
theorem seg_not (l : List UInt8) {lo hi k : Nat} (h : lo ≤ k) (h' : k < hi) (hk : k < l.length) (hd : isDig l[k] = false) : numL (seg l lo hi) = -1 := by
  unfold numL
  rw [if_neg]
  intro a
  rw [List.all_eq_true] at a
  have : l[k] ∈ seg l lo hi := by
    unfold seg
    rw [List.mem_iff_getElem]
    refine ⟨k - lo, by simp; omega, ?_⟩
    rw [List.getElem_take, List.getElem_drop]
    congr 1
    omega
  rw [a _ this] at hd
  cases hd
end Go.Proofs.YtcndknkdhlmdnaaGreatDoor.Cal
