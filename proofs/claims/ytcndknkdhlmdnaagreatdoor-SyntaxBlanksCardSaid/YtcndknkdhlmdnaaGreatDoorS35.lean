/-
  Complement: what one text more of NumLaw is rested on.
-/
import Derived.Test.YtcndknkdhlmdnaaGreatDoorS04
import Derived.Test.YtcndknkdhlmdnaaGreatDoorS01
import Derived.Test.YtcndknkdhlmdnaaGreatDoorRows
import Derived.WalkKit
import Derived.Lib.LaidTab
import Derived.Test.YtcndknkdhlmdnaaGreatDoorS02
import Derived.Lib.SlTrimSet
import Derived.Lib.Strings
import Derived.Lib.IndexMore
import Derived.Lib.IndexBytes
import Derived.Test.YtcndknkdhlmdnaaGreatDoorS29
import Derived.Test.YtcndknkdhlmdnaaGreatDoorS30
import Derived.Test.YtcndknkdhlmdnaaGreatDoorS34
namespace Go.Proofs.YtcndknkdhlmdnaaGreatDoor

/-- so many digits stand ahead -/
theorem digs_of {d : List UInt8} {k : Nat} (hk : k ≤ d.length) (h : ∀ j (hj : j < d.length), j < k → dgC d[j] = true) (h' : ∀ (hk : k < d.length), dgC d[k] = false) : digR d = k := takeWhile_len dgC d k hk h h'
theorem takeWhile_take {α : Type} (p : α → Bool) (l : List α) : l.takeWhile p = l.take (l.takeWhile p).length := (List.prefix_iff_eq_take.1 (List.takeWhile_prefix p))
theorem numU_eq {d : List UInt8} {k : Nat} (h : digR d = k) : numU d = if 1 ≤ k ∧ k ≤ 10 ∧ (k = 1 ∨ d.headD 0 ≠ 48) ∧ partOk (d.drop k) = true then some (Cal.val (d.take k ++ d.drop (k + 1) ++ List.replicate (6 - (d.drop (k + 1)).length) 48)) else none := by
  unfold digR at h
  unfold numU
  simp only
  rw [h, List.tail_drop, takeWhile_take, h]
/-- what a number's digits are, with those that are left out -/
def digQ (d : List UInt8) (k : Nat) : List UInt8 := d.drop (k + 1) ++ List.replicate (6 - (d.drop (k + 1)).length) 48
theorem digQ_len {d : List UInt8} {k : Nat} (h : d.length - (k + 1) ≤ 6) : (digQ d k).length = 6 := by
  unfold digQ
  rw [List.length_append, List.length_replicate, List.length_drop]; omega
theorem digQ_at {d : List UInt8} {k i : Nat} (h : k + 1 + i < d.length) (hi : i < (digQ d k).length) : (digQ d k)[i] = d[k + 1 + i] := by
  unfold digQ at hi ⊢
  rw [List.getElem_append_left (by rw [List.length_drop]; omega), List.getElem_drop]
theorem digQ_0 {d : List UInt8} {k i : Nat} (h : ¬ k + 1 + i < d.length) (hi : i < (digQ d k).length) : (digQ d k)[i] = 48 := by
  unfold digQ at hi ⊢
  rw [List.getElem_append_right (by rw [List.length_drop]; omega), List.getElem_replicate]
theorem val_take {l q : List UInt8} {i : Nat} (hi : i < q.length) : Cal.val (l ++ q.take (i + 1)) = 10 * Cal.val (l ++ q.take i) + ((q[i].toNat : Int) - 48) := by
  rw [List.take_succ_eq_append_getElem hi, ← List.append_assoc, Cal.val_snoc]
theorem val_take' {d : List UInt8} {i : Nat} (hi : i < d.length) : Cal.val (d.take (i + 1)) = 10 * Cal.val (d.take i) + ((d[i].toNat : Int) - 48) := by
  rw [List.take_succ_eq_append_getElem hi, Cal.val_snoc]
theorem dig_toNat {c : UInt8} (h : dgC c = true) : 48 ≤ (c.toNat : Int) ∧ (c.toNat : Int) ≤ 57 := by
  unfold dgC at h
  simp only [Bool.and_eq_true, decide_eq_true_eq] at h
  omega
/-- a number's value, and is it one -/
def numV (l : List UInt8) : Int := (numP l).getD 0
def numB (l : List UInt8) : Bool := (numP l).isSome
theorem numP_pos {d : List UInt8} (h : d.headD 0 ≠ 45) : numP d = match numU d with | some n => if 1000000000000000 < n then none else some n | none => none := if_neg h
theorem numP_none {d : List UInt8} (h : d.headD 0 ≠ 45) (hu : numU d = none) : numV d = 0 ∧ numB d = false := by
  unfold numV numB
  rw [numP_pos h, hu]
  exact ⟨rfl, rfl⟩
theorem numP_some {d : List UInt8} {n : Int} (h : d.headD 0 ≠ 45) (hu : numU d = some n) (hn : ¬ 1000000000000000 < n) : numV d = n ∧ numB d = true := by
  unfold numV numB
  rw [numP_pos h, hu]
  simp only [if_neg hn]
  exact ⟨rfl, rfl⟩
theorem numP_big {d : List UInt8} {n : Int} (h : d.headD 0 ≠ 45) (hu : numU d = some n) (hn : 1000000000000000 < n) : numV d = 0 ∧ numB d = false := by
  unfold numV numB
  rw [numP_pos h, hu]
  simp only [if_pos hn]
  exact ⟨rfl, rfl⟩
end Go.Proofs.YtcndknkdhlmdnaaGreatDoor
