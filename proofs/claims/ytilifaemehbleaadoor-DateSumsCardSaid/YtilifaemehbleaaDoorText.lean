/-
  Plain laws of a date's text (no program in sight): two digits, ten bytes, read back.
-/
import Derived.Test.YtilifaemehbleaaDoorCal
import Derived.Lib.ItoaNum
namespace Go.Proofs.YtilifaemehbleaaDoor.Cal

/-- two digits -/
def dig2 (n : Nat) : List UInt8 := [UInt8.ofNat (48 + n / 10), UInt8.ofNat (48 + n % 10)]
/-- a date's text -/
def text (y m d : Int) : List UInt8 := dig2 (y.toNat / 100) ++ dig2 (y.toNat % 100) ++ [45] ++ dig2 m.toNat ++ [45] ++ dig2 d.toNat

theorem dec4 {u : Nat} (h : 1000 ≤ u) (h' : u < 10000) : Lib.decDigits u = dig2 (u / 100) ++ dig2 (u % 100) := by
  rw [Lib.decDigits, dif_neg (by omega), Lib.decDigits, dif_neg (by omega), Lib.decDigits, dif_neg (by omega), Lib.decDigits, dif_pos (by omega)]
  simp only [dig2, List.cons_append, List.nil_append]
  rw [show u / 10 / 10 / 10 = u / 100 / 10 by omega, show u / 10 / 10 % 10 = u / 100 % 10 by omega, show u / 10 % 10 = u % 100 / 10 by omega, show u % 10 = u % 100 % 10 by omega]
theorem itoa4 {y : Int} (h : 1000 ≤ y) (h' : y < 10000) : Lib.itoa y = dig2 (y.toNat / 100) ++ dig2 (y.toNat % 100) := by
  unfold Lib.itoa
  rw [if_neg (by omega), dec4 (by omega) (by omega)]
theorem dec3 {n : Nat} (h : n < 100) : (Lib.decDigits (100 + n)).drop 1 = dig2 n := by
  rw [Lib.decDigits, dif_neg (by omega), Lib.decDigits, dif_neg (by omega), Lib.decDigits, dif_pos (by omega)]
  simp only [dig2, List.cons_append, List.nil_append, List.drop_succ_cons, List.drop_zero]
  rw [show (100 + n) / 10 % 10 = n / 10 by omega, show (100 + n) % 10 = n % 10 by omega]
theorem itoa3 {n : Int} (h : 0 ≤ n) (h' : n < 100) : (Lib.itoa (100 + n)).drop 1 = dig2 n.toNat := by
  unfold Lib.itoa
  rw [if_neg (by omega), show (100 + n).toNat = 100 + n.toNat by omega, dec3 (by omega)]
theorem itoa3_len {n : Int} (h : 0 ≤ n) (h' : n < 100) : (Lib.itoa (100 + n)).length = 3 := by
  unfold Lib.itoa
  rw [if_neg (by omega), show (100 + n).toNat = 100 + n.toNat by omega]
  rw [Lib.decDigits, dif_neg (by omega), Lib.decDigits, dif_neg (by omega), Lib.decDigits, dif_pos (by omega)]
  rfl

end Go.Proofs.YtilifaemehbleaaDoor.Cal
