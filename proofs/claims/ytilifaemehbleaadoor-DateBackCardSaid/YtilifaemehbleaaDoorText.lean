/-
  Plain laws of a date's text (no program in sight): two digits, ten bytes, read back.
-/
import Derived.Test.YtilifaemehbleaaDoorCal
import Derived.Lib.ItoaNum
namespace Go.Proofs.YtilifaemehbleaaDoor.Cal

/-- two digits -/
def dig2 (n : Nat) : List UInt8 := [UInt8.ofNat (48 + n / 10), UInt8.ofNat (48 + n % 10)]
/-- a date's text -/
def text (y m d : Int) : List UInt8 := dig2 (y.toNat / 100) ++ dig2 (y.toNat % 100) ++ [45] ++ dig2 m.toNat ++ [45] ++ dig2 d.toNat

theorem dec4 {u : Nat} (h : 1000 ≤ u) (h' : u < 10000) : Lib.decDigits u = dig2 (u / 100) ++ dig2 (u % 100) := by
  rw [Lib.decDigits, dif_neg (by omega), Lib.decDigits, dif_neg (by omega), Lib.decDigits, dif_neg (by omega), Lib.decDigits, dif_pos (by omega)]
  simp only [dig2, List.cons_append, List.nil_append]
  rw [show u / 10 / 10 / 10 = u / 100 / 10 by omega, show u / 10 / 10 % 10 = u / 100 % 10 by omega, show u / 10 % 10 = u % 100 / 10 by omega, show u % 10 = u % 100 % 10 by omega]
theorem itoa4 {y : Int} (h : 1000 ≤ y) (h' : y < 10000) : Lib.itoa y = dig2 (y.toNat / 100) ++ dig2 (y.toNat % 100) := by
  unfold Lib.itoa
  rw [if_neg (by omega), dec4 (by omega) (by omega)]
theorem dec3 {n : Nat} (h : n < 100) : (Lib.decDigits (100 + n)).drop 1 = dig2 n := by
  rw [Lib.decDigits, dif_neg (by omega), Lib.decDigits, dif_neg (by omega), Lib.decDigits, dif_pos (by omega)]
  simp only [dig2, List.cons_append, List.nil_append, List.drop_succ_cons, List.drop_zero]
  rw [show (100 + n) / 10 % 10 = n / 10 by omega, show (100 + n) % 10 = n % 10 by omega]
theorem itoa3 {n : Int} (h : 0 ≤ n) (h' : n < 100) : (Lib.itoa (100 + n)).drop 1 = dig2 n.toNat := by
  unfold Lib.itoa
  rw [if_neg (by omega), show (100 + n).toNat = 100 + n.toNat by omega, dec3 (by omega)]
theorem itoa3_len {n : Int} (h : 0 ≤ n) (h' : n < 100) : (Lib.itoa (100 + n)).length = 3 := by
  unfold Lib.itoa
  rw [if_neg (by omega), show (100 + n).toNat = 100 + n.toNat by omega]
  rw [Lib.decDigits, dif_neg (by omega), Lib.decDigits, dif_neg (by omega), Lib.decDigits, dif_pos (by omega)]
  rfl

/-- is a byte a digit? -/
def isDig (c : UInt8) : Bool := decide (48 ≤ (c.toNat : Int)) && decide ((c.toNat : Int) ≤ 57)
/-- the number of digits -/
def val (l : List UInt8) : Int := l.foldl (fun n c => 10 * n + ((c.toNat : Int) - 48)) 0
/-- of digits; below 0: they are none -/
def numL (l : List UInt8) : Int := if l.all isDig then val l else -1
theorem val_snoc (l : List UInt8) (c : UInt8) : val (l ++ [c]) = 10 * val l + ((c.toNat : Int) - 48) := by unfold val; rw [List.foldl_append]; rfl
theorem val_bd {l : List UInt8} : l.all isDig = true → 0 ≤ val l ∧ val l < 10 ^ l.length := by
  suffices h : ∀ (l : List UInt8) (k : Nat) (n : Int), l.all isDig = true → 0 ≤ n → n < 10 ^ k → 0 ≤ l.foldl (fun n c => 10 * n + ((c.toNat : Int) - 48)) n ∧ l.foldl (fun n c => 10 * n + ((c.toNat : Int) - 48)) n < 10 ^ (k + l.length) by
    intro h0
    have := h l 0 0 h0 (by decide) (by decide)
    simpa [val] using this
  intro l
  induction l with
  | nil => intro k n _ h0 h1; simpa using ⟨h0, h1⟩
  | cons c l ih =>
    intro k n ha h0 h1
    simp only [List.all_cons, Bool.and_eq_true] at ha
    have hc : 48 ≤ (c.toNat : Int) ∧ (c.toNat : Int) ≤ 57 := by have := ha.1; unfold isDig at this; simpa using this
    have := ih (k + 1) (10 * n + ((c.toNat : Int) - 48)) ha.2 (by omega) (by rw [Int.pow_succ]; omega)
    rw [show k + 1 + l.length = k + (c :: l).length by simp; omega] at this
    exact this

/-- a part of a list -/
def seg (l : List UInt8) (lo hi : Nat) : List UInt8 := (l.drop lo).take (hi - lo)
theorem seg_nil (l : List UInt8) {lo hi : Nat} (h : hi ≤ lo) : seg l lo hi = [] := by unfold seg; rw [Nat.sub_eq_zero_of_le h, List.take_zero]
theorem seg_succ (l : List UInt8) {lo k : Nat} (h : lo ≤ k) (hk : k < l.length) : seg l lo (k + 1) = seg l lo k ++ [l[k]] := by
  unfold seg
  rw [show k + 1 - lo = (k - lo) + 1 by omega, List.take_succ_eq_append_getElem (by simp; omega), List.getElem_drop]
  congr 2
  congr 1
  omega
theorem seg_all (l : List UInt8) {lo hi : Nat} (hd : ∀ j (hj : j < l.length), lo ≤ j → j < hi → isDig l[j] = true) : (seg l lo hi).all isDig = true := by
  rw [List.all_eq_true]
  intro x hx
  unfold seg at hx
  obtain ⟨i, hi', rfl⟩ := List.getElem_of_mem hx
  rw [List.getElem_take, List.getElem_drop]
  simp only [List.length_take, List.length_drop] at hi'
  exact hd _ (by omega) (by omega) (by omega)
theorem seg_not (l : List UInt8) {lo hi k : Nat} (h : lo ≤ k) (h' : k < hi) (hk : k < l.length) (hd : isDig l[k] = false) : numL (seg l lo hi) = -1 := by
  unfold numL
  rw [if_neg]
  intro a
  rw [List.all_eq_true] at a
  have : l[k] ∈ seg l lo hi := by
    unfold seg
    rw [List.mem_iff_getElem]
    refine ⟨k - lo, by simp; omega, ?_⟩
    rw [List.getElem_take, List.getElem_drop]
    congr 1
    omega
  rw [a _ this] at hd
  cases hd
theorem seg_len (l : List UInt8) (lo hi : Nat) : (seg l lo hi).length ≤ hi - lo := by unfold seg; rw [List.length_take]; omega
theorem seg_bd (l : List UInt8) {lo hi : Nat} (h : hi ≤ lo + 4) (hd : ∀ j (hj : j < l.length), lo ≤ j → j < hi → isDig l[j] = true) : 0 ≤ val (seg l lo hi) ∧ val (seg l lo hi) < 10000 := by
  have a := val_bd (seg_all l hd)
  have b := seg_len l lo hi
  refine ⟨a.1, Int.lt_of_lt_of_le a.2 ?_⟩
  generalize (seg l lo hi).length = n at *
  have c : n = 0 ∨ n = 1 ∨ n = 2 ∨ n = 3 ∨ n = 4 := by omega
  rcases c with e | e | e | e | e <;> subst e <;> decide

/-- is a byte what a date's text has at its place? -/
def fits (k : Nat) (c : UInt8) : Bool := if k = 4 ∨ k = 7 then decide ((c.toNat : Int) = 45) else isDig c
/-- ten bytes of a date's form -/
def form (l : List UInt8) : Prop := ∀ j (hj : j < l.length), fits j l[j] = true
theorem fits_dig {k : Nat} {c : UInt8} (h4 : k ≠ 4) (h7 : k ≠ 7) : fits k c = isDig c := by unfold fits; rw [if_neg (by omega)]
theorem fits_dash {k : Nat} {c : UInt8} (h : k = 4 ∨ k = 7) : fits k c = decide ((c.toNat : Int) = 45) := by unfold fits; rw [if_pos h]

end Go.Proofs.YtilifaemehbleaaDoor.Cal
