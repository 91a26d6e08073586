/-
  Plain laws of dates' texts (no program in sight): a date's text is read as that date; later days have later texts.
-/
import Derived.Test.YtilifaemehbleaaDoorText
import Derived.Test.YtilifaemehbleaaDoorDateLaw
namespace Go.Proofs.YtilifaemehbleaaDoor.Cal

theorem u8_lt {a b : Nat} (ha : a < 10) (hb : b < 10) : (UInt8.ofNat (48 + a) < UInt8.ofNat (48 + b)) ↔ a < b := by
  rw [UInt8.lt_iff_toNat_lt, UInt8.toNat_ofNat', UInt8.toNat_ofNat']; omega
theorem u8_eq {a b : Nat} (ha : a < 10) (hb : b < 10) : (UInt8.ofNat (48 + a) == UInt8.ofNat (48 + b)) = decide (a = b) := by
  rw [Bool.eq_iff_iff, beq_iff_eq, decide_eq_true_iff]
  constructor
  · intro h
    have := congrArg UInt8.toNat h
    rw [UInt8.toNat_ofNat', UInt8.toNat_ofNat'] at this
    omega
  · rintro rfl; rfl
theorem less_dig2 {a b : Nat} (ha : a < 100) (hb : b < 100) (x y : List UInt8) : Op.bytesLess (dig2 a ++ x) (dig2 b ++ y) = (decide (a < b) || (decide (a = b) && Op.bytesLess x y)) := by
  simp only [dig2, List.cons_append, List.nil_append, Op.bytesLess]
  have d1 : decide (UInt8.ofNat (48 + a / 10) < UInt8.ofNat (48 + b / 10)) = decide (a / 10 < b / 10) := decide_eq_decide.2 (u8_lt (by omega) (by omega))
  have d2 : decide (UInt8.ofNat (48 + a % 10) < UInt8.ofNat (48 + b % 10)) = decide (a % 10 < b % 10) := decide_eq_decide.2 (u8_lt (by omega) (by omega))
  rw [u8_eq (by omega) (by omega), u8_eq (by omega) (by omega), d1, d2]
  cases Op.bytesLess x y
  · rw [Bool.eq_iff_iff]; simp; omega
  · rw [Bool.eq_iff_iff]; simp; omega
theorem less_dash (x y : List UInt8) : Op.bytesLess (45 :: x) (45 :: y) = Op.bytesLess x y := by
  rw [Op.bytesLess]; simp
theorem less_text {y m d z n e : Int} (h : ok y m d) (h' : ok z n e) : Op.bytesLess (text y m d) (text z n e) = decide (num y m d < num z n e) := by
  have hs := h
  have hs' := h'
  obtain ⟨h1, h2, h3, h4, h5, h6⟩ := h
  obtain ⟨g1, g2, g3, g4, g5, g6⟩ := h'
  have l1 := mlen_bd y m
  have l2 := mlen_bd z n
  have e1 : ∀ a b : List UInt8, dig2 (y.toNat / 100) ++ dig2 (y.toNat % 100) ++ [45] ++ a ++ [45] ++ b = dig2 (y.toNat / 100) ++ (dig2 (y.toNat % 100) ++ (45 :: (a ++ (45 :: (b ++ []))))) := fun a b => by simp
  have e2 : ∀ a b : List UInt8, dig2 (z.toNat / 100) ++ dig2 (z.toNat % 100) ++ [45] ++ a ++ [45] ++ b = dig2 (z.toNat / 100) ++ (dig2 (z.toNat % 100) ++ (45 :: (a ++ (45 :: (b ++ []))))) := fun a b => by simp
  unfold text
  rw [e1, e2, less_dig2 (by omega) (by omega), less_dig2 (by omega) (by omega), less_dash, less_dig2 (by omega) (by omega), less_dash, less_dig2 (by omega) (by omega)]
  have key : num y m d < num z n e ↔ (12 * y + m < 12 * z + n ∨ y = z ∧ m = n ∧ d < e) := by
    constructor
    · intro k
      rcases num_le_month hs hs' (by omega) with c | ⟨c1, c2, c3⟩
      · exact .inl c
      · refine .inr ⟨c1, c2, ?_⟩
        by_cases f : d = e
        · subst c1 c2 f; omega
        · omega
    · intro k
      refine Int.not_le.1 fun c => ?_
      rcases num_le_month hs' hs c with c | ⟨c1, c2, c3⟩ <;> omega
  rw [Bool.eq_iff_iff, decide_eq_true_iff, key]
  simp only [Op.bytesLess, Bool.or_eq_true, Bool.and_eq_true, decide_eq_true_eq, Bool.and_false, Bool.or_false]
  omega

theorem text_len (y m d : Int) : (text y m d).length = 10 := rfl
theorem dig2_isDig {n : Nat} (h : n < 100) : isDig (UInt8.ofNat (48 + n / 10)) = true ∧ isDig (UInt8.ofNat (48 + n % 10)) = true := by
  unfold isDig
  rw [UInt8.toNat_ofNat', UInt8.toNat_ofNat']
  constructor <;> (rw [Bool.and_eq_true, decide_eq_true_iff, decide_eq_true_iff]; omega)
theorem val_dig2 {n : Nat} (h : n < 100) : val (dig2 n) = n := by
  unfold val dig2
  simp only [List.foldl_cons, List.foldl_nil]
  rw [UInt8.toNat_ofNat', UInt8.toNat_ofNat']
  omega
theorem val_dig4 {a b : Nat} (h : a < 100) (h' : b < 100) : val (dig2 a ++ dig2 b) = 100 * a + b := by
  unfold val dig2
  simp only [List.foldl_cons, List.foldl_nil, List.cons_append, List.nil_append]
  rw [UInt8.toNat_ofNat', UInt8.toNat_ofNat', UInt8.toNat_ofNat', UInt8.toNat_ofNat']
  omega
theorem text_form {y m d : Int} (h : ok y m d) : ∀ j (hj : j < (text y m d).length), fits j (text y m d)[j] = true := by
  obtain ⟨h1, h2, h3, h4, h5, h6⟩ := h
  have l1 := mlen_bd y m
  have a := dig2_isDig (n := y.toNat / 100) (by omega)
  have b := dig2_isDig (n := y.toNat % 100) (by omega)
  have c := dig2_isDig (n := m.toNat) (by omega)
  have e := dig2_isDig (n := d.toNat) (by omega)
  intro j hj
  have hj' : j < 10 := hj
  have cs : j = 0 ∨ j = 1 ∨ j = 2 ∨ j = 3 ∨ j = 4 ∨ j = 5 ∨ j = 6 ∨ j = 7 ∨ j = 8 ∨ j = 9 := by omega
  rcases cs with rfl | rfl | rfl | rfl | rfl | rfl | rfl | rfl | rfl | rfl
  · rw [fits_dig (by omega) (by omega)]; exact a.1
  · rw [fits_dig (by omega) (by omega)]; exact a.2
  · rw [fits_dig (by omega) (by omega)]; exact b.1
  · rw [fits_dig (by omega) (by omega)]; exact b.2
  · rfl
  · rw [fits_dig (by omega) (by omega)]; exact c.1
  · rw [fits_dig (by omega) (by omega)]; exact c.2
  · rfl
  · rw [fits_dig (by omega) (by omega)]; exact e.1
  · rw [fits_dig (by omega) (by omega)]; exact e.2
theorem text_vals {y m d : Int} (h : ok y m d) : val (seg (text y m d) 0 4) = y ∧ val (seg (text y m d) 5 7) = m ∧ val (seg (text y m d) 8 10) = d := by
  obtain ⟨h1, h2, h3, h4, h5, h6⟩ := h
  have l1 := mlen_bd y m
  refine ⟨?_, ?_, ?_⟩
  · rw [show seg (text y m d) 0 4 = dig2 (y.toNat / 100) ++ dig2 (y.toNat % 100) from rfl, val_dig4 (by omega) (by omega)]; omega
  · rw [show seg (text y m d) 5 7 = dig2 m.toNat from rfl, val_dig2 (by omega)]; omega
  · rw [show seg (text y m d) 8 10 = dig2 d.toNat from rfl, val_dig2 (by omega)]; omega

end Go.Proofs.YtilifaemehbleaaDoor.Cal
