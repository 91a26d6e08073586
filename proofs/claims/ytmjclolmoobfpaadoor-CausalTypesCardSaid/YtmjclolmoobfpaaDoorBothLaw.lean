/-
  CausalBoth, plainly: two right contracts make one, unless it is too great.
-/
import Derived.Test.YtmjclolmoobfpaaDoorKidsLaw
namespace Go.Proofs.YtmjclolmoobfpaaDoor
open Go.RowKit
set_option maxRecDepth 100000

/-- is a term at least so deep? -/
def deepB (t : Tm) (n : Nat) : Bool := decide (n ≤ t.tall)
/-- two contracts at once -/
def bothT (a b : Tm) : Tm := .mk 27 0 ⟨#[]⟩ [a, b]

theorem both_letter (a b : Tm) (h : letterB a = 99) (h' : letterB b = 99) : letterB (bothT a b) = 99 := by
  unfold bothT
  rw [letterB, if_pos ⟨by decide, by show (kidsL 27).length = 2; decide, by decide⟩]
  have k : kidsL 27 = [99, 99] := by decide
  have o : ownL 27 = [99] := by decide
  rw [k, o]
  simp [lettersB, h, h']
theorem both_letter' (a b : Tm) (h : letterB (bothT a b) ≠ 0) : letterB a = 99 ∧ letterB b = 99 := by
  unfold bothT at h
  rw [letterB, if_pos ⟨by decide, by show (kidsL 27).length = 2; decide, by decide⟩] at h
  have k : kidsL 27 = [99, 99] := by decide
  rw [k] at h
  simp only [lettersB] at h
  by_cases h1 : letterB a = 0
  · simp [h1] at h
  by_cases h2 : letterB a = 99
  · by_cases h3 : letterB b = 0
    · simp [h2, h3] at h
    by_cases h4 : letterB b = 99
    · exact ⟨h2, h4⟩
    · have : ¬ (99 = letterB b) := fun e => h4 e.symm
      simp [h2, h3, this] at h
  · have : ¬ (99 = letterB a) := fun e => h2 e.symm
    simp [h1, this] at h
theorem typeB_contract {t : Tm} : rightB t = true ∧ typeB t = 4 ↔ smallB t = true ∧ letterB t = 99 := by
  unfold typeB
  constructor
  · rintro ⟨h, h'⟩
    rw [if_pos h] at h'
    have hr := letterB_range t
    unfold rightB at h
    rw [Bool.and_eq_true] at h
    refine ⟨h.1, ?_⟩
    obtain ⟨n, hn⟩ : ∃ n : Nat, letterB t = n := ⟨(letterB t).toNat, by omega⟩
    rw [hn] at h' hr ⊢
    have hn' : n < 256 := by omega
    have : ∀ m : Fin 256, Lib.indexByte [110, 98, 100, 63, 99] ((m.val : Int).toNat.toUInt8) = 4 → m.val = 99 := by decide +kernel
    have := this ⟨n, hn'⟩ h'
    simp at this
    omega
  · rintro ⟨h, h'⟩
    have hr : rightB t = true := by unfold rightB; rw [h, h']; rfl
    exact ⟨hr, by rw [if_pos hr, h']; decide⟩
theorem checkB_form {t : Tm} : checkB t = 140 ↔ ¬ (smallB t = true ∧ letterB t = 99) := by
  rw [← typeB_contract]
  unfold checkB
  by_cases h : rightB t = true ∧ typeB t = 4
  · rw [if_pos h]
    constructor
    · intro e; split at e <;> cases e
    · intro e; exact absurd h e
  · rw [if_neg h]; exact ⟨fun _ => h, fun _ => rfl⟩
theorem smallB_iff {t : Tm} : smallB t = true ↔ t.count ≤ 2000 ∧ t.tall ≤ 200 := decide_eq_true_iff
theorem both_count (a b : Tm) : (bothT a b).count = 1 + a.count + b.count := by
  unfold bothT; rw [Tm.count]; simp only [counts]; omega
theorem both_tall (a b : Tm) : (bothT a b).tall = 1 + max a.tall b.tall := by
  unfold bothT; rw [Tm.tall]; simp only [talls]; omega
theorem lastS_max (m m' : Int) (x : Tm) : lastS (max m m') x = max m (lastS m' x) := by unfold lastS; split <;> omega
theorem last_max (m : Int) : ∀ (l : List Tm) (m' : Int), l.foldl lastS (max m m') = max m (l.foldl lastS m')
  | [], _ => rfl
  | x :: l, m' => by rw [List.foldl_cons, List.foldl_cons, lastS_max, last_max m l]
theorem lastF_append (l l' : List Tm) : lastF (l ++ l') = max (lastF l) (lastF l') := by
  unfold lastF
  rw [List.foldl_append, ← last_max]
  congr 1
  have := last_le l 0
  omega
theorem both_terms (a b : Tm) : (bothT a b).terms = bothT a b :: (a.terms ++ b.terms) := by
  show Tm.terms (.mk 27 0 ⟨#[]⟩ [a, b]) = _
  rw [Tm.terms]
  simp only [termss, List.append_nil]
  rfl

/-- what is not formed of parts that are not -/
theorem both_bad {a b : Tm} (h : checkB a = 140 ∨ checkB b = 140) : checkB (bothT a b) = 140 := by
  rw [checkB_form] at h ⊢
  rw [checkB_form] at h
  rintro ⟨hs, hl⟩
  have := both_letter' a b (by omega)
  rw [smallB_iff, both_count, both_tall] at hs
  rcases h with h | h
  · exact h ⟨smallB_iff.2 (by omega), this.1⟩
  · exact h ⟨smallB_iff.2 (by omega), this.2⟩
theorem right_of {t : Tm} (h : ¬ checkB t = 140) : rightB t = true ∧ smallB t = true ∧ letterB t = 99 := by
  rw [checkB_form, Classical.not_not] at h
  exact ⟨(typeB_contract.2 h).1, h⟩
theorem both_great {a b : Tm} (ha : ¬ checkB a = 140) (hb : ¬ checkB b = 140) (h : checkB (bothT a b) = 140) :
    2000 < sizeB a + sizeB b + 1 ∨ deepB a 200 = true ∨ deepB b 200 = true := by
  obtain ⟨ra, sa, la⟩ := right_of ha
  obtain ⟨rb, sb, lb⟩ := right_of hb
  rw [checkB_form] at h
  have : ¬ smallB (bothT a b) = true := fun hs => h ⟨hs, both_letter a b la lb⟩
  rw [smallB_iff, both_count, both_tall] at this
  unfold sizeB deepB
  rw [if_pos ra, if_pos rb, decide_eq_true_iff, decide_eq_true_iff]
  omega
theorem ahead_terms (a b : Tm) : (bothT a b).terms.any aheadT = (a.terms.any aheadT || b.terms.any aheadT) := by
  rw [both_terms, List.any_cons, List.any_append]
  rfl
theorem both_fine {a b : Tm} (ha : ¬ checkB a = 140) (hb : ¬ checkB b = 140) (h : ¬ checkB (bothT a b) = 140) :
    (decide (checkB (bothT a b) = 0) = (decide (checkB a = 0) && decide (checkB b = 0))) ∧ horizonB (bothT a b) = max (horizonB a) (horizonB b) ∧ sizeB (bothT a b) = 1 + sizeB a + sizeB b := by
  obtain ⟨ra, sa, la⟩ := right_of ha
  obtain ⟨rb, sb, lb⟩ := right_of hb
  obtain ⟨rc, sc, lc⟩ := right_of h
  have ta := typeB_contract.2 ⟨sa, la⟩
  have tb := typeB_contract.2 ⟨sb, lb⟩
  have tc := typeB_contract.2 ⟨sc, lc⟩
  refine ⟨?_, ?_, ?_⟩
  · unfold checkB
    rw [if_pos ta, if_pos tb, if_pos tc, ahead_terms]
    cases a.terms.any aheadT <;> cases b.terms.any aheadT <;> rfl
  · unfold horizonB
    rw [if_pos ra, if_pos rb, if_pos rc, both_terms]
    show lastF ([bothT a b] ++ (a.terms ++ b.terms)) = _
    rw [lastF_append, lastF_append]
    have e : lastF [bothT a b] = 0 := rfl
    have := last_le a.terms 0
    have : 0 ≤ lastF a.terms := this
    rw [e]; omega
  · unfold sizeB
    rw [if_pos ra, if_pos rb, if_pos rc, both_count]
    omega

end Go.Proofs.YtmjclolmoobfpaaDoor
