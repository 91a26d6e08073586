/-
  Plain laws of days that are moved (no program in sight): sums of moves, a year of twelve months, later days stay later.
-/
import Derived.Test.YtilifaemehbleaaDoorCal
namespace Go.Proofs.YtilifaemehbleaaDoor.Cal

theorem plus_in {d a : Int} (h0 : 0 ≤ d) (h1 : d ≤ 73048) (h2 : 0 ≤ d + a) (h3 : d + a ≤ 73048) : plus d a = d + a := by
  unfold plus cl; omega
theorem plus_plus {d a b : Int} (h0 : 0 ≤ d) (h1 : d ≤ 73048) (h2 : 0 ≤ d + a) (h3 : d + a ≤ 73048) : plus (d + a) b = plus d (a + b) := by
  unfold plus cl; omega
theorem plus_mono {d e a : Int} (h : d ≤ e) : plus d a ≤ plus e a := by unfold plus cl; omega

theorem num_le_month {y m d z n e : Int} (h : ok y m d) (h' : ok z n e) (k : num y m d ≤ num z n e) : 12 * y + m < 12 * z + n ∨ y = z ∧ m = n ∧ d ≤ e := by
  have a := num_lt_year h
  have b := num_lt_year h'
  have i : y ≤ z := year_le a.1 (by omega)
  by_cases c : y = z
  · subst c
    obtain ⟨_, _, h3, h4, h5, h6⟩ := h
    obtain ⟨_, _, g3, g4, g5, g6⟩ := h'
    unfold num at k
    have c2 := cum_succ y g3 g4
    have j : m ≤ n := month_le (y := y) (k := cum y n + e - 1) g3 h4 (by omega) (by omega)
    by_cases f : m = n
    · subst f; right; exact ⟨rfl, rfl, by omega⟩
    · left; omega
  · left; obtain ⟨_, _, h3, h4, _⟩ := h; obtain ⟨_, _, g3, g4, _⟩ := h'; omega
theorem num_lt_of {y m d z n e : Int} (h : ok y m d) (h' : ok z n e) (c : 12 * y + m < 12 * z + n ∨ y = z ∧ m = n ∧ d ≤ e) : num y m d ≤ num z n e := by
  refine Int.not_lt.1 fun k => ?_
  have := num_le_month h' h (by omega)
  rcases c with c | ⟨rfl, rfl, c⟩
  · omega
  · rcases this with t | ⟨_, _, t⟩
    · omega
    · have : d = e := by omega
      subst this; omega

/-- the months' clamp, out of the way -/
theorem months_in {y m d n : Int} (hn : -25188 ≤ n) (hn' : n ≤ 25188) (h1 : 22800 ≤ 12 * y + m - 1 + n) (h2 : 12 * y + m - 1 + n < 25200) :
    months y m d n = num ((12 * y + m - 1 + n) / 12) ((12 * y + m - 1 + n) % 12 + 1) (min d (mlen ((12 * y + m - 1 + n) / 12) ((12 * y + m - 1 + n) % 12 + 1))) := by
  unfold months
  rw [show max (-25188) (min 25188 n) = n by omega, if_neg (by omega), if_neg (by omega)]
theorem months_bd {y m d n : Int} (h : ok y m d) : 0 ≤ months y m d n ∧ months y m d n ≤ 73048 := by
  unfold months
  split
  · omega
  · split
    · omega
    · rename_i a b
      by_cases c : -25188 ≤ n ∧ n ≤ 25188
      · exact num_bd (months_ok h (by omega) (by omega))
      · obtain ⟨h1, h2, h3, h4, _⟩ := h; omega
theorem months_zero {y m d : Int} (h : ok y m d) : months y m d 0 = num y m d := by
  obtain ⟨h1, h2, h3, h4, h5, h6⟩ := h
  rw [months_in (by omega) (by omega) (by omega) (by omega), show (12 * y + m - 1 + 0) / 12 = y by omega, show (12 * y + m - 1 + 0) % 12 + 1 = m by omega, show min d (mlen y m) = d by omega]
theorem months_year {y m d : Int} (h : ok y m d) (hy : y ≠ 2099) : ok (y + 1) m (min d (mlen (y + 1) m)) ∧ months y m d 12 = num (y + 1) m (min d (mlen (y + 1) m)) := by
  obtain ⟨h1, h2, h3, h4, h5, h6⟩ := h
  have := mlen_bd (y + 1) m
  refine ⟨⟨by omega, by omega, h3, h4, by omega, by omega⟩, ?_⟩
  rw [months_in (by omega) (by omega) (by omega) (by omega), show (12 * y + m - 1 + 12) / 12 = y + 1 by omega, show (12 * y + m - 1 + 12) % 12 + 1 = m by omega]
theorem months_last {m d : Int} (h : ok 2099 m d) : months 2099 m d 12 = num 2099 12 31 := by
  obtain ⟨h1, h2, h3, h4, h5, h6⟩ := h
  unfold months
  rw [if_neg (by omega), if_pos (by omega)]
  decide
theorem last_ok : ok 2099 12 31 := by decide
theorem year_day {y m d : Int} (h : ok y m d) : min d (mlen (y + 1) m) = d ∨ m = 2 ∧ d = 29 ∧ min d (mlen (y + 1) m) = 28 := by
  obtain ⟨h1, h2, h3, h4, h5, h6⟩ := h
  have a := lpI_b y
  have b := lpI_b (y + 1)
  unfold mlen at *
  split at h6
  · rename_i e
    rw [if_pos e]
    by_cases c : d = 29
    · by_cases f : lpI (y + 1) = 1
      · left; omega
      · right; omega
    · left; omega
  · rename_i e
    rw [if_neg e]
    left; omega
theorem months_mono {y m d z n e a : Int} (h : ok y m d) (h' : ok z n e) (k : num y m d ≤ num z n e) (ha : -2000 ≤ a) (ha' : a ≤ 2000) : months y m d a ≤ months z n e a := by
  have le := num_le_month h h' k
  have hs := h
  have hs' := h'
  have b1 := months_bd (n := a) h
  have b2 := months_bd (n := a) h'
  obtain ⟨h1, h2, h3, h4, h5, h6⟩ := h
  obtain ⟨g1, g2, g3, g4, g5, g6⟩ := h'
  by_cases c1 : 12 * y + m - 1 + a < 22800
  · have : months y m d a = 0 := by unfold months; rw [if_pos (by omega)]
    omega
  by_cases c2 : 25200 ≤ 12 * z + n - 1 + a
  · have : months z n e a = 73048 := by unfold months; rw [if_neg (by omega), if_pos (by omega)]
    omega
  rw [months_in (by omega) (by omega) (by omega) (by omega), months_in (by omega) (by omega) (by omega) (by omega)]
  refine num_lt_of (months_ok hs (by omega) (by omega)) (months_ok hs' (by omega) (by omega)) ?_
  rcases le with le | ⟨rfl, rfl, le⟩
  · left; omega
  · right; exact ⟨rfl, rfl, by omega⟩
/-- moves by months add up, where no day is cut off and nothing is clamped -/
theorem months_months {y m d z n e a b : Int} (h : ok y m d) (h' : ok z n e) (hk : num z n e = months y m d a) (hd : d ≤ 28) (ha : -2000 ≤ a) (ha' : a ≤ 2000) (hb : -2000 ≤ b) (hb' : b ≤ 2000)
    (m1 : 0 < months y m d a) (m2 : months y m d a < 73017) (e1 : 0 < months z n e b) (e2 : months z n e b < 73017) : months z n e b = months y m d (a + b) := by
  have hs := h
  obtain ⟨h1, h2, h3, h4, h5, h6⟩ := h
  have c1 : ¬ 12 * y + m - 1 + a < 22800 := fun c => by
    have : months y m d a = 0 := by unfold months; rw [if_pos (by omega)]
    omega
  have c2 : ¬ 25200 ≤ 12 * y + m - 1 + a := fun c => by
    have : months y m d a = 73048 := by unfold months; rw [if_neg (by omega), if_pos (by omega)]
    omega
  rw [months_in (by omega) (by omega) (by omega) (by omega)] at hk
  have lm := mlen_bd ((12 * y + m - 1 + a) / 12) ((12 * y + m - 1 + a) % 12 + 1)
  obtain ⟨rfl, rfl, rfl⟩ := num_inj h' (months_ok hs (by omega) (by omega)) hk
  have hm : min d (mlen ((12 * y + m - 1 + a) / 12) ((12 * y + m - 1 + a) % 12 + 1)) = d := by omega
  rw [hm] at h' e1 e2 hk ⊢
  have f1 : ¬ 12 * y + m - 1 + (a + b) < 22800 := fun c => by
    have : months ((12 * y + m - 1 + a) / 12) ((12 * y + m - 1 + a) % 12 + 1) d b = 0 := by unfold months; rw [if_pos (by omega)]
    omega
  have f2 : ¬ 25200 ≤ 12 * y + m - 1 + (a + b) := fun c => by
    have : months ((12 * y + m - 1 + a) / 12) ((12 * y + m - 1 + a) % 12 + 1) d b = 73048 := by unfold months; rw [if_neg (by omega), if_pos (by omega)]
    omega
  rw [months_in (by omega) (by omega) (by omega) (by omega), months_in (by omega) (by omega) (by omega) (by omega)]
  rw [show (12 * ((12 * y + m - 1 + a) / 12) + ((12 * y + m - 1 + a) % 12 + 1) - 1 + b) = 12 * y + m - 1 + (a + b) by omega]

end Go.Proofs.YtilifaemehbleaaDoor.Cal
