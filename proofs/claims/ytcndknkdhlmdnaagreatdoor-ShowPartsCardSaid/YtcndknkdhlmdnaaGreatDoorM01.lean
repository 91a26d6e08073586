/-
  Texts that the statements' proofs rest on, one behind another: Cal, DateLaw, Text, TextLaw.
-/
import Derived.WalkKit
import Derived.Lib.ItoaNum

/-
  Plain mathematics of the calendar (no program in sight): leap years, lengths of months, the number of a day, and that the number says the day.
-/
namespace Go.Proofs.YtcndknkdhlmdnaaGreatDoor.Cal

def lp (y : Int) : Bool := y % 4 == 0 && (y % 100 != 0 || y % 400 == 0)
def lpI (y : Int) : Int := if lp y then 1 else 0
theorem lpI_01 (y : Int) : lpI y = 0 ∨ lpI y = 1 := by unfold lpI; split <;> simp
theorem lpI_b (y : Int) : 0 ≤ lpI y ∧ lpI y ≤ 1 := by have := lpI_01 y; omega
theorem lpI_t {y : Int} (h : lp y = true) : lpI y = 1 := by simp [lpI, h]
theorem lpI_f {y : Int} (h : lp y = false) : lpI y = 0 := by simp [lpI, h]

/-- days ahead of a year, from 1900 on -/
def ahead (y : Int) : Int := 365 * (y - 1 - 1899) + (y - 1) / 4 - (y - 1) / 100 + (y - 1) / 400 - 460
theorem ahead_1900 : ahead 1900 = 0 := by decide
theorem ahead_succ (y : Int) : ahead (y + 1) = ahead y + 365 + lpI y := by
  unfold ahead lpI lp
  by_cases a : y % 4 = 0 <;> by_cases b : y % 100 = 0 <;> by_cases c : y % 400 = 0 <;> simp [a, b, c] <;> omega
theorem ahead_mono {a b : Int} (h : a ≤ b) : ahead a ≤ ahead b := by unfold ahead; omega
theorem ahead_bd {y : Int} (h : 1900 ≤ y) (h' : y ≤ 2100) : 0 ≤ ahead y ∧ ahead y ≤ 73049 := by unfold ahead; omega

/-- how many days a month has -/
def mlen (y m : Int) : Int := if m = 2 then 28 + lpI y else if m = 4 ∨ m = 6 ∨ m = 9 ∨ m = 11 then 30 else 31
theorem mlen_bd (y m : Int) : 28 ≤ mlen y m ∧ mlen y m ≤ 31 := by unfold mlen; have := lpI_b y; split <;> (try split) <;> omega
/-- days of a year ahead of a month -/
def cum (y m : Int) : Int :=
  if m ≤ 1 then 0 else if m ≤ 2 then 31 else lpI y + (if m ≤ 3 then 59 else if m ≤ 4 then 90 else if m ≤ 5 then 120 else if m ≤ 6 then 151 else if m ≤ 7 then 181 else if m ≤ 8 then 212 else if m ≤ 9 then 243 else if m ≤ 10 then 273 else if m ≤ 11 then 304 else if m ≤ 12 then 334 else 365)
theorem months_cases {m : Int} (h : 1 ≤ m) (h' : m ≤ 12) : m = 1 ∨ m = 2 ∨ m = 3 ∨ m = 4 ∨ m = 5 ∨ m = 6 ∨ m = 7 ∨ m = 8 ∨ m = 9 ∨ m = 10 ∨ m = 11 ∨ m = 12 := by omega
theorem cum_1 (y : Int) : cum y 1 = 0 := by simp [cum]
theorem cum_13 (y : Int) : cum y 13 = 365 + lpI y := by simp [cum]; omega
theorem cum_succ (y : Int) {m : Int} (h : 1 ≤ m) (h' : m ≤ 12) : cum y (m + 1) = cum y m + mlen y m := by
  rcases months_cases h h' with e | e | e | e | e | e | e | e | e | e | e | e <;> subst e <;> simp [cum, mlen] <;> omega
theorem cum_add (y : Int) (k : Nat) : ∀ m : Int, 1 ≤ m → m + k ≤ 13 → cum y m ≤ cum y (m + k) := by
  induction k with
  | zero => intro m _ _; have e : m + ((0 : Nat) : Int) = m := by omega
            rw [e]; exact Int.le_refl _
  | succ k ih =>
    intro m h h'
    have a := ih m h (by omega)
    have b := cum_succ y (show 1 ≤ m + k by omega) (by omega)
    have c := mlen_bd y (m + k)
    have e : m + ((k + 1 : Nat) : Int) = m + k + 1 := by omega
    rw [e]; omega
theorem cum_mono (y : Int) {m n : Int} (h0 : 1 ≤ m) (h : m ≤ n) (h1 : n ≤ 13) : cum y m ≤ cum y n := by
  have a := cum_add y (n - m).toNat m h0 (by omega)
  have e : m + ((n - m).toNat : Int) = n := by omega
  rwa [e] at a
theorem cum_bd (y : Int) {m : Int} (h : 1 ≤ m) (h' : m ≤ 13) : 0 ≤ cum y m ∧ cum y m ≤ 366 := by
  have a := cum_mono y (Int.le_refl 1) h h'
  have b := cum_mono y h h' (Int.le_refl 13)
  have c := lpI_b y
  rw [cum_1] at a
  rw [cum_13] at b
  omega

/-- a date that there is -/
def ok (y m d : Int) : Prop := 1900 ≤ y ∧ y ≤ 2099 ∧ 1 ≤ m ∧ m ≤ 12 ∧ 1 ≤ d ∧ d ≤ mlen y m
instance (y m d : Int) : Decidable (ok y m d) := by unfold ok; infer_instance
def num (y m d : Int) : Int := ahead y + cum y m + d - 1

theorem in_year {y m d : Int} (h : ok y m d) : 0 ≤ cum y m + d - 1 ∧ cum y m + d - 1 < 365 + lpI y := by
  obtain ⟨_, _, h3, h4, h5, h6⟩ := h
  have c := cum_succ y h3 h4
  have b := cum_bd y h3 (by omega)
  have e := cum_mono y (show 1 ≤ m + 1 by omega) (show m + 1 ≤ 13 by omega) (Int.le_refl 13)
  rw [cum_13] at e
  omega
theorem num_bd {y m d : Int} (h : ok y m d) : 0 ≤ num y m d ∧ num y m d ≤ 73048 := by
  have i := in_year h
  obtain ⟨h1, h2, -⟩ := h
  have a := ahead_bd h1 (by omega)
  have b := ahead_bd (show 1900 ≤ y + 1 by omega) (by omega)
  have s := ahead_succ y
  unfold num
  omega
theorem num_lt_year {y m d : Int} (h : ok y m d) : ahead y ≤ num y m d ∧ num y m d < ahead (y + 1) := by
  have i := in_year h
  have s := ahead_succ y
  unfold num
  omega
theorem year_le {y z k : Int} (h : ahead y ≤ k) (h' : k < ahead (z + 1)) : y ≤ z := by
  refine Int.not_lt.1 fun c => ?_
  have := ahead_mono (show z + 1 ≤ y by omega)
  omega
theorem month_le {y m n k : Int} (hn0 : 1 ≤ n) (hm : m ≤ 12) (h : cum y m ≤ k) (h' : k < cum y (n + 1)) : m ≤ n := by
  refine Int.not_lt.1 fun c => ?_
  have := cum_mono y (show 1 ≤ n + 1 by omega) (show n + 1 ≤ m by omega) (by omega)
  omega
theorem num_inj {y m d z n e : Int} (h : ok y m d) (h' : ok z n e) (k : num y m d = num z n e) : y = z ∧ m = n ∧ d = e := by
  have a := num_lt_year h
  have b := num_lt_year h'
  have i : y = z := Int.le_antisymm (year_le a.1 (by omega)) (year_le b.1 (by omega))
  subst i
  obtain ⟨_, _, h3, h4, h5, h6⟩ := h
  obtain ⟨_, _, g3, g4, g5, g6⟩ := h'
  unfold num at k
  have c1 := cum_succ y h3 h4
  have c2 := cum_succ y g3 g4
  have j : m = n := Int.le_antisymm (month_le (y := y) (k := cum y m + d - 1) g3 h4 (by omega) (by omega)) (month_le (y := y) (k := cum y n + e - 1) h3 g4 (by omega) (by omega))
  subst j
  exact ⟨rfl, rfl, by omega⟩

theorem year_of (k : Int) (h : 0 ≤ k) (h' : k ≤ 73048) : ∃ y, 1900 ≤ y ∧ y ≤ 2099 ∧ ahead y ≤ k ∧ k < ahead (y + 1) := by
  have step : ∀ n : Nat, (∃ y, 1900 ≤ y ∧ y ≤ 2099 ∧ ahead y ≤ k ∧ k < ahead (y + 1)) ∨ ahead (1900 + n) ≤ k ∨ 200 < n := by
    intro n
    induction n with
    | zero => right; left; show ahead 1900 ≤ k; rw [ahead_1900]; exact h
    | succ n ih =>
      rcases ih with a | a | a
      · exact .inl a
      · by_cases c : n ≤ 199
        · by_cases b : k < ahead (1900 + n + 1)
          · exact .inl ⟨1900 + n, by omega, by omega, a, b⟩
          · right; left; have : (1900 + ((n + 1 : Nat) : Int)) = 1900 + n + 1 := by omega
            rw [this]; omega
        · right; right; omega
      · right; right; omega
  rcases step 200 with a | a | a
  · exact a
  · have : ahead (1900 + ((200 : Nat) : Int)) = 73049 := by decide
    omega
  · omega
theorem month_of (y k : Int) (h : 0 ≤ k) (h' : k < 365 + lpI y) : ∃ m, 1 ≤ m ∧ m ≤ 12 ∧ cum y m ≤ k ∧ k < cum y (m + 1) := by
  have step : ∀ n : Nat, (∃ m, 1 ≤ m ∧ m ≤ 12 ∧ cum y m ≤ k ∧ k < cum y (m + 1)) ∨ cum y (1 + n) ≤ k ∨ 12 < n := by
    intro n
    induction n with
    | zero => right; left; show cum y 1 ≤ k; rw [cum_1]; exact h
    | succ n ih =>
      rcases ih with a | a | a
      · exact .inl a
      · by_cases c : n ≤ 11
        · by_cases b : k < cum y (1 + n + 1)
          · exact .inl ⟨1 + n, by omega, by omega, a, b⟩
          · right; left; have : (1 + ((n + 1 : Nat) : Int)) = 1 + n + 1 := by omega
            rw [this]; omega
        · right; right; omega
      · right; right; omega
  rcases step 12 with a | a | a
  · exact a
  · have : cum y (1 + ((12 : Nat) : Int)) = 365 + lpI y := cum_13 y
    omega
  · omega
/-- each number says a date -/
theorem date_of (k : Int) (h : 0 ≤ k) (h' : k ≤ 73048) : ∃ y m d, ok y m d ∧ num y m d = k := by
  obtain ⟨y, h1, h2, h3, h4⟩ := year_of k h h'
  have s := ahead_succ y
  obtain ⟨m, g1, g2, g3, g4⟩ := month_of y (k - ahead y) (by omega) (by omega)
  have c := cum_succ y g1 g2
  exact ⟨y, m, k - ahead y - cum y m + 1, ⟨h1, h2, g1, g2, by omega, by omega⟩, by unfold num; omega⟩

/-- a month that lies ahead of a day's own is past -/
theorem more {y m d z j : Int} (h : ok y m d) (h1 : 1 ≤ j) (h2 : j ≤ 12) (c : z < y ∨ z = y ∧ j < m) : cum z (j + 1) + ahead z ≤ num y m d := by
  have i := in_year h
  have a := num_lt_year h
  obtain ⟨_, _, h3, h4, h5, h6⟩ := h
  rcases c with c | ⟨rfl, c⟩
  · have e := cum_mono z (show 1 ≤ j + 1 by omega) (show j + 1 ≤ 13 by omega) (Int.le_refl 13)
    rw [cum_13] at e
    have s := ahead_succ z
    have t := ahead_mono (show z + 1 ≤ y by omega)
    omega
  · have e := cum_mono z (show 1 ≤ j + 1 by omega) (show j + 1 ≤ m by omega) (by omega)
    unfold num
    omega

/-- a day, within the days that there are -/
def cl (d : Int) : Int := max 0 (min 73048 d)
theorem cl_bd (d : Int) : 0 ≤ cl d ∧ cl d ≤ 73048 := by unfold cl; omega
theorem cl_id {d : Int} (h : 0 ≤ d) (h' : d ≤ 73048) : cl d = d := by unfold cl; omega
theorem cl_mono {a b : Int} (h : a ≤ b) : cl a ≤ cl b := by unfold cl; omega

/-- so many days later -/
def plus (d n : Int) : Int := cl (cl d + max (-73048) (min 73048 n))

/-- so many months later (of the date that the day is) -/
def months (y m d n : Int) : Int :=
  if 12 * y + m - 1 + max (-25188) (min 25188 n) < 22800 then 0
  else if 25200 ≤ 12 * y + m - 1 + max (-25188) (min 25188 n) then 73048
  else num ((12 * y + m - 1 + n) / 12) ((12 * y + m - 1 + n) % 12 + 1) (min d (mlen ((12 * y + m - 1 + n) / 12) ((12 * y + m - 1 + n) % 12 + 1)))
theorem months_ok {y m d k : Int} (h : ok y m d) (h1 : 22800 ≤ k) (h2 : k < 25200) : ok (k / 12) (k % 12 + 1) (min d (mlen (k / 12) (k % 12 + 1))) := by
  obtain ⟨_, _, _, _, h5, h6⟩ := h
  have := mlen_bd (k / 12) (k % 12 + 1)
  unfold ok
  omega

/-- a quotient's rounding, a half to the even -/
def rnd (q r b : Int) : Int := if b - r < r ∨ r = b - r ∧ q % 2 = 1 then q + 1 else q
/-- a / b in millionths: of numbers that are not too great -/
def dv (a b : Int) : Int := if a < 0 then -(rnd (-a * 1000000 / b) (-a * 1000000 % b) b) else rnd (a * 1000000 / b) (a * 1000000 % b) b
theorem rnd_bd {q r b : Int} : q ≤ rnd q r b ∧ rnd q r b ≤ q + 1 := by unfold rnd; split <;> omega
theorem rnd_zero {b : Int} (h : 0 < b) : rnd 0 0 b = 0 := by unfold rnd; rw [if_neg (by omega)]
theorem dv_bd {a b : Int} (h0 : -100000000000 ≤ a) (h1 : a ≤ 100000000000) (hb : 1000000 ≤ b) : -100000000001 ≤ dv a b ∧ dv a b ≤ 100000000001 := by
  have pos : ∀ x : Int, 0 ≤ x → x ≤ 100000000000 → 0 ≤ rnd (x * 1000000 / b) (x * 1000000 % b) b ∧ rnd (x * 1000000 / b) (x * 1000000 % b) b ≤ 100000000001 := by
    intro x hx hx'
    have q0 : 0 ≤ x * 1000000 / b := Int.ediv_nonneg (by omega) (by omega)
    have u : x * 1000000 / b * b ≤ x * 1000000 := Int.ediv_mul_le _ (by omega)
    have v : x * 1000000 / b * 1000000 ≤ x * 1000000 / b * b := Int.mul_le_mul_of_nonneg_left hb q0
    have r := rnd_bd (q := x * 1000000 / b) (r := x * 1000000 % b) (b := b)
    omega
  unfold dv
  split
  · have := pos (-a) (by omega) (by omega); omega
  · have := pos a (by omega) (by omega); omega
theorem dv_neg {a b : Int} (h : 0 < b) : dv (-a) b = - dv a b := by
  unfold dv
  by_cases c : a < 0
  · rw [if_neg (by omega), if_pos c]; omega
  · by_cases e : a = 0
    · subst e; simp [rnd_zero h]
    · rw [if_pos (by omega), if_neg c, Int.neg_neg]
theorem step_div (n b : Int) (h : 0 < b) : 10 * (n / b) + 10 * (n % b) / b = 10 * n / b := by
  have e : 10 * n = 10 * (n % b) + b * (10 * (n / b)) := by
    have := Int.mul_ediv_add_emod n b
    have : 10 * n = 10 * (b * (n / b) + n % b) := by rw [this]
    rw [this, Int.mul_add, ← Int.mul_assoc b 10, Int.mul_comm b 10, Int.mul_assoc 10 b]
    omega
  rw [e, Int.add_mul_ediv_left _ _ (by omega)]
  omega
theorem step_mod (n b : Int) : 10 * (n % b) % b = 10 * n % b := by
  rw [Int.mul_emod 10 n b, Int.mul_emod 10 (n % b) b, Int.emod_emod_of_dvd _ (Int.dvd_refl b)]

end Go.Proofs.YtcndknkdhlmdnaaGreatDoor.Cal

/-
  Plain laws of days that are moved (no program in sight): sums of moves, a year of twelve months, later days stay later.
-/
namespace Go.Proofs.YtcndknkdhlmdnaaGreatDoor.Cal

theorem plus_in {d a : Int} (h0 : 0 ≤ d) (h1 : d ≤ 73048) (h2 : 0 ≤ d + a) (h3 : d + a ≤ 73048) : plus d a = d + a := by
  unfold plus cl; omega
theorem plus_plus {d a b : Int} (h0 : 0 ≤ d) (h1 : d ≤ 73048) (h2 : 0 ≤ d + a) (h3 : d + a ≤ 73048) : plus (d + a) b = plus d (a + b) := by
  unfold plus cl; omega
theorem plus_mono {d e a : Int} (h : d ≤ e) : plus d a ≤ plus e a := by unfold plus cl; omega

theorem num_le_month {y m d z n e : Int} (h : ok y m d) (h' : ok z n e) (k : num y m d ≤ num z n e) : 12 * y + m < 12 * z + n ∨ y = z ∧ m = n ∧ d ≤ e := by
  have a := num_lt_year h
  have b := num_lt_year h'
  have i : y ≤ z := year_le a.1 (by omega)
  by_cases c : y = z
  · subst c
    obtain ⟨_, _, h3, h4, h5, h6⟩ := h
    obtain ⟨_, _, g3, g4, g5, g6⟩ := h'
    unfold num at k
    have c2 := cum_succ y g3 g4
    have j : m ≤ n := month_le (y := y) (k := cum y n + e - 1) g3 h4 (by omega) (by omega)
    by_cases f : m = n
    · subst f; right; exact ⟨rfl, rfl, by omega⟩
    · left; omega
  · left; obtain ⟨_, _, h3, h4, _⟩ := h; obtain ⟨_, _, g3, g4, _⟩ := h'; omega
theorem num_lt_of {y m d z n e : Int} (h : ok y m d) (h' : ok z n e) (c : 12 * y + m < 12 * z + n ∨ y = z ∧ m = n ∧ d ≤ e) : num y m d ≤ num z n e := by
  refine Int.not_lt.1 fun k => ?_
  have := num_le_month h' h (by omega)
  rcases c with c | ⟨rfl, rfl, c⟩
  · omega
  · rcases this with t | ⟨_, _, t⟩
    · omega
    · have : d = e := by omega
      subst this; omega

/-- the months' clamp, out of the way -/
theorem months_in {y m d n : Int} (hn : -25188 ≤ n) (hn' : n ≤ 25188) (h1 : 22800 ≤ 12 * y + m - 1 + n) (h2 : 12 * y + m - 1 + n < 25200) :
    months y m d n = num ((12 * y + m - 1 + n) / 12) ((12 * y + m - 1 + n) % 12 + 1) (min d (mlen ((12 * y + m - 1 + n) / 12) ((12 * y + m - 1 + n) % 12 + 1))) := by
  unfold months
  rw [show max (-25188) (min 25188 n) = n by omega, if_neg (by omega), if_neg (by omega)]
theorem months_bd {y m d n : Int} (h : ok y m d) : 0 ≤ months y m d n ∧ months y m d n ≤ 73048 := by
  unfold months
  split
  · omega
  · split
    · omega
    · rename_i a b
      by_cases c : -25188 ≤ n ∧ n ≤ 25188
      · exact num_bd (months_ok h (by omega) (by omega))
      · obtain ⟨h1, h2, h3, h4, _⟩ := h; omega
theorem months_zero {y m d : Int} (h : ok y m d) : months y m d 0 = num y m d := by
  obtain ⟨h1, h2, h3, h4, h5, h6⟩ := h
  rw [months_in (by omega) (by omega) (by omega) (by omega), show (12 * y + m - 1 + 0) / 12 = y by omega, show (12 * y + m - 1 + 0) % 12 + 1 = m by omega, show min d (mlen y m) = d by omega]
theorem months_year {y m d : Int} (h : ok y m d) (hy : y ≠ 2099) : ok (y + 1) m (min d (mlen (y + 1) m)) ∧ months y m d 12 = num (y + 1) m (min d (mlen (y + 1) m)) := by
  obtain ⟨h1, h2, h3, h4, h5, h6⟩ := h
  have := mlen_bd (y + 1) m
  refine ⟨⟨by omega, by omega, h3, h4, by omega, by omega⟩, ?_⟩
  rw [months_in (by omega) (by omega) (by omega) (by omega), show (12 * y + m - 1 + 12) / 12 = y + 1 by omega, show (12 * y + m - 1 + 12) % 12 + 1 = m by omega]
theorem months_last {m d : Int} (h : ok 2099 m d) : months 2099 m d 12 = num 2099 12 31 := by
  obtain ⟨h1, h2, h3, h4, h5, h6⟩ := h
  unfold months
  rw [if_neg (by omega), if_pos (by omega)]
  decide
theorem last_ok : ok 2099 12 31 := by decide
theorem year_day {y m d : Int} (h : ok y m d) : min d (mlen (y + 1) m) = d ∨ m = 2 ∧ d = 29 ∧ min d (mlen (y + 1) m) = 28 := by
  obtain ⟨h1, h2, h3, h4, h5, h6⟩ := h
  have a := lpI_b y
  have b := lpI_b (y + 1)
  unfold mlen at *
  split at h6
  · rename_i e
    rw [if_pos e]
    by_cases c : d = 29
    · by_cases f : lpI (y + 1) = 1
      · left; omega
      · right; omega
    · left; omega
  · rename_i e
    rw [if_neg e]
    left; omega
theorem months_mono {y m d z n e a : Int} (h : ok y m d) (h' : ok z n e) (k : num y m d ≤ num z n e) (ha : -2000 ≤ a) (ha' : a ≤ 2000) : months y m d a ≤ months z n e a := by
  have le := num_le_month h h' k
  have hs := h
  have hs' := h'
  have b1 := months_bd (n := a) h
  have b2 := months_bd (n := a) h'
  obtain ⟨h1, h2, h3, h4, h5, h6⟩ := h
  obtain ⟨g1, g2, g3, g4, g5, g6⟩ := h'
  by_cases c1 : 12 * y + m - 1 + a < 22800
  · have : months y m d a = 0 := by unfold months; rw [if_pos (by omega)]
    omega
  by_cases c2 : 25200 ≤ 12 * z + n - 1 + a
  · have : months z n e a = 73048 := by unfold months; rw [if_neg (by omega), if_pos (by omega)]
    omega
  rw [months_in (by omega) (by omega) (by omega) (by omega), months_in (by omega) (by omega) (by omega) (by omega)]
  refine num_lt_of (months_ok hs (by omega) (by omega)) (months_ok hs' (by omega) (by omega)) ?_
  rcases le with le | ⟨rfl, rfl, le⟩
  · left; omega
  · right; exact ⟨rfl, rfl, by omega⟩
/-- moves by months add up, where no day is cut off and nothing is clamped -/
theorem months_months {y m d z n e a b : Int} (h : ok y m d) (h' : ok z n e) (hk : num z n e = months y m d a) (hd : d ≤ 28) (ha : -2000 ≤ a) (ha' : a ≤ 2000) (hb : -2000 ≤ b) (hb' : b ≤ 2000)
    (m1 : 0 < months y m d a) (m2 : months y m d a < 73017) (e1 : 0 < months z n e b) (e2 : months z n e b < 73017) : months z n e b = months y m d (a + b) := by
  have hs := h
  obtain ⟨h1, h2, h3, h4, h5, h6⟩ := h
  have c1 : ¬ 12 * y + m - 1 + a < 22800 := fun c => by
    have : months y m d a = 0 := by unfold months; rw [if_pos (by omega)]
    omega
  have c2 : ¬ 25200 ≤ 12 * y + m - 1 + a := fun c => by
    have : months y m d a = 73048 := by unfold months; rw [if_neg (by omega), if_pos (by omega)]
    omega
  rw [months_in (by omega) (by omega) (by omega) (by omega)] at hk
  have lm := mlen_bd ((12 * y + m - 1 + a) / 12) ((12 * y + m - 1 + a) % 12 + 1)
  obtain ⟨rfl, rfl, rfl⟩ := num_inj h' (months_ok hs (by omega) (by omega)) hk
  have hm : min d (mlen ((12 * y + m - 1 + a) / 12) ((12 * y + m - 1 + a) % 12 + 1)) = d := by omega
  rw [hm] at h' e1 e2 hk ⊢
  have f1 : ¬ 12 * y + m - 1 + (a + b) < 22800 := fun c => by
    have : months ((12 * y + m - 1 + a) / 12) ((12 * y + m - 1 + a) % 12 + 1) d b = 0 := by unfold months; rw [if_pos (by omega)]
    omega
  have f2 : ¬ 25200 ≤ 12 * y + m - 1 + (a + b) := fun c => by
    have : months ((12 * y + m - 1 + a) / 12) ((12 * y + m - 1 + a) % 12 + 1) d b = 73048 := by unfold months; rw [if_neg (by omega), if_pos (by omega)]
    omega
  rw [months_in (by omega) (by omega) (by omega) (by omega), months_in (by omega) (by omega) (by omega) (by omega)]
  rw [show (12 * ((12 * y + m - 1 + a) / 12) + ((12 * y + m - 1 + a) % 12 + 1) - 1 + b) = 12 * y + m - 1 + (a + b) by omega]

end Go.Proofs.YtcndknkdhlmdnaaGreatDoor.Cal

/-
  Plain laws of a date's text (no program in sight): two digits, ten bytes, read back.
-/
namespace Go.Proofs.YtcndknkdhlmdnaaGreatDoor.Cal

/-- two digits -/
def dig2 (n : Nat) : List UInt8 := [UInt8.ofNat (48 + n / 10), UInt8.ofNat (48 + n % 10)]
/-- a date's text -/
def text (y m d : Int) : List UInt8 := dig2 (y.toNat / 100) ++ dig2 (y.toNat % 100) ++ [45] ++ dig2 m.toNat ++ [45] ++ dig2 d.toNat

theorem dec4 {u : Nat} (h : 1000 ≤ u) (h' : u < 10000) : Lib.decDigits u = dig2 (u / 100) ++ dig2 (u % 100) := by
  rw [Lib.decDigits, dif_neg (by omega), Lib.decDigits, dif_neg (by omega), Lib.decDigits, dif_neg (by omega), Lib.decDigits, dif_pos (by omega)]
  simp only [dig2, List.cons_append, List.nil_append]
  rw [show u / 10 / 10 / 10 = u / 100 / 10 by omega, show u / 10 / 10 % 10 = u / 100 % 10 by omega, show u / 10 % 10 = u % 100 / 10 by omega, show u % 10 = u % 100 % 10 by omega]
theorem itoa4 {y : Int} (h : 1000 ≤ y) (h' : y < 10000) : Lib.itoa y = dig2 (y.toNat / 100) ++ dig2 (y.toNat % 100) := by
  unfold Lib.itoa
  rw [if_neg (by omega), dec4 (by omega) (by omega)]
theorem dec3 {n : Nat} (h : n < 100) : (Lib.decDigits (100 + n)).drop 1 = dig2 n := by
  rw [Lib.decDigits, dif_neg (by omega), Lib.decDigits, dif_neg (by omega), Lib.decDigits, dif_pos (by omega)]
  simp only [dig2, List.cons_append, List.nil_append, List.drop_succ_cons, List.drop_zero]
  rw [show (100 + n) / 10 % 10 = n / 10 by omega, show (100 + n) % 10 = n % 10 by omega]
theorem itoa3 {n : Int} (h : 0 ≤ n) (h' : n < 100) : (Lib.itoa (100 + n)).drop 1 = dig2 n.toNat := by
  unfold Lib.itoa
  rw [if_neg (by omega), show (100 + n).toNat = 100 + n.toNat by omega, dec3 (by omega)]
theorem itoa3_len {n : Int} (h : 0 ≤ n) (h' : n < 100) : (Lib.itoa (100 + n)).length = 3 := by
  unfold Lib.itoa
  rw [if_neg (by omega), show (100 + n).toNat = 100 + n.toNat by omega]
  rw [Lib.decDigits, dif_neg (by omega), Lib.decDigits, dif_neg (by omega), Lib.decDigits, dif_pos (by omega)]
  rfl

/-- is a byte a digit? -/
def isDig (c : UInt8) : Bool := decide (48 ≤ (c.toNat : Int)) && decide ((c.toNat : Int) ≤ 57)
/-- the number of digits -/
def val (l : List UInt8) : Int := l.foldl (fun n c => 10 * n + ((c.toNat : Int) - 48)) 0
/-- of digits; below 0: they are none -/
def numL (l : List UInt8) : Int := if l.all isDig then val l else -1
theorem val_snoc (l : List UInt8) (c : UInt8) : val (l ++ [c]) = 10 * val l + ((c.toNat : Int) - 48) := by unfold val; rw [List.foldl_append]; rfl
theorem val_bd {l : List UInt8} : l.all isDig = true → 0 ≤ val l ∧ val l < 10 ^ l.length := by
  suffices h : ∀ (l : List UInt8) (k : Nat) (n : Int), l.all isDig = true → 0 ≤ n → n < 10 ^ k → 0 ≤ l.foldl (fun n c => 10 * n + ((c.toNat : Int) - 48)) n ∧ l.foldl (fun n c => 10 * n + ((c.toNat : Int) - 48)) n < 10 ^ (k + l.length) by
    intro h0
    have := h l 0 0 h0 (by decide) (by decide)
    simpa [val] using this
  intro l
  induction l with
  | nil => intro k n _ h0 h1; simpa using ⟨h0, h1⟩
  | cons c l ih =>
    intro k n ha h0 h1
    simp only [List.all_cons, Bool.and_eq_true] at ha
    have hc : 48 ≤ (c.toNat : Int) ∧ (c.toNat : Int) ≤ 57 := by have := ha.1; unfold isDig at this; simpa using this
    have := ih (k + 1) (10 * n + ((c.toNat : Int) - 48)) ha.2 (by omega) (by rw [Int.pow_succ]; omega)
    rw [show k + 1 + l.length = k + (c :: l).length by simp; omega] at this
    exact this

/-- a part of a list -/
def seg (l : List UInt8) (lo hi : Nat) : List UInt8 := (l.drop lo).take (hi - lo)
theorem seg_nil (l : List UInt8) {lo hi : Nat} (h : hi ≤ lo) : seg l lo hi = [] := by unfold seg; rw [Nat.sub_eq_zero_of_le h, List.take_zero]
theorem seg_succ (l : List UInt8) {lo k : Nat} (h : lo ≤ k) (hk : k < l.length) : seg l lo (k + 1) = seg l lo k ++ [l[k]] := by
  unfold seg
  rw [show k + 1 - lo = (k - lo) + 1 by omega, List.take_succ_eq_append_getElem (by simp; omega), List.getElem_drop]
  congr 2
  congr 1
  omega
theorem seg_all (l : List UInt8) {lo hi : Nat} (hd : ∀ j (hj : j < l.length), lo ≤ j → j < hi → isDig l[j] = true) : (seg l lo hi).all isDig = true := by
  rw [List.all_eq_true]
  intro x hx
  unfold seg at hx
  obtain ⟨i, hi', rfl⟩ := List.getElem_of_mem hx
  rw [List.getElem_take, List.getElem_drop]
  simp only [List.length_take, List.length_drop] at hi'
  exact hd _ (by omega) (by omega) (by omega)
theorem seg_not (l : List UInt8) {lo hi k : Nat} (h : lo ≤ k) (h' : k < hi) (hk : k < l.length) (hd : isDig l[k] = false) : numL (seg l lo hi) = -1 := by
  unfold numL
  rw [if_neg]
  intro a
  rw [List.all_eq_true] at a
  have : l[k] ∈ seg l lo hi := by
    unfold seg
    rw [List.mem_iff_getElem]
    refine ⟨k - lo, by simp; omega, ?_⟩
    rw [List.getElem_take, List.getElem_drop]
    congr 1
    omega
  rw [a _ this] at hd
  cases hd
theorem seg_len (l : List UInt8) (lo hi : Nat) : (seg l lo hi).length ≤ hi - lo := by unfold seg; rw [List.length_take]; omega
theorem seg_bd (l : List UInt8) {lo hi : Nat} (h : hi ≤ lo + 4) (hd : ∀ j (hj : j < l.length), lo ≤ j → j < hi → isDig l[j] = true) : 0 ≤ val (seg l lo hi) ∧ val (seg l lo hi) < 10000 := by
  have a := val_bd (seg_all l hd)
  have b := seg_len l lo hi
  refine ⟨a.1, Int.lt_of_lt_of_le a.2 ?_⟩
  generalize (seg l lo hi).length = n at *
  have c : n = 0 ∨ n = 1 ∨ n = 2 ∨ n = 3 ∨ n = 4 := by omega
  rcases c with e | e | e | e | e <;> subst e <;> decide

/-- is a byte what a date's text has at its place? -/
def fits (k : Nat) (c : UInt8) : Bool := if k = 4 ∨ k = 7 then decide ((c.toNat : Int) = 45) else isDig c
/-- ten bytes of a date's form -/
def form (l : List UInt8) : Prop := ∀ j (hj : j < l.length), fits j l[j] = true
theorem fits_dig {k : Nat} {c : UInt8} (h4 : k ≠ 4) (h7 : k ≠ 7) : fits k c = isDig c := by unfold fits; rw [if_neg (by omega)]
theorem fits_dash {k : Nat} {c : UInt8} (h : k = 4 ∨ k = 7) : fits k c = decide ((c.toNat : Int) = 45) := by unfold fits; rw [if_pos h]

end Go.Proofs.YtcndknkdhlmdnaaGreatDoor.Cal

/-
  Plain laws of dates' texts (no program in sight): a date's text is read as that date; later days have later texts.
-/
namespace Go.Proofs.YtcndknkdhlmdnaaGreatDoor.Cal

theorem u8_lt {a b : Nat} (ha : a < 10) (hb : b < 10) : (UInt8.ofNat (48 + a) < UInt8.ofNat (48 + b)) ↔ a < b := by
  rw [UInt8.lt_iff_toNat_lt, UInt8.toNat_ofNat', UInt8.toNat_ofNat']; omega
theorem u8_eq {a b : Nat} (ha : a < 10) (hb : b < 10) : (UInt8.ofNat (48 + a) == UInt8.ofNat (48 + b)) = decide (a = b) := by
  rw [Bool.eq_iff_iff, beq_iff_eq, decide_eq_true_iff]
  constructor
  · intro h
    have := congrArg UInt8.toNat h
    rw [UInt8.toNat_ofNat', UInt8.toNat_ofNat'] at this
    omega
  · rintro rfl; rfl
theorem less_dig2 {a b : Nat} (ha : a < 100) (hb : b < 100) (x y : List UInt8) : Op.bytesLess (dig2 a ++ x) (dig2 b ++ y) = (decide (a < b) || (decide (a = b) && Op.bytesLess x y)) := by
  simp only [dig2, List.cons_append, List.nil_append, Op.bytesLess]
  have d1 : decide (UInt8.ofNat (48 + a / 10) < UInt8.ofNat (48 + b / 10)) = decide (a / 10 < b / 10) := decide_eq_decide.2 (u8_lt (by omega) (by omega))
  have d2 : decide (UInt8.ofNat (48 + a % 10) < UInt8.ofNat (48 + b % 10)) = decide (a % 10 < b % 10) := decide_eq_decide.2 (u8_lt (by omega) (by omega))
  rw [u8_eq (by omega) (by omega), u8_eq (by omega) (by omega), d1, d2]
  cases Op.bytesLess x y
  · rw [Bool.eq_iff_iff]; simp; omega
  · rw [Bool.eq_iff_iff]; simp; omega
theorem less_dash (x y : List UInt8) : Op.bytesLess (45 :: x) (45 :: y) = Op.bytesLess x y := by
  rw [Op.bytesLess]; simp
theorem less_text {y m d z n e : Int} (h : ok y m d) (h' : ok z n e) : Op.bytesLess (text y m d) (text z n e) = decide (num y m d < num z n e) := by
  have hs := h
  have hs' := h'
  obtain ⟨h1, h2, h3, h4, h5, h6⟩ := h
  obtain ⟨g1, g2, g3, g4, g5, g6⟩ := h'
  have l1 := mlen_bd y m
  have l2 := mlen_bd z n
  have e1 : ∀ a b : List UInt8, dig2 (y.toNat / 100) ++ dig2 (y.toNat % 100) ++ [45] ++ a ++ [45] ++ b = dig2 (y.toNat / 100) ++ (dig2 (y.toNat % 100) ++ (45 :: (a ++ (45 :: (b ++ []))))) := fun a b => by simp
  have e2 : ∀ a b : List UInt8, dig2 (z.toNat / 100) ++ dig2 (z.toNat % 100) ++ [45] ++ a ++ [45] ++ b = dig2 (z.toNat / 100) ++ (dig2 (z.toNat % 100) ++ (45 :: (a ++ (45 :: (b ++ []))))) := fun a b => by simp
  unfold text
  rw [e1, e2, less_dig2 (by omega) (by omega), less_dig2 (by omega) (by omega), less_dash, less_dig2 (by omega) (by omega), less_dash, less_dig2 (by omega) (by omega)]
  have key : num y m d < num z n e ↔ (12 * y + m < 12 * z + n ∨ y = z ∧ m = n ∧ d < e) := by
    constructor
    · intro k
      rcases num_le_month hs hs' (by omega) with c | ⟨c1, c2, c3⟩
      · exact .inl c
      · refine .inr ⟨c1, c2, ?_⟩
        by_cases f : d = e
        · subst c1 c2 f; omega
        · omega
    · intro k
      refine Int.not_le.1 fun c => ?_
      rcases num_le_month hs' hs c with c | ⟨c1, c2, c3⟩ <;> omega
  rw [Bool.eq_iff_iff, decide_eq_true_iff, key]
  simp only [Op.bytesLess, Bool.or_eq_true, Bool.and_eq_true, decide_eq_true_eq, Bool.and_false, Bool.or_false]
  omega

theorem text_len (y m d : Int) : (text y m d).length = 10 := rfl
theorem dig2_isDig {n : Nat} (h : n < 100) : isDig (UInt8.ofNat (48 + n / 10)) = true ∧ isDig (UInt8.ofNat (48 + n % 10)) = true := by
  unfold isDig
  rw [UInt8.toNat_ofNat', UInt8.toNat_ofNat']
  constructor <;> (rw [Bool.and_eq_true, decide_eq_true_iff, decide_eq_true_iff]; omega)
theorem val_dig2 {n : Nat} (h : n < 100) : val (dig2 n) = n := by
  unfold val dig2
  simp only [List.foldl_cons, List.foldl_nil]
  rw [UInt8.toNat_ofNat', UInt8.toNat_ofNat']
  omega
theorem val_dig4 {a b : Nat} (h : a < 100) (h' : b < 100) : val (dig2 a ++ dig2 b) = 100 * a + b := by
  unfold val dig2
  simp only [List.foldl_cons, List.foldl_nil, List.cons_append, List.nil_append]
  rw [UInt8.toNat_ofNat', UInt8.toNat_ofNat', UInt8.toNat_ofNat', UInt8.toNat_ofNat']
  omega
theorem text_form {y m d : Int} (h : ok y m d) : ∀ j (hj : j < (text y m d).length), fits j (text y m d)[j] = true := by
  obtain ⟨h1, h2, h3, h4, h5, h6⟩ := h
  have l1 := mlen_bd y m
  have a := dig2_isDig (n := y.toNat / 100) (by omega)
  have b := dig2_isDig (n := y.toNat % 100) (by omega)
  have c := dig2_isDig (n := m.toNat) (by omega)
  have e := dig2_isDig (n := d.toNat) (by omega)
  intro j hj
  have hj' : j < 10 := hj
  have cs : j = 0 ∨ j = 1 ∨ j = 2 ∨ j = 3 ∨ j = 4 ∨ j = 5 ∨ j = 6 ∨ j = 7 ∨ j = 8 ∨ j = 9 := by omega
  rcases cs with rfl | rfl | rfl | rfl | rfl | rfl | rfl | rfl | rfl | rfl
  · rw [fits_dig (by omega) (by omega)]; exact a.1
  · rw [fits_dig (by omega) (by omega)]; exact a.2
  · rw [fits_dig (by omega) (by omega)]; exact b.1
  · rw [fits_dig (by omega) (by omega)]; exact b.2
  · rfl
  · rw [fits_dig (by omega) (by omega)]; exact c.1
  · rw [fits_dig (by omega) (by omega)]; exact c.2
  · rfl
  · rw [fits_dig (by omega) (by omega)]; exact e.1
  · rw [fits_dig (by omega) (by omega)]; exact e.2
theorem text_vals {y m d : Int} (h : ok y m d) : val (seg (text y m d) 0 4) = y ∧ val (seg (text y m d) 5 7) = m ∧ val (seg (text y m d) 8 10) = d := by
  obtain ⟨h1, h2, h3, h4, h5, h6⟩ := h
  have l1 := mlen_bd y m
  refine ⟨?_, ?_, ?_⟩
  · rw [show seg (text y m d) 0 4 = dig2 (y.toNat / 100) ++ dig2 (y.toNat % 100) from rfl, val_dig4 (by omega) (by omega)]; omega
  · rw [show seg (text y m d) 5 7 = dig2 m.toNat from rfl, val_dig2 (by omega)]; omega
  · rw [show seg (text y m d) 8 10 = dig2 d.toNat from rfl, val_dig2 (by omega)]; omega

end Go.Proofs.YtcndknkdhlmdnaaGreatDoor.Cal
