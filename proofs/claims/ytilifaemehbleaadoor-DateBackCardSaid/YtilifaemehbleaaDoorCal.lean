/-
  Plain mathematics of the calendar (no program in sight): leap years, lengths of months, the number of a day, and that the number says the day.
-/
import Derived.WalkKit
namespace Go.Proofs.YtilifaemehbleaaDoor.Cal

def lp (y : Int) : Bool := y % 4 == 0 && (y % 100 != 0 || y % 400 == 0)
def lpI (y : Int) : Int := if lp y then 1 else 0
theorem lpI_01 (y : Int) : lpI y = 0 ∨ lpI y = 1 := by unfold lpI; split <;> simp
theorem lpI_b (y : Int) : 0 ≤ lpI y ∧ lpI y ≤ 1 := by have := lpI_01 y; omega
theorem lpI_t {y : Int} (h : lp y = true) : lpI y = 1 := by simp [lpI, h]
theorem lpI_f {y : Int} (h : lp y = false) : lpI y = 0 := by simp [lpI, h]

/-- days ahead of a year, from 1900 on -/
def ahead (y : Int) : Int := 365 * (y - 1 - 1899) + (y - 1) / 4 - (y - 1) / 100 + (y - 1) / 400 - 460
theorem ahead_1900 : ahead 1900 = 0 := by decide
theorem ahead_succ (y : Int) : ahead (y + 1) = ahead y + 365 + lpI y := by
  unfold ahead lpI lp
  by_cases a : y % 4 = 0 <;> by_cases b : y % 100 = 0 <;> by_cases c : y % 400 = 0 <;> simp [a, b, c] <;> omega
theorem ahead_mono {a b : Int} (h : a ≤ b) : ahead a ≤ ahead b := by unfold ahead; omega
theorem ahead_bd {y : Int} (h : 1900 ≤ y) (h' : y ≤ 2100) : 0 ≤ ahead y ∧ ahead y ≤ 73049 := by unfold ahead; omega

/-- how many days a month has -/
def mlen (y m : Int) : Int := if m = 2 then 28 + lpI y else if m = 4 ∨ m = 6 ∨ m = 9 ∨ m = 11 then 30 else 31
theorem mlen_bd (y m : Int) : 28 ≤ mlen y m ∧ mlen y m ≤ 31 := by unfold mlen; have := lpI_b y; split <;> (try split) <;> omega
/-- days of a year ahead of a month -/
def cum (y m : Int) : Int :=
  if m ≤ 1 then 0 else if m ≤ 2 then 31 else lpI y + (if m ≤ 3 then 59 else if m ≤ 4 then 90 else if m ≤ 5 then 120 else if m ≤ 6 then 151 else if m ≤ 7 then 181 else if m ≤ 8 then 212 else if m ≤ 9 then 243 else if m ≤ 10 then 273 else if m ≤ 11 then 304 else if m ≤ 12 then 334 else 365)
theorem months_cases {m : Int} (h : 1 ≤ m) (h' : m ≤ 12) : m = 1 ∨ m = 2 ∨ m = 3 ∨ m = 4 ∨ m = 5 ∨ m = 6 ∨ m = 7 ∨ m = 8 ∨ m = 9 ∨ m = 10 ∨ m = 11 ∨ m = 12 := by omega
theorem cum_1 (y : Int) : cum y 1 = 0 := by simp [cum]
theorem cum_13 (y : Int) : cum y 13 = 365 + lpI y := by simp [cum]; omega
theorem cum_succ (y : Int) {m : Int} (h : 1 ≤ m) (h' : m ≤ 12) : cum y (m + 1) = cum y m + mlen y m := by
  rcases months_cases h h' with e | e | e | e | e | e | e | e | e | e | e | e <;> subst e <;> simp [cum, mlen] <;> omega
theorem cum_add (y : Int) (k : Nat) : ∀ m : Int, 1 ≤ m → m + k ≤ 13 → cum y m ≤ cum y (m + k) := by
  induction k with
  | zero => intro m _ _; have e : m + ((0 : Nat) : Int) = m := by omega
            rw [e]; exact Int.le_refl _
  | succ k ih =>
    intro m h h'
    have a := ih m h (by omega)
    have b := cum_succ y (show 1 ≤ m + k by omega) (by omega)
    have c := mlen_bd y (m + k)
    have e : m + ((k + 1 : Nat) : Int) = m + k + 1 := by omega
    rw [e]; omega
theorem cum_mono (y : Int) {m n : Int} (h0 : 1 ≤ m) (h : m ≤ n) (h1 : n ≤ 13) : cum y m ≤ cum y n := by
  have a := cum_add y (n - m).toNat m h0 (by omega)
  have e : m + ((n - m).toNat : Int) = n := by omega
  rwa [e] at a
theorem cum_bd (y : Int) {m : Int} (h : 1 ≤ m) (h' : m ≤ 13) : 0 ≤ cum y m ∧ cum y m ≤ 366 := by
  have a := cum_mono y (Int.le_refl 1) h h'
  have b := cum_mono y h h' (Int.le_refl 13)
  have c := lpI_b y
  rw [cum_1] at a
  rw [cum_13] at b
  omega

/-- a date that there is -/
def ok (y m d : Int) : Prop := 1900 ≤ y ∧ y ≤ 2099 ∧ 1 ≤ m ∧ m ≤ 12 ∧ 1 ≤ d ∧ d ≤ mlen y m
instance (y m d : Int) : Decidable (ok y m d) := by unfold ok; infer_instance
def num (y m d : Int) : Int := ahead y + cum y m + d - 1

theorem in_year {y m d : Int} (h : ok y m d) : 0 ≤ cum y m + d - 1 ∧ cum y m + d - 1 < 365 + lpI y := by
  obtain ⟨_, _, h3, h4, h5, h6⟩ := h
  have c := cum_succ y h3 h4
  have b := cum_bd y h3 (by omega)
  have e := cum_mono y (show 1 ≤ m + 1 by omega) (show m + 1 ≤ 13 by omega) (Int.le_refl 13)
  rw [cum_13] at e
  omega
theorem num_bd {y m d : Int} (h : ok y m d) : 0 ≤ num y m d ∧ num y m d ≤ 73048 := by
  have i := in_year h
  obtain ⟨h1, h2, -⟩ := h
  have a := ahead_bd h1 (by omega)
  have b := ahead_bd (show 1900 ≤ y + 1 by omega) (by omega)
  have s := ahead_succ y
  unfold num
  omega
theorem num_lt_year {y m d : Int} (h : ok y m d) : ahead y ≤ num y m d ∧ num y m d < ahead (y + 1) := by
  have i := in_year h
  have s := ahead_succ y
  unfold num
  omega
theorem year_le {y z k : Int} (h : ahead y ≤ k) (h' : k < ahead (z + 1)) : y ≤ z := by
  refine Int.not_lt.1 fun c => ?_
  have := ahead_mono (show z + 1 ≤ y by omega)
  omega
theorem month_le {y m n k : Int} (hn0 : 1 ≤ n) (hm : m ≤ 12) (h : cum y m ≤ k) (h' : k < cum y (n + 1)) : m ≤ n := by
  refine Int.not_lt.1 fun c => ?_
  have := cum_mono y (show 1 ≤ n + 1 by omega) (show n + 1 ≤ m by omega) (by omega)
  omega
theorem num_inj {y m d z n e : Int} (h : ok y m d) (h' : ok z n e) (k : num y m d = num z n e) : y = z ∧ m = n ∧ d = e := by
  have a := num_lt_year h
  have b := num_lt_year h'
  have i : y = z := Int.le_antisymm (year_le a.1 (by omega)) (year_le b.1 (by omega))
  subst i
  obtain ⟨_, _, h3, h4, h5, h6⟩ := h
  obtain ⟨_, _, g3, g4, g5, g6⟩ := h'
  unfold num at k
  have c1 := cum_succ y h3 h4
  have c2 := cum_succ y g3 g4
  have j : m = n := Int.le_antisymm (month_le (y := y) (k := cum y m + d - 1) g3 h4 (by omega) (by omega)) (month_le (y := y) (k := cum y n + e - 1) h3 g4 (by omega) (by omega))
  subst j
  exact ⟨rfl, rfl, by omega⟩

theorem year_of (k : Int) (h : 0 ≤ k) (h' : k ≤ 73048) : ∃ y, 1900 ≤ y ∧ y ≤ 2099 ∧ ahead y ≤ k ∧ k < ahead (y + 1) := by
  have step : ∀ n : Nat, (∃ y, 1900 ≤ y ∧ y ≤ 2099 ∧ ahead y ≤ k ∧ k < ahead (y + 1)) ∨ ahead (1900 + n) ≤ k ∨ 200 < n := by
    intro n
    induction n with
    | zero => right; left; show ahead 1900 ≤ k; rw [ahead_1900]; exact h
    | succ n ih =>
      rcases ih with a | a | a
      · exact .inl a
      · by_cases c : n ≤ 199
        · by_cases b : k < ahead (1900 + n + 1)
          · exact .inl ⟨1900 + n, by omega, by omega, a, b⟩
          · right; left; have : (1900 + ((n + 1 : Nat) : Int)) = 1900 + n + 1 := by omega
            rw [this]; omega
        · right; right; omega
      · right; right; omega
  rcases step 200 with a | a | a
  · exact a
  · have : ahead (1900 + ((200 : Nat) : Int)) = 73049 := by decide
    omega
  · omega
theorem month_of (y k : Int) (h : 0 ≤ k) (h' : k < 365 + lpI y) : ∃ m, 1 ≤ m ∧ m ≤ 12 ∧ cum y m ≤ k ∧ k < cum y (m + 1) := by
  have step : ∀ n : Nat, (∃ m, 1 ≤ m ∧ m ≤ 12 ∧ cum y m ≤ k ∧ k < cum y (m + 1)) ∨ cum y (1 + n) ≤ k ∨ 12 < n := by
    intro n
    induction n with
    | zero => right; left; show cum y 1 ≤ k; rw [cum_1]; exact h
    | succ n ih =>
      rcases ih with a | a | a
      · exact .inl a
      · by_cases c : n ≤ 11
        · by_cases b : k < cum y (1 + n + 1)
          · exact .inl ⟨1 + n, by omega, by omega, a, b⟩
          · right; left; have : (1 + ((n + 1 : Nat) : Int)) = 1 + n + 1 := by omega
            rw [this]; omega
        · right; right; omega
      · right; right; omega
  rcases step 12 with a | a | a
  · exact a
  · have : cum y (1 + ((12 : Nat) : Int)) = 365 + lpI y := cum_13 y
    omega
  · omega
/-- each number says a date -/
theorem date_of (k : Int) (h : 0 ≤ k) (h' : k ≤ 73048) : ∃ y m d, ok y m d ∧ num y m d = k := by
  obtain ⟨y, h1, h2, h3, h4⟩ := year_of k h h'
  have s := ahead_succ y
  obtain ⟨m, g1, g2, g3, g4⟩ := month_of y (k - ahead y) (by omega) (by omega)
  have c := cum_succ y g1 g2
  exact ⟨y, m, k - ahead y - cum y m + 1, ⟨h1, h2, g1, g2, by omega, by omega⟩, by unfold num; omega⟩

/-- a month that lies ahead of a day's own is past -/
theorem more {y m d z j : Int} (h : ok y m d) (h1 : 1 ≤ j) (h2 : j ≤ 12) (c : z < y ∨ z = y ∧ j < m) : cum z (j + 1) + ahead z ≤ num y m d := by
  have i := in_year h
  have a := num_lt_year h
  obtain ⟨_, _, h3, h4, h5, h6⟩ := h
  rcases c with c | ⟨rfl, c⟩
  · have e := cum_mono z (show 1 ≤ j + 1 by omega) (show j + 1 ≤ 13 by omega) (Int.le_refl 13)
    rw [cum_13] at e
    have s := ahead_succ z
    have t := ahead_mono (show z + 1 ≤ y by omega)
    omega
  · have e := cum_mono z (show 1 ≤ j + 1 by omega) (show j + 1 ≤ m by omega) (by omega)
    unfold num
    omega

/-- a day, within the days that there are -/
def cl (d : Int) : Int := max 0 (min 73048 d)
theorem cl_bd (d : Int) : 0 ≤ cl d ∧ cl d ≤ 73048 := by unfold cl; omega
theorem cl_id {d : Int} (h : 0 ≤ d) (h' : d ≤ 73048) : cl d = d := by unfold cl; omega
theorem cl_mono {a b : Int} (h : a ≤ b) : cl a ≤ cl b := by unfold cl; omega

/-- so many days later -/
def plus (d n : Int) : Int := cl (cl d + max (-73048) (min 73048 n))

/-- so many months later (of the date that the day is) -/
def months (y m d n : Int) : Int :=
  if 12 * y + m - 1 + max (-25188) (min 25188 n) < 22800 then 0
  else if 25200 ≤ 12 * y + m - 1 + max (-25188) (min 25188 n) then 73048
  else num ((12 * y + m - 1 + n) / 12) ((12 * y + m - 1 + n) % 12 + 1) (min d (mlen ((12 * y + m - 1 + n) / 12) ((12 * y + m - 1 + n) % 12 + 1)))
theorem months_ok {y m d k : Int} (h : ok y m d) (h1 : 22800 ≤ k) (h2 : k < 25200) : ok (k / 12) (k % 12 + 1) (min d (mlen (k / 12) (k % 12 + 1))) := by
  obtain ⟨_, _, _, _, h5, h6⟩ := h
  have := mlen_bd (k / 12) (k % 12 + 1)
  unfold ok
  omega

/-- a quotient's rounding, a half to the even -/
def rnd (q r b : Int) : Int := if b - r < r ∨ r = b - r ∧ q % 2 = 1 then q + 1 else q
/-- a / b in millionths: of numbers that are not too great -/
def dv (a b : Int) : Int := if a < 0 then -(rnd (-a * 1000000 / b) (-a * 1000000 % b) b) else rnd (a * 1000000 / b) (a * 1000000 % b) b
theorem rnd_bd {q r b : Int} : q ≤ rnd q r b ∧ rnd q r b ≤ q + 1 := by unfold rnd; split <;> omega
theorem rnd_zero {b : Int} (h : 0 < b) : rnd 0 0 b = 0 := by unfold rnd; rw [if_neg (by omega)]
theorem dv_bd {a b : Int} (h0 : -100000000000 ≤ a) (h1 : a ≤ 100000000000) (hb : 1000000 ≤ b) : -100000000001 ≤ dv a b ∧ dv a b ≤ 100000000001 := by
  have pos : ∀ x : Int, 0 ≤ x → x ≤ 100000000000 → 0 ≤ rnd (x * 1000000 / b) (x * 1000000 % b) b ∧ rnd (x * 1000000 / b) (x * 1000000 % b) b ≤ 100000000001 := by
    intro x hx hx'
    have q0 : 0 ≤ x * 1000000 / b := Int.ediv_nonneg (by omega) (by omega)
    have u : x * 1000000 / b * b ≤ x * 1000000 := Int.ediv_mul_le _ (by omega)
    have v : x * 1000000 / b * 1000000 ≤ x * 1000000 / b * b := Int.mul_le_mul_of_nonneg_left hb q0
    have r := rnd_bd (q := x * 1000000 / b) (r := x * 1000000 % b) (b := b)
    omega
  unfold dv
  split
  · have := pos (-a) (by omega) (by omega); omega
  · have := pos a (by omega) (by omega); omega
theorem dv_neg {a b : Int} (h : 0 < b) : dv (-a) b = - dv a b := by
  unfold dv
  by_cases c : a < 0
  · rw [if_neg (by omega), if_pos c]; omega
  · by_cases e : a = 0
    · subst e; simp [rnd_zero h]
    · rw [if_pos (by omega), if_neg c, Int.neg_neg]
theorem step_div (n b : Int) (h : 0 < b) : 10 * (n / b) + 10 * (n % b) / b = 10 * n / b := by
  have e : 10 * n = 10 * (n % b) + b * (10 * (n / b)) := by
    have := Int.mul_ediv_add_emod n b
    have : 10 * n = 10 * (b * (n / b) + n % b) := by rw [this]
    rw [this, Int.mul_add, ← Int.mul_assoc b 10, Int.mul_comm b 10, Int.mul_assoc 10 b]
    omega
  rw [e, Int.add_mul_ediv_left _ _ (by omega)]
  omega
theorem step_mod (n b : Int) : 10 * (n % b) % b = 10 * n % b := by
  rw [Int.mul_emod 10 n b, Int.mul_emod 10 (n % b) b, Int.emod_emod_of_dvd _ (Int.dvd_refl b)]

end Go.Proofs.YtilifaemehbleaaDoor.Cal
