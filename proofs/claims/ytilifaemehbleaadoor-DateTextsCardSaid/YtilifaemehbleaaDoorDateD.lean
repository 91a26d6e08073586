/-
  The walks of numbers' quotients, as far as days ask for them.
-/
import Derived.Test.YtilifaemehbleaaDoorDateA
import Derived.Test.YtilifaemehbleaaDoorShelf
import Derived.Deep.QuietTactic
import Derived.BigQuiet
namespace Go.Proofs.YtilifaemehbleaaDoor
open Go.RowKit
set_option maxRecDepth 100000

set_option maxHeartbeats 400000 in
theorem nclamp_any (a : Int) (w : World) (h0 : -1000000000000 ≤ a) (h1 : a ≤ 1000000000000) :
    Calls Tryd.prog 40 #[.int .i64 a] w fun e w' => e = .returned (.int .i64 a) ∧ w = w' := by
  go_enter Tryd.func40, Tryd.ntmps40
  go_wp2
  all_goals go_ret
  all_goals exact ⟨ret_int (by omega), rfl⟩

set_option maxHeartbeats 400000 in
theorem rnclamp_any (a : Int) (w : World) (h0 : -1000000000000 ≤ a) (h1 : a ≤ 1000000000000) :
    Calls Tryd.prog 44 #[.int .i64 a] w fun e w' => e = .returned (.int .i64 a) ∧ w = w' := by
  go_enter Tryd.func44, Tryd.ntmps44
  go_wp2
  go_ret
  exact ⟨rfl, rfl⟩

set_option maxHeartbeats 400000 in
theorem neg_any (a : Int) (w : World) (h0 : -1000000000000 ≤ a) (h1 : a ≤ 1000000000000) :
    Calls Tryd.prog 26 #[.int .i64 a] w fun e w' => e = .returned (.int .i64 (-a)) ∧ w = w' := by
  go_enter Tryd.func26, Tryd.ntmps26
  go_wp2_with (go_at_call 40; refine (nclamp_any _ _ (by omega) (by omega)).mono ?_; rintro e w' ⟨rfl, rfl⟩)
  go_ret
  exact ⟨rfl, rfl⟩

set_option maxHeartbeats 400000 in
theorem split_any (a : Int) (w : World) (h0 : -1000000000000 ≤ a) (h1 : a ≤ 1000000000000) :
    Calls Tryd.prog 49 #[.int .i64 a] w fun e w' => e = .returned (.tuple #[.int .u64 (if a < 0 then -a else a), .bool (decide (a < 0))]) ∧ w = w' := by
  by_cases h : a < 0
  all_goals
    go_enter Tryd.func49, Tryd.ntmps49
    go_wp2_with (go_at_call 40; refine (nclamp_any _ _ (by omega) (by omega)).mono ?_; rintro e w' ⟨rfl, rfl⟩)
    go_ret2
    exact ⟨rfl, rfl⟩

set_option maxHeartbeats 400000 in
/-- at a high part that is 0 -/
theorem div64_low (n d : Int) (w : World) (h0 : 0 ≤ n) (h1 : n < 18446744073709551616) (h2 : 0 < d) (h3 : d < 18446744073709551616) :
    Calls Tryd.prog 56 #[.int .u64 0, .int .u64 n, .int .u64 d] w fun e w' => e = .returned (.tuple #[.int .u64 (n / d), .int .u64 (n % d)]) ∧ ∃ k, w' = w.drewN k := by
  go_enter Tryd.func56, Tryd.ntmps56
  go_wp2
  go_quiet (fail)
  go_wp2
  go_ret2
  exact ⟨rfl, _, rfl⟩

theorem mul64_low (x y n : Int) (hn : Hid (x * y = n)) (w : World) (h0 : 0 ≤ x) (h1 : x < 18446744073709551616) (h2 : 0 ≤ y) (h3 : y < 18446744073709551616) (h4 : n < 18446744073709551616) :
    Calls Tryd.prog 55 #[.int .u64 x, .int .u64 y] w fun e w' => e = .returned (.tuple #[.int .u64 0, .int .u64 n]) ∧ w = w' := by
  have hn := hn.out
  obtain ⟨a, rfl⟩ := Int.eq_ofNat_of_zero_le h0
  obtain ⟨b, rfl⟩ := Int.eq_ofNat_of_zero_le h2
  have hm : ((a * b : Nat) : Int) = n := by rw [← hn]; simp
  have hs : a * b < 18446744073709551616 := by omega
  refine (Tryd.bits_Mul64 a b (by omega) (by omega) w).mono ?_
  rintro e w' ⟨rfl, rfl⟩
  refine ⟨?_, rfl⟩
  rw [Nat.div_eq_of_lt hs, Nat.mod_eq_of_lt hs, hm]
  rfl

set_option maxHeartbeats 1000000 in
theorem scaled_low (x y d n : Int) (b : Bool) (w : World) (hn : Hid (x * y = n)) (h0 : 0 ≤ x) (h1 : x < 1000000000000000000) (h2 : 0 ≤ y) (h3 : y < 1000000000000000000) (h4 : 0 ≤ n) (h5 : n < 1000000000000000000) (h6 : 1000000 ≤ d) (h7 : d < 1000000000000000000) :
    Calls Tryd.prog 50 #[.int .u64 x, .int .u64 y, .int .u64 d, .bool b] w fun e w' => e = .returned (.int .i64 (if b then -(Cal.rnd (n / d) (n % d) d) else Cal.rnd (n / d) (n % d) d)) ∧ Below w.heap.size w w' := by
  have q0 : 0 ≤ n / d := Int.ediv_nonneg h4 (by omega)
  have q1 : n / d ≤ 1000000000000 := by
    have a : n / d * d ≤ n := Int.ediv_mul_le n (by omega)
    have b : n / d * 1000000 ≤ n / d * d := Int.mul_le_mul_of_nonneg_left h6 q0
    omega
  have r0 : 0 ≤ n % d := Int.emod_nonneg _ (by omega)
  have r1 : n % d < d := Int.emod_lt_of_pos _ (by omega)
  have hd := fun w => div64_low n d w h4 (by omega) (by omega) (by omega)
  have HD := Lib.hid hd
  clear hd
  generalize n / d = q at *
  generalize n % d = r at *
  by_cases c1 : d - r < r
  · have e := Lib.hid (show Cal.rnd q r d = q + 1 by unfold Cal.rnd; rw [if_pos (.inl c1)])
    cases b
    all_goals
      go_enter Tryd.func50, Tryd.ntmps50
      go_wp2_with (first | (go_at_call 55; refine (mul64_low _ _ n hn _ (by omega) (by omega) (by omega) (by omega) (by omega)).mono ?_; rintro e w' ⟨rfl, rfl⟩) | (go_at_call 56; refine (HD.out _).mono ?_; rintro e w' ⟨rfl, nd, rfl⟩))
      all_goals go_ret
      all_goals exact ⟨ret_int (by simp [e.out]), below_drewN (Below.refl _ _) _⟩
  by_cases c2 : r = d - r
  · by_cases c3 : q % 2 = 1
    · have e := Lib.hid (show Cal.rnd q r d = q + 1 by unfold Cal.rnd; rw [if_pos (.inr ⟨c2, c3⟩)])
      have c5 : (q % 2 == 1) = true := by simpa using c3
      have c4 : (r == d - r) = true := by simpa using c2
      have C := Lib.hid c2
      clear c2
      cases b
      all_goals
        go_enter Tryd.func50, Tryd.ntmps50
        go_wp2_with (first | (go_at_call 55; refine (mul64_low _ _ n hn _ (by omega) (by omega) (by omega) (by omega) (by omega)).mono ?_; rintro e w' ⟨rfl, rfl⟩) | (go_at_call 56; refine (HD.out _).mono ?_; rintro e w' ⟨rfl, nd, rfl⟩))
        all_goals go_ret
        all_goals exact ⟨ret_int (by simp [e.out]), below_drewN (Below.refl _ _) _⟩
    · have e := Lib.hid (show Cal.rnd q r d = q by unfold Cal.rnd; rw [if_neg (by omega)])
      have c5 : (q % 2 == 1) = false := by simpa using c3
      have c4 : (r == d - r) = true := by simpa using c2
      have C := Lib.hid c2
      clear c2
      cases b
      all_goals
        go_enter Tryd.func50, Tryd.ntmps50
        go_wp2_with (first | (go_at_call 55; refine (mul64_low _ _ n hn _ (by omega) (by omega) (by omega) (by omega) (by omega)).mono ?_; rintro e w' ⟨rfl, rfl⟩) | (go_at_call 56; refine (HD.out _).mono ?_; rintro e w' ⟨rfl, nd, rfl⟩))
        all_goals go_ret
        all_goals exact ⟨ret_int (by simp [e.out]), below_drewN (Below.refl _ _) _⟩
  · have e := Lib.hid (show Cal.rnd q r d = q by unfold Cal.rnd; rw [if_neg (by omega)])
    have c4 : (r == d - r) = false := by simpa using c2
    cases b
    all_goals
      go_enter Tryd.func50, Tryd.ntmps50
      go_wp2_with (first | (go_at_call 55; refine (mul64_low _ _ n hn _ (by omega) (by omega) (by omega) (by omega) (by omega)).mono ?_; rintro e w' ⟨rfl, rfl⟩) | (go_at_call 56; refine (HD.out _).mono ?_; rintro e w' ⟨rfl, nd, rfl⟩))
      all_goals go_ret
      all_goals exact ⟨ret_int (by simp [e.out]), below_drewN (Below.refl _ _) _⟩

set_option maxHeartbeats 1000000 in
theorem div_any (a b : Int) (w : World) (h0 : -100000000000 ≤ a) (h1 : a ≤ 100000000000) (h2 : 1000000 ≤ b) (h3 : b ≤ 10000000000) :
    Calls Tryd.prog 43 #[.int .i64 a, .int .i64 b] w fun e w' => e = .returned (.int .i64 (Cal.dv a b)) ∧ Below w.heap.size w w' := by
  have hb : ¬ b < 0 := by omega
  by_cases h : a < 0
  · have e := Lib.hid (show Cal.dv a b = -(Cal.rnd (-a * 1000000 / b) (-a * 1000000 % b) b) by unfold Cal.dv; rw [if_pos h])
    go_enter Tryd.func43, Tryd.ntmps43
    go_wp2_with (first | (go_at_call 49; refine (split_any _ _ (by omega) (by omega)).mono ?_; rintro e w' ⟨rfl, rfl⟩) | (go_at_call 50; refine (scaled_low _ _ _ (-a * 1000000) _ _ (Lib.hid rfl) (by omega) (by omega) (by omega) (by omega) (by omega) (by omega) (by omega) (by omega)).mono ?_; rintro e w' ⟨rfl, hb⟩))
    go_ret
    exact ⟨ret_int e.out.symm, hb⟩
  · have e := Lib.hid (show Cal.dv a b = Cal.rnd (a * 1000000 / b) (a * 1000000 % b) b by unfold Cal.dv; rw [if_neg h])
    go_enter Tryd.func43, Tryd.ntmps43
    go_wp2_with (first | (go_at_call 49; refine (split_any _ _ (by omega) (by omega)).mono ?_; rintro e w' ⟨rfl, rfl⟩) | (go_at_call 50; refine (scaled_low _ _ _ (a * 1000000) _ _ (Lib.hid rfl) (by omega) (by omega) (by omega) (by omega) (by omega) (by omega) (by omega) (by omega)).mono ?_; rintro e w' ⟨rfl, hb⟩))
    go_ret
    exact ⟨ret_int e.out.symm, hb⟩

set_option maxHeartbeats 400000 in
theorem rsize_any (a : Int) (w : World) (h0 : -1000000000000 ≤ a) (h1 : a ≤ 1000000000000) :
    Calls Tryd.prog 45 #[.int .i64 a] w fun e w' => e = .returned (.int .i64 (if a < 0 then -a else a)) ∧ w = w' := by
  by_cases h : a < 0
  all_goals
    go_enter Tryd.func45, Tryd.ntmps45
    go_wp2
    go_ret
    exact ⟨rfl, rfl⟩

set_option maxHeartbeats 400000 in
theorem rsigned_any (n a b : Int) (w : World) (h0 : -1000000000000 ≤ n) (h1 : n ≤ 1000000000000) (hb : ¬ b < 0) :
    Calls Tryd.prog 46 #[.int .i64 n, .int .i64 a, .int .i64 b] w fun e w' => e = .returned (.int .i64 (if a < 0 then -n else n)) ∧ w = w' := by
  by_cases h : a < 0
  all_goals
    go_enter Tryd.func46, Tryd.ntmps46
    go_wp2_with (go_at_call 44; refine (rnclamp_any _ _ (by omega) (by omega)).mono ?_; rintro e w' ⟨rfl, rfl⟩)
    go_ret
    exact ⟨rfl, rfl⟩

set_option maxHeartbeats 400000 in
theorem rrounded_any (q r d : Int) (w : World) (h0 : 0 ≤ q) (h1 : q ≤ 1000000000000) (h2 : 0 ≤ r) (h3 : r < d) (h4 : d ≤ 1000000000000) :
    Calls Tryd.prog 47 #[.int .i64 q, .int .i64 r, .int .i64 d] w fun e w' => e = .returned (.int .i64 (Cal.rnd q r d)) ∧ w = w' := by
  by_cases c1 : d - r < r
  · have e := Lib.hid (show Cal.rnd q r d = q + 1 by unfold Cal.rnd; rw [if_pos (.inl c1)])
    go_enter Tryd.func47, Tryd.ntmps47
    go_wp2
    go_ret
    exact ⟨ret_int e.out.symm, rfl⟩
  by_cases c2 : r = d - r
  · have c4 : (r == d - r) = true := by simpa using c2
    have C := Lib.hid c2
    clear c2
    by_cases c3 : q % 2 = 1
    · have e := Lib.hid (show Cal.rnd q r d = q + 1 by unfold Cal.rnd; rw [if_pos (.inr ⟨C.out, c3⟩)])
      have c5 : (q % 2 == 1) = true := by simpa using c3
      go_enter Tryd.func47, Tryd.ntmps47
      go_wp2
      go_ret
      exact ⟨ret_int e.out.symm, rfl⟩
    · have e := Lib.hid (show Cal.rnd q r d = q by unfold Cal.rnd; rw [if_neg (by omega)])
      have c5 : (q % 2 == 1) = false := by simpa using c3
      go_enter Tryd.func47, Tryd.ntmps47
      go_wp2
      go_ret
      exact ⟨ret_int e.out.symm, rfl⟩
  · have e := Lib.hid (show Cal.rnd q r d = q by unfold Cal.rnd; rw [if_neg (by omega)])
    have c4 : (r == d - r) = false := by simpa using c2
    go_enter Tryd.func47, Tryd.ntmps47
    go_wp2
    go_ret
    exact ⟨ret_int e.out.symm, rfl⟩

/-- the long division's state: so many digits are done -/
def Digs (x y : Int) (k : Nat) (q r : Int) : Prop := q = x * 10 ^ k / y ∧ r = x * 10 ^ k % y
theorem digs_succ {x y q r : Int} {k : Nat} (h : 0 < y) (d : Digs x y k q r) : Digs x y (k + 1) (10 * q + 10 * r / y) (10 * r % y) := by
  obtain ⟨rfl, rfl⟩ := d
  have e : x * 10 ^ (k + 1) = 10 * (x * 10 ^ k) := by rw [Int.pow_succ]; ac_rfl
  unfold Digs
  rw [e]
  exact ⟨Cal.step_div _ _ h, Cal.step_mod _ _⟩
theorem digs_bd {x y q r : Int} {k : Nat} (hx : 0 ≤ x) (hx' : x ≤ 100000000000) (hk : k ≤ 6) (h : 1000000 ≤ y) (d : Digs x y k q r) : 0 ≤ q ∧ q ≤ 100000000000 ∧ 0 ≤ r ∧ r < y := by
  obtain ⟨rfl, rfl⟩ := d
  have p : (10 : Int) ^ k ≤ 1000000 := by
    have c : k = 0 ∨ k = 1 ∨ k = 2 ∨ k = 3 ∨ k = 4 ∨ k = 5 ∨ k = 6 := by omega
    rcases c with e | e | e | e | e | e | e <;> subst e <;> decide
  have p0 : (0 : Int) ≤ 10 ^ k := Int.le_of_lt (Int.pow_pos (by decide))
  have n0 : 0 ≤ x * 10 ^ k := Int.mul_nonneg hx p0
  have n1 : x * 10 ^ k ≤ x * 1000000 := Int.mul_le_mul_of_nonneg_left p hx
  refine ⟨Int.ediv_nonneg n0 (by omega), ?_, Int.emod_nonneg _ (by omega), Int.emod_lt_of_pos _ (by omega)⟩
  have q0 : 0 ≤ x * 10 ^ k / y := Int.ediv_nonneg n0 (by omega)
  have a : x * 10 ^ k / y * y ≤ x * 10 ^ k := Int.ediv_mul_le _ (by omega)
  have b : x * 10 ^ k / y * 1000000 ≤ x * 10 ^ k / y * y := Int.mul_le_mul_of_nonneg_left h q0
  omega

set_option maxHeartbeats 1000000 in
theorem rdiv_any (a b : Int) (w : World) (h0 : -100000000000 ≤ a) (h1 : a ≤ 100000000000) (h2 : 1000000 ≤ b) (h3 : b ≤ 10000000000) :
    Calls Tryd.prog 39 #[.int .i64 a, .int .i64 b] w fun e w' => e = .returned (.int .i64 (Cal.dv a b)) ∧ w = w' := by
  obtain ⟨x, hx⟩ : ∃ x, x = if a < 0 then -a else a := ⟨_, rfl⟩
  have hx0 : 0 ≤ x := by rw [hx]; split <;> omega
  have hx1 : x ≤ 100000000000 := by rw [hx]; split <;> omega
  have hsz : (if a < 0 then -a else a) = x := hx.symm
  have e := Lib.hid (show Cal.dv a b = if a < 0 then -(Cal.rnd (x * 1000000 / b) (x * 1000000 % b) b) else Cal.rnd (x * 1000000 / b) (x * 1000000 % b) b by
    rw [hx]; unfold Cal.dv; split <;> rfl)
  have HS := fun w => rsize_any a w (by omega) (by omega)
  rw [hsz] at HS
  have HS' := Lib.hid HS
  have X := Lib.hid hx
  clear HS hsz hx
  have hb : ¬ b < 0 := by omega
  have d0 : Digs x b 0 (x / b) (x % b) := by unfold Digs; rw [Int.pow_zero, Int.mul_one]; exact ⟨rfl, rfl⟩
  have bd := digs_bd hx0 hx1 (by omega) h2 d0
  have q9 : x / b ≤ 100000 := by
    have a : x / b * b ≤ x := Int.ediv_mul_le _ (by omega)
    have b : x / b * 1000000 ≤ x / b * b := Int.mul_le_mul_of_nonneg_left h2 bd.1
    omega
  go_enter Tryd.func39, Tryd.ntmps39
  go_wp2_with (first | (go_at_call 44; refine (rnclamp_any _ _ (by omega) (by omega)).mono ?_; rintro e w' ⟨rfl, rfl⟩) | (go_at_call 45; refine (HS'.out _).mono ?_; rintro e w' ⟨rfl, rfl⟩) | (go_at_call 45; refine (rsize_any _ _ (by omega) (by omega)).mono ?_; rintro e w' ⟨rfl, rfl⟩))
  clear bd q9
  have D0 := Lib.hid d0
  clear d0
  go_loop [7, 8, 9] (fun u v t => ∃ (k : Nat) (q r : Int), k ≤ 6 ∧ Hid (Digs x b k q r) ∧ t = .int .i64 k ∧ u = .int .i64 q ∧ v = .int .i64 r) (fun _ _ t => (6 - intOf t).toNat)
  case atStart => exact ⟨0, _, _, by omega, D0, rfl, rfl, rfl⟩
  case round =>
    obtain ⟨k, q, r, hk, HD, rfl, rfl, rfl⟩ := hrel
    have bd := digs_bd hx0 hx1 hk h2 HD.out
    by_cases hlt : k < 6
    · have HD1 := Lib.hid (digs_succ (show 0 < b by omega) HD.out)
      have bd1 := digs_bd hx0 hx1 (show k + 1 ≤ 6 by omega) h2 HD1.out
      have g1 : 0 ≤ 10 * r / b := Int.ediv_nonneg (by omega) (by omega)
      go_wp2
      go_round
      case rel => exact ⟨k + 1, _, _, by omega, HD1, by go_num, rfl, rfl⟩
      case measure => simp [intOf]; omega
    · have HD' : Digs x b 6 q r := by
        have hk6 : k = 6 := by omega
        rw [← hk6]; exact HD.out
      clear D0
      have hq : x * 1000000 / b = q := HD'.1.symm
      have hr : x * 1000000 % b = r := HD'.2.symm
      rw [hq, hr] at e
      have R := Cal.rnd_bd (q := q) (r := r) (b := b)
      clear HD HD' hq hr
      go_wp2_with (first | (go_at_call 47; refine (rrounded_any _ _ _ _ (by omega) (by omega) (by omega) (by omega) (by omega)).mono ?_; rintro e w' ⟨rfl, rfl⟩) | (go_at_call 46; refine (rsigned_any _ _ _ _ (by omega) (by omega) (by omega)).mono ?_; rintro e w' ⟨rfl, rfl⟩))
      all_goals go_ret
      all_goals exact ⟨ret_int (by rw [e.out]; first | rw [if_pos (by omega)] | rw [if_neg (by omega)]), rfl⟩

end Go.Proofs.YtilifaemehbleaaDoor
