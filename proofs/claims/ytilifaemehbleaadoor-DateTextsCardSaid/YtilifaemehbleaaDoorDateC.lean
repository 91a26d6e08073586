/-
  The walks of the program's own date.Of and date.Parts.
-/
import Derived.Test.YtilifaemehbleaaDoorDateA
namespace Go.Proofs.YtilifaemehbleaaDoor
open Go.RowKit
set_option maxRecDepth 100000

set_option maxHeartbeats 1000000 in
theorem of_bad (y m d : Int) (w : World) (h : ¬ Cal.ok y m d) :
    Calls Tryd.prog 10 #[.int .i64 y, .int .i64 m, .int .i64 d] w fun e w' => e = .returned (.tuple #[.int .i64 0, .int .i64 30]) ∧ Below w.heap.size w w' := by
  by_cases h1 : y < 1900
  · clear h
    go_enter Tryd.func10, Tryd.ntmps10
    go_wp2
    go_ret2
    exact ⟨rfl, Below.refl _ _⟩
  by_cases h2 : 2099 < y
  · clear h
    go_enter Tryd.func10, Tryd.ntmps10
    go_wp2
    go_ret2
    exact ⟨rfl, Below.refl _ _⟩
  by_cases h3 : m < 1
  · clear h
    go_enter Tryd.func10, Tryd.ntmps10
    go_wp2
    go_ret2
    exact ⟨rfl, Below.refl _ _⟩
  by_cases h4 : 12 < m
  · clear h
    go_enter Tryd.func10, Tryd.ntmps10
    go_wp2
    go_ret2
    exact ⟨rfl, Below.refl _ _⟩
  have hg := getm y (k := (m - 1).toNat) (by omega)
  rw [show (((m - 1).toNat : Nat) : Int) + 1 = m by omega, show (m - 1).toNat = m.toNat - 1 by omega] at hg
  by_cases h5 : d < 1
  · clear h
    go_enter Tryd.func10, Tryd.ntmps10
    go_wp2_with (go_at_call 27; refine (lengths_any _ _ (by omega) (by omega)).mono ?_; rintro e w' ⟨rfl, hb⟩)
    go_ret2
    exact ⟨rfl, hb.trans ((below1 _ _).mono hb.size)⟩
  have h6 : Cal.mlen y m < d := by unfold Cal.ok at h; omega
  clear h
  go_enter Tryd.func10, Tryd.ntmps10
  go_wp2_with (go_at_call 27; refine (lengths_any _ _ (by omega) (by omega)).mono ?_; rintro e w' ⟨rfl, hb⟩)
  go_ret2
  exact ⟨rfl, hb.trans ((below1 _ _).mono hb.size)⟩

theorem index12 (y : Int) {k : Nat} (h3 : k < 12) (w : World) : (Instr.index 40 (.agg #[.int .i64 31, .int .i64 (28 + Cal.lpI y), .int .i64 31, .int .i64 30, .int .i64 31, .int .i64 30, .int .i64 31, .int .i64 31, .int .i64 30, .int .i64 31, .int .i64 30, .int .i64 31]) (.int .i64 k)).run Tryd.prog w = .ok (.int .i64 (Cal.mlen y ((k : Int) + 1))) w := by
  have c : k = 0 ∨ k = 1 ∨ k = 2 ∨ k = 3 ∨ k = 4 ∨ k = 5 ∨ k = 6 ∨ k = 7 ∨ k = 8 ∨ k = 9 ∨ k = 10 ∨ k = 11 := by omega
  rcases c with e | e | e | e | e | e | e | e | e | e | e | e <;> subst e <;> (show _ = _) <;> kernel_rfl

theorem index12i (y : Int) {j : Int} (h : 0 ≤ j) (h3 : j < 12) (w : World) : (Instr.index 40 (.agg #[.int .i64 31, .int .i64 (28 + Cal.lpI y), .int .i64 31, .int .i64 30, .int .i64 31, .int .i64 30, .int .i64 31, .int .i64 31, .int .i64 30, .int .i64 31, .int .i64 30, .int .i64 31]) (.int .i64 j)).run Tryd.prog w = .ok (.int .i64 (Cal.mlen y (j + 1))) w := by
  obtain ⟨k, rfl⟩ := Int.eq_ofNat_of_zero_le h
  exact index12 y (by omega) w

theorem slice12 (h : Int) (h0 : 0 ≤ h) (h1 : h ≤ 12) (w : World) (a : Addr) : (Instr.sliceAt 40 (.pointer (some a)) none (some (.int .i64 h)) none).run Tryd.prog w = .ok (.slice (some a) h.toNat 12) w := by
  rw [run_sliceAt_array_h w 40 a (by kernel_rfl) .i64 h h0 (by rw [show Tryd.prog.arrayLen 40 = 12 from by kernel_rfl]; omega)]
  rw [show Tryd.prog.arrayLen 40 = 12 from by kernel_rfl, show Tryd.prog.elem 40 = 3 from by kernel_rfl]
  rw [show (sizeOf 3).run Tryd.prog w = .ok 1 w from by kernel_rfl]
  simp [Result.andThen, slicedAt, Addr.add]

theorem ret_val' {a b c : Int} (h : a = b) : Ending.returned (.tuple #[.int .i64 a, .int .i64 c]) = .returned (.tuple #[.int .i64 b, .int .i64 c]) := by rw [h]

set_option maxHeartbeats 1000000 in
theorem of_ok (y m d : Int) (w : World) (h : Cal.ok y m d) :
    Calls Tryd.prog 10 #[.int .i64 y, .int .i64 m, .int .i64 d] w fun e w' => e = .returned (.tuple #[.int .i64 (Cal.num y m d), .int .i64 0]) ∧ Below w.heap.size w w' := by
  obtain ⟨h1, h2, h3, h4, h5, h6⟩ := h
  have ml := Cal.mlen_bd y m
  have ab := Cal.ahead_bd h1 (by omega)
  have hg := getm y (k := (m - 1).toNat) (by omega)
  rw [show (((m - 1).toNat : Nat) : Int) + 1 = m by omega, show (m - 1).toNat = m.toNat - 1 by omega] at hg
  have hsl := slice12 (m - 1) (by omega) (by omega)
  rw [show (m - 1).toNat = m.toNat - 1 by omega] at hsl
  go_enter Tryd.func10, Tryd.ntmps10
  go_wp2_with (first | (go_at_call 27; refine (lengths_any _ _ (by omega) (by omega)).mono ?_; rintro e w' ⟨rfl, hb⟩) | (go_at_call 28; refine (ahead_any _ _ (by omega) (by omega)).mono ?_; rintro e w' ⟨rfl, rfl⟩))
  clear hg
  go_loop [9, 47] (fun n i => ∃ k : Nat, (k : Int) ≤ m - 1 ∧ i = .int .i64 k ∧ n = .int .i64 (Cal.ahead y + d - 1 + Cal.cum y (k + 1))) (fun _ i => (13 - intOf i).toNat)
  case atStart => exact ⟨0, by omega, rfl, by rw [show ((0 : Nat) : Int) + 1 = 1 from rfl, Cal.cum_1]; go_num⟩
  case round =>
    obtain ⟨k, hk, rfl, rfl⟩ := hrel
    have hs := Lib.hid (Cal.cum_succ y (m := (k : Int) + 1) (by omega) (by omega))
    have hc := Cal.cum_bd y (m := (k : Int) + 1) (by omega) (by omega)
    have hm := Cal.mlen_bd y ((k : Int) + 1)
    by_cases hlt : (k : Int) < m - 1
    · have hg := getm y (k := k) (by omega)
      go_wp2
      go_round
      case rel => exact ⟨k + 1, by omega, by go_num, ret_val (by rw [show (((k + 1 : Nat) : Int) + 1) = (k : Int) + 1 + 1 by omega, hs.out]; omega)⟩
      case measure => simp [intOf]; omega
    · obtain rfl : m = k + 1 := by omega
      go_wp2
      go_ret2
      exact ⟨ret_val' (by unfold Cal.num; omega), hb.trans ((below1 _ _).mono hb.size)⟩

set_option maxHeartbeats 400000 in
theorem parts_bad (k : Int) (w : World) (h : k < 0 ∨ 73048 < k) :
    Calls Tryd.prog 12 #[.int .i64 k] w fun e w' => e = .returned (.tuple #[.int .i64 0, .int .i64 0, .int .i64 0, .int .i64 30]) ∧ Below w.heap.size w w' := by
  by_cases h1 : k < 0
  all_goals
    go_enter Tryd.func12, Tryd.ntmps12
    go_wp2
    refine bodyPost_ret (v := .tuple #[.int .i64 0, .int .i64 0, .int .i64 0, .int .i64 30]) (by simp [results, Tryd.results12, go_sem]) rfl ⟨rfl, Below.refl _ _⟩

set_option maxHeartbeats 1000000 in
theorem parts_ok (y m d k : Int) (w : World) (h : Cal.ok y m d) (hk : Cal.num y m d = k) :
    Calls Tryd.prog 12 #[.int .i64 k] w fun e w' => e = .returned (.tuple #[.int .i64 y, .int .i64 m, .int .i64 d, .int .i64 0]) ∧ Below w.heap.size w w' := by
  have nb := Cal.num_bd h
  have ny := Cal.num_lt_year h
  have ml := Cal.mlen_bd y m
  have H := Lib.hid h
  obtain ⟨h1, h2, h3, h4, h5, h6⟩ := h
  subst hk
  have g1 : Cal.ahead (1900 + Cal.num y m d / 366) ≤ Cal.num y m d := by unfold Cal.ahead; omega
  have g2 := Cal.year_le g1 ny.2
  go_enter Tryd.func12, Tryd.ntmps12
  go_wp2
  have G : Hid (Cal.ahead y ≤ Cal.num y m d ∧ Cal.num y m d < Cal.ahead (y + 1)) := ny
  clear ny g1
  go_loop [8] (fun t => ∃ z : Int, 1900 ≤ z ∧ z ≤ y ∧ t = .int .i64 z) (fun t => (2100 - intOf t).toNat)
  case atStart => exact ⟨_, by omega, g2, rfl⟩
  case round =>
    obtain ⟨z, hz1, hz2, rfl⟩ := hrel
    have ab := Cal.ahead_bd hz1 (by omega)
    have lb := Cal.lpI_b z
    have hs := Lib.hid (Cal.ahead_succ z)
    clear g2
    by_cases e : z < y
    · have hle : 365 + Cal.lpI z ≤ Cal.num y m d - Cal.ahead z := by have := Cal.ahead_mono (show z + 1 ≤ y by omega); have := hs.out; have := G.out; omega
      go_wp2_with (first | (go_at_call 28; refine (ahead_any _ _ (by omega) (by omega)).mono ?_; rintro e w' ⟨rfl, rfl⟩) | (go_at_call 31; refine (days_any _ _ (by omega) (by omega)).mono ?_; rintro e w' ⟨rfl, rfl⟩))
      go_round
      case rel => exact ⟨z + 1, by omega, by omega, rfl⟩
      case measure => simp [intOf]; omega
    · obtain rfl : z = y := by omega
      have hlt : Cal.num z m d - Cal.ahead z < 365 + Cal.lpI z := by have := hs.out; have := G.out; omega
      have hn := Lib.hid (show Cal.num z m d - Cal.ahead z = Cal.cum z m + d - 1 by unfold Cal.num; omega)
      clear hs e
      have cb := Cal.cum_bd z h3 (by omega)
      go_wp2_with (first | (go_at_call 28; refine (ahead_any _ _ (by omega) (by omega)).mono ?_; rintro e w' ⟨rfl, rfl⟩) | (go_at_call 31; refine (days_any _ _ (by omega) (by omega)).mono ?_; rintro e w' ⟨rfl, rfl⟩) | (go_at_call 27; refine (lengths_any _ _ (by omega) (by omega)).mono ?_; rintro e w' ⟨rfl, hb⟩))
      go_loop [0, 38] (fun r i => ∃ k : Nat, (k : Int) ≤ m - 1 ∧ i = .int .i64 k ∧ r = .int .i64 (Cal.cum z m + d - 1 - Cal.cum z (k + 1))) (fun _ i => (13 - intOf i).toNat)
      case atStart => exact ⟨0, by omega, rfl, ret_val (by rw [show ((0 : Nat) : Int) + 1 = 1 from rfl, Cal.cum_1, hn.out]; omega)⟩
      case round =>
        obtain ⟨k, hk, rfl, rfl⟩ := hrel
        have hs := Lib.hid (Cal.cum_succ z (m := (k : Int) + 1) (by omega) (by omega))
        have hc := Cal.cum_bd z (m := (k : Int) + 1) (by omega) (by omega)
        have hm := Cal.mlen_bd z ((k : Int) + 1)
        have hg := index12 z (k := k) (by omega)
        by_cases hlt2 : (k : Int) < m - 1
        · have hle : Cal.mlen z ((k : Int) + 1) ≤ Cal.cum z m + d - 1 - Cal.cum z (k + 1) := by
            have := Cal.cum_mono z (show 1 ≤ (k : Int) + 1 + 1 by omega) (show (k : Int) + 1 + 1 ≤ m by omega) (by omega)
            have := hs.out
            omega
          go_wp2
          go_round
          case rel => exact ⟨k + 1, by omega, by go_num, ret_val (by rw [show (((k + 1 : Nat) : Int) + 1) = (k : Int) + 1 + 1 by omega, hs.out]; omega)⟩
          case measure => simp [intOf]; omega
        · obtain rfl : m = k + 1 := by omega
          go_wp2
          refine bodyPost_ret (v := .tuple #[.int .i64 z, .int .i64 (k + 1), .int .i64 d, .int .i64 0]) ?_ rfl ⟨rfl, hb⟩
          simp [results, Tryd.results12, go_sem]
          omega

end Go.Proofs.YtilifaemehbleaaDoor
