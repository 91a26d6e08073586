/-
  Complement: what one text more of DateB is rested on.
-/
import Derived.Test.YtcndknkdhlmdnaaGreatDoorS03
import Derived.Test.YtcndknkdhlmdnaaGreatDoorS32
namespace Go.Proofs.YtcndknkdhlmdnaaGreatDoor
open Go.RowKit
set_option maxRecDepth 100000

set_option maxHeartbeats 1000000 in
theorem rof_bad (y m d : Int) (w : World) (h : ¬ Cal.ok y m d) :
    Calls Tryz.prog 155 #[.int .i64 y, .int .i64 m, .int .i64 d] w fun e w' => e = .returned (.tuple #[.int .i64 0, .int .i64 30]) ∧ Below w.heap.size w w' := by
  by_cases h1 : y < 1900
  · clear h
    go_enter Tryz.func155, Tryz.ntmps155
    go_wp2
    go_ret2
    exact ⟨rfl, Below.refl _ _⟩
  by_cases h2 : 2099 < y
  · clear h
    go_enter Tryz.func155, Tryz.ntmps155
    go_wp2
    go_ret2
    exact ⟨rfl, Below.refl _ _⟩
  by_cases h3 : m < 1
  · clear h
    go_enter Tryz.func155, Tryz.ntmps155
    go_wp2
    go_ret2
    exact ⟨rfl, Below.refl _ _⟩
  by_cases h4 : 12 < m
  · clear h
    go_enter Tryz.func155, Tryz.ntmps155
    go_wp2
    go_ret2
    exact ⟨rfl, Below.refl _ _⟩
  by_cases h5 : d < 1
  · clear h
    go_enter Tryz.func155, Tryz.ntmps155
    go_wp2
    go_ret2
    exact ⟨rfl, Below.refl _ _⟩
  have h6 : Cal.mlen y m < d := by unfold Cal.ok at h; omega
  clear h
  go_enter Tryz.func155, Tryz.ntmps155
  go_wp2_with (go_at_call 143; refine (rlength_any _ _ _ (by omega) (by omega) (by omega) (by omega)).mono ?_; rintro e w' ⟨rfl, hb⟩)
  go_ret2
  exact ⟨rfl, hb⟩
set_option maxHeartbeats 1000000 in
theorem rof_ok (y m d : Int) (w : World) (h : Cal.ok y m d) :
    Calls Tryz.prog 155 #[.int .i64 y, .int .i64 m, .int .i64 d] w fun e w' => e = .returned (.tuple #[.int .i64 (Cal.num y m d), .int .i64 0]) ∧ Below w.heap.size w w' := by
  obtain ⟨h1, h2, h3, h4, h5, h6⟩ := h
  have ml := Cal.mlen_bd y m
  go_enter Tryz.func155, Tryz.ntmps155
  go_wp2_with (go_at_call 143; refine (rlength_any _ _ _ (by omega) (by omega) (by omega) (by omega)).mono ?_; rintro e w' ⟨rfl, hb⟩)
  go_loop [8, 9] (fun n t => ∃ z : Int, 1900 ≤ z ∧ z ≤ y ∧ t = .int .i64 z ∧ n = .int .i64 (Cal.ahead z)) (fun _ t => (2100 - intOf t).toNat)
  case atStart => exact ⟨1900, by omega, h1, rfl, rfl⟩
  case round =>
    obtain ⟨z, hz1, hz2, rfl, rfl⟩ := hrel
    have hb1 := Cal.ahead_bd hz1 (by omega)
    have hs := Lib.hid (Cal.ahead_succ z)
    by_cases hlt : z < y
    · cases hl : Cal.lp z
      all_goals
        go_wp2_with (go_at_call 173; refine (rleap_any _ _ (by omega) (by omega)).mono ?_; rintro e w' ⟨rfl, rfl⟩)
        go_round
        case rel => exact ⟨z + 1, by omega, by omega, by go_num, by rw [hs.out]; simp [Cal.lpI, hl]⟩
        case measure => simp [intOf]; omega
    · obtain rfl : z = y := by omega
      clear hs hlt
      have cb := Cal.cum_bd z h3 (by omega)
      go_wp2
      go_loopw [8, 11] (fun n k wr => ∃ j : Int, 1 ≤ j ∧ j ≤ m ∧ k = .int .i64 j ∧ n = .int .i64 (Cal.ahead z + Cal.cum z j) ∧ Below w.heap.size w wr) (fun _ k _ => (13 - intOf k).toNat)
      case atStart => exact ⟨1, by omega, h3, rfl, by rw [Cal.cum_1]; go_num, hb⟩
      case round =>
        obtain ⟨j, hj1, hj2, rfl, rfl, hb2⟩ := hrel
        clear hb
        have hB := Lib.hid hb2
        clear hb2
        have cj := Cal.cum_bd z hj1 (by omega)
        have mj := Cal.mlen_bd z j
        have hs := Lib.hid (Cal.cum_succ z hj1 (by omega))
        by_cases hlt : j < m
        · go_wp2_with (go_at_call 143; refine (rlength_any _ _ _ (by omega) (by omega) (by omega) (by omega)).mono ?_; rintro e w' ⟨rfl, hb⟩)
          go_roundw
          case rel => exact ⟨j + 1, by omega, by omega, by go_num, by rw [hs.out]; go_num, hB.out.trans (hb.mono hB.out.size)⟩
          case measure => simp [intOf]; omega
        · obtain rfl : j = m := by omega
          go_wp2
          go_ret2
          exact ⟨by simp [Cal.num], hB.out⟩
end Go.Proofs.YtcndknkdhlmdnaaGreatDoor
