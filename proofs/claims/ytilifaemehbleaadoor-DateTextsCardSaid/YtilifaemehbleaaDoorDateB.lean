/-
  The walks of a date's day and of a day's date, of the program and of the document's answer.
-/
import Derived.Test.YtilifaemehbleaaDoorDateA
namespace Go.Proofs.YtilifaemehbleaaDoor
open Go.RowKit
set_option maxRecDepth 100000

set_option maxHeartbeats 1000000 in
theorem rof_bad (y m d : Int) (w : World) (h : ¬ Cal.ok y m d) :
    Calls Tryd.prog 11 #[.int .i64 y, .int .i64 m, .int .i64 d] w fun e w' => e = .returned (.tuple #[.int .i64 0, .int .i64 30]) ∧ Below w.heap.size w w' := by
  by_cases h1 : y < 1900
  · clear h
    go_enter Tryd.func11, Tryd.ntmps11
    go_wp2
    go_ret2
    exact ⟨rfl, Below.refl _ _⟩
  by_cases h2 : 2099 < y
  · clear h
    go_enter Tryd.func11, Tryd.ntmps11
    go_wp2
    go_ret2
    exact ⟨rfl, Below.refl _ _⟩
  by_cases h3 : m < 1
  · clear h
    go_enter Tryd.func11, Tryd.ntmps11
    go_wp2
    go_ret2
    exact ⟨rfl, Below.refl _ _⟩
  by_cases h4 : 12 < m
  · clear h
    go_enter Tryd.func11, Tryd.ntmps11
    go_wp2
    go_ret2
    exact ⟨rfl, Below.refl _ _⟩
  by_cases h5 : d < 1
  · clear h
    go_enter Tryd.func11, Tryd.ntmps11
    go_wp2
    go_ret2
    exact ⟨rfl, Below.refl _ _⟩
  have h6 : Cal.mlen y m < d := by unfold Cal.ok at h; omega
  clear h
  go_enter Tryd.func11, Tryd.ntmps11
  go_wp2_with (go_at_call 29; refine (rlength_any _ _ _ (by omega) (by omega) (by omega) (by omega)).mono ?_; rintro e w' ⟨rfl, hb⟩)
  go_ret2
  exact ⟨rfl, hb⟩

set_option maxHeartbeats 1000000 in
theorem rof_ok (y m d : Int) (w : World) (h : Cal.ok y m d) :
    Calls Tryd.prog 11 #[.int .i64 y, .int .i64 m, .int .i64 d] w fun e w' => e = .returned (.tuple #[.int .i64 (Cal.num y m d), .int .i64 0]) ∧ Below w.heap.size w w' := by
  obtain ⟨h1, h2, h3, h4, h5, h6⟩ := h
  have ml := Cal.mlen_bd y m
  go_enter Tryd.func11, Tryd.ntmps11
  go_wp2_with (go_at_call 29; refine (rlength_any _ _ _ (by omega) (by omega) (by omega) (by omega)).mono ?_; rintro e w' ⟨rfl, hb⟩)
  go_loop [8, 9] (fun n t => ∃ z : Int, 1900 ≤ z ∧ z ≤ y ∧ t = .int .i64 z ∧ n = .int .i64 (Cal.ahead z)) (fun _ t => (2100 - intOf t).toNat)
  case atStart => exact ⟨1900, by omega, h1, rfl, rfl⟩
  case round =>
    obtain ⟨z, hz1, hz2, rfl, rfl⟩ := hrel
    have hb1 := Cal.ahead_bd hz1 (by omega)
    have hs := Lib.hid (Cal.ahead_succ z)
    by_cases hlt : z < y
    · cases hl : Cal.lp z
      all_goals
        go_wp2_with (go_at_call 30; refine (rleap_any _ _ (by omega) (by omega)).mono ?_; rintro e w' ⟨rfl, rfl⟩)
        go_round
        case rel => exact ⟨z + 1, by omega, by omega, by go_num, by rw [hs.out]; simp [Cal.lpI, hl]⟩
        case measure => simp [intOf]; omega
    · obtain rfl : z = y := by omega
      clear hs hlt
      have cb := Cal.cum_bd z h3 (by omega)
      go_wp2
      go_loopw [8, 11] (fun n k wr => ∃ j : Int, 1 ≤ j ∧ j ≤ m ∧ k = .int .i64 j ∧ n = .int .i64 (Cal.ahead z + Cal.cum z j) ∧ Below w.heap.size w wr) (fun _ k _ => (13 - intOf k).toNat)
      case atStart => exact ⟨1, by omega, h3, rfl, by rw [Cal.cum_1]; go_num, hb⟩
      case round =>
        obtain ⟨j, hj1, hj2, rfl, rfl, hb2⟩ := hrel
        clear hb
        have hB := Lib.hid hb2
        clear hb2
        have cj := Cal.cum_bd z hj1 (by omega)
        have mj := Cal.mlen_bd z j
        have hs := Lib.hid (Cal.cum_succ z hj1 (by omega))
        by_cases hlt : j < m
        · go_wp2_with (go_at_call 29; refine (rlength_any _ _ _ (by omega) (by omega) (by omega) (by omega)).mono ?_; rintro e w' ⟨rfl, hb⟩)
          go_roundw
          case rel => exact ⟨j + 1, by omega, by omega, by go_num, by rw [hs.out]; go_num, hB.out.trans (hb.mono hB.out.size)⟩
          case measure => simp [intOf]; omega
        · obtain rfl : j = m := by omega
          go_wp2
          go_ret2
          exact ⟨by simp [Cal.num], hB.out⟩

set_option maxHeartbeats 400000 in
theorem rparts_bad (k : Int) (w : World) (h : k < 0 ∨ 73048 < k) :
    Calls Tryd.prog 13 #[.int .i64 k] w fun e w' => e = .returned (.tuple #[.int .i64 0, .int .i64 0, .int .i64 0, .int .i64 30]) ∧ Below w.heap.size w w' := by
  by_cases h1 : k < 0
  all_goals
    go_enter Tryd.func13, Tryd.ntmps13
    go_wp2
    refine bodyPost_ret (v := .tuple #[.int .i64 0, .int .i64 0, .int .i64 0, .int .i64 30]) (by simp [results, Tryd.results13, go_sem]) rfl ⟨rfl, Below.refl _ _⟩

set_option maxHeartbeats 1000000 in
theorem rparts_ok (y m d k : Int) (w : World) (h : Cal.ok y m d) (hk : Cal.num y m d = k) :
    Calls Tryd.prog 13 #[.int .i64 k] w fun e w' => e = .returned (.tuple #[.int .i64 y, .int .i64 m, .int .i64 d, .int .i64 0]) ∧ Below w.heap.size w w' := by
  have nb := Cal.num_bd h
  have iy := Cal.in_year h
  have ny := Cal.num_lt_year h
  have H := Lib.hid h
  obtain ⟨h1, h2, h3, h4, h5, h6⟩ := h
  subst hk
  clear iy ny
  go_enter Tryd.func13, Tryd.ntmps13
  go_wp2
  go_loopw [0, 6, 7] (fun r u v wr => ∃ z j : Int, 1900 ≤ z ∧ z ≤ y ∧ 1 ≤ j ∧ j ≤ 12 ∧ (z = y → j ≤ m) ∧ u = .int .i64 z ∧ v = .int .i64 j ∧ r = .int .i64 (Cal.num y m d - Cal.ahead z - Cal.cum z j) ∧ Below w.heap.size w wr) (fun _ u v _ => ((2100 - intOf u) * 13 + (13 - intOf v)).toNat)
  case atStart => exact ⟨1900, 1, by omega, h1, by omega, by omega, by omega, rfl, rfl, by rw [Cal.ahead_1900, Cal.cum_1]; go_num, Below.refl _ _⟩
  case round =>
    obtain ⟨z, j, hz1, hz2, hj1, hj2, hzj, rfl, rfl, rfl, hb2⟩ := hrel
    have hB := Lib.hid hb2
    have hc := Cal.cum_bd z hj1 (by omega)
    have ha := Cal.ahead_bd hz1 (by omega)
    have hm := Cal.mlen_bd z j
    have hs := Lib.hid (Cal.cum_succ z hj1 hj2)
    have ht := Lib.hid (Cal.ahead_succ z)
    have Hzj := Lib.hid hzj
    clear hb2 hzj
    by_cases e : z < y ∨ z = y ∧ j < m
    · have hmo := Cal.more H.out hj1 hj2 e
      have hs1 := hs.out
      have hle : Cal.mlen z j ≤ Cal.num y m d - Cal.ahead z - Cal.cum z j := by omega
      have E := Lib.hid e
      have hx : j = 12 → z < y := by omega
      clear e hs1 hmo
      by_cases h12 : j = 12
      · have hzy := hx h12
        subst h12
        clear hx
        go_wp2_with (go_at_call 29; refine (rlength_any _ _ _ (by omega) (by omega) (by omega) (by omega)).mono ?_; rintro e w' ⟨rfl, hb⟩; replace hB := Lib.hid (hB.out.trans (hb.mono hB.out.size)); clear hb)
        go_roundw
        case rel =>
          have c13 := Cal.cum_13 z
          have c1 := Cal.cum_1 (z + 1)
          have hso := hs.out
          have hto := ht.out
          have c131 : Cal.cum z (12 + 1) = Cal.cum z 13 := rfl
          exact ⟨z + 1, 1, by omega, by omega, by omega, by omega, by omega, by go_num, rfl, ret_val (by omega), hB.out⟩
        case measure => simp [intOf]; omega
      · clear hx
        go_wp2_with (go_at_call 29; refine (rlength_any _ _ _ (by omega) (by omega) (by omega) (by omega)).mono ?_; rintro e w' ⟨rfl, hb⟩; replace hB := Lib.hid (hB.out.trans (hb.mono hB.out.size)); clear hb)
        go_roundw
        case rel =>
          have hso := hs.out
          have hzjo := Hzj.out
          have hEo := E.out
          exact ⟨z, j + 1, by omega, by omega, by omega, by omega, by omega, rfl, by go_num, ret_val (by omega), hB.out⟩
        case measure => simp [intOf]; omega
    · have hzy : z = y := by have := Hzj.out; omega
      have hjm : j = m := by have := Hzj.out; omega
      subst hzy hjm
      clear e
      have hlt : Cal.num z j d - Cal.ahead z - Cal.cum z j < Cal.mlen z j := by unfold Cal.num; omega
      have hd : Cal.num z j d - Cal.ahead z - Cal.cum z j + 1 = d := by unfold Cal.num; omega
      have HD := Lib.hid hd
      clear hd
      go_wp2_with (go_at_call 29; refine (rlength_any _ _ _ (by omega) (by omega) (by omega) (by omega)).mono ?_; rintro e w' ⟨rfl, hb⟩; replace hB := Lib.hid (hB.out.trans (hb.mono hB.out.size)); clear hb)
      rw [HD.out]
      refine bodyPost_ret (v := .tuple #[.int .i64 z, .int .i64 j, .int .i64 d, .int .i64 0]) (by simp [results, Tryd.results13, go_sem]) rfl ⟨rfl, hB.out⟩

end Go.Proofs.YtilifaemehbleaaDoor
