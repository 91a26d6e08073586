/-
  The walks of days that are moved and of the years between them, of the program and of the document's answer.
-/
import Derived.Test.YtilifaemehbleaaDoorDateB
import Derived.Test.YtilifaemehbleaaDoorDateC
import Derived.Test.YtilifaemehbleaaDoorDateD
namespace Go.Proofs.YtilifaemehbleaaDoor
open Go.RowKit
set_option maxRecDepth 100000

set_option maxHeartbeats 400000 in
theorem plus_any (d n : Int) (w : World) :
    Calls Tryd.prog 15 #[.int .i64 d, .int .i64 n] w fun e w' => e = .returned (.int .i64 (Cal.plus d n)) ∧ w = w' := by
  have b := Cal.cl_bd d
  go_enter Tryd.func15, Tryd.ntmps15
  go_wp2_with (first | (go_at_call 32; refine (clamp_any _ _).mono ?_; rintro e w' ⟨rfl, rfl⟩))
  go_ret
  exact ⟨rfl, rfl⟩

set_option maxHeartbeats 400000 in
theorem rplus_any (d n : Int) (w : World) :
    Calls Tryd.prog 20 #[.int .i64 d, .int .i64 n] w fun e w' => e = .returned (.int .i64 (Cal.plus d n)) ∧ w = w' := by
  have b := Cal.cl_bd d
  have e := Lib.hid (show Cal.plus d n = Cal.cl (Cal.cl d + max (-73048) (min 73048 n)) from rfl)
  by_cases h1 : n < -73048
  · have e2 : Cal.plus d n = 0 := by rw [e.out]; unfold Cal.cl at *; omega
    go_enter Tryd.func20, Tryd.ntmps20
    go_wp2_with (first | (go_at_call 37; refine (rclamp_any _ _).mono ?_; rintro e w' ⟨rfl, rfl⟩))
    all_goals go_ret
    all_goals exact ⟨ret_int e2.symm, rfl⟩
  by_cases h2 : 73048 < n
  · have e2 : Cal.plus d n = 73048 := by rw [e.out]; unfold Cal.cl at *; omega
    go_enter Tryd.func20, Tryd.ntmps20
    go_wp2_with (first | (go_at_call 37; refine (rclamp_any _ _).mono ?_; rintro e w' ⟨rfl, rfl⟩))
    all_goals go_ret
    all_goals exact ⟨ret_int e2.symm, rfl⟩
  · rw [show max (-73048) (min 73048 n) = n by omega] at e
    go_enter Tryd.func20, Tryd.ntmps20
    go_wp2_with (first | (go_at_call 37; refine (rclamp_any _ _).mono ?_; rintro e w' ⟨rfl, rfl⟩))
    all_goals go_ret
    all_goals exact ⟨ret_int e.out.symm, rfl⟩

set_option maxHeartbeats 400000 in
theorem ratio_any (n d : Int) (w : World) (h0 : -100000 ≤ n) (h1 : n ≤ 100000) (h2 : 1 ≤ d) (h3 : d ≤ 1000) :
    Calls Tryd.prog 38 #[.int .i64 n, .int .i64 d] w fun e w' => e = .returned (.int .i64 (Cal.dv (n * 1000000) (d * 1000000))) ∧ Below w.heap.size w w' := by
  go_enter Tryd.func38, Tryd.ntmps38
  go_wp2_with (first | (go_at_call 43; refine (div_any _ _ _ (by omega) (by omega) (by omega) (by omega)).mono ?_; rintro e w' ⟨rfl, hb⟩))
  go_ret
  exact ⟨rfl, hb⟩

/-- how many years lie between, by 365 days -/
def years (a b : Int) : Int := Cal.dv ((Cal.cl b - Cal.cl a) * 1000000) 365000000
/-- and by months of 30 days, of two dates -/
def years30 (y m d z n e : Int) : Int := Cal.dv ((360 * (z - y) + 30 * (n - m) + min e 30 - min d 30) * 1000000) 360000000

set_option maxHeartbeats 400000 in
theorem years_any (a b : Int) (w : World) :
    Calls Tryd.prog 22 #[.int .i64 a, .int .i64 b] w fun e w' => e = .returned (.int .i64 (years a b)) ∧ Below w.heap.size w w' := by
  have ba := Cal.cl_bd a
  have bb := Cal.cl_bd b
  go_enter Tryd.func22, Tryd.ntmps22
  go_wp2_with (first | (go_at_call 32; refine (clamp_any _ _).mono ?_; rintro e w' ⟨rfl, rfl⟩) | (go_at_call 38; refine (ratio_any _ _ _ (by omega) (by omega) (by omega) (by omega)).mono ?_; rintro e w' ⟨rfl, hb⟩))
  go_ret
  exact ⟨rfl, hb⟩

set_option maxHeartbeats 400000 in
theorem ryears_any (a b : Int) (w : World) :
    Calls Tryd.prog 23 #[.int .i64 a, .int .i64 b] w fun e w' => e = .returned (.int .i64 (years a b)) ∧ w = w' := by
  have ba := Cal.cl_bd a
  have bb := Cal.cl_bd b
  go_enter Tryd.func23, Tryd.ntmps23
  go_wp2_with (first | (go_at_call 37; refine (rclamp_any _ _).mono ?_; rintro e w' ⟨rfl, rfl⟩) | (go_at_call 39; refine (rdiv_any _ _ _ (by omega) (by omega) (by omega) (by omega)).mono ?_; rintro e w' ⟨rfl, rfl⟩))
  go_ret
  exact ⟨rfl, rfl⟩

set_option maxHeartbeats 1000000 in
theorem years30_any (a b y m d z n e : Int) (w : World) (h : Cal.ok y m d) (hk : Cal.num y m d = Cal.cl a) (h' : Cal.ok z n e) (hk' : Cal.num z n e = Cal.cl b) :
    Calls Tryd.prog 24 #[.int .i64 a, .int .i64 b] w fun e' w' => e' = .returned (.int .i64 (years30 y m d z n e)) ∧ Below w.heap.size w w' := by
  have H := Lib.hid h
  have H' := Lib.hid h'
  have K := Lib.hid hk
  have K' := Lib.hid hk'
  clear hk hk'
  obtain ⟨h1, h2, h3, h4, h5, h6⟩ := h
  obtain ⟨g1, g2, g3, g4, g5, g6⟩ := h'
  have ml := Cal.mlen_bd y m
  have nl := Cal.mlen_bd z n
  have HB : Hid (Below w.heap.size w w) := Below.refl _ _
  go_enter Tryd.func24, Tryd.ntmps24
  go_wp2_with (first | (go_at_call 32; refine (clamp_any _ _).mono ?_; rintro e w' ⟨rfl, rfl⟩) | (go_at_call 12; first | ((with_reducible refine (parts_ok _ _ _ _ _ H.out K.out).mono ?_); rintro e w' ⟨rfl, hb⟩; replace HB := Lib.hid (HB.out.trans (hb.mono HB.out.size)); clear hb) | ((with_reducible refine (parts_ok _ _ _ _ _ H'.out K'.out).mono ?_); rintro e w' ⟨rfl, hb⟩; replace HB := Lib.hid (HB.out.trans (hb.mono HB.out.size)); clear hb)) | (go_at_call 38; refine (ratio_any _ _ _ (by omega) (by omega) (by omega) (by omega)).mono ?_; rintro e w' ⟨rfl, hb⟩))
  go_ret
  exact ⟨rfl, (HB.out.trans (hb.mono HB.out.size))⟩

set_option maxHeartbeats 1000000 in
theorem ryears30_any (a b y m d z n e : Int) (w : World) (h : Cal.ok y m d) (hk : Cal.num y m d = Cal.cl a) (h' : Cal.ok z n e) (hk' : Cal.num z n e = Cal.cl b) :
    Calls Tryd.prog 25 #[.int .i64 a, .int .i64 b] w fun e' w' => e' = .returned (.int .i64 (years30 y m d z n e)) ∧ Below w.heap.size w w' := by
  have H := Lib.hid h
  have H' := Lib.hid h'
  have K := Lib.hid hk
  have K' := Lib.hid hk'
  clear hk hk'
  obtain ⟨h1, h2, h3, h4, h5, h6⟩ := h
  obtain ⟨g1, g2, g3, g4, g5, g6⟩ := h'
  have ml := Cal.mlen_bd y m
  have nl := Cal.mlen_bd z n
  have HB : Hid (Below w.heap.size w w) := Below.refl _ _
  go_enter Tryd.func25, Tryd.ntmps25
  go_wp2_with (first | (go_at_call 37; refine (rclamp_any _ _).mono ?_; rintro e w' ⟨rfl, rfl⟩) | (go_at_call 13; first | ((with_reducible refine (rparts_ok _ _ _ _ _ H.out K.out).mono ?_); rintro e w' ⟨rfl, hb⟩; replace HB := Lib.hid (HB.out.trans (hb.mono HB.out.size)); clear hb) | ((with_reducible refine (rparts_ok _ _ _ _ _ H'.out K'.out).mono ?_); rintro e w' ⟨rfl, hb⟩; replace HB := Lib.hid (HB.out.trans (hb.mono HB.out.size)); clear hb)) | (go_at_call 39; refine (rdiv_any _ _ _ (by omega) (by omega) (by omega) (by omega)).mono ?_; rintro e w' ⟨rfl, rfl⟩))
  go_ret
  exact ⟨rfl, HB.out⟩

set_option maxHeartbeats 1000000 in
theorem months_any (a n y m d : Int) (w : World) (h : Cal.ok y m d) (hk : Cal.num y m d = Cal.cl a) :
    Calls Tryd.prog 14 #[.int .i64 a, .int .i64 n] w fun e w' => e = .returned (.int .i64 (Cal.months y m d n)) ∧ Below w.heap.size w w' := by
  have H := Lib.hid h
  have K := Lib.hid hk
  clear hk
  obtain ⟨h1, h2, h3, h4, h5, h6⟩ := h
  have HB : Hid (Below w.heap.size w w) := Below.refl _ _
  obtain ⟨c, hc⟩ : ∃ c, c = max (-25188) (min 25188 n) := ⟨_, rfl⟩
  have cb : -25188 ≤ c ∧ c ≤ 25188 := by omega
  have hc' : max (-25188) (min 25188 n) = c := hc.symm
  have E := Lib.hid (show Cal.months y m d n = if 12 * y + m - 1 + c < 22800 then 0
    else if 25200 ≤ 12 * y + m - 1 + c then 73048
    else Cal.num ((12 * y + m - 1 + n) / 12) ((12 * y + m - 1 + n) % 12 + 1) (min d (Cal.mlen ((12 * y + m - 1 + n) / 12) ((12 * y + m - 1 + n) % 12 + 1))) by unfold Cal.months; rw [hc'])
  have C := Lib.hid hc
  clear hc
  by_cases c1 : 12 * y + m - 1 + c < 22800
  · have e := E.out
    rw [if_pos c1] at e
    have E2 := Lib.hid e
    clear e
    go_enter Tryd.func14, Tryd.ntmps14
    go_wp2_with (first | (go_at_call 32; refine (clamp_any _ _).mono ?_; rintro e w' ⟨rfl, rfl⟩) | (go_at_call 12; refine (parts_ok _ _ _ _ _ H.out K.out).mono ?_; rintro e w' ⟨rfl, hb⟩; replace HB := Lib.hid (HB.out.trans (hb.mono HB.out.size)); clear hb))
    go_ret
    exact ⟨ret_int E2.out.symm, HB.out⟩
  by_cases c2 : 25200 ≤ 12 * y + m - 1 + c
  · have e := E.out
    rw [if_neg c1, if_pos c2] at e
    have E2 := Lib.hid e
    clear e
    go_enter Tryd.func14, Tryd.ntmps14
    go_wp2_with (first | (go_at_call 32; refine (clamp_any _ _).mono ?_; rintro e w' ⟨rfl, rfl⟩) | (go_at_call 12; refine (parts_ok _ _ _ _ _ H.out K.out).mono ?_; rintro e w' ⟨rfl, hb⟩; replace HB := Lib.hid (HB.out.trans (hb.mono HB.out.size)); clear hb))
    go_ret
    exact ⟨ret_int E2.out.symm, HB.out⟩
  · have e := E.out
    rw [if_neg c1, if_neg c2] at e
    have hcn : c = n := by have := C.out; omega
    obtain ⟨k, hk⟩ : ∃ k, k = 12 * y + m - 1 + n := ⟨_, rfl⟩
    have hk' : 12 * y + m - 1 + c = k := by rw [hcn, hk]
    rw [← hk] at e
    have E2 := Lib.hid e
    have hix := index12i (k / 12) (j := k % 12) (by omega) (by omega)
    have M := Lib.hid (Cal.months_ok H.out (show 22800 ≤ k by omega) (show k < 25200 by omega))
    clear e hk hcn
    go_enter Tryd.func14, Tryd.ntmps14
    go_wp2_with (first | (go_at_call 32; refine (clamp_any _ _).mono ?_; rintro e w' ⟨rfl, rfl⟩) | (go_at_call 12; refine (parts_ok _ _ _ _ _ H.out K.out).mono ?_; rintro e w' ⟨rfl, hb⟩; replace HB := Lib.hid (HB.out.trans (hb.mono HB.out.size)); clear hb) | (go_at_call 27; refine (lengths_any _ _ (by omega) (by omega)).mono ?_; rintro e w' ⟨rfl, hb⟩; replace HB := Lib.hid (HB.out.trans (hb.mono HB.out.size)); clear hb) | (go_at_call 10; refine (of_ok _ _ _ _ M.out).mono ?_; rintro e w' ⟨rfl, hb⟩; replace HB := Lib.hid (HB.out.trans (hb.mono HB.out.size)); clear hb))
    go_ret
    exact ⟨ret_int E2.out.symm, HB.out⟩

set_option maxHeartbeats 1000000 in
theorem rmonths_any (a n y m d : Int) (w : World) (h : Cal.ok y m d) (hk : Cal.num y m d = Cal.cl a) :
    Calls Tryd.prog 21 #[.int .i64 a, .int .i64 n] w fun e w' => e = .returned (.int .i64 (Cal.months y m d n)) ∧ Below w.heap.size w w' := by
  have H := Lib.hid h
  have K := Lib.hid hk
  clear hk
  obtain ⟨h1, h2, h3, h4, h5, h6⟩ := h
  have HB : Hid (Below w.heap.size w w) := Below.refl _ _
  by_cases n1 : 2400 < n
  · have E2 := Lib.hid (show Cal.months y m d n = 73048 by unfold Cal.months; rw [if_neg (by omega), if_pos (by omega)])
    go_enter Tryd.func21, Tryd.ntmps21
    go_wp2_with (first | (go_at_call 37; refine (rclamp_any _ _).mono ?_; rintro e w' ⟨rfl, rfl⟩) | (go_at_call 13; refine (rparts_ok _ _ _ _ _ H.out K.out).mono ?_; rintro e w' ⟨rfl, hb⟩; replace HB := Lib.hid (HB.out.trans (hb.mono HB.out.size)); clear hb))
    go_ret
    exact ⟨ret_int E2.out.symm, HB.out⟩
  by_cases n2 : n < -2400
  · have E2 := Lib.hid (show Cal.months y m d n = 0 by unfold Cal.months; rw [if_pos (by omega)])
    go_enter Tryd.func21, Tryd.ntmps21
    go_wp2_with (first | (go_at_call 37; refine (rclamp_any _ _).mono ?_; rintro e w' ⟨rfl, rfl⟩) | (go_at_call 13; refine (rparts_ok _ _ _ _ _ H.out K.out).mono ?_; rintro e w' ⟨rfl, hb⟩; replace HB := Lib.hid (HB.out.trans (hb.mono HB.out.size)); clear hb))
    go_ret
    exact ⟨ret_int E2.out.symm, HB.out⟩
  have hc : max (-25188) (min 25188 n) = n := by omega
  have E := Lib.hid (show Cal.months y m d n = if 12 * y + m - 1 + n < 22800 then 0
    else if 25200 ≤ 12 * y + m - 1 + n then 73048
    else Cal.num ((12 * y + m - 1 + n) / 12) ((12 * y + m - 1 + n) % 12 + 1) (min d (Cal.mlen ((12 * y + m - 1 + n) / 12) ((12 * y + m - 1 + n) % 12 + 1))) by unfold Cal.months; rw [hc])
  clear hc
  obtain ⟨k, hk⟩ : ∃ k, k = 12 * y + m - 1 + n := ⟨_, rfl⟩
  have hk' : 12 * y + m - 1 + n = k := by rw [hk]
  rw [← hk] at E
  have kb : 22700 - 2400 ≤ k ∧ k ≤ 25200 + 2400 := by omega
  clear hk
  by_cases c1 : k < 22800
  · have e := E.out
    rw [if_pos c1] at e
    have E2 := Lib.hid e
    clear e
    go_enter Tryd.func21, Tryd.ntmps21
    go_wp2_with (first | (go_at_call 37; refine (rclamp_any _ _).mono ?_; rintro e w' ⟨rfl, rfl⟩) | (go_at_call 13; refine (rparts_ok _ _ _ _ _ H.out K.out).mono ?_; rintro e w' ⟨rfl, hb⟩; replace HB := Lib.hid (HB.out.trans (hb.mono HB.out.size)); clear hb))
    go_ret
    exact ⟨ret_int E2.out.symm, HB.out⟩
  by_cases c2 : 25200 ≤ k
  · have e := E.out
    rw [if_neg c1, if_pos c2] at e
    have E2 := Lib.hid e
    clear e
    go_enter Tryd.func21, Tryd.ntmps21
    go_wp2_with (first | (go_at_call 37; refine (rclamp_any _ _).mono ?_; rintro e w' ⟨rfl, rfl⟩) | (go_at_call 13; refine (rparts_ok _ _ _ _ _ H.out K.out).mono ?_; rintro e w' ⟨rfl, hb⟩; replace HB := Lib.hid (HB.out.trans (hb.mono HB.out.size)); clear hb))
    go_ret
    exact ⟨ret_int E2.out.symm, HB.out⟩
  · have e := E.out
    rw [if_neg c1, if_neg c2] at e
    have E2 := Lib.hid e
    have M := Lib.hid (Cal.months_ok H.out (show 22800 ≤ k by omega) (show k < 25200 by omega))
    clear e
    go_enter Tryd.func21, Tryd.ntmps21
    go_wp2_with (first | (go_at_call 37; refine (rclamp_any _ _).mono ?_; rintro e w' ⟨rfl, rfl⟩) | (go_at_call 13; refine (rparts_ok _ _ _ _ _ H.out K.out).mono ?_; rintro e w' ⟨rfl, hb⟩; replace HB := Lib.hid (HB.out.trans (hb.mono HB.out.size)); clear hb) | (go_at_call 29; refine (rlength_any _ _ _ (by omega) (by omega) (by omega) (by omega)).mono ?_; rintro e w' ⟨rfl, hb⟩; replace HB := Lib.hid (HB.out.trans (hb.mono HB.out.size)); clear hb) | (go_at_call 11; refine (rof_ok _ _ _ _ M.out).mono ?_; rintro e w' ⟨rfl, hb⟩; replace HB := Lib.hid (HB.out.trans (hb.mono HB.out.size)); clear hb))
    go_ret
    exact ⟨ret_int E2.out.symm, HB.out⟩

end Go.Proofs.YtilifaemehbleaaDoor
