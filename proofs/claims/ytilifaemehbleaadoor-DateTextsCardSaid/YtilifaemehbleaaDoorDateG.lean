/-
  The walks of the statements on days of the calendar: their heads, DateDays, DateMoves, DateSums, DateMonths.
-/
import Derived.Test.YtilifaemehbleaaDoorDateF
import Derived.Test.YtilifaemehbleaaDoorDateLaw
namespace Go.Proofs.YtilifaemehbleaaDoor
open Go.RowKit
set_option maxRecDepth 100000

theorem shown_text : textS 2026 11 15 = ⟨#[50, 48, 50, 54, 45, 49, 49, 45, 49, 53]⟩ := by decide

set_option maxHeartbeats 1000000 in
theorem shown_any (w : World) (ht : Hid (Tab w)) :
    Calls Tryd.prog 9 #[] w fun e w' => e = .returned (.bool true) ∧ Below w.heap.size w w' := by
  have HB : Hid (Below w.heap.size w w ∧ Tab w) := ⟨Below.refl _ _, ht.out⟩
  have HX := Lib.hid shown_text
  clear ht
  have s1 := fun w ht => show_ok 2026 11 15 46339 w ht (by decide) (by decide)
  rw [HX.out] at s1
  have S1 := Lib.hid s1
  clear s1
  have s2 := fun w => of_ok 2000 2 29 w (by decide)
  rw [show Cal.num 2000 2 29 = 36583 by decide] at s2
  have S2 := Lib.hid s2
  clear s2
  go_enter Tryd.func9, Tryd.ntmps9
  go_wp2_with (first
      | (go_at_call 16; refine (S1.out _ HB.out.2).mono ?_; rintro e w' ⟨rfl, hb⟩; replace HB := Lib.hid (And.intro (HB.out.1.trans (hb.mono HB.out.1.size)) (HB.out.2.below hb)); clear hb)
      | (go_at_call 10; refine (S2.out _).mono ?_; rintro e w' ⟨rfl, hb⟩; replace HB := Lib.hid (And.intro (HB.out.1.trans (hb.mono HB.out.1.size)) (HB.out.2.below hb)); clear hb))
  go_ret
  exact ⟨rfl, HB.out.1⟩

set_option maxHeartbeats 2000000 in
theorem days_law (year month d day : Int) (w : World) (ht : Hid (Tab w)) :
    Calls Tryd.prog 3 #[.int .i64 year, .int .i64 month, .int .i64 d, .int .i64 day] w fun e w' => e = .returned (.bool true) ∧ Below w.heap.size w w' := by
  have HB : Hid (Below w.heap.size w w ∧ Tab w) := ⟨Below.refl _ _, ht.out⟩
  clear ht
  by_cases ho : Cal.ok year month d
  all_goals
    have HO := Lib.hid ho
    clear ho
    by_cases hd : 0 ≤ day ∧ day ≤ 73048
  · obtain ⟨y, m, k, h1, h2⟩ := Cal.date_of day hd.1 hd.2
    have H1 := Lib.hid h1
    have H2 := Lib.hid h2
    clear h1 h2
    go_enter Tryd.func3, Tryd.ntmps3
    go_wp2_with (first
      | (go_at_call 9; refine (shown_any _ (Lib.hid HB.out.2)).mono ?_; rintro e w' ⟨rfl, hb⟩; replace HB := Lib.hid (And.intro (HB.out.1.trans (hb.mono HB.out.1.size)) (HB.out.2.below hb)); clear hb)
      | (go_at_call 10; refine (of_ok _ _ _ _ HO.out).mono ?_; rintro e w' ⟨rfl, hb⟩; replace HB := Lib.hid (And.intro (HB.out.1.trans (hb.mono HB.out.1.size)) (HB.out.2.below hb)); clear hb)
      | (go_at_call 11; refine (rof_ok _ _ _ _ HO.out).mono ?_; rintro e w' ⟨rfl, hb⟩; replace HB := Lib.hid (And.intro (HB.out.1.trans (hb.mono HB.out.1.size)) (HB.out.2.below hb)); clear hb)
      | (go_at_call 12; refine (parts_ok _ _ _ _ _ H1.out H2.out).mono ?_; rintro e w' ⟨rfl, hb⟩; replace HB := Lib.hid (And.intro (HB.out.1.trans (hb.mono HB.out.1.size)) (HB.out.2.below hb)); clear hb)
      | (go_at_call 13; refine (rparts_ok _ _ _ _ _ H1.out H2.out).mono ?_; rintro e w' ⟨rfl, hb⟩; replace HB := Lib.hid (And.intro (HB.out.1.trans (hb.mono HB.out.1.size)) (HB.out.2.below hb)); clear hb))
    go_ret
    exact ⟨rfl, HB.out.1⟩
  · have HD := Lib.hid (show day < 0 ∨ 73048 < day by omega)
    go_enter Tryd.func3, Tryd.ntmps3
    go_wp2_with (first
      | (go_at_call 9; refine (shown_any _ (Lib.hid HB.out.2)).mono ?_; rintro e w' ⟨rfl, hb⟩; replace HB := Lib.hid (And.intro (HB.out.1.trans (hb.mono HB.out.1.size)) (HB.out.2.below hb)); clear hb)
      | (go_at_call 10; refine (of_ok _ _ _ _ HO.out).mono ?_; rintro e w' ⟨rfl, hb⟩; replace HB := Lib.hid (And.intro (HB.out.1.trans (hb.mono HB.out.1.size)) (HB.out.2.below hb)); clear hb)
      | (go_at_call 11; refine (rof_ok _ _ _ _ HO.out).mono ?_; rintro e w' ⟨rfl, hb⟩; replace HB := Lib.hid (And.intro (HB.out.1.trans (hb.mono HB.out.1.size)) (HB.out.2.below hb)); clear hb)
      | (go_at_call 12; refine (parts_bad _ _ HD.out).mono ?_; rintro e w' ⟨rfl, hb⟩; replace HB := Lib.hid (And.intro (HB.out.1.trans (hb.mono HB.out.1.size)) (HB.out.2.below hb)); clear hb)
      | (go_at_call 13; refine (rparts_bad _ _ HD.out).mono ?_; rintro e w' ⟨rfl, hb⟩; replace HB := Lib.hid (And.intro (HB.out.1.trans (hb.mono HB.out.1.size)) (HB.out.2.below hb)); clear hb))
    go_ret
    exact ⟨rfl, HB.out.1⟩
  · obtain ⟨y, m, k, h1, h2⟩ := Cal.date_of day hd.1 hd.2
    have H1 := Lib.hid h1
    have H2 := Lib.hid h2
    clear h1 h2
    go_enter Tryd.func3, Tryd.ntmps3
    go_wp2_with (first
      | (go_at_call 9; refine (shown_any _ (Lib.hid HB.out.2)).mono ?_; rintro e w' ⟨rfl, hb⟩; replace HB := Lib.hid (And.intro (HB.out.1.trans (hb.mono HB.out.1.size)) (HB.out.2.below hb)); clear hb)
      | (go_at_call 10; refine (of_bad _ _ _ _ HO.out).mono ?_; rintro e w' ⟨rfl, hb⟩; replace HB := Lib.hid (And.intro (HB.out.1.trans (hb.mono HB.out.1.size)) (HB.out.2.below hb)); clear hb)
      | (go_at_call 11; refine (rof_bad _ _ _ _ HO.out).mono ?_; rintro e w' ⟨rfl, hb⟩; replace HB := Lib.hid (And.intro (HB.out.1.trans (hb.mono HB.out.1.size)) (HB.out.2.below hb)); clear hb)
      | (go_at_call 12; refine (parts_ok _ _ _ _ _ H1.out H2.out).mono ?_; rintro e w' ⟨rfl, hb⟩; replace HB := Lib.hid (And.intro (HB.out.1.trans (hb.mono HB.out.1.size)) (HB.out.2.below hb)); clear hb)
      | (go_at_call 13; refine (rparts_ok _ _ _ _ _ H1.out H2.out).mono ?_; rintro e w' ⟨rfl, hb⟩; replace HB := Lib.hid (And.intro (HB.out.1.trans (hb.mono HB.out.1.size)) (HB.out.2.below hb)); clear hb))
    go_ret
    exact ⟨rfl, HB.out.1⟩
  · have HD := Lib.hid (show day < 0 ∨ 73048 < day by omega)
    go_enter Tryd.func3, Tryd.ntmps3
    go_wp2_with (first
      | (go_at_call 9; refine (shown_any _ (Lib.hid HB.out.2)).mono ?_; rintro e w' ⟨rfl, hb⟩; replace HB := Lib.hid (And.intro (HB.out.1.trans (hb.mono HB.out.1.size)) (HB.out.2.below hb)); clear hb)
      | (go_at_call 10; refine (of_bad _ _ _ _ HO.out).mono ?_; rintro e w' ⟨rfl, hb⟩; replace HB := Lib.hid (And.intro (HB.out.1.trans (hb.mono HB.out.1.size)) (HB.out.2.below hb)); clear hb)
      | (go_at_call 11; refine (rof_bad _ _ _ _ HO.out).mono ?_; rintro e w' ⟨rfl, hb⟩; replace HB := Lib.hid (And.intro (HB.out.1.trans (hb.mono HB.out.1.size)) (HB.out.2.below hb)); clear hb)
      | (go_at_call 12; refine (parts_bad _ _ HD.out).mono ?_; rintro e w' ⟨rfl, hb⟩; replace HB := Lib.hid (And.intro (HB.out.1.trans (hb.mono HB.out.1.size)) (HB.out.2.below hb)); clear hb)
      | (go_at_call 13; refine (rparts_bad _ _ HD.out).mono ?_; rintro e w' ⟨rfl, hb⟩; replace HB := Lib.hid (And.intro (HB.out.1.trans (hb.mono HB.out.1.size)) (HB.out.2.below hb)); clear hb))
    go_ret
    exact ⟨rfl, HB.out.1⟩

set_option maxHeartbeats 2000000 in
theorem moves_law (day other n : Int) (w : World) (ht : Hid (Tab w)) :
    Calls Tryd.prog 7 #[.int .i64 day, .int .i64 other, .int .i64 n] w fun e w' => e = .returned (.bool true) ∧ Below w.heap.size w w' := by
  have HB : Hid (Below w.heap.size w w ∧ Tab w) := ⟨Below.refl _ _, ht.out⟩
  clear ht
  obtain ⟨y, m, d, h1, h2⟩ := Cal.date_of (Cal.cl day) (Cal.cl_bd _).1 (Cal.cl_bd _).2
  obtain ⟨z, o, e, h3, h4⟩ := Cal.date_of (Cal.cl other) (Cal.cl_bd _).1 (Cal.cl_bd _).2
  have H1 := Lib.hid h1
  have H2 := Lib.hid h2
  have H3 := Lib.hid h3
  have H4 := Lib.hid h4
  clear h1 h2 h3 h4
  go_enter Tryd.func7, Tryd.ntmps7
  go_wp2_with (first
      | (go_at_call 9; refine (shown_any _ (Lib.hid HB.out.2)).mono ?_; rintro e w' ⟨rfl, hb⟩; replace HB := Lib.hid (And.intro (HB.out.1.trans (hb.mono HB.out.1.size)) (HB.out.2.below hb)); clear hb)
      | (go_at_call 15; refine (plus_any _ _ _).mono ?_; rintro e w' ⟨rfl, rfl⟩)
      | (go_at_call 20; refine (rplus_any _ _ _).mono ?_; rintro e w' ⟨rfl, rfl⟩)
      | (go_at_call 14; refine (months_any _ _ _ _ _ _ H1.out H2.out).mono ?_; rintro e w' ⟨rfl, hb⟩; replace HB := Lib.hid (And.intro (HB.out.1.trans (hb.mono HB.out.1.size)) (HB.out.2.below hb)); clear hb)
      | (go_at_call 21; refine (rmonths_any _ _ _ _ _ _ H1.out H2.out).mono ?_; rintro e w' ⟨rfl, hb⟩; replace HB := Lib.hid (And.intro (HB.out.1.trans (hb.mono HB.out.1.size)) (HB.out.2.below hb)); clear hb)
      | (go_at_call 22; refine (years_any _ _ _).mono ?_; rintro e w' ⟨rfl, hb⟩; replace HB := Lib.hid (And.intro (HB.out.1.trans (hb.mono HB.out.1.size)) (HB.out.2.below hb)); clear hb)
      | (go_at_call 23; refine (ryears_any _ _ _).mono ?_; rintro e w' ⟨rfl, rfl⟩)
      | (go_at_call 24; refine (years30_any _ _ _ _ _ _ _ _ _ H1.out H2.out H3.out H4.out).mono ?_; rintro e w' ⟨rfl, hb⟩; replace HB := Lib.hid (And.intro (HB.out.1.trans (hb.mono HB.out.1.size)) (HB.out.2.below hb)); clear hb)
      | (go_at_call 25; refine (ryears30_any _ _ _ _ _ _ _ _ _ H1.out H2.out H3.out H4.out).mono ?_; rintro e w' ⟨rfl, hb⟩; replace HB := Lib.hid (And.intro (HB.out.1.trans (hb.mono HB.out.1.size)) (HB.out.2.below hb)); clear hb))
  go_ret
  exact ⟨rfl, HB.out.1⟩

theorem years_bd (a b : Int) : -100000000001 ≤ years a b ∧ years a b ≤ 100000000001 := by
  have := Cal.cl_bd a
  have := Cal.cl_bd b
  exact Cal.dv_bd (by omega) (by omega) (by omega)
theorem years_neg (a b : Int) : years a b = -(years b a) := by
  unfold years
  rw [← Cal.dv_neg (by decide)]
  congr 1
  omega
theorem years30_bd {y m d z n e : Int} (h : Cal.ok y m d) (h' : Cal.ok z n e) : -100000000001 ≤ years30 y m d z n e ∧ years30 y m d z n e ≤ 100000000001 := by
  obtain ⟨h1, h2, h3, h4, h5, h6⟩ := h
  obtain ⟨g1, g2, g3, g4, g5, g6⟩ := h'
  exact Cal.dv_bd (by omega) (by omega) (by omega)
theorem years30_neg (y m d z n e : Int) : years30 y m d z n e = -(years30 z n e y m d) := by
  unfold years30
  rw [← Cal.dv_neg (by decide)]
  congr 1
  omega

set_option maxHeartbeats 2000000 in
theorem sums_law (day a b : Int) (w : World) (ht : Hid (Tab w)) :
    Calls Tryd.prog 8 #[.int .i64 day, .int .i64 a, .int .i64 b] w fun e w' => e = .returned (.bool true) ∧ Below w.heap.size w w' := by
  have HB : Hid (Below w.heap.size w w ∧ Tab w) := ⟨Below.refl _ _, ht.out⟩
  clear ht
  by_cases c1 : day < 0
  · go_enter Tryd.func8, Tryd.ntmps8
    go_wp2_with (first
      | (go_at_call 9; refine (shown_any _ (Lib.hid HB.out.2)).mono ?_; rintro e w' ⟨rfl, hb⟩; replace HB := Lib.hid (And.intro (HB.out.1.trans (hb.mono HB.out.1.size)) (HB.out.2.below hb)); clear hb))
    go_ret
    exact ⟨rfl, HB.out.1⟩
  by_cases c2 : 73048 < day
  · go_enter Tryd.func8, Tryd.ntmps8
    go_wp2_with (first
      | (go_at_call 9; refine (shown_any _ (Lib.hid HB.out.2)).mono ?_; rintro e w' ⟨rfl, hb⟩; replace HB := Lib.hid (And.intro (HB.out.1.trans (hb.mono HB.out.1.size)) (HB.out.2.below hb)); clear hb))
    go_ret
    exact ⟨rfl, HB.out.1⟩
  by_cases c3 : a < -100000
  · go_enter Tryd.func8, Tryd.ntmps8
    go_wp2_with (first
      | (go_at_call 9; refine (shown_any _ (Lib.hid HB.out.2)).mono ?_; rintro e w' ⟨rfl, hb⟩; replace HB := Lib.hid (And.intro (HB.out.1.trans (hb.mono HB.out.1.size)) (HB.out.2.below hb)); clear hb))
    go_ret
    exact ⟨rfl, HB.out.1⟩
  by_cases c4 : 100000 < a
  · go_enter Tryd.func8, Tryd.ntmps8
    go_wp2_with (first
      | (go_at_call 9; refine (shown_any _ (Lib.hid HB.out.2)).mono ?_; rintro e w' ⟨rfl, hb⟩; replace HB := Lib.hid (And.intro (HB.out.1.trans (hb.mono HB.out.1.size)) (HB.out.2.below hb)); clear hb))
    go_ret
    exact ⟨rfl, HB.out.1⟩
  by_cases c5 : b < -100000
  · go_enter Tryd.func8, Tryd.ntmps8
    go_wp2_with (first
      | (go_at_call 9; refine (shown_any _ (Lib.hid HB.out.2)).mono ?_; rintro e w' ⟨rfl, hb⟩; replace HB := Lib.hid (And.intro (HB.out.1.trans (hb.mono HB.out.1.size)) (HB.out.2.below hb)); clear hb))
    go_ret
    exact ⟨rfl, HB.out.1⟩
  by_cases c6 : 100000 < b
  · go_enter Tryd.func8, Tryd.ntmps8
    go_wp2_with (first
      | (go_at_call 9; refine (shown_any _ (Lib.hid HB.out.2)).mono ?_; rintro e w' ⟨rfl, hb⟩; replace HB := Lib.hid (And.intro (HB.out.1.trans (hb.mono HB.out.1.size)) (HB.out.2.below hb)); clear hb))
    go_ret
    exact ⟨rfl, HB.out.1⟩
  by_cases c7 : day + a < 0
  · go_enter Tryd.func8, Tryd.ntmps8
    go_wp2_with (first
      | (go_at_call 9; refine (shown_any _ (Lib.hid HB.out.2)).mono ?_; rintro e w' ⟨rfl, hb⟩; replace HB := Lib.hid (And.intro (HB.out.1.trans (hb.mono HB.out.1.size)) (HB.out.2.below hb)); clear hb))
    go_ret
    exact ⟨rfl, HB.out.1⟩
  by_cases c8 : 73048 < day + a
  · go_enter Tryd.func8, Tryd.ntmps8
    go_wp2_with (first
      | (go_at_call 9; refine (shown_any _ (Lib.hid HB.out.2)).mono ?_; rintro e w' ⟨rfl, hb⟩; replace HB := Lib.hid (And.intro (HB.out.1.trans (hb.mono HB.out.1.size)) (HB.out.2.below hb)); clear hb))
    go_ret
    exact ⟨rfl, HB.out.1⟩
  obtain ⟨y, m, d, h1, h2⟩ := Cal.date_of day (by omega) (by omega)
  obtain ⟨z, o, e, h3, h4⟩ := Cal.date_of (day + a) (by omega) (by omega)
  have H1 := Lib.hid h1
  have H2 := Lib.hid h2
  have H3 := Lib.hid h3
  have HC := Lib.hid (show Cal.num y m d = Cal.cl day by rw [Cal.cl_id (by omega) (by omega)]; exact h2)
  have H4 := Lib.hid (show Cal.num z o e = Cal.cl (day + a) by rw [Cal.cl_id (by omega) (by omega)]; exact h4)
  have e1 := Cal.plus_in (d := day) (a := a) (by omega) (by omega) (by omega) (by omega)
  have e2 := Cal.plus_plus (d := day) (a := a) (b := b) (by omega) (by omega) (by omega) (by omega)
  have e3 := years_neg day (day + a)
  have e4 := years30_neg y m d z o e
  have e5 : Cal.months y m d 0 = day := by rw [Cal.months_zero h1, h2]
  have b1 := years_bd (day + a) day
  have b2 := years30_bd h3 h1
  by_cases hy : y = 2099
  · subst hy
    have e6 := Cal.months_last h1
    clear h1 h2 h3 h4
    go_enter Tryd.func8, Tryd.ntmps8
    go_wp2_with (first
      | (go_at_call 9; refine (shown_any _ (Lib.hid HB.out.2)).mono ?_; rintro e w' ⟨rfl, hb⟩; replace HB := Lib.hid (And.intro (HB.out.1.trans (hb.mono HB.out.1.size)) (HB.out.2.below hb)); clear hb)
      | (go_at_call 15; refine (plus_any _ _ _).mono ?_; rintro e w' ⟨rfl, rfl⟩)
      | (go_at_call 26; refine (neg_any _ _ (by omega) (by omega)).mono ?_; rintro e w' ⟨rfl, rfl⟩)
      | (go_at_call 14; refine (months_any _ _ _ _ _ _ H1.out HC.out).mono ?_; rintro e w' ⟨rfl, hb⟩; replace HB := Lib.hid (And.intro (HB.out.1.trans (hb.mono HB.out.1.size)) (HB.out.2.below hb)); clear hb)
      | (go_at_call 12; first | ((with_reducible refine (parts_ok _ _ _ _ _ H1.out H2.out).mono ?_); rintro e w' ⟨rfl, hb⟩; replace HB := Lib.hid (And.intro (HB.out.1.trans (hb.mono HB.out.1.size)) (HB.out.2.below hb)); clear hb) | ((with_reducible refine (parts_ok _ _ _ _ _ Cal.last_ok rfl).mono ?_); rintro e w' ⟨rfl, hb⟩; replace HB := Lib.hid (And.intro (HB.out.1.trans (hb.mono HB.out.1.size)) (HB.out.2.below hb)); clear hb))
      | (go_at_call 22; refine (years_any _ _ _).mono ?_; rintro e w' ⟨rfl, hb⟩; replace HB := Lib.hid (And.intro (HB.out.1.trans (hb.mono HB.out.1.size)) (HB.out.2.below hb)); clear hb)
      | (go_at_call 24; first | ((with_reducible refine (years30_any _ _ _ _ _ _ _ _ _ H1.out HC.out H3.out H4.out).mono ?_); rintro e w' ⟨rfl, hb⟩; replace HB := Lib.hid (And.intro (HB.out.1.trans (hb.mono HB.out.1.size)) (HB.out.2.below hb)); clear hb) | ((with_reducible refine (years30_any _ _ _ _ _ _ _ _ _ H3.out H4.out H1.out HC.out).mono ?_); rintro e w' ⟨rfl, hb⟩; replace HB := Lib.hid (And.intro (HB.out.1.trans (hb.mono HB.out.1.size)) (HB.out.2.below hb)); clear hb)))
    go_ret
    exact ⟨rfl, HB.out.1⟩
  have my := Cal.months_year h1 hy
  have yd := Cal.year_day h1
  generalize min d (Cal.mlen (y + 1) m) = c at my yd
  obtain ⟨hm1, e6⟩ := my
  have H5 := Lib.hid hm1
  have yb : y ≤ 2099 ∧ 1900 ≤ y ∧ d ≤ 31 := by have := Cal.mlen_bd y m; obtain ⟨u1, u2, u3, u4, u5, u6⟩ := h1; omega
  clear h1 h2 h3 h4 hm1
  rcases yd with yd | ⟨yd1, yd2, yd3⟩
  · subst yd
    go_enter Tryd.func8, Tryd.ntmps8
    go_wp2_with (first
      | (go_at_call 9; refine (shown_any _ (Lib.hid HB.out.2)).mono ?_; rintro e w' ⟨rfl, hb⟩; replace HB := Lib.hid (And.intro (HB.out.1.trans (hb.mono HB.out.1.size)) (HB.out.2.below hb)); clear hb)
      | (go_at_call 15; refine (plus_any _ _ _).mono ?_; rintro e w' ⟨rfl, rfl⟩)
      | (go_at_call 26; refine (neg_any _ _ (by omega) (by omega)).mono ?_; rintro e w' ⟨rfl, rfl⟩)
      | (go_at_call 14; refine (months_any _ _ _ _ _ _ H1.out HC.out).mono ?_; rintro e w' ⟨rfl, hb⟩; replace HB := Lib.hid (And.intro (HB.out.1.trans (hb.mono HB.out.1.size)) (HB.out.2.below hb)); clear hb)
      | (go_at_call 12; first | ((with_reducible refine (parts_ok _ _ _ _ _ H1.out H2.out).mono ?_); rintro e w' ⟨rfl, hb⟩; replace HB := Lib.hid (And.intro (HB.out.1.trans (hb.mono HB.out.1.size)) (HB.out.2.below hb)); clear hb) | ((with_reducible refine (parts_ok _ _ _ _ _ H5.out rfl).mono ?_); rintro e w' ⟨rfl, hb⟩; replace HB := Lib.hid (And.intro (HB.out.1.trans (hb.mono HB.out.1.size)) (HB.out.2.below hb)); clear hb))
      | (go_at_call 22; refine (years_any _ _ _).mono ?_; rintro e w' ⟨rfl, hb⟩; replace HB := Lib.hid (And.intro (HB.out.1.trans (hb.mono HB.out.1.size)) (HB.out.2.below hb)); clear hb)
      | (go_at_call 24; first | ((with_reducible refine (years30_any _ _ _ _ _ _ _ _ _ H1.out HC.out H3.out H4.out).mono ?_); rintro e w' ⟨rfl, hb⟩; replace HB := Lib.hid (And.intro (HB.out.1.trans (hb.mono HB.out.1.size)) (HB.out.2.below hb)); clear hb) | ((with_reducible refine (years30_any _ _ _ _ _ _ _ _ _ H3.out H4.out H1.out HC.out).mono ?_); rintro e w' ⟨rfl, hb⟩; replace HB := Lib.hid (And.intro (HB.out.1.trans (hb.mono HB.out.1.size)) (HB.out.2.below hb)); clear hb)))
    go_ret
    exact ⟨rfl, HB.out.1⟩
  · subst yd1 yd2 yd3
    go_enter Tryd.func8, Tryd.ntmps8
    go_wp2_with (first
      | (go_at_call 9; refine (shown_any _ (Lib.hid HB.out.2)).mono ?_; rintro e w' ⟨rfl, hb⟩; replace HB := Lib.hid (And.intro (HB.out.1.trans (hb.mono HB.out.1.size)) (HB.out.2.below hb)); clear hb)
      | (go_at_call 15; refine (plus_any _ _ _).mono ?_; rintro e w' ⟨rfl, rfl⟩)
      | (go_at_call 26; refine (neg_any _ _ (by omega) (by omega)).mono ?_; rintro e w' ⟨rfl, rfl⟩)
      | (go_at_call 14; refine (months_any _ _ _ _ _ _ H1.out HC.out).mono ?_; rintro e w' ⟨rfl, hb⟩; replace HB := Lib.hid (And.intro (HB.out.1.trans (hb.mono HB.out.1.size)) (HB.out.2.below hb)); clear hb)
      | (go_at_call 12; first | ((with_reducible refine (parts_ok _ _ _ _ _ H1.out H2.out).mono ?_); rintro e w' ⟨rfl, hb⟩; replace HB := Lib.hid (And.intro (HB.out.1.trans (hb.mono HB.out.1.size)) (HB.out.2.below hb)); clear hb) | ((with_reducible refine (parts_ok _ _ _ _ _ H5.out rfl).mono ?_); rintro e w' ⟨rfl, hb⟩; replace HB := Lib.hid (And.intro (HB.out.1.trans (hb.mono HB.out.1.size)) (HB.out.2.below hb)); clear hb))
      | (go_at_call 22; refine (years_any _ _ _).mono ?_; rintro e w' ⟨rfl, hb⟩; replace HB := Lib.hid (And.intro (HB.out.1.trans (hb.mono HB.out.1.size)) (HB.out.2.below hb)); clear hb)
      | (go_at_call 24; first | ((with_reducible refine (years30_any _ _ _ _ _ _ _ _ _ H1.out HC.out H3.out H4.out).mono ?_); rintro e w' ⟨rfl, hb⟩; replace HB := Lib.hid (And.intro (HB.out.1.trans (hb.mono HB.out.1.size)) (HB.out.2.below hb)); clear hb) | ((with_reducible refine (years30_any _ _ _ _ _ _ _ _ _ H3.out H4.out H1.out HC.out).mono ?_); rintro e w' ⟨rfl, hb⟩; replace HB := Lib.hid (And.intro (HB.out.1.trans (hb.mono HB.out.1.size)) (HB.out.2.below hb)); clear hb)))
    go_ret
    exact ⟨rfl, HB.out.1⟩

end Go.Proofs.YtilifaemehbleaaDoor
