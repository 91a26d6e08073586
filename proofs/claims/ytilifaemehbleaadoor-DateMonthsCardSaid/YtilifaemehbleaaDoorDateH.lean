/-
  The walk of DateMonths: within its bounds, and at whatever numbers (what is out of its bounds is let go).
-/
import Derived.Test.YtilifaemehbleaaDoorDateG
namespace Go.Proofs.YtilifaemehbleaaDoor
open Go.RowKit
set_option maxRecDepth 100000

set_option maxHeartbeats 2000000 in
theorem months_law_le (day other a b day0 other0 : Int) (w : World) (ht : Hid (Tab w)) (hle : day ≤ other) (h0 : 0 ≤ day) (h1 : other ≤ 73048) (ha : -2000 ≤ a) (ha' : a ≤ 2000) (hb : -2000 ≤ b) (hb' : b ≤ 2000) (hs : day0 = day ∧ other0 = other ∨ day < other ∧ day0 = other ∧ other0 = day) :
    Calls Tryd.prog 4 #[.int .i64 day0, .int .i64 other0, .int .i64 a, .int .i64 b] w fun e w' => e = .returned (.bool true) ∧ Below w.heap.size w w' := by
  have HB : Hid (Below w.heap.size w w ∧ Tab w) := ⟨Below.refl _ _, ht.out⟩
  clear ht
  obtain ⟨y, m, d, g1, g2⟩ := Cal.date_of day (by omega) (by omega)
  obtain ⟨z, o, f, g3, g4⟩ := Cal.date_of other (by omega) (by omega)
  have H1 := Lib.hid g1
  have H2 := Lib.hid g2
  have H3 := Lib.hid g3
  have HC := Lib.hid (show Cal.num y m d = Cal.cl day by rw [Cal.cl_id (by omega) (by omega)]; exact g2)
  have HD := Lib.hid (show Cal.num z o f = Cal.cl other by rw [Cal.cl_id (by omega) (by omega)]; exact g4)
  have pm := Cal.plus_mono (a := a) hle
  have mm := Cal.months_mono (a := a) g1 g3 (by omega) ha ha'
  have mb := Cal.months_bd (n := a) g1
  obtain ⟨t, u, v, g5, g6⟩ := Cal.date_of (Cal.months y m d a) (by omega) (by omega)
  have H5 := Lib.hid g5
  have H6 := Lib.hid (show Cal.num t u v = Cal.cl (Cal.months y m d a) by rw [Cal.cl_id (by omega) (by omega)]; exact g6)
  have eb := Cal.months_bd (n := b) g5
  have mmm := Lib.hid (fun hd => Cal.months_months (a := a) (b := b) g1 g5 g6 hd ha ha' hb hb')
  clear g1 g2 g3 g4 g5 g6
  by_cases c1 : 28 < d
  · clear mmm
    rcases hs with ⟨rfl, rfl⟩ | ⟨hlt, rfl, rfl⟩
    all_goals
      go_enter Tryd.func4, Tryd.ntmps4
      go_wp2_with (first
      | (go_at_call 9; refine (shown_any _ (Lib.hid HB.out.2)).mono ?_; rintro e w' ⟨rfl, hb⟩; replace HB := Lib.hid (And.intro (HB.out.1.trans (hb.mono HB.out.1.size)) (HB.out.2.below hb)); clear hb)
      | (go_at_call 15; refine (plus_any _ _ _).mono ?_; rintro e w' ⟨rfl, rfl⟩)
      | (go_at_call 12; first | ((with_reducible refine (parts_ok _ _ _ _ _ H1.out H2.out).mono ?_); rintro e w' ⟨rfl, hb⟩; replace HB := Lib.hid (And.intro (HB.out.1.trans (hb.mono HB.out.1.size)) (HB.out.2.below hb)); clear hb))
      | (go_at_call 14; first | ((with_reducible refine (months_any _ _ _ _ _ _ H1.out HC.out).mono ?_); rintro e w' ⟨rfl, hb⟩; replace HB := Lib.hid (And.intro (HB.out.1.trans (hb.mono HB.out.1.size)) (HB.out.2.below hb)); clear hb) | ((with_reducible refine (months_any _ _ _ _ _ _ H3.out HD.out).mono ?_); rintro e w' ⟨rfl, hb⟩; replace HB := Lib.hid (And.intro (HB.out.1.trans (hb.mono HB.out.1.size)) (HB.out.2.below hb)); clear hb) | ((with_reducible refine (months_any _ _ _ _ _ _ H5.out H6.out).mono ?_); rintro e w' ⟨rfl, hb⟩; replace HB := Lib.hid (And.intro (HB.out.1.trans (hb.mono HB.out.1.size)) (HB.out.2.below hb)); clear hb)))
      all_goals go_ret
      all_goals exact ⟨rfl, HB.out.1⟩
  by_cases c2 : 0 < Cal.months y m d a ∧ Cal.months y m d a < 73017 ∧ 0 < Cal.months t u v b ∧ Cal.months t u v b < 73017
  · obtain ⟨q1, q2, q3, q4⟩ := c2
    have e1 := mmm.out (by omega) q1 q2 q3 q4
    have E1 := Lib.hid e1
    clear mmm
    rw [e1] at q3 q4
    rcases hs with ⟨rfl, rfl⟩ | ⟨hlt, rfl, rfl⟩
    all_goals
      go_enter Tryd.func4, Tryd.ntmps4
      go_wp2_with (first
      | (go_at_call 9; refine (shown_any _ (Lib.hid HB.out.2)).mono ?_; rintro e w' ⟨rfl, hb⟩; replace HB := Lib.hid (And.intro (HB.out.1.trans (hb.mono HB.out.1.size)) (HB.out.2.below hb)); clear hb)
      | (go_at_call 15; refine (plus_any _ _ _).mono ?_; rintro e w' ⟨rfl, rfl⟩)
      | (go_at_call 12; first | ((with_reducible refine (parts_ok _ _ _ _ _ H1.out H2.out).mono ?_); rintro e w' ⟨rfl, hb⟩; replace HB := Lib.hid (And.intro (HB.out.1.trans (hb.mono HB.out.1.size)) (HB.out.2.below hb)); clear hb))
      | (go_at_call 14; first | ((with_reducible refine (months_any _ _ _ _ _ _ H1.out HC.out).mono ?_); rintro e w' ⟨rfl, hb⟩; replace HB := Lib.hid (And.intro (HB.out.1.trans (hb.mono HB.out.1.size)) (HB.out.2.below hb)); clear hb) | ((with_reducible refine (months_any _ _ _ _ _ _ H3.out HD.out).mono ?_); rintro e w' ⟨rfl, hb⟩; replace HB := Lib.hid (And.intro (HB.out.1.trans (hb.mono HB.out.1.size)) (HB.out.2.below hb)); clear hb) | ((with_reducible refine (months_any _ _ _ _ _ _ H5.out H6.out).mono ?_); rintro e w' ⟨rfl, hb⟩; replace HB := Lib.hid (And.intro (HB.out.1.trans (hb.mono HB.out.1.size)) (HB.out.2.below hb)); clear hb)))
      all_goals go_ret
      all_goals exact ⟨rfl, HB.out.1⟩
  · clear mmm
    rcases hs with ⟨rfl, rfl⟩ | ⟨hlt, rfl, rfl⟩
    all_goals
      go_enter Tryd.func4, Tryd.ntmps4
      go_wp2_with (first
      | (go_at_call 9; refine (shown_any _ (Lib.hid HB.out.2)).mono ?_; rintro e w' ⟨rfl, hb⟩; replace HB := Lib.hid (And.intro (HB.out.1.trans (hb.mono HB.out.1.size)) (HB.out.2.below hb)); clear hb)
      | (go_at_call 15; refine (plus_any _ _ _).mono ?_; rintro e w' ⟨rfl, rfl⟩)
      | (go_at_call 12; first | ((with_reducible refine (parts_ok _ _ _ _ _ H1.out H2.out).mono ?_); rintro e w' ⟨rfl, hb⟩; replace HB := Lib.hid (And.intro (HB.out.1.trans (hb.mono HB.out.1.size)) (HB.out.2.below hb)); clear hb))
      | (go_at_call 14; first | ((with_reducible refine (months_any _ _ _ _ _ _ H1.out HC.out).mono ?_); rintro e w' ⟨rfl, hb⟩; replace HB := Lib.hid (And.intro (HB.out.1.trans (hb.mono HB.out.1.size)) (HB.out.2.below hb)); clear hb) | ((with_reducible refine (months_any _ _ _ _ _ _ H3.out HD.out).mono ?_); rintro e w' ⟨rfl, hb⟩; replace HB := Lib.hid (And.intro (HB.out.1.trans (hb.mono HB.out.1.size)) (HB.out.2.below hb)); clear hb) | ((with_reducible refine (months_any _ _ _ _ _ _ H5.out H6.out).mono ?_); rintro e w' ⟨rfl, hb⟩; replace HB := Lib.hid (And.intro (HB.out.1.trans (hb.mono HB.out.1.size)) (HB.out.2.below hb)); clear hb)))
      all_goals go_ret
      all_goals exact ⟨rfl, HB.out.1⟩

set_option maxHeartbeats 2000000 in
theorem months_law (day other a b : Int) (w : World) (ht : Hid (Tab w)) :
    Calls Tryd.prog 4 #[.int .i64 day, .int .i64 other, .int .i64 a, .int .i64 b] w fun e w' => e = .returned (.bool true) ∧ Below w.heap.size w w' := by
  by_cases c : -2000 ≤ a ∧ a ≤ 2000 ∧ -2000 ≤ b ∧ b ≤ 2000 ∧ 0 ≤ day ∧ day ≤ 73048 ∧ 0 ≤ other ∧ other ≤ 73048
  · obtain ⟨c1, c2, c3, c4, c5, c6, c7, c8⟩ := c
    by_cases l : day ≤ other
    · exact months_law_le day other a b day other w ht l c5 c8 c1 c2 c3 c4 (.inl ⟨rfl, rfl⟩)
    · exact months_law_le other day a b day other w ht (by omega) c7 c6 c1 c2 c3 c4 (.inr ⟨by omega, rfl, rfl⟩)
  by_cases k0 : a < -2000
  · clear c
    go_enter Tryd.func4, Tryd.ntmps4
    go_wp2_with (go_at_call 9; refine (shown_any _ ht).mono ?_; rintro e w' ⟨rfl, hb⟩)
    go_ret
    exact ⟨rfl, hb⟩
  by_cases k1 : 2000 < a
  · clear c
    go_enter Tryd.func4, Tryd.ntmps4
    go_wp2_with (go_at_call 9; refine (shown_any _ ht).mono ?_; rintro e w' ⟨rfl, hb⟩)
    go_ret
    exact ⟨rfl, hb⟩
  by_cases k2 : b < -2000
  · clear c
    go_enter Tryd.func4, Tryd.ntmps4
    go_wp2_with (go_at_call 9; refine (shown_any _ ht).mono ?_; rintro e w' ⟨rfl, hb⟩)
    go_ret
    exact ⟨rfl, hb⟩
  by_cases k3 : 2000 < b
  · clear c
    go_enter Tryd.func4, Tryd.ntmps4
    go_wp2_with (go_at_call 9; refine (shown_any _ ht).mono ?_; rintro e w' ⟨rfl, hb⟩)
    go_ret
    exact ⟨rfl, hb⟩
  by_cases k4 : day < 0
  · clear c
    go_enter Tryd.func4, Tryd.ntmps4
    go_wp2_with (go_at_call 9; refine (shown_any _ ht).mono ?_; rintro e w' ⟨rfl, hb⟩)
    go_ret
    exact ⟨rfl, hb⟩
  by_cases k5 : 73048 < day
  · clear c
    go_enter Tryd.func4, Tryd.ntmps4
    go_wp2_with (go_at_call 9; refine (shown_any _ ht).mono ?_; rintro e w' ⟨rfl, hb⟩)
    go_ret
    exact ⟨rfl, hb⟩
  by_cases k6 : other < 0
  · clear c
    go_enter Tryd.func4, Tryd.ntmps4
    go_wp2_with (go_at_call 9; refine (shown_any _ ht).mono ?_; rintro e w' ⟨rfl, hb⟩)
    go_ret
    exact ⟨rfl, hb⟩
  have k7 : 73048 < other := by omega
  · clear c
    go_enter Tryd.func4, Tryd.ntmps4
    go_wp2_with (go_at_call 9; refine (shown_any _ ht).mono ?_; rintro e w' ⟨rfl, hb⟩)
    go_ret
    exact ⟨rfl, hb⟩

end Go.Proofs.YtilifaemehbleaaDoor
