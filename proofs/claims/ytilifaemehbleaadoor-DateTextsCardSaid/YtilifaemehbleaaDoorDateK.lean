/-
  The walks of the statements on dates' texts: DateTexts, DateBack.
-/
import Derived.Test.YtilifaemehbleaaDoorDateG
import Derived.Test.YtilifaemehbleaaDoorDateJ
import Derived.Test.YtilifaemehbleaaDoorTextLaw
namespace Go.Proofs.YtilifaemehbleaaDoor
open Go.RowKit
set_option maxRecDepth 100000

/-- what a text is read as -/
def readV (s : ByteArray) : Int := if s.size = 10 then rdV s else 0
def readE (s : ByteArray) : Int := if s.size = 10 then rdE s else 30
theorem parse_any (s : ByteArray) (w : World) :
    Calls Tryd.prog 18 #[.string s] w fun e w' => e = .returned (.tuple #[.int .i64 (readV s), .int .i64 (readE s)]) ∧ Below w.heap.size w w' := by
  unfold readV readE
  by_cases h : s.size = 10
  · rw [if_pos h, if_pos h]; exact parse_ten s w h
  · rw [if_neg h, if_neg h]; exact parse_len s w h

theorem of_out {y m d : Int} (h : y = -1 ∨ m = -1 ∨ d = -1) : ofV y m d = 0 ∧ ofE y m d = 30 := by
  have n : ¬ Cal.ok y m d := by unfold Cal.ok; omega
  unfold ofV ofE
  rw [if_neg n, if_neg n]
  exact ⟨rfl, rfl⟩
theorem rparse_any (s : ByteArray) (w : World) :
    Calls Tryd.prog 19 #[.string s] w fun e w' => e = .returned (.tuple #[.int .i64 (readV s), .int .i64 (readE s)]) ∧ Below w.heap.size w w' := by
  unfold readV readE
  by_cases h : s.size = 10
  · rw [if_pos h, if_pos h]
    have hl : s.data.toList.length = 10 := by simpa using h
    have g4 : s[4] = s.data.toList[4] := rfl
    have g7 : s[7] = s.data.toList[7] := rfl
    by_cases c : (s[4].toNat : Int) = 45 ∧ (s[7].toNat : Int) = 45
    · refine (rparse_ten s w h c.1 c.2).mono ?_
      rintro e w' ⟨rfl, hb⟩
      refine ⟨?_, hb⟩
      show Ending.returned (.tuple #[.int .i64 (ofV (Cal.numL (Cal.seg s.data.toList 0 4)) (Cal.numL (Cal.seg s.data.toList 5 7)) (Cal.numL (Cal.seg s.data.toList 8 10))), .int .i64 (ofE (Cal.numL (Cal.seg s.data.toList 0 4)) (Cal.numL (Cal.seg s.data.toList 5 7)) (Cal.numL (Cal.seg s.data.toList 8 10)))]) = _
      by_cases f : ∀ j (hj : j < s.data.toList.length), Cal.fits j s.data.toList[j] = true
      · have dig : ∀ j (hj : j < s.data.toList.length), j ≠ 4 → j ≠ 7 → Cal.isDig s.data.toList[j] = true := fun j hj e f' => by rw [← Cal.fits_dig e f']; exact f j hj
        have a1 := Cal.seg_all s.data.toList (lo := 0) (hi := 4) (fun j hj _ _ => dig j hj (by omega) (by omega))
        have a2 := Cal.seg_all s.data.toList (lo := 5) (hi := 7) (fun j hj _ _ => dig j hj (by omega) (by omega))
        have a3 := Cal.seg_all s.data.toList (lo := 8) (hi := 10) (fun j hj _ _ => dig j hj (by omega) (by omega))
        unfold Cal.numL rdV rdE
        rw [if_pos a1, if_pos a2, if_pos a3, if_pos f, if_pos f]
      · have ⟨j, hj, hf⟩ : ∃ j, ∃ hj : j < s.data.toList.length, Cal.fits j s.data.toList[j] = false := by
          refine Classical.byContradiction fun n => f fun j hj => ?_
          cases e : Cal.fits j s.data.toList[j]
          · exact absurd ⟨j, hj, e⟩ n
          · rfl
        have r := rd_bad hj hf
        rw [r.1, r.2]
        have h4 : j ≠ 4 := fun e => by
          subst e
          rw [Cal.fits_dash (.inl rfl), decide_eq_false_iff_not] at hf
          exact hf c.1
        have h7 : j ≠ 7 := fun e => by
          subst e
          rw [Cal.fits_dash (.inr rfl), decide_eq_false_iff_not] at hf
          exact hf c.2
        rw [Cal.fits_dig h4 h7] at hf
        have o : Cal.numL (Cal.seg s.data.toList 0 4) = -1 ∨ Cal.numL (Cal.seg s.data.toList 5 7) = -1 ∨ Cal.numL (Cal.seg s.data.toList 8 10) = -1 := by
          by_cases k : j < 4
          · exact .inl (Cal.seg_not _ (by omega) k hj hf)
          by_cases k' : j < 7
          · exact .inr (.inl (Cal.seg_not _ (by omega) k' hj hf))
          · exact .inr (.inr (Cal.seg_not _ (by omega) (by omega) hj hf))
        have z := of_out o
        rw [z.1, z.2]
    · refine (rparse_bad s w h c).mono ?_
      rintro e w' ⟨rfl, hb⟩
      refine ⟨?_, hb⟩
      by_cases c4 : (s[4].toNat : Int) = 45
      · have c7 : ¬ (s[7].toNat : Int) = 45 := fun k => c ⟨c4, k⟩
        have r := rd_bad (s := s) (k := 7) (by omega) (by rw [Cal.fits_dash (.inr rfl), decide_eq_false_iff_not]; exact c7)
        rw [r.1, r.2]
      · have r := rd_bad (s := s) (k := 4) (by omega) (by rw [Cal.fits_dash (.inl rfl), decide_eq_false_iff_not]; exact c4)
        rw [r.1, r.2]
  · rw [if_neg h, if_neg h]; exact rparse_len s w h

/-- a date's text is read as its day -/
theorem read_text {y m d : Int} (h : Cal.ok y m d) : readV (textS y m d) = Cal.num y m d ∧ readE (textS y m d) = 0 := by
  have f := Cal.text_form h
  have v := Cal.text_vals h
  have g : ∀ j (hj : j < (textS y m d).data.toList.length), Cal.fits j (textS y m d).data.toList[j] = true := fun j hj => f j hj
  unfold readV readE
  rw [if_pos (show (textS y m d).size = 10 from rfl), if_pos (show (textS y m d).size = 10 from rfl)]
  unfold rdV rdE
  rw [if_pos g, if_pos g]
  show ofV (Cal.val (Cal.seg (Cal.text y m d) 0 4)) (Cal.val (Cal.seg (Cal.text y m d) 5 7)) (Cal.val (Cal.seg (Cal.text y m d) 8 10)) = _ ∧ ofE (Cal.val (Cal.seg (Cal.text y m d) 0 4)) (Cal.val (Cal.seg (Cal.text y m d) 5 7)) (Cal.val (Cal.seg (Cal.text y m d) 8 10)) = _
  rw [v.1, v.2.1, v.2.2]
  unfold ofV ofE
  rw [if_pos h, if_pos h]
  exact ⟨rfl, rfl⟩
theorem textS_less {y m d z n e : Int} (h : Cal.ok y m d) (h' : Cal.ok z n e) : Op.bytesLess (textS y m d).toList (textS z n e).toList = decide (Cal.num y m d < Cal.num z n e) := by
  rw [Lib.toList_data, Lib.toList_data]
  exact Cal.less_text h h'

set_option maxHeartbeats 2000000 in
theorem texts_law (day : Int) (s : ByteArray) (w : World) (ht : Hid (Tab w)) :
    Calls Tryd.prog 5 #[.int .i64 day, .string s] w fun e w' => e = .returned (.bool true) ∧ Below w.heap.size w w' := by
  have HB : Hid (Below w.heap.size w w ∧ Tab w) := ⟨Below.refl _ _, ht.out⟩
  clear ht
  by_cases hd : 0 ≤ day ∧ day ≤ 73048
  · obtain ⟨y, m, d, h1, h2⟩ := Cal.date_of day hd.1 hd.2
    have H1 := Lib.hid h1
    have H2 := Lib.hid h2
    clear h1 h2
    go_enter Tryd.func5, Tryd.ntmps5
    go_wp2_with (first
      | (go_at_call 9; refine (shown_any _ (Lib.hid HB.out.2)).mono ?_; rintro e w' ⟨rfl, hb⟩; replace HB := Lib.hid (And.intro (HB.out.1.trans (hb.mono HB.out.1.size)) (HB.out.2.below hb)); clear hb)
      | (go_at_call 16; refine (show_ok _ _ _ _ _ HB.out.2 H1.out H2.out).mono ?_; rintro e w' ⟨rfl, hb⟩; replace HB := Lib.hid (And.intro (HB.out.1.trans (hb.mono HB.out.1.size)) (HB.out.2.below hb)); clear hb)
      | (go_at_call 17; refine (rshow_ok _ _ _ _ _ H1.out H2.out).mono ?_; rintro e w' ⟨rfl, hb⟩; replace HB := Lib.hid (And.intro (HB.out.1.trans (hb.mono HB.out.1.size)) (HB.out.2.below hb)); clear hb)
      | (go_at_call 18; refine (parse_any _ _).mono ?_; rintro e w' ⟨rfl, hb⟩; replace HB := Lib.hid (And.intro (HB.out.1.trans (hb.mono HB.out.1.size)) (HB.out.2.below hb)); clear hb)
      | (go_at_call 19; refine (rparse_any _ _).mono ?_; rintro e w' ⟨rfl, hb⟩; replace HB := Lib.hid (And.intro (HB.out.1.trans (hb.mono HB.out.1.size)) (HB.out.2.below hb)); clear hb))
    go_ret
    exact ⟨rfl, HB.out.1⟩
  · have HD := Lib.hid (show day < 0 ∨ 73048 < day by omega)
    go_enter Tryd.func5, Tryd.ntmps5
    go_wp2_with (first
      | (go_at_call 9; refine (shown_any _ (Lib.hid HB.out.2)).mono ?_; rintro e w' ⟨rfl, hb⟩; replace HB := Lib.hid (And.intro (HB.out.1.trans (hb.mono HB.out.1.size)) (HB.out.2.below hb)); clear hb)
      | (go_at_call 16; refine (show_bad _ _ HD.out).mono ?_; rintro e w' ⟨rfl, hb⟩; replace HB := Lib.hid (And.intro (HB.out.1.trans (hb.mono HB.out.1.size)) (HB.out.2.below hb)); clear hb)
      | (go_at_call 17; refine (rshow_bad _ _ HD.out).mono ?_; rintro e w' ⟨rfl, hb⟩; replace HB := Lib.hid (And.intro (HB.out.1.trans (hb.mono HB.out.1.size)) (HB.out.2.below hb)); clear hb)
      | (go_at_call 18; refine (parse_any _ _).mono ?_; rintro e w' ⟨rfl, hb⟩; replace HB := Lib.hid (And.intro (HB.out.1.trans (hb.mono HB.out.1.size)) (HB.out.2.below hb)); clear hb)
      | (go_at_call 19; refine (rparse_any _ _).mono ?_; rintro e w' ⟨rfl, hb⟩; replace HB := Lib.hid (And.intro (HB.out.1.trans (hb.mono HB.out.1.size)) (HB.out.2.below hb)); clear hb))
    go_ret
    exact ⟨rfl, HB.out.1⟩

set_option maxHeartbeats 2000000 in
theorem back_law (day other : Int) (w : World) (ht : Hid (Tab w)) :
    Calls Tryd.prog 6 #[.int .i64 day, .int .i64 other] w fun e w' => e = .returned (.bool true) ∧ Below w.heap.size w w' := by
  have HB : Hid (Below w.heap.size w w ∧ Tab w) := ⟨Below.refl _ _, ht.out⟩
  clear ht
  by_cases hd : 0 ≤ day ∧ day ≤ 73048
  · obtain ⟨y, m, d, h1, h2⟩ := Cal.date_of day hd.1 hd.2
    have hp := fun w => parse_any (textS y m d) w
    rw [(read_text h1).1, (read_text h1).2] at hp
    have HP := Lib.hid hp
    have H1 := Lib.hid h1
    have H2 := Lib.hid h2
    clear hp
    by_cases ho : 0 ≤ other ∧ other ≤ 73048
    · obtain ⟨z, o, f, h3, h4⟩ := Cal.date_of other ho.1 ho.2
      have hl := textS_less h1 h3
      rw [h2, h4] at hl
      have H3 := Lib.hid h3
      have H4 := Lib.hid h4
      clear h1 h3 h4
      go_enter Tryd.func6, Tryd.ntmps6
      go_wp2_with (first
      | (go_at_call 9; refine (shown_any _ (Lib.hid HB.out.2)).mono ?_; rintro e w' ⟨rfl, hb⟩; replace HB := Lib.hid (And.intro (HB.out.1.trans (hb.mono HB.out.1.size)) (HB.out.2.below hb)); clear hb)
      | (go_at_call 12; refine (parts_ok _ _ _ _ _ H1.out H2.out).mono ?_; rintro e w' ⟨rfl, hb⟩; replace HB := Lib.hid (And.intro (HB.out.1.trans (hb.mono HB.out.1.size)) (HB.out.2.below hb)); clear hb)
      | (go_at_call 16; first | ((with_reducible refine (show_ok _ _ _ _ _ HB.out.2 H1.out H2.out).mono ?_); rintro e w' ⟨rfl, hb⟩; replace HB := Lib.hid (And.intro (HB.out.1.trans (hb.mono HB.out.1.size)) (HB.out.2.below hb)); clear hb) | ((with_reducible refine (show_ok _ _ _ _ _ HB.out.2 H3.out H4.out).mono ?_); rintro e w' ⟨rfl, hb⟩; replace HB := Lib.hid (And.intro (HB.out.1.trans (hb.mono HB.out.1.size)) (HB.out.2.below hb)); clear hb))
      | (go_at_call 10; refine (of_ok _ _ _ _ H1.out).mono ?_; rintro e w' ⟨rfl, hb⟩; replace HB := Lib.hid (And.intro (HB.out.1.trans (hb.mono HB.out.1.size)) (HB.out.2.below hb)); clear hb)
      | (go_at_call 18; refine (HP.out _).mono ?_; rintro e w' ⟨rfl, hb⟩; replace HB := Lib.hid (And.intro (HB.out.1.trans (hb.mono HB.out.1.size)) (HB.out.2.below hb)); clear hb))
      go_ret
      exact ⟨rfl, HB.out.1⟩
    · have HO := Lib.hid (show other < 0 ∨ 73048 < other by omega)
      clear h1
      go_enter Tryd.func6, Tryd.ntmps6
      go_wp2_with (first
      | (go_at_call 9; refine (shown_any _ (Lib.hid HB.out.2)).mono ?_; rintro e w' ⟨rfl, hb⟩; replace HB := Lib.hid (And.intro (HB.out.1.trans (hb.mono HB.out.1.size)) (HB.out.2.below hb)); clear hb)
      | (go_at_call 12; refine (parts_ok _ _ _ _ _ H1.out H2.out).mono ?_; rintro e w' ⟨rfl, hb⟩; replace HB := Lib.hid (And.intro (HB.out.1.trans (hb.mono HB.out.1.size)) (HB.out.2.below hb)); clear hb)
      | (go_at_call 16; first | ((with_reducible refine (show_ok _ _ _ _ _ HB.out.2 H1.out H2.out).mono ?_); rintro e w' ⟨rfl, hb⟩; replace HB := Lib.hid (And.intro (HB.out.1.trans (hb.mono HB.out.1.size)) (HB.out.2.below hb)); clear hb) | ((with_reducible refine (show_bad _ _ HO.out).mono ?_); rintro e w' ⟨rfl, hb⟩; replace HB := Lib.hid (And.intro (HB.out.1.trans (hb.mono HB.out.1.size)) (HB.out.2.below hb)); clear hb))
      | (go_at_call 10; refine (of_ok _ _ _ _ H1.out).mono ?_; rintro e w' ⟨rfl, hb⟩; replace HB := Lib.hid (And.intro (HB.out.1.trans (hb.mono HB.out.1.size)) (HB.out.2.below hb)); clear hb)
      | (go_at_call 18; refine (HP.out _).mono ?_; rintro e w' ⟨rfl, hb⟩; replace HB := Lib.hid (And.intro (HB.out.1.trans (hb.mono HB.out.1.size)) (HB.out.2.below hb)); clear hb))
      go_ret
      exact ⟨rfl, HB.out.1⟩
  · have HD := Lib.hid (show day < 0 ∨ 73048 < day by omega)
    go_enter Tryd.func6, Tryd.ntmps6
    go_wp2_with (first
      | (go_at_call 9; refine (shown_any _ (Lib.hid HB.out.2)).mono ?_; rintro e w' ⟨rfl, hb⟩; replace HB := Lib.hid (And.intro (HB.out.1.trans (hb.mono HB.out.1.size)) (HB.out.2.below hb)); clear hb)
      | (go_at_call 12; refine (parts_bad _ _ HD.out).mono ?_; rintro e w' ⟨rfl, hb⟩; replace HB := Lib.hid (And.intro (HB.out.1.trans (hb.mono HB.out.1.size)) (HB.out.2.below hb)); clear hb)
      | (go_at_call 16; refine (show_bad _ _ HD.out).mono ?_; rintro e w' ⟨rfl, hb⟩; replace HB := Lib.hid (And.intro (HB.out.1.trans (hb.mono HB.out.1.size)) (HB.out.2.below hb)); clear hb))
    go_ret
    exact ⟨rfl, HB.out.1⟩

end Go.Proofs.YtilifaemehbleaaDoor
