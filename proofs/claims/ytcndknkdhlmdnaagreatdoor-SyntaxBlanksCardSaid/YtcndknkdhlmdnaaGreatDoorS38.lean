/-
  Complement: what one text more of DayP is rested on.
-/
import Derived.Test.YtcndknkdhlmdnaaGreatDoorS08
import Derived.Test.YtcndknkdhlmdnaaGreatDoorS36
import Derived.Test.YtcndknkdhlmdnaaGreatDoorS01
import Derived.Test.YtcndknkdhlmdnaaGreatDoorS29
import Derived.WalkKit
import Derived.Test.YtcndknkdhlmdnaaGreatDoorS04
import Derived.Test.YtcndknkdhlmdnaaGreatDoorRows
import Derived.Lib.LaidTab
import Derived.Test.YtcndknkdhlmdnaaGreatDoorS02
import Derived.Lib.SlTrimSet
import Derived.Lib.Strings
import Derived.Lib.IndexMore
import Derived.Lib.IndexBytes
import Derived.Test.YtcndknkdhlmdnaaGreatDoorS30
import Derived.Test.YtcndknkdhlmdnaaGreatDoorS09
namespace Go.Proofs.YtcndknkdhlmdnaaGreatDoor
open Go.RowKit
set_option maxRecDepth 100000

theorem of_out {y m d : Int} (h : y = -1 ∨ m = -1 ∨ d = -1) : ofV y m d = 0 ∧ ofE y m d = 30 := by
  have n : ¬ Cal.ok y m d := by unfold Cal.ok; omega
  unfold ofV ofE
  rw [if_neg n, if_neg n]
  exact ⟨rfl, rfl⟩
theorem rparse_any (s : ByteArray) (w : World) :
    Calls Tryz.prog 124 #[.string s] w fun e w' => e = .returned (.tuple #[.int .i64 (readV s), .int .i64 (readE s)]) ∧ Below w.heap.size w w' := by
  unfold readV readE
  by_cases h : s.size = 10
  · rw [if_pos h, if_pos h]
    have hl : s.data.toList.length = 10 := by simpa using h
    have g4 : s[4] = s.data.toList[4] := rfl
    have g7 : s[7] = s.data.toList[7] := rfl
    by_cases c : (s[4].toNat : Int) = 45 ∧ (s[7].toNat : Int) = 45
    · refine (rparse_ten s w h c.1 c.2).mono ?_
      rintro e w' ⟨rfl, hb⟩
      refine ⟨?_, hb⟩
      show Ending.returned (.tuple #[.int .i64 (ofV (Cal.numL (Cal.seg s.data.toList 0 4)) (Cal.numL (Cal.seg s.data.toList 5 7)) (Cal.numL (Cal.seg s.data.toList 8 10))), .int .i64 (ofE (Cal.numL (Cal.seg s.data.toList 0 4)) (Cal.numL (Cal.seg s.data.toList 5 7)) (Cal.numL (Cal.seg s.data.toList 8 10)))]) = _
      by_cases f : ∀ j (hj : j < s.data.toList.length), Cal.fits j s.data.toList[j] = true
      · have dig : ∀ j (hj : j < s.data.toList.length), j ≠ 4 → j ≠ 7 → Cal.isDig s.data.toList[j] = true := fun j hj e f' => by rw [← Cal.fits_dig e f']; exact f j hj
        have a1 := Cal.seg_all s.data.toList (lo := 0) (hi := 4) (fun j hj _ _ => dig j hj (by omega) (by omega))
        have a2 := Cal.seg_all s.data.toList (lo := 5) (hi := 7) (fun j hj _ _ => dig j hj (by omega) (by omega))
        have a3 := Cal.seg_all s.data.toList (lo := 8) (hi := 10) (fun j hj _ _ => dig j hj (by omega) (by omega))
        unfold Cal.numL rdV rdE
        rw [if_pos a1, if_pos a2, if_pos a3, if_pos f, if_pos f]
      · have ⟨j, hj, hf⟩ : ∃ j, ∃ hj : j < s.data.toList.length, Cal.fits j s.data.toList[j] = false := by
          refine Classical.byContradiction fun n => f fun j hj => ?_
          cases e : Cal.fits j s.data.toList[j]
          · exact absurd ⟨j, hj, e⟩ n
          · rfl
        have r := rd_bad hj hf
        rw [r.1, r.2]
        have h4 : j ≠ 4 := fun e => by
          subst e
          rw [Cal.fits_dash (.inl rfl), decide_eq_false_iff_not] at hf
          exact hf c.1
        have h7 : j ≠ 7 := fun e => by
          subst e
          rw [Cal.fits_dash (.inr rfl), decide_eq_false_iff_not] at hf
          exact hf c.2
        rw [Cal.fits_dig h4 h7] at hf
        have o : Cal.numL (Cal.seg s.data.toList 0 4) = -1 ∨ Cal.numL (Cal.seg s.data.toList 5 7) = -1 ∨ Cal.numL (Cal.seg s.data.toList 8 10) = -1 := by
          by_cases k : j < 4
          · exact .inl (Cal.seg_not _ (by omega) k hj hf)
          by_cases k' : j < 7
          · exact .inr (.inl (Cal.seg_not _ (by omega) k' hj hf))
          · exact .inr (.inr (Cal.seg_not _ (by omega) (by omega) hj hf))
        have z := of_out o
        rw [z.1, z.2]
    · refine (rparse_bad s w h c).mono ?_
      rintro e w' ⟨rfl, hb⟩
      refine ⟨?_, hb⟩
      by_cases c4 : (s[4].toNat : Int) = 45
      · have c7 : ¬ (s[7].toNat : Int) = 45 := fun k => c ⟨c4, k⟩
        have r := rd_bad (s := s) (k := 7) (by omega) (by rw [Cal.fits_dash (.inr rfl), decide_eq_false_iff_not]; exact c7)
        rw [r.1, r.2]
      · have r := rd_bad (s := s) (k := 4) (by omega) (by rw [Cal.fits_dash (.inl rfl), decide_eq_false_iff_not]; exact c4)
        rw [r.1, r.2]
  · rw [if_neg h, if_neg h]; exact rparse_len s w h
end Go.Proofs.YtcndknkdhlmdnaaGreatDoor
