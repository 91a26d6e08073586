/-
  Complement: what one text more of RefS is rested on.
-/
import Derived.Test.YtcndknkdhlmdnaaGreatDoorS08
import Derived.Test.YtcndknkdhlmdnaaGreatDoorS37
import Derived.Test.YtcndknkdhlmdnaaGreatDoorS09
import Derived.Test.YtcndknkdhlmdnaaGreatDoorS38
import Derived.Test.YtcndknkdhlmdnaaGreatDoorS31
namespace Go.Proofs.YtcndknkdhlmdnaaGreatDoor
open Go.RowKit
set_option maxRecDepth 100000

def dateF : ByteArray := ⟨#[100, 100, 100, 100, 45, 100, 100, 45, 100, 100]⟩
theorem dateF_at : ∀ (k : Nat) (h : k < 10), ((dateF[k]'h).toNat : Int) = if k = 4 ∨ k = 7 then 45 else 100 := by decide
theorem fits_ref (k : Nat) (c : UInt8) : Cal.fits k c = if k = 4 ∨ k = 7 then decide ((c.toNat : Int) = 45) else dgI c.toNat := by
  unfold Cal.fits
  split
  · rfl
  · rw [← dg_isDig, dgC_I]
set_option maxHeartbeats 1000000 in
theorem risDate_any (s : ByteArray) (a : Nat) (w : World) (hs : s.size ≤ 16384) (ha : a ≤ s.size) :
    Calls Tryz.prog 123 #[.string s, .int .i64 a] w fun e w' => e = .returned (.bool (dateAt (s.data.toList.drop a))) ∧ w = w' := by
  have HL := Lib.hid (size_list s)
  have HDL := Lib.hid (show (s.data.toList.drop a).length = s.size - a by rw [List.length_drop, size_list])
  have DA := Lib.hid (show dateAt (s.data.toList.drop a) = (decide (10 ≤ (s.data.toList.drop a).length) && (decide (∀ j (hj : j < ((s.data.toList.drop a).take 10).length), Cal.fits j ((s.data.toList.drop a).take 10)[j] = true) && !dgC (((s.data.toList.drop a).drop 10).headD 0))) from rfl)
  by_cases h10 : (s.size : Int) - a < 10
  · have F := Lib.hid (show dateAt (s.data.toList.drop a) = false by rw [DA.out, HDL.out, decide_eq_false (by omega)]; rfl)
    go_enter Tryz.func123, Tryz.ntmps123
    go_wp2_with fail
    go_ret
    exact ⟨rretB F.out.symm, rfl⟩
  have h11 : a + 10 ≤ s.size := by omega
  have HT := Lib.hid (show ∀ j (hj : j < ((s.data.toList.drop a).take 10).length), ((s.data.toList.drop a).take 10)[j] = s[a + j]'(by rw [List.length_take] at hj; have := HDL.out; omega) from fun j hj => by
    rw [List.getElem_take, List.getElem_drop]; rfl)
  go_enter Tryz.func123, Tryz.ntmps123
  go_wp2_with fail
  go_loop [6, 7] (fun i _ => ∃ k : Nat, k ≤ 10 ∧ i = .int .i64 k ∧ Hid (∀ j (hj : a + j < s.size), j < k → Cal.fits j s[a + j] = true)) (fun i _ => 10 - (intOf i).toNat)
  case atStart => exact ⟨0, by omega, rfl, fun j hj h => by omega⟩
  case round =>
    obtain ⟨k, hk, rfl, HAll⟩ := hrel
    by_cases hlt : k < 10
    · have hka : a + k < s.size := by omega
      have FK := Lib.hid (fits_ref k s[a + k])
      have e3 := Lib.hid (dateF_at k hlt)
      by_cases h47 : k = 4 ∨ k = 7
      · have e1 : ((dateF[k]'hlt).toNat : Int) = 45 := by rw [e3.out, if_pos h47]
        have q1 : (((dateF[k]'hlt).toNat : Int) == 100) = false := by rw [e1]; rfl
        have q2 : (((dateF[k]'hlt).toNat : Int) == 45) = true := by rw [e1]; rfl
        unfold dateF at q1 q2
        clear e1
        cases hi : dgI s[a + k].toNat
        all_goals
          by_cases hd : (s[a + k].toNat : Int) = 45
          · have hd' : ((s[a + k].toNat : Int) != 45) = false := by rw [hd]; rfl
            have FF := Lib.hid (show Cal.fits k s[a + k] = true by rw [FK.out, if_pos h47, decide_eq_true hd])
            have H47 := Lib.hid h47
            clear hd h47
            go_wp2_with (first | (go_at_call 89; refine (rdigit_any _ _).mono ?_; rintro e w' ⟨rfl, rfl⟩; rw [hi]))
            go_round
            case rel =>
              refine ⟨k + 1, by omega, by go_num, fun j hj h => ?_⟩
              by_cases e : j = k
              · subst e; exact FF.out
              · exact HAll.out j hj (by omega)
            case measure => simp [intOf]; omega
          · have hd' : ((s[a + k].toNat : Int) != 45) = true := by rw [bne_iff_ne]; exact hd
            have F := Lib.hid (show dateAt (s.data.toList.drop a) = false by
              rw [DA.out, decide_eq_false (p := ∀ j (hj : j < ((s.data.toList.drop a).take 10).length), _), Bool.false_and, Bool.and_false]
              intro g
              have hkl : k < ((s.data.toList.drop a).take 10).length := by rw [List.length_take, HDL.out]; omega
              have := g k hkl
              rw [HT.out k hkl, FK.out, if_pos h47, decide_eq_false hd] at this
              cases this)
            clear hd h47
            go_wp2_with (first | (go_at_call 89; refine (rdigit_any _ _).mono ?_; rintro e w' ⟨rfl, rfl⟩; rw [hi]))
            go_ret
            exact ⟨rretB F.out.symm, rfl⟩
      · have e1 : ((dateF[k]'hlt).toNat : Int) = 100 := by rw [e3.out, if_neg h47]
        have q1 : (((dateF[k]'hlt).toNat : Int) == 100) = true := by rw [e1]; rfl
        have q2 : (((dateF[k]'hlt).toNat : Int) == 45) = false := by rw [e1]; rfl
        unfold dateF at q1 q2
        clear e1
        cases hi : dgI s[a + k].toNat
        · have F := Lib.hid (show dateAt (s.data.toList.drop a) = false by
            rw [DA.out, decide_eq_false (p := ∀ j (hj : j < ((s.data.toList.drop a).take 10).length), _), Bool.false_and, Bool.and_false]
            intro g
            have hkl : k < ((s.data.toList.drop a).take 10).length := by rw [List.length_take, HDL.out]; omega
            have := g k hkl
            rw [HT.out k hkl, FK.out, if_neg h47, hi] at this
            cases this)
          clear h47
          go_wp2_with (first | (go_at_call 89; refine (rdigit_any _ _).mono ?_; rintro e w' ⟨rfl, rfl⟩; rw [hi]))
          go_ret
          exact ⟨rretB F.out.symm, rfl⟩
        · have FF := Lib.hid (show Cal.fits k s[a + k] = true by rw [FK.out, if_neg h47, hi])
          clear h47
          go_wp2_with (first | (go_at_call 89; refine (rdigit_any _ _).mono ?_; rintro e w' ⟨rfl, rfl⟩; rw [hi]))
          go_round
          case rel =>
            refine ⟨k + 1, by omega, by go_num, fun j hj h => ?_⟩
            by_cases e : j = k
            · subst e; exact FF.out
            · exact HAll.out j hj (by omega)
          case measure => simp [intOf]; omega
    · obtain rfl : k = 10 := by omega
      have F := Lib.hid (show dateAt (s.data.toList.drop a) = !dgC ((s.data.toList.drop (a + 10)).headD 0) by
        rw [DA.out, HDL.out, decide_eq_true (show 10 ≤ s.size - a by omega), decide_eq_true (p := ∀ j (hj : j < ((s.data.toList.drop a).take 10).length), _), List.drop_drop, Bool.true_and, Bool.true_and]
        intro j hj
        rw [HT.out j hj]
        rw [List.length_take] at hj
        exact HAll.out j _ (by omega))
      by_cases he : (s.size : Int) - a = 10
      · have he' : ((s.size : Int) - a == 10) = true := by rw [he]; rfl
        have F2 := Lib.hid (show dateAt (s.data.toList.drop a) = true by rw [F.out, head_end (by omega)]; rfl)
        clear he
        go_wp2_with fail
        go_ret
        exact ⟨rretB F2.out.symm, rfl⟩
      · have he' : ((s.size : Int) - a == 10) = false := by rw [beq_eq_false_iff_ne]; exact he
        have hka : a + 10 < s.size := by omega
        have F2 := Lib.hid (show dateAt (s.data.toList.drop a) = !dgI s[a + 10].toNat by rw [F.out, head_drop hka, dgC_I])
        clear he
        go_wp2_with (first | (go_at_call 89; refine (rdigit_any _ _).mono ?_; rintro e w' ⟨rfl, rfl⟩))
        go_ret
        exact ⟨rretB F2.out.symm, rfl⟩
end Go.Proofs.YtcndknkdhlmdnaaGreatDoor
