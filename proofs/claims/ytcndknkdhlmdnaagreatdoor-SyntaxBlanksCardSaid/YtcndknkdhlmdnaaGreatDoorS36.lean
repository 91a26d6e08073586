/-
  Complement: what one text more of DateI is rested on.
-/
import Derived.Test.YtcndknkdhlmdnaaGreatDoorS08
import Derived.Test.YtcndknkdhlmdnaaGreatDoorS03
import Derived.Test.YtcndknkdhlmdnaaGreatDoorS33
import Derived.Test.YtcndknkdhlmdnaaGreatDoorS32
import Derived.Shelf.Strings.Builder1
import Derived.Shelf.Strings.Builder2
import Derived.Shelf.Strings.Trim
import Derived.Shelf.Small.Utf8
import Derived.Shelf.Small.Strs
import Derived.Shelf.Small.Wraps
import Derived.Shelf.Strings.BuilderF
import Derived.Shelf.Strings.BuilderK
import Derived.Shelf.Strconv.Itoa0
import Derived.Shelf.Strconv.Itoa1
import Derived.Shelf.LaysM
import Derived.Shelf.Strconv.Itoa2
import Derived.Shelf.Strconv.Itoa3
import Derived.Shelf.Strings.Search1
import Derived.Shelf.Strings.Search2
import Derived.Shelf.Strings.Search3
import Derived.Shelf.Strings.Cut
import Derived.Shelf.Strings.Shaped
import Derived.Shelf.GgClosure.StringsIndexFunc
import Derived.Ground.GgwProg
import Derived.Shelf.GgClosure.StringsIndexFuncTop
import Derived.Shelf.Strings.Prefix
import Derived.Shelf.Strings.Fields
import Derived.Shelf.Unicode.Latin
import Derived.Shelf.Strings.Runes
import Derived.Shelf.Strings.AsciiSet
import Derived.Shelf.Bits.Mul64
import Derived.Shelf.Strings.Repeat
import Derived.Shelf.Unicode.DecodeSlow
import Derived.Shelf.Unicode.Is16White
import Derived.Shelf.Unicode.IsSpaceAny
import Derived.Shelf.Unicode.Is16WhiteD
import Derived.Shelf.Unicode.IsSpaceAnyD
import Derived.Shelf.Strings.FieldsAny
import Derived.Shelf.Strings.FieldsFuncAny
import Derived.Shelf.Unicode.Is16Any
import Derived.Shelf.Unicode.Is32Any
import Derived.Shelf.Unicode.ExclAny
import Derived.Test.YtcndknkdhlmdnaaGreatDoorProg
import Derived.Test.YtcndknkdhlmdnaaGreatDoorS01
import Derived.Test.YtcndknkdhlmdnaaGreatDoorS29
import Derived.WalkSmall
import Derived.Deep.RegionWith
namespace Go.Proofs.YtcndknkdhlmdnaaGreatDoor
open Go.RowKit
set_option maxRecDepth 100000

theorem take_snoc (s : ByteArray) (k : Nat) (h : k < s.size) : s.data.toList.take (k + 1) = s.data.toList.take k ++ [s[k]] := by
  rw [List.take_succ_eq_append_getElem (by simpa using h)]; rfl
theorem numL_bad (s : ByteArray) (k : Nat) (h : k < s.size) (hd : Cal.isDig s[k] = false) : Cal.numL s.data.toList = -1 := by
  unfold Cal.numL
  rw [if_neg]
  intro a
  rw [List.all_eq_true] at a
  have := a s[k] (by rw [Array.mem_toList_iff]; exact Array.getElem_mem (by simpa using h))
  rw [this] at hd
  cases hd
set_option maxHeartbeats 1000000 in
theorem number_any (s : ByteArray) (w : World) (hs : s.size ≤ 4) :
    Calls Tryz.prog 156 #[.string s] w fun e w' => e = .returned (.int .i64 (Cal.numL s.data.toList)) ∧ w = w' := by
  go_enter Tryz.func156, Tryz.ntmps156
  go_wp2
  go_loop [3, 4] (fun n i => ∃ k : Nat, k ≤ s.size ∧ i = .int .i64 k ∧ n = .int .i64 (Cal.val (s.data.toList.take k)) ∧ Hid ((s.data.toList.take k).all Cal.isDig = true)) (fun _ i => s.size - (intOf i).toNat)
  case atStart => exact ⟨0, Nat.zero_le _, rfl, rfl, rfl⟩
  case round =>
    obtain ⟨k, hk, rfl, rfl, ha⟩ := hrel
    have hb := Cal.val_bd ha.out
    have hl : (s.data.toList.take k).length ≤ k := List.length_take_le _ _
    have hp : (10 : Int) ^ (s.data.toList.take k).length ≤ 10 ^ 4 := by
      generalize (s.data.toList.take k).length = n at *
      have c : n = 0 ∨ n = 1 ∨ n = 2 ∨ n = 3 ∨ n = 4 := by omega
      rcases c with e | e | e | e | e <;> subst e <;> decide
    have hb' : Cal.val (s.data.toList.take k) < 10000 := by omega
    clear hl hp
    by_cases hlt : k < s.size
    · have HT := Lib.hid (take_snoc s k hlt)
      by_cases h1 : (s[k].toNat : Int) < 48
      · have e := Lib.hid (show Cal.numL s.data.toList = -1 from numL_bad s k hlt (by unfold Cal.isDig; rw [Bool.and_eq_false_iff, decide_eq_false_iff_not, decide_eq_false_iff_not]; omega))
        go_wp2
        go_ret
        exact ⟨ret_int e.out.symm, rfl⟩
      by_cases h2 : 57 < (s[k].toNat : Int)
      · have e := Lib.hid (show Cal.numL s.data.toList = -1 from numL_bad s k hlt (by unfold Cal.isDig; rw [Bool.and_eq_false_iff, decide_eq_false_iff_not, decide_eq_false_iff_not]; omega))
        go_wp2
        go_ret
        exact ⟨ret_int e.out.symm, rfl⟩
      have hd := Lib.hid (show Cal.isDig s[k] = true by unfold Cal.isDig; rw [Bool.and_eq_true, decide_eq_true_iff, decide_eq_true_iff]; omega)
      go_wp2
      go_round
      case rel => exact ⟨k + 1, by omega, by go_num, by rw [HT.out, Cal.val_snoc], Lib.hid (by rw [HT.out, List.all_append, ha.out]; simp only [List.all_cons, List.all_nil, hd.out, Bool.and_self])⟩
      case measure => simp [intOf]; omega
    · have e := Lib.hid (show Cal.numL s.data.toList = Cal.val (s.data.toList.take k) by
        have ha' := ha.out
        rw [List.take_of_length_le (by simp; omega)] at ha' ⊢
        unfold Cal.numL; rw [if_pos ha'])
      go_wp2
      go_ret
      exact ⟨ret_int e.out.symm, rfl⟩
theorem rof_any (y m d : Int) (w : World) :
    Calls Tryz.prog 155 #[.int .i64 y, .int .i64 m, .int .i64 d] w fun e w' => e = .returned (.tuple #[.int .i64 (ofV y m d), .int .i64 (ofE y m d)]) ∧ Below w.heap.size w w' := by
  unfold ofV ofE
  by_cases h : Cal.ok y m d
  · rw [if_pos h, if_pos h]; exact rof_ok y m d w h
  · rw [if_neg h, if_neg h]; exact rof_bad y m d w h
set_option maxHeartbeats 1000000 in
theorem rparse_len (s : ByteArray) (w : World) (hs : ¬ s.size = 10) :
    Calls Tryz.prog 124 #[.string s] w fun e w' => e = .returned (.tuple #[.int .i64 0, .int .i64 30]) ∧ Below w.heap.size w w' := by
  go_enter Tryz.func124, Tryz.ntmps124
  go_wp2
  go_ret2
  exact ⟨rfl, Below.refl _ _⟩
set_option maxHeartbeats 1000000 in
theorem rparse_ten (s : ByteArray) (w : World) (hs : s.size = 10) (h4 : (s[4].toNat : Int) = 45) (h7 : (s[7].toNat : Int) = 45) :
    Calls Tryz.prog 124 #[.string s] w fun e w' => e = .returned (.tuple #[.int .i64 (ofV (Cal.numL (s.data.toList.take 4)) (Cal.numL ((s.data.toList.drop 5).take 2)) (Cal.numL ((s.data.toList.drop 8).take 2))), .int .i64 (ofE (Cal.numL (s.data.toList.take 4)) (Cal.numL ((s.data.toList.drop 5).take 2)) (Cal.numL ((s.data.toList.drop 8).take 2)))]) ∧ Below w.heap.size w w' := by
  go_enter Tryz.func124, Tryz.ntmps124
  go_wp2
  have e1 : (s.extract 0 4).size = 4 := by simp [ByteArray.size_extract]; omega
  have e2 : (s.extract 5 7).size = 2 := by simp [ByteArray.size_extract]; omega
  have e3 : (s.extract 8 10).size = 2 := by simp [ByteArray.size_extract]; omega
  go_region_with (first | (go_at_call 156; refine (number_any _ _ (by omega)).mono ?_; rintro e w' ⟨rfl, rfl⟩) | (go_at_call 155; refine (rof_any _ _ _ _).mono ?_; rintro e w' ⟨rfl, hb⟩))
  go_wp2
  go_ret2
  exact ⟨rfl, (Below.refl _ _).drew.trans hb⟩
set_option maxHeartbeats 1000000 in
theorem rparse_bad (s : ByteArray) (w : World) (hs : s.size = 10) (h : ¬ ((s[4].toNat : Int) = 45 ∧ (s[7].toNat : Int) = 45)) :
    Calls Tryz.prog 124 #[.string s] w fun e w' => e = .returned (.tuple #[.int .i64 0, .int .i64 30]) ∧ Below w.heap.size w w' := by
  by_cases h4 : (s[4].toNat : Int) = 45
  · have h7 : ¬ (s[7].toNat : Int) = 45 := fun c => h ⟨h4, c⟩
    clear h
    go_enter Tryz.func124, Tryz.ntmps124
    go_wp2
    go_ret2
    exact ⟨rfl, Below.refl _ _⟩
  · clear h
    go_enter Tryz.func124, Tryz.ntmps124
    go_wp2
    go_ret2
    exact ⟨rfl, Below.refl _ _⟩
end Go.Proofs.YtcndknkdhlmdnaaGreatDoor
