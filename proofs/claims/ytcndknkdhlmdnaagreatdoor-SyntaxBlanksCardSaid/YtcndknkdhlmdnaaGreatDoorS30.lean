/-
  Complement: what one text more of RefA is rested on.
-/
import Derived.Test.YtcndknkdhlmdnaaGreatDoorS03
import Derived.Shelf.Strings.Builder1
import Derived.Shelf.Strings.Builder2
import Derived.Shelf.Strings.Trim
import Derived.Shelf.Small.Utf8
import Derived.Shelf.Small.Strs
import Derived.Shelf.Small.Wraps
import Derived.Shelf.Strings.BuilderF
import Derived.Shelf.Strings.BuilderK
import Derived.Shelf.Strconv.Itoa0
import Derived.Shelf.Strconv.Itoa1
import Derived.Shelf.LaysM
import Derived.Shelf.Strconv.Itoa2
import Derived.Shelf.Strconv.Itoa3
import Derived.Shelf.Strings.Search1
import Derived.Shelf.Strings.Search2
import Derived.Shelf.Strings.Search3
import Derived.Shelf.Strings.Cut
import Derived.Shelf.Strings.Shaped
import Derived.Shelf.GgClosure.StringsIndexFunc
import Derived.Ground.GgwProg
import Derived.Shelf.GgClosure.StringsIndexFuncTop
import Derived.Shelf.Strings.Prefix
import Derived.Shelf.Strings.Fields
import Derived.Shelf.Unicode.Latin
import Derived.Shelf.Strings.Runes
import Derived.Shelf.Strings.AsciiSet
import Derived.Shelf.Bits.Mul64
import Derived.Shelf.Strings.Repeat
import Derived.Shelf.Unicode.DecodeSlow
import Derived.Shelf.Unicode.Is16White
import Derived.Shelf.Unicode.IsSpaceAny
import Derived.Shelf.Unicode.Is16WhiteD
import Derived.Shelf.Unicode.IsSpaceAnyD
import Derived.Shelf.Strings.FieldsAny
import Derived.Shelf.Strings.FieldsFuncAny
import Derived.Shelf.Unicode.Is16Any
import Derived.Shelf.Unicode.Is32Any
import Derived.Shelf.Unicode.ExclAny
import Derived.Test.YtcndknkdhlmdnaaGreatDoorProg
import Derived.WalkKit
import Derived.WalkSpells
import Derived.WalkLawsBesides
import Derived.IntWalk
import Derived.Lib.Hide
import Derived.Test.YtcndknkdhlmdnaaGreatDoorS04
namespace Go.Proofs.YtcndknkdhlmdnaaGreatDoor
open Go.RowKit
set_option maxRecDepth 100000

set_option maxHeartbeats 400000 in
theorem rsmall_any (n : Int) (w : World) : Calls Tryz.prog 87 #[.int .u8 n] w fun e w' => e = .returned (.bool (smI n)) ∧ w = w' := by
  go_enter Tryz.func87, Tryz.ntmps87
  go_wp2
  all_goals go_ret
  all_goals exact ⟨rretB (by unfold smI; rw [Bool.eq_iff_iff]; simp; omega), rfl⟩
set_option maxHeartbeats 400000 in
theorem rdigit_any (n : Int) (w : World) : Calls Tryz.prog 89 #[.int .u8 n] w fun e w' => e = .returned (.bool (dgI n)) ∧ w = w' := by
  go_enter Tryz.func89, Tryz.ntmps89
  go_wp2
  all_goals go_ret
  all_goals exact ⟨rretB (by unfold dgI; rw [Bool.eq_iff_iff]; simp; omega), rfl⟩
set_option maxHeartbeats 400000 in
theorem rinner_any (n : Int) (w : World) : Calls Tryz.prog 144 #[.int .u8 n] w fun e w' => e = .returned (.bool (inI n)) ∧ w = w' := by
  have e := Lib.hid (show inI n = (smI n || dgI n || n == 95) from rfl)
  cases h1 : smI n
  · cases h2 : dgI n
    all_goals
      go_enter Tryz.func144, Tryz.ntmps144
      go_wp2_with (first | (go_at_call 87; refine (rsmall_any _ _).mono ?_; rintro e w' ⟨rfl, rfl⟩; rw [h1]) | (go_at_call 89; refine (rdigit_any _ _).mono ?_; rintro e w' ⟨rfl, rfl⟩; rw [h2]))
      go_ret
      exact ⟨rretB (by rw [e.out, h1, h2]; rfl), rfl⟩
  · go_enter Tryz.func144, Tryz.ntmps144
    go_wp2_with (first | (go_at_call 87; refine (rsmall_any _ _).mono ?_; rintro e w' ⟨rfl, rfl⟩; rw [h1]))
    go_ret
    exact ⟨rretB (by rw [e.out, h1]; rfl), rfl⟩
theorem span_small {s : ByteArray} {k : Nat} (h : k < s.size) (hs : smI s[k].toNat = true) : spanL (s.data.toList.drop k) = 1 + ((s.data.toList.drop (k + 1)).takeWhile inC).length := by
  rw [drop_at h]; exact if_pos (show smC s[k] = true from hs)
theorem span_none {s : ByteArray} {k : Nat} (h : k < s.size) (hs : smI s[k].toNat = false) : spanL (s.data.toList.drop k) = 0 := by
  rw [drop_at h]; exact if_neg (show ¬ smC s[k] = true by rw [show smC s[k] = false from hs]; decide)
theorem run_in {s : ByteArray} {k : Nat} (h : k < s.size) (hs : inI s[k].toNat = true) : ((s.data.toList.drop k).takeWhile inC).length = 1 + ((s.data.toList.drop (k + 1)).takeWhile inC).length := by
  rw [drop_at h, List.takeWhile_cons, if_pos (show inC s[k] = true from hs)]; simp; omega
theorem run_out {s : ByteArray} {k : Nat} (h : k < s.size) (hs : inI s[k].toNat = false) : ((s.data.toList.drop k).takeWhile inC).length = 0 := by
  rw [drop_at h, List.takeWhile_cons, if_neg (show ¬ inC s[k] = true by rw [show inC s[k] = false from hs]; decide)]; rfl
theorem run_end {s : ByteArray} {k : Nat} (h : s.size ≤ k) : ((s.data.toList.drop k).takeWhile inC).length = 0 := by rw [drop_end h]; rfl
set_option maxHeartbeats 1000000 in
theorem rspan_any (s : ByteArray) (a : Nat) (w : World) (hs : s.size ≤ maxLen) (ha : a ≤ maxLen) :
    Calls Tryz.prog 111 #[.string s, .int .i64 a] w fun e w' => e = .returned (.int .i64 (spanL (s.data.toList.drop a) : Nat)) ∧ w = w' := by
  have hm := hs
  have hm' := ha
  unfold maxLen at hm hm'
  by_cases h0 : a < s.size
  · cases h1 : smI s[a].toNat
    · have e := Lib.hid (span_none h0 h1)
      go_enter Tryz.func111, Tryz.ntmps111
      go_wp2_with (first | (go_at_call 87; refine (rsmall_any _ _).mono ?_; rintro e w' ⟨rfl, rfl⟩; rw [h1]))
      go_ret
      exact ⟨rretI (by rw [e.out]; rfl), rfl⟩
    · have e := Lib.hid (span_small h0 h1)
      go_enter Tryz.func111, Tryz.ntmps111
      go_wp2_with (first | (go_at_call 87; refine (rsmall_any _ _).mono ?_; rintro e w' ⟨rfl, rfl⟩; rw [h1]))
      clear h1
      go_loop [6] (fun n => ∃ k : Nat, 1 ≤ k ∧ a + k ≤ s.size ∧ n = .int .i64 k ∧ Hid (k + ((s.data.toList.drop (a + k)).takeWhile inC).length = spanL (s.data.toList.drop a))) (fun n => s.size - (intOf n).toNat)
      case atStart => exact ⟨1, Nat.le_refl _, by omega, rfl, e.out.symm⟩
      case round =>
        obtain ⟨k, hk1, hk, rfl, HK⟩ := hrel
        by_cases hlt : a + k < s.size
        · cases h2 : inI s[a + k].toNat
          · have E := Lib.hid (run_out hlt h2)
            go_wp2_with (first | (go_at_call 144; refine (rinner_any _ _).mono ?_; rintro e w' ⟨rfl, rfl⟩; rw [h2]))
            go_ret
            exact ⟨rretI (by rw [← HK.out, E.out]; rfl), rfl⟩
          · have E := Lib.hid (run_in hlt h2)
            go_wp2_with (first | (go_at_call 144; refine (rinner_any _ _).mono ?_; rintro e w' ⟨rfl, rfl⟩; rw [h2]))
            go_round
            case rel => exact ⟨k + 1, by omega, by omega, by go_num, by show _ = _; rw [← HK.out, E.out, Nat.add_assoc, Nat.add_assoc]⟩
            case measure => simp [intOf]; omega
        · have E := Lib.hid (run_end (s := s) (k := a + k) (by omega))
          go_wp2
          go_ret
          exact ⟨rretI (by rw [← HK.out, E.out]; rfl), rfl⟩
  · have e := Lib.hid (show spanL (s.data.toList.drop a) = 0 by rw [drop_end (by omega)]; rfl)
    go_enter Tryz.func111, Tryz.ntmps111
    go_wp2
    go_ret
    exact ⟨rretI (by rw [e.out]; rfl), rfl⟩
set_option maxHeartbeats 1000000 in
theorem rIsName_any (s : ByteArray) (w : World) (hs : s.size ≤ maxLen) :
    Calls Tryz.prog 71 #[.string s] w fun e w' => e = .returned (.bool (nameR s.data.toList)) ∧ w = w' := by
  have hm := hs
  unfold maxLen at hm
  have hl : s.data.toList.length = s.size := by simp
  by_cases h0 : 0 < s.size
  · by_cases h1 : 24 < s.size
    · have e := Lib.hid (show nameR s.data.toList = false by unfold nameR; rw [hl, decide_eq_false (show ¬ s.size ≤ 24 by omega)]; simp)
      clear hl
      go_enter Tryz.func71, Tryz.ntmps71
      go_wp2
      go_ret
      exact ⟨rretB e.out.symm, rfl⟩
    · have e := Lib.hid (show nameR s.data.toList = decide (spanL s.data.toList = s.size) by unfold nameR; rw [hl, decide_eq_true h0, decide_eq_true (show s.size ≤ 24 by omega)]; rfl)
      have hsp := spanL_le s.data.toList
      rw [hl] at hsp
      clear hl
      go_enter Tryz.func71, Tryz.ntmps71
      go_wp2_with (first | (go_at_call 111; refine (rspan_any _ 0 _ hs (by decide)).mono ?_; rintro e w' ⟨rfl, rfl⟩; rw [List.drop_zero]))
      go_ret
      exact ⟨rretB (by rw [e.out, Bool.eq_iff_iff]; simp; omega), rfl⟩
  · have e := Lib.hid (show nameR s.data.toList = false by unfold nameR; rw [hl, decide_eq_false h0]; rfl)
    clear hl
    go_enter Tryz.func71, Tryz.ntmps71
    go_wp2
    go_ret
    exact ⟨rretB e.out.symm, rfl⟩
end Go.Proofs.YtcndknkdhlmdnaaGreatDoor
