/-
  Texts that the statements' proofs rest on, one behind another: DateI, NumR, DateJ.
-/
import Derived.Test.YtcndknkdhlmdnaaGreatDoorM13
import Derived.Deep.RegionWith
import Derived.Test.YtcndknkdhlmdnaaGreatDoorM11

/-
  The walk of the document's answer for reading a date: digits, and a text.
-/
namespace Go.Proofs.YtcndknkdhlmdnaaGreatDoor
open Go.RowKit
set_option maxRecDepth 100000

theorem take_snoc (s : ByteArray) (k : Nat) (h : k < s.size) : s.data.toList.take (k + 1) = s.data.toList.take k ++ [s[k]] := by
  rw [List.take_succ_eq_append_getElem (by simpa using h)]; rfl
theorem numL_bad (s : ByteArray) (k : Nat) (h : k < s.size) (hd : Cal.isDig s[k] = false) : Cal.numL s.data.toList = -1 := by
  unfold Cal.numL
  rw [if_neg]
  intro a
  rw [List.all_eq_true] at a
  have := a s[k] (by rw [Array.mem_toList_iff]; exact Array.getElem_mem (by simpa using h))
  rw [this] at hd
  cases hd

set_option maxHeartbeats 1000000 in
theorem number_any (s : ByteArray) (w : World) (hs : s.size ≤ 4) :
    Calls Tryz.prog 156 #[.string s] w fun e w' => e = .returned (.int .i64 (Cal.numL s.data.toList)) ∧ w = w' := by
  go_enter Tryz.func156, Tryz.ntmps156
  go_wp2
  go_loop [3, 4] (fun n i => ∃ k : Nat, k ≤ s.size ∧ i = .int .i64 k ∧ n = .int .i64 (Cal.val (s.data.toList.take k)) ∧ Hid ((s.data.toList.take k).all Cal.isDig = true)) (fun _ i => s.size - (intOf i).toNat)
  case atStart => exact ⟨0, Nat.zero_le _, rfl, rfl, rfl⟩
  case round =>
    obtain ⟨k, hk, rfl, rfl, ha⟩ := hrel
    have hb := Cal.val_bd ha.out
    have hl : (s.data.toList.take k).length ≤ k := List.length_take_le _ _
    have hp : (10 : Int) ^ (s.data.toList.take k).length ≤ 10 ^ 4 := by
      generalize (s.data.toList.take k).length = n at *
      have c : n = 0 ∨ n = 1 ∨ n = 2 ∨ n = 3 ∨ n = 4 := by omega
      rcases c with e | e | e | e | e <;> subst e <;> decide
    have hb' : Cal.val (s.data.toList.take k) < 10000 := by omega
    clear hl hp
    by_cases hlt : k < s.size
    · have HT := Lib.hid (take_snoc s k hlt)
      by_cases h1 : (s[k].toNat : Int) < 48
      · have e := Lib.hid (show Cal.numL s.data.toList = -1 from numL_bad s k hlt (by unfold Cal.isDig; rw [Bool.and_eq_false_iff, decide_eq_false_iff_not, decide_eq_false_iff_not]; omega))
        go_wp2
        go_ret
        exact ⟨ret_int e.out.symm, rfl⟩
      by_cases h2 : 57 < (s[k].toNat : Int)
      · have e := Lib.hid (show Cal.numL s.data.toList = -1 from numL_bad s k hlt (by unfold Cal.isDig; rw [Bool.and_eq_false_iff, decide_eq_false_iff_not, decide_eq_false_iff_not]; omega))
        go_wp2
        go_ret
        exact ⟨ret_int e.out.symm, rfl⟩
      have hd := Lib.hid (show Cal.isDig s[k] = true by unfold Cal.isDig; rw [Bool.and_eq_true, decide_eq_true_iff, decide_eq_true_iff]; omega)
      go_wp2
      go_round
      case rel => exact ⟨k + 1, by omega, by go_num, by rw [HT.out, Cal.val_snoc], Lib.hid (by rw [HT.out, List.all_append, ha.out]; simp only [List.all_cons, List.all_nil, hd.out, Bool.and_self])⟩
      case measure => simp [intOf]; omega
    · have e := Lib.hid (show Cal.numL s.data.toList = Cal.val (s.data.toList.take k) by
        have ha' := ha.out
        rw [List.take_of_length_le (by simp; omega)] at ha' ⊢
        unfold Cal.numL; rw [if_pos ha'])
      go_wp2
      go_ret
      exact ⟨ret_int e.out.symm, rfl⟩

theorem number_still (s : ByteArray) (w : World) (hs : s.size ≤ 4) :
    Calls Tryz.prog 156 #[.string s] w fun e w' => e = .returned (.int .i64 (Cal.numL s.data.toList)) ∧ w' = w :=
  (number_any s w hs).mono fun _ _ h => ⟨h.1, h.2.symm⟩

/-- what three numbers are as a date: the day, and the error's number -/
def ofV (y m d : Int) : Int := if Cal.ok y m d then Cal.num y m d else 0
def ofE (y m d : Int) : Int := if Cal.ok y m d then 0 else 30
theorem rof_any (y m d : Int) (w : World) :
    Calls Tryz.prog 155 #[.int .i64 y, .int .i64 m, .int .i64 d] w fun e w' => e = .returned (.tuple #[.int .i64 (ofV y m d), .int .i64 (ofE y m d)]) ∧ Below w.heap.size w w' := by
  unfold ofV ofE
  by_cases h : Cal.ok y m d
  · rw [if_pos h, if_pos h]; exact rof_ok y m d w h
  · rw [if_neg h, if_neg h]; exact rof_bad y m d w h

set_option maxHeartbeats 1000000 in
theorem rparse_len (s : ByteArray) (w : World) (hs : ¬ s.size = 10) :
    Calls Tryz.prog 124 #[.string s] w fun e w' => e = .returned (.tuple #[.int .i64 0, .int .i64 30]) ∧ Below w.heap.size w w' := by
  go_enter Tryz.func124, Tryz.ntmps124
  go_wp2
  go_ret2
  exact ⟨rfl, Below.refl _ _⟩

set_option maxHeartbeats 1000000 in
theorem rparse_ten (s : ByteArray) (w : World) (hs : s.size = 10) (h4 : (s[4].toNat : Int) = 45) (h7 : (s[7].toNat : Int) = 45) :
    Calls Tryz.prog 124 #[.string s] w fun e w' => e = .returned (.tuple #[.int .i64 (ofV (Cal.numL (s.data.toList.take 4)) (Cal.numL ((s.data.toList.drop 5).take 2)) (Cal.numL ((s.data.toList.drop 8).take 2))), .int .i64 (ofE (Cal.numL (s.data.toList.take 4)) (Cal.numL ((s.data.toList.drop 5).take 2)) (Cal.numL ((s.data.toList.drop 8).take 2)))]) ∧ Below w.heap.size w w' := by
  go_enter Tryz.func124, Tryz.ntmps124
  go_wp2
  have e1 : (s.extract 0 4).size = 4 := by simp [ByteArray.size_extract]; omega
  have e2 : (s.extract 5 7).size = 2 := by simp [ByteArray.size_extract]; omega
  have e3 : (s.extract 8 10).size = 2 := by simp [ByteArray.size_extract]; omega
  go_region_with (first | (go_at_call 156; refine (number_any _ _ (by omega)).mono ?_; rintro e w' ⟨rfl, rfl⟩) | (go_at_call 155; refine (rof_any _ _ _ _).mono ?_; rintro e w' ⟨rfl, hb⟩))
  go_wp2
  go_ret2
  exact ⟨rfl, (Below.refl _ _).drew.trans hb⟩

set_option maxHeartbeats 1000000 in
theorem rparse_bad (s : ByteArray) (w : World) (hs : s.size = 10) (h : ¬ ((s[4].toNat : Int) = 45 ∧ (s[7].toNat : Int) = 45)) :
    Calls Tryz.prog 124 #[.string s] w fun e w' => e = .returned (.tuple #[.int .i64 0, .int .i64 30]) ∧ Below w.heap.size w w' := by
  by_cases h4 : (s[4].toNat : Int) = 45
  · have h7 : ¬ (s[7].toNat : Int) = 45 := fun c => h ⟨h4, c⟩
    clear h
    go_enter Tryz.func124, Tryz.ntmps124
    go_wp2
    go_ret2
    exact ⟨rfl, Below.refl _ _⟩
  · clear h
    go_enter Tryz.func124, Tryz.ntmps124
    go_wp2
    go_ret2
    exact ⟨rfl, Below.refl _ _⟩

end Go.Proofs.YtcndknkdhlmdnaaGreatDoor

/-
  usanceref01.Parse, of texts that begin with a digit.
-/
namespace Go.Proofs.YtcndknkdhlmdnaaGreatDoor
open Go.RowKit
set_option maxRecDepth 100000

theorem ret_ib {a b : Int} {c d : Bool} (h : a = b) (h' : c = d) : Ending.returned (.tuple #[.int .i64 a, .bool c]) = .returned (.tuple #[.int .i64 b, .bool d]) := by rw [h, h']
set_option maxHeartbeats 400000 in
theorem r1digit_any (n : Int) (w : World) : Calls Tryz.prog 157 #[.int .u8 n] w fun e w' => e = .returned (.bool (dgI n)) ∧ w = w' := by
  go_enter Tryz.func157, Tryz.ntmps157
  go_wp2
  all_goals go_ret
  all_goals exact ⟨rretB (by unfold dgI; rw [Bool.eq_iff_iff]; simp; omega), rfl⟩
theorem get_list {s : ByteArray} {k : Nat} (_h : k < s.size) (h' : k < s.data.toList.length) : s.data.toList[k] = s[k]'_h := rfl

set_option maxHeartbeats 2000000 in
theorem r1Parse_any (s : ByteArray) (w : World) (hs : s.size ≤ maxLen) (h0 : 0 < s.size) (hd : dgC s[0] = true) :
    Calls Tryz.prog 125 #[.string s] w fun e w' => e = .returned (.tuple #[.int .i64 (numV s.data.toList), .bool (numB s.data.toList)]) ∧ w = w' := by
  have hm := hs
  unfold maxLen at hm
  have hdn := dig_toNat hd
  have hz : s.data.toList.headD 0 = s[0] := head_list h0
  have h45 : s.data.toList.headD 0 ≠ 45 := by
    rw [hz]; rintro e; rw [e] at hd; exact absurd hd (by decide)
  have H45 := Lib.hid h45
  have HZ := Lib.hid hz
  have HD := Lib.hid hd
  have HL := Lib.hid (size_list s)
  have e45 : ((s[0].toNat : Int) == 45) = false := by rw [beq_eq_false_iff_ne]; omega
  clear h45 hz hd hdn
  go_enter Tryz.func125, Tryz.ntmps125
  go_wp2_with fail
  clear e45
  go_loop [5] (fun n => ∃ k : Nat, k ≤ s.size ∧ n = .int .i64 k ∧ Hid (∀ j (hj : j < s.data.toList.length), j < k → dgC s.data.toList[j] = true)) (fun n => s.size - (intOf n).toNat)
  case atStart => exact ⟨0, by omega, rfl, fun j hj h => by omega⟩
  case round =>
    obtain ⟨k, hk, rfl, HAll⟩ := hrel
    by_cases hgo : ∃ hlt : k < s.size, dgC s[k] = true
    · obtain ⟨hlt, hc⟩ := hgo
      have hi : dgI s[k].toNat = true := by rw [← dgC_I]; exact hc
      have HC := Lib.hid hc
      clear hc
      go_wp2_with (first | (go_at_call 157; refine (r1digit_any _ _).mono ?_; rintro e w' ⟨rfl, rfl⟩; rw [hi]))
      go_round
      case rel =>
        refine ⟨k + 1, by omega, by go_num, fun j hj h => ?_⟩
        by_cases e : j = k
        · subst e; exact HC.out
        · exact HAll.out j hj (by omega)
      case measure => simp [intOf]; omega
    · have hnd : ∀ (hlt : k < s.data.toList.length), dgC s.data.toList[k] = false := fun hlt => by
        rw [Bool.eq_false_iff]; exact fun e => hgo ⟨by rw [← HL.out]; exact hlt, e⟩
      have hdr := digs_of (d := s.data.toList) (k := k) (by rw [HL.out]; exact hk) HAll.out hnd
      have HDR := Lib.hid hdr
      have hk1 : 1 ≤ k := by
        rcases Nat.eq_zero_or_pos k with e | e
        · exfalso; subst e; exact hgo ⟨h0, HD.out⟩
        · exact e
      have HU := Lib.hid (numU_eq hdr)
      clear hdr
      have HV0 := Lib.hid (show dgC s[0] = true from HD.out)
      by_cases hlt : k < s.size
      · have hi0 : dgI s[k].toNat = false := by rw [← dgC_I]; exact hnd (by rw [HL.out]; exact hlt)
        clear hgo hnd
        by_cases h10 : 10 < (k : Int)
        · have HN := Lib.hid (numP_none H45.out (show numU s.data.toList = none by rw [HU.out, if_neg]; omega))
          go_wp2_with (first | (go_at_call 157; refine (r1digit_any _ _).mono ?_; rintro e w' ⟨rfl, rfl⟩; rw [hi0]))
          go_ret2
          exact ⟨ret_ib HN.out.1.symm HN.out.2.symm, rfl⟩
        by_cases h1 : 1 < (k : Int) ∧ (s[0].toNat : Int) = 48
        · obtain ⟨h1, h2⟩ := h1
          have e48 : ((s[0].toNat : Int) == 48) = true := by rw [h2]; rfl
          have HN := Lib.hid (numP_none H45.out (show numU s.data.toList = none by
            rw [HU.out, if_neg]
            rintro ⟨-, -, h | h, -⟩
            · omega
            · rw [HZ.out] at h; exact h (UInt8.toNat_inj.1 (Int.ofNat.inj h2))))
          clear h2
          go_wp2_with (first | (go_at_call 157; refine (r1digit_any _ _).mono ?_; rintro e w' ⟨rfl, rfl⟩; rw [hi0]))
          go_ret2
          exact ⟨ret_ib HN.out.1.symm HN.out.2.symm, rfl⟩
        have hz1 : k = 1 ∨ s[0] ≠ 48 := by
          rcases Nat.lt_or_ge 1 k with g | g
          · refine .inr fun e => h1 ⟨by omega, by rw [e]; rfl⟩
          · exact .inl (by omega)
        have HZ1 := Lib.hid hz1
        have e1 : (¬ 1 < (k : Int)) ∨ (1 < (k : Int) ∧ ((s[0].toNat : Int) == 48) = false) := by
          rcases Nat.lt_or_ge 1 k with g | g
          · refine .inr ⟨by omega, ?_⟩
            rcases hz1 with e | e
            · omega
            · rw [beq_eq_false_iff_ne]; exact fun g => e (UInt8.toNat_inj.1 (Int.ofNat.inj g))
          · exact .inl (by omega)
        clear hz1 h1
        obtain ⟨P, hP⟩ : ∃ P, s.size = k + 1 + P := ⟨s.size - k - 1, by omega⟩
        have hPe : ((s.size : Int) - k - 1) = P := by omega
        have HPP := Lib.hid hP
        have HDK := Lib.hid (List.drop_eq_getElem_cons (show k < s.data.toList.length by rw [HL.out]; exact hlt))
        have hpl : (s.data.toList.drop (k + 1)).length = P := by rw [List.length_drop, HL.out]; omega
        have HPL := Lib.hid hpl
        clear hP hpl
        rcases e1 with e1 | ⟨e1, e1'⟩
        all_goals
          by_cases h46 : (s[k].toNat : Int) = 46
          case neg =>
            have e46 : ((s[k].toNat : Int) != 46) = true := by rw [bne_iff_ne]; exact h46
            have HN := Lib.hid (numP_none H45.out (show numU s.data.toList = none by
              rw [HU.out, if_neg]
              rintro ⟨-, -, -, h⟩
              rw [HDK.out] at h
              simp only [partOk, Bool.and_eq_true, beq_iff_eq] at h
              exact h46 (by rw [← get_list hlt (by rw [HL.out]; exact hlt), h.1]; rfl)))
            clear h46
            go_wp2_with (first | (go_at_call 157; refine (r1digit_any _ _).mono ?_; rintro e w' ⟨rfl, rfl⟩; rw [hi0]))
            go_ret2
            exact ⟨ret_ib HN.out.1.symm HN.out.2.symm, rfl⟩
          have e46 : ((s[k].toNat : Int) != 46) = false := by rw [h46]; rfl
          have H46 := Lib.hid (show s.data.toList[k]'(by rw [HL.out]; exact hlt) = 46 from UInt8.toNat_inj.1 (Int.ofNat.inj h46))
          clear h46
          by_cases hp1 : (P : Int) < 1
          · have HN := Lib.hid (numP_none H45.out (show numU s.data.toList = none by
              rw [HU.out, if_neg]
              rintro ⟨-, -, -, h⟩
              rw [HDK.out] at h
              simp only [partOk, Bool.and_eq_true, decide_eq_true_eq] at h
              have := HPL.out
              omega))
            go_wp2_with (first | (go_at_call 157; refine (r1digit_any _ _).mono ?_; rintro e w' ⟨rfl, rfl⟩; rw [hi0]))
            go_ret2
            exact ⟨ret_ib HN.out.1.symm HN.out.2.symm, rfl⟩
          by_cases hp6 : 6 < (P : Int)
          · have HN := Lib.hid (numP_none H45.out (show numU s.data.toList = none by
              rw [HU.out, if_neg]
              rintro ⟨-, -, -, h⟩
              rw [HDK.out] at h
              simp only [partOk, Bool.and_eq_true, decide_eq_true_eq] at h
              have := HPL.out
              omega))
            go_wp2_with (first | (go_at_call 157; refine (r1digit_any _ _).mono ?_; rintro e w' ⟨rfl, rfl⟩; rw [hi0]))
            go_ret2
            exact ⟨ret_ib HN.out.1.symm HN.out.2.symm, rfl⟩
          go_wp2_with (first | (go_at_call 157; refine (r1digit_any _ _).mono ?_; rintro e w' ⟨rfl, rfl⟩; rw [hi0]))
          have hjP1 : s.size ≤ k + 1 + P := Nat.le_of_eq HPP.out
          have hjP2 : k + 1 + P ≤ s.size := Nat.le_of_eq HPP.out.symm
          clear hPe
          have hq6 : (digQ s.data.toList k).length = 6 := digQ_len (by rw [HL.out]; omega)
          have HQ6 := Lib.hid hq6
          have HVE := Lib.hid (show numU s.data.toList = some (Cal.val (s.data.toList.take k ++ (digQ s.data.toList k).take 6)) ∨ numU s.data.toList = none from by
            rw [HU.out]
            split
            · refine .inl ?_
              rw [List.take_of_length_le (Nat.le_of_eq hq6), List.append_assoc]; rfl
            · exact .inr rfl)
          clear hq6
          go_loop [7, 8] (fun n i => ∃ j : Nat, j ≤ k ∧ i = .int .i64 j ∧ n = .int .i64 (Cal.val (s.data.toList.take j))) (fun _ i => k - (intOf i).toNat)
          case atStart => exact ⟨0, Nat.zero_le _, rfl, rfl⟩
          case round =>
            obtain ⟨j, hj, rfl, rfl⟩ := hrel
            have hbd := val_le (l := s.data.toList.take j) (n := 10) (by
              exact all_take fun i hi h => HAll.out i hi (by omega)) (by rw [List.length_take]; omega)
            simp only [Int.reducePow] at hbd
            obtain ⟨hb1, hb2⟩ := hbd
            by_cases hjk : j < k
            · have hjs : j < s.size := by omega
              have hdj := dig_toNat (show dgC s[j] = true from HAll.out j (by rw [HL.out]; omega) hjk)
              have V := Lib.hid (val_take' (d := s.data.toList) (i := j) (by rw [HL.out]; omega))
              obtain ⟨hd1, hd2⟩ := hdj
              go_wp2_with fail
              go_round
              case rel => exact ⟨j + 1, by omega, by go_num, by rw [V.out, get_list hjs]⟩
              case measure => simp [intOf]; omega
            · obtain rfl : j = k := by omega
              go_wp2_with fail
              clear hb1 hb2
              go_loop [7, 9, 10, 11] (fun n i _ _ => ∃ m : Nat, m ≤ 6 ∧ i = .int .i64 m ∧ n = .int .i64 (Cal.val (s.data.toList.take j ++ (digQ s.data.toList j).take m)) ∧ Hid (∀ i (hi : i < (digQ s.data.toList j).length), i < m → dgC (digQ s.data.toList j)[i] = true)) (fun _ i _ _ => 6 - (intOf i).toNat)
              case atStart => exact ⟨0, Nat.zero_le _, rfl, by rw [List.take_zero, List.append_nil], fun i hi h => by omega⟩
              case round =>
                obtain ⟨m, hm6, rfl, rfl, HQ⟩ := hrel
                have hbd := val_le (l := s.data.toList.take j ++ (digQ s.data.toList j).take m) (n := 16) (by
                  rw [List.all_append, all_take fun i hi h => HAll.out i hi (by omega), all_take fun i hi h => HQ.out i hi h]; rfl) (by rw [List.length_append, List.length_take, List.length_take]; omega)
                have hbd' := hbd
                simp only [Int.reducePow] at hbd
                obtain ⟨hb1, hb2⟩ := hbd
                by_cases hm : m < 6
                · have V := Lib.hid (val_take (l := s.data.toList.take j) (q := digQ s.data.toList j) (i := m) (by rw [HQ6.out]; exact hm))
                  have hb3 := (val_le (l := s.data.toList.take j ++ (digQ s.data.toList j).take m) (n := 15) (by
                    rw [List.all_append, all_take fun i hi h => HAll.out i hi (by omega), all_take fun i hi h => HQ.out i hi h]; rfl) (by rw [List.length_append, List.length_take, List.length_take]; omega)).2
                  simp only [Int.reducePow] at hb3
                  clear hbd'
                  by_cases hmp : (m : Int) < P
                  · have hjm : j + 1 + m < s.size := by omega
                    have QA := Lib.hid (digQ_at (d := s.data.toList) (k := j) (i := m) (by rw [HL.out]; exact hjm) (by rw [HQ6.out]; exact hm))
                    cases hdg : dgC s[j + 1 + m]
                    · have hi : dgI s[j + 1 + m].toNat = false := by rw [← dgC_I]; exact hdg
                      have HN := Lib.hid (numP_none H45.out (show numU s.data.toList = none by
                        rw [HU.out, if_neg]
                        rintro ⟨-, -, -, h⟩
                        rw [List.drop_eq_getElem_cons (show j < s.data.toList.length by rw [HL.out]; omega)] at h
                        simp only [partOk, Bool.and_eq_true] at h
                        have := List.all_eq_true.1 h.2.2 s[j + 1 + m] (by
                          have h2 : j + 1 + m < s.data.toList.length := by rw [HL.out]; exact hjm
                          exact mem_drop (l := s.data.toList) (j := j + 1 + m) h2 (by omega))
                        rw [this] at hdg; cases hdg))
                      clear hdg
                      go_wp2_with (first | (go_at_call 157; refine (r1digit_any _ _).mono ?_; rintro e w' ⟨rfl, rfl⟩; rw [hi]))
                      go_ret2
                      exact ⟨ret_ib HN.out.1.symm HN.out.2.symm, rfl⟩
                    · have hi : dgI s[j + 1 + m].toNat = true := by rw [← dgC_I]; exact hdg
                      have HDG := Lib.hid hdg
                      obtain ⟨hd1, hd2⟩ := dig_toNat hdg
                      clear hdg
                      go_wp2_with (first | (go_at_call 157; refine (r1digit_any _ _).mono ?_; rintro e w' ⟨rfl, rfl⟩; rw [hi]))
                      go_round
                      case rel =>
                        refine ⟨m + 1, by omega, by go_num, by rw [V.out, QA.out, get_list hjm]; (try go_num), fun i hi h => ?_⟩
                        by_cases e : i = m
                        · subst e; rw [QA.out]; exact HDG.out
                        · exact HQ.out i hi (by omega)
                      case measure => simp [intOf]; omega
                  · have hmz : ¬ (m : Int) < P := hmp
                    have Q0 := Lib.hid (digQ_0 (d := s.data.toList) (k := j) (i := m) (by rw [HL.out]; omega) (by rw [HQ6.out]; exact hm))
                    go_wp2_with fail
                    go_round
                    case rel =>
                      refine ⟨m + 1, by omega, by go_num, by rw [V.out, Q0.out]; exact congrArg (Value.int .i64) (by have : ((48 : UInt8).toNat : Int) = 48 := rfl; omega), fun i hi h => ?_⟩
                      by_cases e : i = m
                      · subst e; rw [Q0.out]; decide
                      · exact HQ.out i hi (by omega)
                    case measure => simp [intOf]; omega
                · obtain rfl : m = 6 := by omega
                  have hok : 1 ≤ j ∧ j ≤ 10 ∧ (j = 1 ∨ s.data.toList.headD 0 ≠ 48) ∧ partOk (s.data.toList.drop j) = true := ⟨hk1, by omega, by rw [HZ.out]; exact HZ1.out, by
                    rw [HDK.out, H46.out]
                    have := HPL.out
                    simp only [partOk, Bool.and_eq_true, decide_eq_true_eq, beq_self_eq_true, true_and]
                    refine ⟨⟨by omega, by omega⟩, ?_⟩
                    rw [List.all_eq_true]
                    intro c hc
                    obtain ⟨i, hi, rfl⟩ := List.getElem_of_mem hc
                    rw [List.getElem_drop]
                    have hi2 : i < (digQ s.data.toList j).length := by rw [HQ6.out]; omega
                    have hi3 : j + 1 + i < s.data.toList.length := by rw [List.length_drop] at hi; omega
                    rw [← digQ_at hi3 hi2]
                    exact HQ.out i hi2 (by omega)⟩

                  have HV := Lib.hid (show numU s.data.toList = some (Cal.val (s.data.toList.take j ++ (digQ s.data.toList j).take 6)) by
                    rcases HVE.out with e | e
                    · exact e
                    · rw [HU.out, if_pos hok] at e; cases e)
                  clear hbd' HQ
                  generalize Cal.val (s.data.toList.take j ++ (digQ s.data.toList j).take 6) = V at hb1 hb2 HV HVE ⊢
                  by_cases hbig : 1000000000000000 < V
                  · have HN := Lib.hid (numP_big H45.out HV.out hbig)
                    go_wp2_with fail
                    go_ret2
                    exact ⟨ret_ib HN.out.1.symm HN.out.2.symm, rfl⟩
                  · have HN := Lib.hid (numP_some H45.out HV.out hbig)
                    go_wp2_with fail
                    go_ret2
                    exact ⟨ret_ib HN.out.1.symm HN.out.2.symm, rfl⟩
      · obtain rfl : k = s.size := by omega
        clear hgo hnd
        by_cases h10 : 10 < (s.size : Int)
        · have HN := Lib.hid (numP_none H45.out (show numU s.data.toList = none by rw [HU.out, if_neg]; omega))
          go_wp2_with fail
          go_ret2
          exact ⟨ret_ib HN.out.1.symm HN.out.2.symm, rfl⟩
        by_cases h1 : 1 < (s.size : Int) ∧ (s[0].toNat : Int) = 48
        · obtain ⟨h1, h2⟩ := h1
          have e48 : ((s[0].toNat : Int) == 48) = true := by rw [h2]; rfl
          have HN := Lib.hid (numP_none H45.out (show numU s.data.toList = none by
            rw [HU.out, if_neg]
            rintro ⟨-, -, h | h, -⟩
            · omega
            · rw [HZ.out] at h; exact h (UInt8.toNat_inj.1 (Int.ofNat.inj h2))))
          clear h2
          go_wp2_with fail
          go_ret2
          exact ⟨ret_ib HN.out.1.symm HN.out.2.symm, rfl⟩
        have hz1 : s.size = 1 ∨ s[0] ≠ 48 := by
          rcases Nat.lt_or_ge 1 s.size with g | g
          · refine .inr fun e => h1 ⟨by omega, by rw [e]; rfl⟩
          · exact .inl (by omega)
        have HZ1 := Lib.hid hz1
        have e1 : (¬ 1 < (s.size : Int)) ∨ (1 < (s.size : Int) ∧ ((s[0].toNat : Int) == 48) = false) := by
          rcases Nat.lt_or_ge 1 s.size with g | g
          · refine .inr ⟨by omega, ?_⟩
            rcases hz1 with e | e
            · omega
            · rw [beq_eq_false_iff_ne]; exact fun g => e (UInt8.toNat_inj.1 (Int.ofNat.inj g))
          · exact .inl (by omega)
        clear hz1 h1
        rcases e1 with e1 | ⟨e1, e1'⟩
        all_goals
          go_wp2_with fail
          have hq6 : (digQ s.data.toList s.size).length = 6 := digQ_len (by rw [HL.out]; omega)
          have HQ6 := Lib.hid hq6
          have HVE := Lib.hid (show numU s.data.toList = some (Cal.val (s.data.toList.take s.size ++ (digQ s.data.toList s.size).take 6)) ∨ numU s.data.toList = none from by
            rw [HU.out]
            split
            · refine .inl ?_
              rw [List.take_of_length_le (Nat.le_of_eq hq6), List.append_assoc]; rfl
            · exact .inr rfl)
          clear hq6
          go_loop [7, 8] (fun n i => ∃ j : Nat, j ≤ s.size ∧ i = .int .i64 j ∧ n = .int .i64 (Cal.val (s.data.toList.take j))) (fun _ i => s.size - (intOf i).toNat)
          case atStart => exact ⟨0, Nat.zero_le _, rfl, rfl⟩
          case round =>
            obtain ⟨j, hj, rfl, rfl⟩ := hrel
            have hbd := val_le (l := s.data.toList.take j) (n := 10) (by
              exact all_take fun i hi h => HAll.out i hi (by omega)) (by rw [List.length_take]; omega)
            simp only [Int.reducePow] at hbd
            obtain ⟨hb1, hb2⟩ := hbd
            by_cases hjk : j < s.size
            · have hjs : j < s.size := by omega
              have hdj := dig_toNat (show dgC s[j] = true from HAll.out j (by rw [HL.out]; omega) hjk)
              have V := Lib.hid (val_take' (d := s.data.toList) (i := j) (by rw [HL.out]; omega))
              obtain ⟨hd1, hd2⟩ := hdj
              go_wp2_with fail
              go_round
              case rel => exact ⟨j + 1, by omega, by go_num, by rw [V.out, get_list hjs]⟩
              case measure => simp [intOf]; omega
            · obtain rfl : j = s.size := by omega
              go_wp2_with fail
              clear hb1 hb2
              go_loop [7, 9, 10, 11] (fun n i _ _ => ∃ m : Nat, m ≤ 6 ∧ i = .int .i64 m ∧ n = .int .i64 (Cal.val (s.data.toList.take s.size ++ (digQ s.data.toList s.size).take m)) ∧ Hid (∀ i (hi : i < (digQ s.data.toList s.size).length), i < m → dgC (digQ s.data.toList s.size)[i] = true)) (fun _ i _ _ => 6 - (intOf i).toNat)
              case atStart => exact ⟨0, Nat.zero_le _, rfl, by rw [List.take_zero, List.append_nil], fun i hi h => by omega⟩
              case round =>
                obtain ⟨m, hm6, rfl, rfl, HQ⟩ := hrel
                have hbd := val_le (l := s.data.toList.take s.size ++ (digQ s.data.toList s.size).take m) (n := 16) (by
                  rw [List.all_append, all_take fun i hi h => HAll.out i hi (by omega), all_take fun i hi h => HQ.out i hi h]; rfl) (by rw [List.length_append, List.length_take, List.length_take]; omega)
                have hbd' := hbd
                simp only [Int.reducePow] at hbd
                obtain ⟨hb1, hb2⟩ := hbd
                by_cases hm : m < 6
                · have V := Lib.hid (val_take (l := s.data.toList.take s.size) (q := digQ s.data.toList s.size) (i := m) (by rw [HQ6.out]; exact hm))
                  have hb3 := (val_le (l := s.data.toList.take s.size ++ (digQ s.data.toList s.size).take m) (n := 15) (by
                    rw [List.all_append, all_take fun i hi h => HAll.out i hi (by omega), all_take fun i hi h => HQ.out i hi h]; rfl) (by rw [List.length_append, List.length_take, List.length_take]; omega)).2
                  simp only [Int.reducePow] at hb3
                  clear hbd'
                  · skip
                    have Q0 := Lib.hid (digQ_0 (d := s.data.toList) (k := s.size) (i := m) (by rw [HL.out]; omega) (by rw [HQ6.out]; exact hm))
                    go_wp2_with fail
                    go_round
                    case rel =>
                      refine ⟨m + 1, by omega, by go_num, by rw [V.out, Q0.out]; exact congrArg (Value.int .i64) (by have : ((48 : UInt8).toNat : Int) = 48 := rfl; omega), fun i hi h => ?_⟩
                      by_cases e : i = m
                      · subst e; rw [Q0.out]; decide
                      · exact HQ.out i hi (by omega)
                    case measure => simp [intOf]; omega
                · obtain rfl : m = 6 := by omega
                  have hok : 1 ≤ s.size ∧ s.size ≤ 10 ∧ (s.size = 1 ∨ s.data.toList.headD 0 ≠ 48) ∧ partOk (s.data.toList.drop s.size) = true := ⟨hk1, by omega, by rw [HZ.out]; exact HZ1.out, by
                    rw [List.drop_of_length_le (by rw [HL.out]; omega)]; rfl⟩

                  have HV := Lib.hid (show numU s.data.toList = some (Cal.val (s.data.toList.take s.size ++ (digQ s.data.toList s.size).take 6)) by
                    rcases HVE.out with e | e
                    · exact e
                    · rw [HU.out, if_pos hok] at e; cases e)
                  clear hbd' HQ
                  generalize Cal.val (s.data.toList.take s.size ++ (digQ s.data.toList s.size).take 6) = V at hb1 hb2 HV HVE ⊢
                  by_cases hbig : 1000000000000000 < V
                  · have HN := Lib.hid (numP_big H45.out HV.out hbig)
                    go_wp2_with fail
                    go_ret2
                    exact ⟨ret_ib HN.out.1.symm HN.out.2.symm, rfl⟩
                  · have HN := Lib.hid (numP_some H45.out HV.out hbig)
                    go_wp2_with fail
                    go_ret2
                    exact ⟨ret_ib HN.out.1.symm HN.out.2.symm, rfl⟩


end Go.Proofs.YtcndknkdhlmdnaaGreatDoor

/-
  The walk of the program's own reading of a date.
-/
namespace Go.Proofs.YtcndknkdhlmdnaaGreatDoor
open Go.RowKit
set_option maxRecDepth 100000

set_option maxHeartbeats 1000000 in
theorem parse_len (s : ByteArray) (w : World) (hs : ¬ s.size = 10) :
    Calls Tryz.prog 179 #[.string s] w fun e w' => e = .returned (.tuple #[.int .i64 0, .int .i64 30]) ∧ Below w.heap.size w w' := by
  go_enter Tryz.func179, Tryz.ntmps179
  go_wp2
  go_ret2
  exact ⟨rfl, below1 _ _⟩

/-- the memory of the reading's loop: three numbers, and the text's bytes -/
def PInv (s : ByteArray) (B : Nat) (a b c : Int) (w wr : World) : Prop :=
  Below B w wr ∧ (∀ j (hj : j < s.size), wr.cell? ⟨B + 1, j, none⟩ = some (.int .u8 (s[j].toNat : Int))) ∧
  wr.cell? ⟨B, 0, none⟩ = some (.int .i64 a) ∧ wr.cell? ⟨B, 1, none⟩ = some (.int .i64 b) ∧ wr.cell? ⟨B, 2, none⟩ = some (.int .i64 c) ∧
  (∀ j, wr.frozen? ⟨B, j, none⟩ = false)
theorem PInv.set0 {s : ByteArray} {B : Nat} {a b c x : Int} {w wr : World} (h : PInv s B a b c w wr) : PInv s B x b c w (wr.setCell ⟨B, 0, none⟩ (.int .i64 x)) := by
  obtain ⟨h1, h2, h3, h4, h5, h6⟩ := h
  refine ⟨h1.setCell (Nat.le_refl _) _, fun j hj => ?_, World.cell?_setCell_same _ _ _ h3, ?_, ?_, fun j => by rw [World.frozen?_setCell]; exact h6 j⟩
  · rw [World.cell?_setCell_other _ _ _ _ (by simp)]; exact h2 j hj
  · rw [World.cell?_setCell_other _ _ _ _ (by simp)]; exact h4
  · rw [World.cell?_setCell_other _ _ _ _ (by simp)]; exact h5
theorem PInv.set1 {s : ByteArray} {B : Nat} {a b c x : Int} {w wr : World} (h : PInv s B a b c w wr) : PInv s B a x c w (wr.setCell ⟨B, 1, none⟩ (.int .i64 x)) := by
  obtain ⟨h1, h2, h3, h4, h5, h6⟩ := h
  refine ⟨h1.setCell (Nat.le_refl _) _, fun j hj => ?_, ?_, World.cell?_setCell_same _ _ _ h4, ?_, fun j => by rw [World.frozen?_setCell]; exact h6 j⟩
  · rw [World.cell?_setCell_other _ _ _ _ (by simp)]; exact h2 j hj
  · rw [World.cell?_setCell_other _ _ _ _ (by simp)]; exact h3
  · rw [World.cell?_setCell_other _ _ _ _ (by simp)]; exact h5
theorem PInv.set2 {s : ByteArray} {B : Nat} {a b c x : Int} {w wr : World} (h : PInv s B a b c w wr) : PInv s B a b x w (wr.setCell ⟨B, 2, none⟩ (.int .i64 x)) := by
  obtain ⟨h1, h2, h3, h4, h5, h6⟩ := h
  refine ⟨h1.setCell (Nat.le_refl _) _, fun j hj => ?_, ?_, ?_, World.cell?_setCell_same _ _ _ h5, fun j => by rw [World.frozen?_setCell]; exact h6 j⟩
  · rw [World.cell?_setCell_other _ _ _ _ (by simp)]; exact h2 j hj
  · rw [World.cell?_setCell_other _ _ _ _ (by simp)]; exact h3
  · rw [World.cell?_setCell_other _ _ _ _ (by simp)]; exact h4
/-- as the loop begins -/
theorem PInv.start (s : ByteArray) (w : World) (cap : Nat) : PInv s w.heap.size 0 0 0 w
    ((w.alloc (.cells #[.int .i64 0, .int .i64 0, .int .i64 0] 186)).drew.alloc (.cells (bytesRow s cap) 5 ((bytesRow s cap).size, (bytesRow s cap).size + 1))) := by
  have hsz : (w.alloc (.cells #[.int .i64 0, .int .i64 0, .int .i64 0] 186)).drew.heap.size = w.heap.size + 1 := by show (w.heap.push _).size = _; simp
  have old : ∀ j, ((w.alloc (.cells #[.int .i64 0, .int .i64 0, .int .i64 0] 186)).drew.alloc (.cells (bytesRow s cap) 5 ((bytesRow s cap).size, (bytesRow s cap).size + 1))).cell? ⟨w.heap.size, j, none⟩ = (w.alloc (.cells #[.int .i64 0, .int .i64 0, .int .i64 0] 186)).cell? ⟨w.heap.size, j, none⟩ := fun j =>
    World.cell?_of_block (w := (w.alloc (.cells #[.int .i64 0, .int .i64 0, .int .i64 0] 186))) (Below.heap_alloc _ _ _ (by rw [hsz]; exact Nat.lt_succ_self _))
  refine ⟨((below1 w _).drew).alloc (by rw [hsz]; exact Nat.le_succ _) _, fun j hj => ?_, ?_, ?_, ?_, fun j => ?_⟩
  · rw [← hsz, World.cell?_alloc_mark]
    exact bytesRow_at s cap j hj
  · rw [old]; simp
  · rw [old]; simp
  · rw [old]; simp
  · have : ((w.alloc (.cells #[.int .i64 0, .int .i64 0, .int .i64 0] 186)).drew.alloc (.cells (bytesRow s cap) 5 ((bytesRow s cap).size, (bytesRow s cap).size + 1))).frozen? ⟨w.heap.size, j, none⟩ = (w.alloc (.cells #[.int .i64 0, .int .i64 0, .int .i64 0] 186)).frozen? ⟨w.heap.size, j, none⟩ :=
      World.frozen?_of_block (w := (w.alloc (.cells #[.int .i64 0, .int .i64 0, .int .i64 0] 186))) (Below.heap_alloc _ _ _ (by rw [hsz]; exact Nat.lt_succ_self _))
    rw [this]; simp

/-- what the loop knows behind k bytes -/
def PRel (s : ByteArray) (k : Nat) (part a b c : Int) : Prop :=
  (∀ j (hj : j < s.data.toList.length), j < k → Cal.fits j s.data.toList[j] = true) ∧
  a = Cal.val (Cal.seg s.data.toList 0 (min k 4)) ∧ b = Cal.val (Cal.seg s.data.toList 5 (min k 7)) ∧ c = Cal.val (Cal.seg s.data.toList 8 k) ∧
  part = if k ≤ 4 then 0 else if k ≤ 7 then 1 else 2

theorem of_any (y m d : Int) (w : World) :
    Calls Tryz.prog 203 #[.int .i64 y, .int .i64 m, .int .i64 d] w fun e w' => e = .returned (.tuple #[.int .i64 (ofV y m d), .int .i64 (ofE y m d)]) ∧ Below w.heap.size w w' := by
  unfold ofV ofE
  by_cases h : Cal.ok y m d
  · rw [if_pos h, if_pos h]; exact of_ok y m d w h
  · rw [if_neg h, if_neg h]; exact of_bad y m d w h

/-- what a text of ten bytes is read as -/
def rdV (s : ByteArray) : Int := if (∀ j (hj : j < s.data.toList.length), Cal.fits j s.data.toList[j] = true) then ofV (Cal.val (Cal.seg s.data.toList 0 4)) (Cal.val (Cal.seg s.data.toList 5 7)) (Cal.val (Cal.seg s.data.toList 8 10)) else 0
def rdE (s : ByteArray) : Int := if (∀ j (hj : j < s.data.toList.length), Cal.fits j s.data.toList[j] = true) then ofE (Cal.val (Cal.seg s.data.toList 0 4)) (Cal.val (Cal.seg s.data.toList 5 7)) (Cal.val (Cal.seg s.data.toList 8 10)) else 30
theorem rd_bad {s : ByteArray} {k : Nat} (hk : k < s.data.toList.length) (h : Cal.fits k s.data.toList[k] = false) : rdV s = 0 ∧ rdE s = 30 := by
  have n : ¬ ∀ j (hj : j < s.data.toList.length), Cal.fits j s.data.toList[j] = true := fun a => by rw [a k hk] at h; cases h
  unfold rdV rdE
  rw [if_neg n, if_neg n]
  exact ⟨rfl, rfl⟩

theorem prel_start (s : ByteArray) : PRel s 0 0 0 0 0 :=
  ⟨fun j _ h => absurd h (by omega), by rw [Cal.seg_nil _ (by omega)]; rfl, by rw [Cal.seg_nil _ (by omega)]; rfl, by rw [Cal.seg_nil _ (by omega)]; rfl, rfl⟩
theorem prel_fits {s : ByteArray} {k : Nat} {part a b c : Int} (h : PRel s k part a b c) (hk : k < s.data.toList.length) (hf : Cal.fits k s.data.toList[k] = true) :
    ∀ j (hj : j < s.data.toList.length), j < k + 1 → Cal.fits j s.data.toList[j] = true := fun j hj hl => by
  by_cases e : j = k
  · subst e; exact hf
  · exact h.1 j hj (by omega)
theorem prel_bd {s : ByteArray} {k : Nat} {part a b c : Int} (h : PRel s k part a b c) (hk : k ≤ 10) : 0 ≤ a ∧ a < 10000 ∧ 0 ≤ b ∧ b < 10000 ∧ 0 ≤ c ∧ c < 10000 := by
  obtain ⟨h1, rfl, rfl, rfl, -⟩ := h
  have dig : ∀ j (hj : j < s.data.toList.length), j < k → j ≠ 4 → j ≠ 7 → Cal.isDig s.data.toList[j] = true := fun j hj hl e f => by rw [← Cal.fits_dig e f]; exact h1 j hj hl
  have u := Cal.seg_bd s.data.toList (lo := 0) (hi := min k 4) (by omega) (fun j hj _ _ => dig j hj (by omega) (by omega) (by omega))
  have v := Cal.seg_bd s.data.toList (lo := 5) (hi := min k 7) (by omega) (fun j hj _ _ => dig j hj (by omega) (by omega) (by omega))
  have x := Cal.seg_bd s.data.toList (lo := 8) (hi := k) (by omega) (fun j hj _ _ => dig j hj (by omega) (by omega) (by omega))
  exact ⟨u.1, u.2, v.1, v.2, x.1, x.2⟩
theorem prel_dig0 {s : ByteArray} {k : Nat} {part a b c : Int} (h : PRel s k part a b c) (hk : k < s.data.toList.length) (hf : Cal.fits k s.data.toList[k] = true) (h4 : k < 4) :
    PRel s (k + 1) 0 (10 * a + ((s.data.toList[k].toNat : Int) - 48)) b c := by
  refine ⟨prel_fits h hk hf, ?_, ?_, ?_, by rw [if_pos (by omega)]⟩
  · rw [h.2.1, show min (k + 1) 4 = k + 1 by omega, show min k 4 = k by omega, Cal.seg_succ _ (by omega) hk, Cal.val_snoc]
  · rw [h.2.2.1, Cal.seg_nil _ (by omega), Cal.seg_nil _ (by omega)]
  · rw [h.2.2.2.1, Cal.seg_nil _ (by omega), Cal.seg_nil _ (by omega)]
theorem prel_dash {s : ByteArray} {k : Nat} {part a b c : Int} (h : PRel s k part a b c) (hk : k < s.data.toList.length) (hf : Cal.fits k s.data.toList[k] = true) (h4 : k = 4 ∨ k = 7) :
    PRel s (k + 1) (part + 1) a b c := by
  refine ⟨prel_fits h hk hf, ?_, ?_, ?_, ?_⟩
  · rw [h.2.1, show min (k + 1) 4 = min k 4 by omega]
  · rw [h.2.2.1]
    rcases h4 with rfl | rfl
    · rw [Cal.seg_nil _ (by omega), Cal.seg_nil _ (by omega)]
    · rfl
  · rw [h.2.2.2.1, Cal.seg_nil _ (by omega), Cal.seg_nil _ (by omega)]
  · rw [h.2.2.2.2]
    rcases h4 with rfl | rfl <;> rfl
theorem prel_dig1 {s : ByteArray} {k : Nat} {part a b c : Int} (h : PRel s k part a b c) (hk : k < s.data.toList.length) (hf : Cal.fits k s.data.toList[k] = true) (h4 : 5 ≤ k) (h5 : k < 7) :
    PRel s (k + 1) 1 a (10 * b + ((s.data.toList[k].toNat : Int) - 48)) c := by
  refine ⟨prel_fits h hk hf, ?_, ?_, ?_, by rw [if_neg (by omega), if_pos (by omega)]⟩
  · rw [h.2.1, show min (k + 1) 4 = min k 4 by omega]
  · rw [h.2.2.1, show min (k + 1) 7 = k + 1 by omega, show min k 7 = k by omega, Cal.seg_succ _ (by omega) hk, Cal.val_snoc]
  · rw [h.2.2.2.1, Cal.seg_nil _ (by omega), Cal.seg_nil _ (by omega)]
theorem prel_dig2 {s : ByteArray} {k : Nat} {part a b c : Int} (h : PRel s k part a b c) (hk : k < s.data.toList.length) (hf : Cal.fits k s.data.toList[k] = true) (h4 : 8 ≤ k) :
    PRel s (k + 1) 2 a b (10 * c + ((s.data.toList[k].toNat : Int) - 48)) := by
  refine ⟨prel_fits h hk hf, ?_, ?_, ?_, by rw [if_neg (by omega), if_neg (by omega)]⟩
  · rw [h.2.1, show min (k + 1) 4 = min k 4 by omega]
  · rw [h.2.2.1, show min (k + 1) 7 = min k 7 by omega]
  · rw [h.2.2.2.1, Cal.seg_succ _ (by omega) hk, Cal.val_snoc]
theorem prel_end {s : ByteArray} {part a b c : Int} (h : PRel s 10 part a b c) (hs : s.data.toList.length = 10) : ofV a b c = rdV s ∧ ofE a b c = rdE s := by
  have g : ∀ j (hj : j < s.data.toList.length), Cal.fits j s.data.toList[j] = true := fun j hj => h.1 j hj (by omega)
  obtain ⟨-, rfl, rfl, rfl, -⟩ := h
  unfold rdV rdE
  rw [if_pos g, if_pos g]
  exact ⟨rfl, rfl⟩
theorem ret_pair {a b c d : Int} (h : a = b) (h' : c = d) : Ending.returned (.tuple #[.int .i64 a, .int .i64 c]) = .returned (.tuple #[.int .i64 b, .int .i64 d]) := by rw [h, h']
theorem dig_false {c : UInt8} (h : (c.toNat : Int) < 48 ∨ 57 < (c.toNat : Int)) : Cal.isDig c = false := by
  unfold Cal.isDig; rw [Bool.and_eq_false_iff, decide_eq_false_iff_not, decide_eq_false_iff_not]; omega
theorem dig_true {c : UInt8} (h : ¬ (c.toNat : Int) < 48) (h' : ¬ 57 < (c.toNat : Int)) : Cal.isDig c = true := by
  unfold Cal.isDig; rw [Bool.and_eq_true, decide_eq_true_iff, decide_eq_true_iff]; omega

set_option maxHeartbeats 4000000 in
theorem parse_ten (s : ByteArray) (w : World) (hs : s.size = 10) :
    Calls Tryz.prog 179 #[.string s] w fun e w' => e = .returned (.tuple #[.int .i64 (rdV s), .int .i64 (rdE s)]) ∧ Below w.heap.size w w' := by
  have hcv := fun w => run_bytes_of_string (P := Tryz.prog) w 9 46 5 s (by kernel_rfl) (by kernel_rfl) (by kernel_rfl)
  go_enter Tryz.func179, Tryz.ntmps179
  go_wp2
  have hlen := Lib.hid (show s.data.toList.length = 10 by simpa using hs)
  clear hcv
  go_loopw [5, 14] (fun p i wr => ∃ (k : Nat) (part a b c : Int), k ≤ 10 ∧ i = .int .i64 k ∧ p = .int .i64 part ∧ Hid (PRel s k part a b c) ∧ Hid (PInv s w.heap.size a b c w wr)) (fun _ i _ => (10 - intOf i).toNat)
  case atStart => exact ⟨0, 0, 0, 0, 0, by omega, rfl, rfl, prel_start s, PInv.start s w _⟩
  case round =>
    obtain ⟨k, part, a, b, c, hk, rfl, rfl, HR, HI⟩ := hrel
    have bd := prel_bd HR.out hk
    by_cases hlt : k < 10
    · have hks : k < s.size := by omega
      have hcell := HI.out.2.1 k hks
      have hkl : Hid (k < s.data.toList.length) := by have := hlen.out; show k < _; omega
      have hck : Hid (s[k] = s.data.toList[k]'hkl.out) := rfl
      have hpart := HR.out.2.2.2.2
      by_cases c4 : k = 4
      · subst c4
        obtain rfl : part = 0 := hpart
        by_cases hd : (s[4].toNat : Int) = 45
        · have hf : Hid (Cal.fits 4 (s.data.toList[4]'hkl.out) = true) := by show _ = true; rw [Cal.fits_dash (by omega), decide_eq_true_iff]; exact hd
          go_wp2
          go_roundw
          case rel => exact ⟨5, 1, a, b, c, by omega, by go_num, rfl, Lib.hid (prel_dash HR.out hkl.out hf.out (by omega)), HI⟩
          case measure => simp [intOf]
        · have hf : Hid (Cal.fits 4 (s.data.toList[4]'hkl.out) = false) := by show _ = false; rw [Cal.fits_dash (by omega), decide_eq_false_iff_not]; exact hd
          have hr := Lib.hid (rd_bad hkl.out hf.out)
          go_wp2
          go_ret2
          exact ⟨ret_pair hr.out.1.symm hr.out.2.symm, HI.out.1⟩
      by_cases c7 : k = 7
      · subst c7
        obtain rfl : part = 1 := hpart
        by_cases hd : (s[7].toNat : Int) = 45
        · have hf : Hid (Cal.fits 7 (s.data.toList[7]'hkl.out) = true) := by show _ = true; rw [Cal.fits_dash (by omega), decide_eq_true_iff]; exact hd
          go_wp2
          go_roundw
          case rel => exact ⟨8, 2, a, b, c, by omega, by go_num, rfl, Lib.hid (prel_dash HR.out hkl.out hf.out (by omega)), HI⟩
          case measure => simp [intOf]
        · have hf : Hid (Cal.fits 7 (s.data.toList[7]'hkl.out) = false) := by show _ = false; rw [Cal.fits_dash (by omega), decide_eq_false_iff_not]; exact hd
          have hr := Lib.hid (rd_bad hkl.out hf.out)
          go_wp2
          go_ret2
          exact ⟨ret_pair hr.out.1.symm hr.out.2.symm, HI.out.1⟩
      by_cases k4 : k < 4
      · have hf4 : Hid (k ≠ 4 ∧ k ≠ 7) := by show _ ∧ _; omega
        have q4 : ((k : Int) == 4) = false := by rw [beq_eq_false_iff_ne]; omega
        have q7 : ((k : Int) == 7) = false := by rw [beq_eq_false_iff_ne]; omega
        obtain rfl : part = 0 := by rw [hpart]; rw [if_pos (by omega)]
        clear hpart
        have hm := HI.out.2.2.1
        have hz := HI.out.2.2.2.2.2 0
        by_cases hd1 : (s[k].toNat : Int) < 48
        · have hr := Lib.hid (rd_bad hkl.out ((Cal.fits_dig hf4.out.1 hf4.out.2).trans (dig_false (.inl hd1))))
          go_wp2
          go_ret2
          exact ⟨ret_pair hr.out.1.symm hr.out.2.symm, HI.out.1⟩
        by_cases hd2 : 57 < (s[k].toNat : Int)
        · have hr := Lib.hid (rd_bad hkl.out ((Cal.fits_dig hf4.out.1 hf4.out.2).trans (dig_false (.inr hd2))))
          go_wp2
          go_ret2
          exact ⟨ret_pair hr.out.1.symm hr.out.2.symm, HI.out.1⟩
        have hf : Hid (Cal.fits k (s.data.toList[k]'hkl.out) = true) := (Cal.fits_dig hf4.out.1 hf4.out.2).trans (dig_true hd1 hd2)
        go_wp2
        go_roundw
        case rel => exact ⟨k + 1, 0, _, b, c, by omega, by go_num, rfl, Lib.hid (prel_dig0 HR.out hkl.out hf.out k4), Lib.hid HI.out.set0⟩
        case measure => simp [intOf]; omega
      by_cases k7 : k < 7
      · have hf4 : Hid (k ≠ 4 ∧ k ≠ 7) := by show _ ∧ _; omega
        have q4 : ((k : Int) == 4) = false := by rw [beq_eq_false_iff_ne]; omega
        have q7 : ((k : Int) == 7) = false := by rw [beq_eq_false_iff_ne]; omega
        obtain rfl : part = 1 := by rw [hpart]; rw [if_neg (by omega), if_pos (by omega)]
        clear hpart
        have hm := HI.out.2.2.2.1
        have hz := HI.out.2.2.2.2.2 1
        by_cases hd1 : (s[k].toNat : Int) < 48
        · have hr := Lib.hid (rd_bad hkl.out ((Cal.fits_dig hf4.out.1 hf4.out.2).trans (dig_false (.inl hd1))))
          go_wp2
          go_ret2
          exact ⟨ret_pair hr.out.1.symm hr.out.2.symm, HI.out.1⟩
        by_cases hd2 : 57 < (s[k].toNat : Int)
        · have hr := Lib.hid (rd_bad hkl.out ((Cal.fits_dig hf4.out.1 hf4.out.2).trans (dig_false (.inr hd2))))
          go_wp2
          go_ret2
          exact ⟨ret_pair hr.out.1.symm hr.out.2.symm, HI.out.1⟩
        have hf : Hid (Cal.fits k (s.data.toList[k]'hkl.out) = true) := (Cal.fits_dig hf4.out.1 hf4.out.2).trans (dig_true hd1 hd2)
        go_wp2
        go_roundw
        case rel => exact ⟨k + 1, 1, a, _, c, by omega, by go_num, rfl, Lib.hid (prel_dig1 HR.out hkl.out hf.out (by omega) k7), Lib.hid HI.out.set1⟩
        case measure => simp [intOf]; omega
      · have hf4 : Hid (k ≠ 4 ∧ k ≠ 7) := by show _ ∧ _; omega
        have q4 : ((k : Int) == 4) = false := by rw [beq_eq_false_iff_ne]; omega
        have q7 : ((k : Int) == 7) = false := by rw [beq_eq_false_iff_ne]; omega
        obtain rfl : part = 2 := by rw [hpart]; rw [if_neg (by omega), if_neg (by omega)]
        clear hpart
        have hm := HI.out.2.2.2.2.1
        have hz := HI.out.2.2.2.2.2 2
        by_cases hd1 : (s[k].toNat : Int) < 48
        · have hr := Lib.hid (rd_bad hkl.out ((Cal.fits_dig hf4.out.1 hf4.out.2).trans (dig_false (.inl hd1))))
          go_wp2
          go_ret2
          exact ⟨ret_pair hr.out.1.symm hr.out.2.symm, HI.out.1⟩
        by_cases hd2 : 57 < (s[k].toNat : Int)
        · have hr := Lib.hid (rd_bad hkl.out ((Cal.fits_dig hf4.out.1 hf4.out.2).trans (dig_false (.inr hd2))))
          go_wp2
          go_ret2
          exact ⟨ret_pair hr.out.1.symm hr.out.2.symm, HI.out.1⟩
        have hf : Hid (Cal.fits k (s.data.toList[k]'hkl.out) = true) := (Cal.fits_dig hf4.out.1 hf4.out.2).trans (dig_true hd1 hd2)
        go_wp2
        go_roundw
        case rel => exact ⟨k + 1, 2, a, b, _, by omega, by go_num, rfl, Lib.hid (prel_dig2 HR.out hkl.out hf.out (by omega)), Lib.hid HI.out.set2⟩
        case measure => simp [intOf]; omega
    · obtain rfl : k = 10 := by omega
      have hend := Lib.hid (prel_end HR.out hlen.out)
      have m0 := HI.out.2.2.1
      have m1 := HI.out.2.2.2.1
      have m2 := HI.out.2.2.2.2.1
      go_wp2_with (go_at_call 203; refine (of_any _ _ _ _).mono ?_; rintro e w' ⟨rfl, hb⟩)
      go_ret2
      exact ⟨ret_pair hend.out.1 hend.out.2, HI.out.1.trans (hb.mono HI.out.1.size)⟩

end Go.Proofs.YtcndknkdhlmdnaaGreatDoor
