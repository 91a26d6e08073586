/-
  Complement: what one text more of NumR is rested on.
-/
import Derived.Test.YtcndknkdhlmdnaaGreatDoorS04
import Derived.Test.YtcndknkdhlmdnaaGreatDoorS35
import Derived.Test.YtcndknkdhlmdnaaGreatDoorS08
import Derived.Test.YtcndknkdhlmdnaaGreatDoorS36
namespace Go.Proofs.YtcndknkdhlmdnaaGreatDoor
open Go.RowKit
set_option maxRecDepth 100000

theorem ret_ib {a b : Int} {c d : Bool} (h : a = b) (h' : c = d) : Ending.returned (.tuple #[.int .i64 a, .bool c]) = .returned (.tuple #[.int .i64 b, .bool d]) := by rw [h, h']
set_option maxHeartbeats 400000 in
theorem r1digit_any (n : Int) (w : World) : Calls Tryz.prog 157 #[.int .u8 n] w fun e w' => e = .returned (.bool (dgI n)) ∧ w = w' := by
  go_enter Tryz.func157, Tryz.ntmps157
  go_wp2
  all_goals go_ret
  all_goals exact ⟨rretB (by unfold dgI; rw [Bool.eq_iff_iff]; simp; omega), rfl⟩
theorem get_list {s : ByteArray} {k : Nat} (_h : k < s.size) (h' : k < s.data.toList.length) : s.data.toList[k] = s[k]'_h := rfl
set_option maxHeartbeats 2000000 in
theorem r1Parse_any (s : ByteArray) (w : World) (hs : s.size ≤ maxLen) (h0 : 0 < s.size) (hd : dgC s[0] = true) :
    Calls Tryz.prog 125 #[.string s] w fun e w' => e = .returned (.tuple #[.int .i64 (numV s.data.toList), .bool (numB s.data.toList)]) ∧ w = w' := by
  have hm := hs
  unfold maxLen at hm
  have hdn := dig_toNat hd
  have hz : s.data.toList.headD 0 = s[0] := head_list h0
  have h45 : s.data.toList.headD 0 ≠ 45 := by
    rw [hz]; rintro e; rw [e] at hd; exact absurd hd (by decide)
  have H45 := Lib.hid h45
  have HZ := Lib.hid hz
  have HD := Lib.hid hd
  have HL := Lib.hid (size_list s)
  have e45 : ((s[0].toNat : Int) == 45) = false := by rw [beq_eq_false_iff_ne]; omega
  clear h45 hz hd hdn
  go_enter Tryz.func125, Tryz.ntmps125
  go_wp2_with fail
  clear e45
  go_loop [5] (fun n => ∃ k : Nat, k ≤ s.size ∧ n = .int .i64 k ∧ Hid (∀ j (hj : j < s.data.toList.length), j < k → dgC s.data.toList[j] = true)) (fun n => s.size - (intOf n).toNat)
  case atStart => exact ⟨0, by omega, rfl, fun j hj h => by omega⟩
  case round =>
    obtain ⟨k, hk, rfl, HAll⟩ := hrel
    by_cases hgo : ∃ hlt : k < s.size, dgC s[k] = true
    · obtain ⟨hlt, hc⟩ := hgo
      have hi : dgI s[k].toNat = true := by rw [← dgC_I]; exact hc
      have HC := Lib.hid hc
      clear hc
      go_wp2_with (first | (go_at_call 157; refine (r1digit_any _ _).mono ?_; rintro e w' ⟨rfl, rfl⟩; rw [hi]))
      go_round
      case rel =>
        refine ⟨k + 1, by omega, by go_num, fun j hj h => ?_⟩
        by_cases e : j = k
        · subst e; exact HC.out
        · exact HAll.out j hj (by omega)
      case measure => simp [intOf]; omega
    · have hnd : ∀ (hlt : k < s.data.toList.length), dgC s.data.toList[k] = false := fun hlt => by
        rw [Bool.eq_false_iff]; exact fun e => hgo ⟨by rw [← HL.out]; exact hlt, e⟩
      have hdr := digs_of (d := s.data.toList) (k := k) (by rw [HL.out]; exact hk) HAll.out hnd
      have HDR := Lib.hid hdr
      have hk1 : 1 ≤ k := by
        rcases Nat.eq_zero_or_pos k with e | e
        · exfalso; subst e; exact hgo ⟨h0, HD.out⟩
        · exact e
      have HU := Lib.hid (numU_eq hdr)
      clear hdr
      have HV0 := Lib.hid (show dgC s[0] = true from HD.out)
      by_cases hlt : k < s.size
      · have hi0 : dgI s[k].toNat = false := by rw [← dgC_I]; exact hnd (by rw [HL.out]; exact hlt)
        clear hgo hnd
        by_cases h10 : 10 < (k : Int)
        · have HN := Lib.hid (numP_none H45.out (show numU s.data.toList = none by rw [HU.out, if_neg]; omega))
          go_wp2_with (first | (go_at_call 157; refine (r1digit_any _ _).mono ?_; rintro e w' ⟨rfl, rfl⟩; rw [hi0]))
          go_ret2
          exact ⟨ret_ib HN.out.1.symm HN.out.2.symm, rfl⟩
        by_cases h1 : 1 < (k : Int) ∧ (s[0].toNat : Int) = 48
        · obtain ⟨h1, h2⟩ := h1
          have e48 : ((s[0].toNat : Int) == 48) = true := by rw [h2]; rfl
          have HN := Lib.hid (numP_none H45.out (show numU s.data.toList = none by
            rw [HU.out, if_neg]
            rintro ⟨-, -, h | h, -⟩
            · omega
            · rw [HZ.out] at h; exact h (UInt8.toNat_inj.1 (Int.ofNat.inj h2))))
          clear h2
          go_wp2_with (first | (go_at_call 157; refine (r1digit_any _ _).mono ?_; rintro e w' ⟨rfl, rfl⟩; rw [hi0]))
          go_ret2
          exact ⟨ret_ib HN.out.1.symm HN.out.2.symm, rfl⟩
        have hz1 : k = 1 ∨ s[0] ≠ 48 := by
          rcases Nat.lt_or_ge 1 k with g | g
          · refine .inr fun e => h1 ⟨by omega, by rw [e]; rfl⟩
          · exact .inl (by omega)
        have HZ1 := Lib.hid hz1
        have e1 : (¬ 1 < (k : Int)) ∨ (1 < (k : Int) ∧ ((s[0].toNat : Int) == 48) = false) := by
          rcases Nat.lt_or_ge 1 k with g | g
          · refine .inr ⟨by omega, ?_⟩
            rcases hz1 with e | e
            · omega
            · rw [beq_eq_false_iff_ne]; exact fun g => e (UInt8.toNat_inj.1 (Int.ofNat.inj g))
          · exact .inl (by omega)
        clear hz1 h1
        obtain ⟨P, hP⟩ : ∃ P, s.size = k + 1 + P := ⟨s.size - k - 1, by omega⟩
        have hPe : ((s.size : Int) - k - 1) = P := by omega
        have HPP := Lib.hid hP
        have HDK := Lib.hid (List.drop_eq_getElem_cons (show k < s.data.toList.length by rw [HL.out]; exact hlt))
        have hpl : (s.data.toList.drop (k + 1)).length = P := by rw [List.length_drop, HL.out]; omega
        have HPL := Lib.hid hpl
        clear hP hpl
        rcases e1 with e1 | ⟨e1, e1'⟩
        all_goals
          by_cases h46 : (s[k].toNat : Int) = 46
          case neg =>
            have e46 : ((s[k].toNat : Int) != 46) = true := by rw [bne_iff_ne]; exact h46
            have HN := Lib.hid (numP_none H45.out (show numU s.data.toList = none by
              rw [HU.out, if_neg]
              rintro ⟨-, -, -, h⟩
              rw [HDK.out] at h
              simp only [partOk, Bool.and_eq_true, beq_iff_eq] at h
              exact h46 (by rw [← get_list hlt (by rw [HL.out]; exact hlt), h.1]; rfl)))
            clear h46
            go_wp2_with (first | (go_at_call 157; refine (r1digit_any _ _).mono ?_; rintro e w' ⟨rfl, rfl⟩; rw [hi0]))
            go_ret2
            exact ⟨ret_ib HN.out.1.symm HN.out.2.symm, rfl⟩
          have e46 : ((s[k].toNat : Int) != 46) = false := by rw [h46]; rfl
          have H46 := Lib.hid (show s.data.toList[k]'(by rw [HL.out]; exact hlt) = 46 from UInt8.toNat_inj.1 (Int.ofNat.inj h46))
          clear h46
          by_cases hp1 : (P : Int) < 1
          · have HN := Lib.hid (numP_none H45.out (show numU s.data.toList = none by
              rw [HU.out, if_neg]
              rintro ⟨-, -, -, h⟩
              rw [HDK.out] at h
              simp only [partOk, Bool.and_eq_true, decide_eq_true_eq] at h
              have := HPL.out
              omega))
            go_wp2_with (first | (go_at_call 157; refine (r1digit_any _ _).mono ?_; rintro e w' ⟨rfl, rfl⟩; rw [hi0]))
            go_ret2
            exact ⟨ret_ib HN.out.1.symm HN.out.2.symm, rfl⟩
          by_cases hp6 : 6 < (P : Int)
          · have HN := Lib.hid (numP_none H45.out (show numU s.data.toList = none by
              rw [HU.out, if_neg]
              rintro ⟨-, -, -, h⟩
              rw [HDK.out] at h
              simp only [partOk, Bool.and_eq_true, decide_eq_true_eq] at h
              have := HPL.out
              omega))
            go_wp2_with (first | (go_at_call 157; refine (r1digit_any _ _).mono ?_; rintro e w' ⟨rfl, rfl⟩; rw [hi0]))
            go_ret2
            exact ⟨ret_ib HN.out.1.symm HN.out.2.symm, rfl⟩
          go_wp2_with (first | (go_at_call 157; refine (r1digit_any _ _).mono ?_; rintro e w' ⟨rfl, rfl⟩; rw [hi0]))
          have hjP1 : s.size ≤ k + 1 + P := Nat.le_of_eq HPP.out
          have hjP2 : k + 1 + P ≤ s.size := Nat.le_of_eq HPP.out.symm
          clear hPe
          have hq6 : (digQ s.data.toList k).length = 6 := digQ_len (by rw [HL.out]; omega)
          have HQ6 := Lib.hid hq6
          have HVE := Lib.hid (show numU s.data.toList = some (Cal.val (s.data.toList.take k ++ (digQ s.data.toList k).take 6)) ∨ numU s.data.toList = none from by
            rw [HU.out]
            split
            · refine .inl ?_
              rw [List.take_of_length_le (Nat.le_of_eq hq6), List.append_assoc]; rfl
            · exact .inr rfl)
          clear hq6
          go_loop [7, 8] (fun n i => ∃ j : Nat, j ≤ k ∧ i = .int .i64 j ∧ n = .int .i64 (Cal.val (s.data.toList.take j))) (fun _ i => k - (intOf i).toNat)
          case atStart => exact ⟨0, Nat.zero_le _, rfl, rfl⟩
          case round =>
            obtain ⟨j, hj, rfl, rfl⟩ := hrel
            have hbd := val_le (l := s.data.toList.take j) (n := 10) (by
              exact all_take fun i hi h => HAll.out i hi (by omega)) (by rw [List.length_take]; omega)
            simp only [Int.reducePow] at hbd
            obtain ⟨hb1, hb2⟩ := hbd
            by_cases hjk : j < k
            · have hjs : j < s.size := by omega
              have hdj := dig_toNat (show dgC s[j] = true from HAll.out j (by rw [HL.out]; omega) hjk)
              have V := Lib.hid (val_take' (d := s.data.toList) (i := j) (by rw [HL.out]; omega))
              obtain ⟨hd1, hd2⟩ := hdj
              go_wp2_with fail
              go_round
              case rel => exact ⟨j + 1, by omega, by go_num, by rw [V.out, get_list hjs]⟩
              case measure => simp [intOf]; omega
            · obtain rfl : j = k := by omega
              go_wp2_with fail
              clear hb1 hb2
              go_loop [7, 9, 10, 11] (fun n i _ _ => ∃ m : Nat, m ≤ 6 ∧ i = .int .i64 m ∧ n = .int .i64 (Cal.val (s.data.toList.take j ++ (digQ s.data.toList j).take m)) ∧ Hid (∀ i (hi : i < (digQ s.data.toList j).length), i < m → dgC (digQ s.data.toList j)[i] = true)) (fun _ i _ _ => 6 - (intOf i).toNat)
              case atStart => exact ⟨0, Nat.zero_le _, rfl, by rw [List.take_zero, List.append_nil], fun i hi h => by omega⟩
              case round =>
                obtain ⟨m, hm6, rfl, rfl, HQ⟩ := hrel
                have hbd := val_le (l := s.data.toList.take j ++ (digQ s.data.toList j).take m) (n := 16) (by
                  rw [List.all_append, all_take fun i hi h => HAll.out i hi (by omega), all_take fun i hi h => HQ.out i hi h]; rfl) (by rw [List.length_append, List.length_take, List.length_take]; omega)
                have hbd' := hbd
                simp only [Int.reducePow] at hbd
                obtain ⟨hb1, hb2⟩ := hbd
                by_cases hm : m < 6
                · have V := Lib.hid (val_take (l := s.data.toList.take j) (q := digQ s.data.toList j) (i := m) (by rw [HQ6.out]; exact hm))
                  have hb3 := (val_le (l := s.data.toList.take j ++ (digQ s.data.toList j).take m) (n := 15) (by
                    rw [List.all_append, all_take fun i hi h => HAll.out i hi (by omega), all_take fun i hi h => HQ.out i hi h]; rfl) (by rw [List.length_append, List.length_take, List.length_take]; omega)).2
                  simp only [Int.reducePow] at hb3
                  clear hbd'
                  by_cases hmp : (m : Int) < P
                  · have hjm : j + 1 + m < s.size := by omega
                    have QA := Lib.hid (digQ_at (d := s.data.toList) (k := j) (i := m) (by rw [HL.out]; exact hjm) (by rw [HQ6.out]; exact hm))
                    cases hdg : dgC s[j + 1 + m]
                    · have hi : dgI s[j + 1 + m].toNat = false := by rw [← dgC_I]; exact hdg
                      have HN := Lib.hid (numP_none H45.out (show numU s.data.toList = none by
                        rw [HU.out, if_neg]
                        rintro ⟨-, -, -, h⟩
                        rw [List.drop_eq_getElem_cons (show j < s.data.toList.length by rw [HL.out]; omega)] at h
                        simp only [partOk, Bool.and_eq_true] at h
                        have := List.all_eq_true.1 h.2.2 s[j + 1 + m] (by
                          have h2 : j + 1 + m < s.data.toList.length := by rw [HL.out]; exact hjm
                          exact mem_drop (l := s.data.toList) (j := j + 1 + m) h2 (by omega))
                        rw [this] at hdg; cases hdg))
                      clear hdg
                      go_wp2_with (first | (go_at_call 157; refine (r1digit_any _ _).mono ?_; rintro e w' ⟨rfl, rfl⟩; rw [hi]))
                      go_ret2
                      exact ⟨ret_ib HN.out.1.symm HN.out.2.symm, rfl⟩
                    · have hi : dgI s[j + 1 + m].toNat = true := by rw [← dgC_I]; exact hdg
                      have HDG := Lib.hid hdg
                      obtain ⟨hd1, hd2⟩ := dig_toNat hdg
                      clear hdg
                      go_wp2_with (first | (go_at_call 157; refine (r1digit_any _ _).mono ?_; rintro e w' ⟨rfl, rfl⟩; rw [hi]))
                      go_round
                      case rel =>
                        refine ⟨m + 1, by omega, by go_num, by rw [V.out, QA.out, get_list hjm]; (try go_num), fun i hi h => ?_⟩
                        by_cases e : i = m
                        · subst e; rw [QA.out]; exact HDG.out
                        · exact HQ.out i hi (by omega)
                      case measure => simp [intOf]; omega
                  · have hmz : ¬ (m : Int) < P := hmp
                    have Q0 := Lib.hid (digQ_0 (d := s.data.toList) (k := j) (i := m) (by rw [HL.out]; omega) (by rw [HQ6.out]; exact hm))
                    go_wp2_with fail
                    go_round
                    case rel =>
                      refine ⟨m + 1, by omega, by go_num, by rw [V.out, Q0.out]; exact congrArg (Value.int .i64) (by have : ((48 : UInt8).toNat : Int) = 48 := rfl; omega), fun i hi h => ?_⟩
                      by_cases e : i = m
                      · subst e; rw [Q0.out]; decide
                      · exact HQ.out i hi (by omega)
                    case measure => simp [intOf]; omega
                · obtain rfl : m = 6 := by omega
                  have hok : 1 ≤ j ∧ j ≤ 10 ∧ (j = 1 ∨ s.data.toList.headD 0 ≠ 48) ∧ partOk (s.data.toList.drop j) = true := ⟨hk1, by omega, by rw [HZ.out]; exact HZ1.out, by
                    rw [HDK.out, H46.out]
                    have := HPL.out
                    simp only [partOk, Bool.and_eq_true, decide_eq_true_eq, beq_self_eq_true, true_and]
                    refine ⟨⟨by omega, by omega⟩, ?_⟩
                    rw [List.all_eq_true]
                    intro c hc
                    obtain ⟨i, hi, rfl⟩ := List.getElem_of_mem hc
                    rw [List.getElem_drop]
                    have hi2 : i < (digQ s.data.toList j).length := by rw [HQ6.out]; omega
                    have hi3 : j + 1 + i < s.data.toList.length := by rw [List.length_drop] at hi; omega
                    rw [← digQ_at hi3 hi2]
                    exact HQ.out i hi2 (by omega)⟩

                  have HV := Lib.hid (show numU s.data.toList = some (Cal.val (s.data.toList.take j ++ (digQ s.data.toList j).take 6)) by
                    rcases HVE.out with e | e
                    · exact e
                    · rw [HU.out, if_pos hok] at e; cases e)
                  clear hbd' HQ
                  generalize Cal.val (s.data.toList.take j ++ (digQ s.data.toList j).take 6) = V at hb1 hb2 HV HVE ⊢
                  by_cases hbig : 1000000000000000 < V
                  · have HN := Lib.hid (numP_big H45.out HV.out hbig)
                    go_wp2_with fail
                    go_ret2
                    exact ⟨ret_ib HN.out.1.symm HN.out.2.symm, rfl⟩
                  · have HN := Lib.hid (numP_some H45.out HV.out hbig)
                    go_wp2_with fail
                    go_ret2
                    exact ⟨ret_ib HN.out.1.symm HN.out.2.symm, rfl⟩
      · obtain rfl : k = s.size := by omega
        clear hgo hnd
        by_cases h10 : 10 < (s.size : Int)
        · have HN := Lib.hid (numP_none H45.out (show numU s.data.toList = none by rw [HU.out, if_neg]; omega))
          go_wp2_with fail
          go_ret2
          exact ⟨ret_ib HN.out.1.symm HN.out.2.symm, rfl⟩
        by_cases h1 : 1 < (s.size : Int) ∧ (s[0].toNat : Int) = 48
        · obtain ⟨h1, h2⟩ := h1
          have e48 : ((s[0].toNat : Int) == 48) = true := by rw [h2]; rfl
          have HN := Lib.hid (numP_none H45.out (show numU s.data.toList = none by
            rw [HU.out, if_neg]
            rintro ⟨-, -, h | h, -⟩
            · omega
            · rw [HZ.out] at h; exact h (UInt8.toNat_inj.1 (Int.ofNat.inj h2))))
          clear h2
          go_wp2_with fail
          go_ret2
          exact ⟨ret_ib HN.out.1.symm HN.out.2.symm, rfl⟩
        have hz1 : s.size = 1 ∨ s[0] ≠ 48 := by
          rcases Nat.lt_or_ge 1 s.size with g | g
          · refine .inr fun e => h1 ⟨by omega, by rw [e]; rfl⟩
          · exact .inl (by omega)
        have HZ1 := Lib.hid hz1
        have e1 : (¬ 1 < (s.size : Int)) ∨ (1 < (s.size : Int) ∧ ((s[0].toNat : Int) == 48) = false) := by
          rcases Nat.lt_or_ge 1 s.size with g | g
          · refine .inr ⟨by omega, ?_⟩
            rcases hz1 with e | e
            · omega
            · rw [beq_eq_false_iff_ne]; exact fun g => e (UInt8.toNat_inj.1 (Int.ofNat.inj g))
          · exact .inl (by omega)
        clear hz1 h1
        rcases e1 with e1 | ⟨e1, e1'⟩
        all_goals
          go_wp2_with fail
          have hq6 : (digQ s.data.toList s.size).length = 6 := digQ_len (by rw [HL.out]; omega)
          have HQ6 := Lib.hid hq6
          have HVE := Lib.hid (show numU s.data.toList = some (Cal.val (s.data.toList.take s.size ++ (digQ s.data.toList s.size).take 6)) ∨ numU s.data.toList = none from by
            rw [HU.out]
            split
            · refine .inl ?_
              rw [List.take_of_length_le (Nat.le_of_eq hq6), List.append_assoc]; rfl
            · exact .inr rfl)
          clear hq6
          go_loop [7, 8] (fun n i => ∃ j : Nat, j ≤ s.size ∧ i = .int .i64 j ∧ n = .int .i64 (Cal.val (s.data.toList.take j))) (fun _ i => s.size - (intOf i).toNat)
          case atStart => exact ⟨0, Nat.zero_le _, rfl, rfl⟩
          case round =>
            obtain ⟨j, hj, rfl, rfl⟩ := hrel
            have hbd := val_le (l := s.data.toList.take j) (n := 10) (by
              exact all_take fun i hi h => HAll.out i hi (by omega)) (by rw [List.length_take]; omega)
            simp only [Int.reducePow] at hbd
            obtain ⟨hb1, hb2⟩ := hbd
            by_cases hjk : j < s.size
            · have hjs : j < s.size := by omega
              have hdj := dig_toNat (show dgC s[j] = true from HAll.out j (by rw [HL.out]; omega) hjk)
              have V := Lib.hid (val_take' (d := s.data.toList) (i := j) (by rw [HL.out]; omega))
              obtain ⟨hd1, hd2⟩ := hdj
              go_wp2_with fail
              go_round
              case rel => exact ⟨j + 1, by omega, by go_num, by rw [V.out, get_list hjs]⟩
              case measure => simp [intOf]; omega
            · obtain rfl : j = s.size := by omega
              go_wp2_with fail
              clear hb1 hb2
              go_loop [7, 9, 10, 11] (fun n i _ _ => ∃ m : Nat, m ≤ 6 ∧ i = .int .i64 m ∧ n = .int .i64 (Cal.val (s.data.toList.take s.size ++ (digQ s.data.toList s.size).take m)) ∧ Hid (∀ i (hi : i < (digQ s.data.toList s.size).length), i < m → dgC (digQ s.data.toList s.size)[i] = true)) (fun _ i _ _ => 6 - (intOf i).toNat)
              case atStart => exact ⟨0, Nat.zero_le _, rfl, by rw [List.take_zero, List.append_nil], fun i hi h => by omega⟩
              case round =>
                obtain ⟨m, hm6, rfl, rfl, HQ⟩ := hrel
                have hbd := val_le (l := s.data.toList.take s.size ++ (digQ s.data.toList s.size).take m) (n := 16) (by
                  rw [List.all_append, all_take fun i hi h => HAll.out i hi (by omega), all_take fun i hi h => HQ.out i hi h]; rfl) (by rw [List.length_append, List.length_take, List.length_take]; omega)
                have hbd' := hbd
                simp only [Int.reducePow] at hbd
                obtain ⟨hb1, hb2⟩ := hbd
                by_cases hm : m < 6
                · have V := Lib.hid (val_take (l := s.data.toList.take s.size) (q := digQ s.data.toList s.size) (i := m) (by rw [HQ6.out]; exact hm))
                  have hb3 := (val_le (l := s.data.toList.take s.size ++ (digQ s.data.toList s.size).take m) (n := 15) (by
                    rw [List.all_append, all_take fun i hi h => HAll.out i hi (by omega), all_take fun i hi h => HQ.out i hi h]; rfl) (by rw [List.length_append, List.length_take, List.length_take]; omega)).2
                  simp only [Int.reducePow] at hb3
                  clear hbd'
                  · skip
                    have Q0 := Lib.hid (digQ_0 (d := s.data.toList) (k := s.size) (i := m) (by rw [HL.out]; omega) (by rw [HQ6.out]; exact hm))
                    go_wp2_with fail
                    go_round
                    case rel =>
                      refine ⟨m + 1, by omega, by go_num, by rw [V.out, Q0.out]; exact congrArg (Value.int .i64) (by have : ((48 : UInt8).toNat : Int) = 48 := rfl; omega), fun i hi h => ?_⟩
                      by_cases e : i = m
                      · subst e; rw [Q0.out]; decide
                      · exact HQ.out i hi (by omega)
                    case measure => simp [intOf]; omega
                · obtain rfl : m = 6 := by omega
                  have hok : 1 ≤ s.size ∧ s.size ≤ 10 ∧ (s.size = 1 ∨ s.data.toList.headD 0 ≠ 48) ∧ partOk (s.data.toList.drop s.size) = true := ⟨hk1, by omega, by rw [HZ.out]; exact HZ1.out, by
                    rw [List.drop_of_length_le (by rw [HL.out]; omega)]; rfl⟩

                  have HV := Lib.hid (show numU s.data.toList = some (Cal.val (s.data.toList.take s.size ++ (digQ s.data.toList s.size).take 6)) by
                    rcases HVE.out with e | e
                    · exact e
                    · rw [HU.out, if_pos hok] at e; cases e)
                  clear hbd' HQ
                  generalize Cal.val (s.data.toList.take s.size ++ (digQ s.data.toList s.size).take 6) = V at hb1 hb2 HV HVE ⊢
                  by_cases hbig : 1000000000000000 < V
                  · have HN := Lib.hid (numP_big H45.out HV.out hbig)
                    go_wp2_with fail
                    go_ret2
                    exact ⟨ret_ib HN.out.1.symm HN.out.2.symm, rfl⟩
                  · have HN := Lib.hid (numP_some H45.out HV.out hbig)
                    go_wp2_with fail
                    go_ret2
                    exact ⟨ret_ib HN.out.1.symm HN.out.2.symm, rfl⟩
end Go.Proofs.YtcndknkdhlmdnaaGreatDoor
