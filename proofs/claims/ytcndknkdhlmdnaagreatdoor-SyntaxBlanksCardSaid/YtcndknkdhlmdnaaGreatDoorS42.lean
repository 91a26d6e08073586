/-
  Complement: what one text more of RefQ is rested on.
-/
import Derived.Test.YtcndknkdhlmdnaaGreatDoorS09
import Derived.Test.YtcndknkdhlmdnaaGreatDoorS41
namespace Go.Proofs.YtcndknkdhlmdnaaGreatDoor
open Go.RowKit
set_option maxRecDepth 100000

theorem quoR_of {s : ByteArray} {a n : Nat} (h1 : 1 ≤ n) (hk : a + n ≤ s.size) (h : ∀ j (hj : a + j < s.size), 1 ≤ j → j < n → quoC s[a + j] = true) (h' : ∀ (hk : a + n < s.size), quoC s[a + n] = false) : quoR (s.data.toList.drop (a + 1)) = n - 1 := by
  have hl : (s.data.toList.drop (a + 1)).length = s.size - (a + 1) := by rw [List.length_drop, size_list]
  refine takeWhile_len quoC _ _ (by rw [hl]; omega) (fun j hj hjk => ?_) fun hj => ?_
  · rw [List.getElem_drop]
    have := h (1 + j) (by rw [hl] at hj; omega) (by omega) (by omega)
    simp only [show a + (1 + j) = a + 1 + j by omega] at this
    exact this
  · rw [List.getElem_drop]
    have := h' (by rw [hl] at hj; omega)
    simp only [show a + n = a + 1 + (n - 1) by omega] at this
    exact this
set_option maxHeartbeats 2000000 in
theorem rquoted_any (s : ByteArray) (a : Nat) (w : World) (hs : s.size ≤ 16384) (ha : a < s.size) :
    Calls Tryz.prog 91 #[.string s, .int .i64 a] w (TokP (quotS (s.data.toList.drop (a + 1)) a) w) := by
  have Q := Lib.hid (show quotS (s.data.toList.drop (a + 1)) a = if ((s.data.toList.drop (a + 1)).drop (quoR (s.data.toList.drop (a + 1)))).headD 0 ≠ 34 then .error 71
    else if nameL ((s.data.toList.drop (a + 1)).take (quoR (s.data.toList.drop (a + 1)))) = true then .ok (⟨7, (s.data.toList.drop (a + 1)).take (quoR (s.data.toList.drop (a + 1))), 0, a⟩, quoR (s.data.toList.drop (a + 1)) + 2) else .error 73 from rfl)
  obtain ⟨W, hW⟩ : ∃ W, W = w.alloc (.cells #[.int .i64 0, .string ⟨#[]⟩, .int .i64 0, .int .i64 0] 39) := ⟨_, rfl⟩
  have HB := Lib.hid (show Below w.heap.size w W from hW ▸ nbelow1 _ _)
  have Z0 := Lib.hid (show Zero w.heap.size W from hW ▸ Zero.make w)
  go_enter Tryz.func91, Tryz.ntmps91
  go_wp2_with fail
  rw [← hW]
  clear hW
  obtain ⟨c0, c1, c2, c3, f0, f1, f2, f3⟩ := Z0.out.cells
  go_loop [7] (fun n => ∃ k : Nat, 1 ≤ k ∧ a + k ≤ s.size ∧ n = .int .i64 k ∧ Hid (∀ j (hj : a + j < s.size), 1 ≤ j → j < k → quoC s[a + j] = true)) (fun n => s.size - (intOf n).toNat)
  case atStart => exact ⟨1, by omega, by omega, rfl, fun j hj h h' => by omega⟩
  case round =>
    obtain ⟨k, hk1, hk, rfl, HAll⟩ := hrel
    by_cases hlt : a + k < s.size
    case neg =>
      have HR := Lib.hid (quoR_of hk1 hk HAll.out (fun h => absurd h hlt))
      have R := Lib.hid (show quotS (s.data.toList.drop (a + 1)) a = .error 71 by
        rw [Q.out, HR.out, if_pos]
        rw [List.drop_drop, head_end (by omega)]; decide)
      have e1 : (((a : Int) + k) == s.size) = true := by rw [beq_iff_eq]; omega
      clear HAll
      go_wp2_with fail
      exact bodyPost_ret (v := .tuple #[.agg #[.int .i64 0, .string ⟨#[]⟩, .int .i64 0, .int .i64 0], .int .i64 0, .int .i64 71]) (by simp [results, Tryz.results91, go_sem, c0, c1, c2, c3]) rfl (tokP_err R.out (by decide) (below4 HB.out _ _ _ _))
    have e1 : (((a : Int) + k) == s.size) = false := by rw [beq_eq_false_iff_ne]; omega
    have HQ := Lib.hid (quoC_eq s[a + k])
    have hcase : ((s[a + k].toNat : Int) = 34) ∨ ((s[a + k].toNat : Int) = 10) ∨ (¬ (s[a + k].toNat : Int) = 34 ∧ ¬ (s[a + k].toNat : Int) = 10) := by omega
    rcases hcase with h34 | h10 | ⟨h34, h10⟩
    · have q1 : ((s[a + k].toNat : Int) != 34) = false := by rw [h34]; rfl
      have q2 : ((s[a + k].toNat : Int) == 10) = false := by rw [h34]; rfl
      have HR := Lib.hid (quoR_of hk1 hk HAll.out (fun h => by rw [HQ.out, q1]; rfl))
      have T := Lib.hid (show (s.extract (a + 1) (a + k)).data.toList = (s.data.toList.drop (a + 1)).take (k - 1) by rw [ext_list]; congr 1; omega)
      have hte := ext_size s (a + 1) (a + k) (by omega)
      have CN := Lib.hid (rIsName_any (s.extract (a + 1) (a + k)) W (by unfold maxLen; omega))
      rw [T.out, nameR_eq] at CN
      have H34 := Lib.hid (show ((s.data.toList.drop (a + 1)).drop (k - 1)).headD 0 = 34 by
        rw [List.drop_drop, show a + 1 + (k - 1) = a + k by omega, head_drop hlt]; exact UInt8.toNat_inj.1 (Int.ofNat.inj h34))
      clear HAll h34 hte
      go_wp2_with fail
      (with_reducible refine Calls.mono CN.out ?_)
      rintro e w1 ⟨rfl, rfl⟩
      cases hnm : nameL ((s.data.toList.drop (a + 1)).take (k - 1))
      · have R := Lib.hid (show quotS (s.data.toList.drop (a + 1)) a = .error 73 by
          rw [Q.out, HR.out, if_neg (by rw [H34.out]; decide), if_neg (by rw [hnm]; decide)])
        go_wp2_with fail
        exact bodyPost_ret (v := .tuple #[.agg #[.int .i64 0, .string ⟨#[]⟩, .int .i64 0, .int .i64 0], .int .i64 0, .int .i64 73]) (by simp [results, Tryz.results91, go_sem, c0, c1, c2, c3]) rfl (tokP_err R.out (by decide) (below4 HB.out _ _ _ _))
      · have R := Lib.hid (show quotS (s.data.toList.drop (a + 1)) a = .ok (⟨7, (s.data.toList.drop (a + 1)).take (k - 1), 0, a⟩, k - 1 + 2) by
          rw [Q.out, HR.out, if_neg (by rw [H34.out]; decide), if_pos hnm])
        go_wp2_with fail
        exact bodyPost_ret (v := .tuple #[.agg #[.int .i64 7, .string (s.extract (a + 1) (a + k)), .int .i64 0, .int .i64 a], .int .i64 ((k : Int) + 1), .int .i64 0]) (by simp [results, Tryz.results91, go_sem, c0, c1, c2, c3]) rfl (tokP_ok R.out (below4 HB.out _ _ _ _) rfl T.out rfl rfl (by omega))
    · have q1 : ((s[a + k].toNat : Int) != 34) = true := by rw [h10]; rfl
      have q2 : ((s[a + k].toNat : Int) != 10) = false := by rw [h10]; rfl
      have q3 : ((s[a + k].toNat : Int) == 10) = true := by rw [h10]; rfl
      have HR := Lib.hid (quoR_of hk1 hk HAll.out (fun h => by rw [HQ.out, q2]; simp))
      have R := Lib.hid (show quotS (s.data.toList.drop (a + 1)) a = .error 71 by
        rw [Q.out, HR.out, if_pos]
        rw [List.drop_drop, show a + 1 + (k - 1) = a + k by omega, head_drop hlt]
        intro e
        rw [e] at h10; exact absurd h10 (by decide))
      clear HAll h10
      go_wp2_with fail
      exact bodyPost_ret (v := .tuple #[.agg #[.int .i64 0, .string ⟨#[]⟩, .int .i64 0, .int .i64 0], .int .i64 0, .int .i64 71]) (by simp [results, Tryz.results91, go_sem, c0, c1, c2, c3]) rfl (tokP_err R.out (by decide) (below4 HB.out _ _ _ _))
    · have q1 : ((s[a + k].toNat : Int) != 34) = true := by rw [bne_iff_ne]; exact h34
      have q2 : ((s[a + k].toNat : Int) != 10) = true := by rw [bne_iff_ne]; exact h10
      have HK := Lib.hid (show quoC s[a + k] = true by rw [HQ.out, q1, q2]; rfl)
      clear h34 h10
      go_wp2_with fail
      go_round
      case rel =>
        refine ⟨k + 1, by omega, by omega, by go_num, fun j hj h h' => ?_⟩
        by_cases e : j = k
        · subst e; exact HK.out
        · exact HAll.out j hj h (by omega)
      case measure => simp [intOf]; omega
end Go.Proofs.YtcndknkdhlmdnaaGreatDoor
