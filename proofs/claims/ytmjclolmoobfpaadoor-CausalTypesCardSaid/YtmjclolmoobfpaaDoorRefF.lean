/-
  The walk of usanceref14.fields: it is the program's.
-/
import Derived.Test.YtmjclolmoobfpaaDoorCausA
import Derived.Test.YtmjclolmoobfpaaDoorRefB
namespace Go.Proofs.YtmjclolmoobfpaaDoor
open Go.RowKit
set_option maxRecDepth 100000

set_option maxHeartbeats 1000000 in
theorem rf_feed (n : Int) (s : ByteArray) (a : Option Addr) (len cap : Nat) (w : World) (hs : s.size ≤ maxLen) :
    Calls Tryd.prog 43 #[.agg #[.int .i64 4, .int .i64 n, .string s, .slice a len cap]] w fun e w' => e = .returned (.bool (fieldsB 4 n s.data.toList)) ∧ Below w.heap.size w w' := by
  have e := Lib.hid (show fieldsB 4 n s.data.toList = (nameL s.data.toList && inB n (-3660) 3660) by unfold fieldsB; rw [if_pos rfl])
  cases hn : nameL s.data.toList
  all_goals
    go_enter Tryd.func43, Tryd.ntmps43
    go_wp2_with (first
      | (go_at_call 54; refine (rIsName_any _ _ hs).mono ?_; rintro e w' ⟨rfl, rfl⟩; rw [nameR_eq]; (try rw [hn]))
      | (go_at_call 55; refine (rIsCur_any _ _ hs).mono ?_; rintro e w' ⟨rfl, rfl⟩; (try rw [hc])))
    all_goals go_ret
    all_goals exact ⟨rretB (by rw [e.out]; rw [hn]; unfold inB; first | rfl | (rw [Bool.eq_iff_iff]; simp; omega)), below1 _ _⟩

set_option maxHeartbeats 1000000 in
theorem rf_pick (n : Int) (s : ByteArray) (a : Option Addr) (len cap : Nat) (w : World) (hs : s.size ≤ maxLen) :
    Calls Tryd.prog 43 #[.agg #[.int .i64 31, .int .i64 n, .string s, .slice a len cap]] w fun e w' => e = .returned (.bool (fieldsB 31 n s.data.toList)) ∧ Below w.heap.size w w' := by
  have e := Lib.hid (show fieldsB 31 n s.data.toList = (nameL s.data.toList && inB n 0 73048) by unfold fieldsB; rw [if_neg (by decide), if_pos rfl])
  cases hn : nameL s.data.toList
  all_goals
    go_enter Tryd.func43, Tryd.ntmps43
    go_wp2_with (first
      | (go_at_call 54; refine (rIsName_any _ _ hs).mono ?_; rintro e w' ⟨rfl, rfl⟩; rw [nameR_eq]; (try rw [hn]))
      | (go_at_call 55; refine (rIsCur_any _ _ hs).mono ?_; rintro e w' ⟨rfl, rfl⟩; (try rw [hc])))
    all_goals go_ret
    all_goals exact ⟨rretB (by rw [e.out]; rw [hn]; unfold inB; first | rfl | (rw [Bool.eq_iff_iff]; simp; omega)), below1 _ _⟩

set_option maxHeartbeats 1000000 in
theorem rf_one (n : Int) (s : ByteArray) (a : Option Addr) (len cap : Nat) (w : World) (hs : s.size ≤ maxLen) :
    Calls Tryd.prog 43 #[.agg #[.int .i64 24, .int .i64 n, .string s, .slice a len cap]] w fun e w' => e = .returned (.bool (fieldsB 24 n s.data.toList)) ∧ Below w.heap.size w w' := by
  have e := Lib.hid (show fieldsB 24 n s.data.toList = (curL s.data.toList && n == 0) by unfold fieldsB; rw [if_neg (by decide), if_neg (by decide), if_pos rfl])
  cases hc : curL s.data.toList
  all_goals
    go_enter Tryd.func43, Tryd.ntmps43
    go_wp2_with (first
      | (go_at_call 54; refine (rIsName_any _ _ hs).mono ?_; rintro e w' ⟨rfl, rfl⟩; rw [nameR_eq]; (try rw [hn]))
      | (go_at_call 55; refine (rIsCur_any _ _ hs).mono ?_; rintro e w' ⟨rfl, rfl⟩; (try rw [hc])))
    all_goals go_ret
    all_goals exact ⟨rretB (by rw [e.out]; rw [hc]; first | rfl | (rw [Bool.eq_iff_iff]; simp; try omega)), below1 _ _⟩

set_option maxHeartbeats 1000000 in
theorem rf_num (n : Int) (s : ByteArray) (a : Option Addr) (len cap : Nat) (w : World) (hs : s.size ≤ maxLen) :
    Calls Tryd.prog 43 #[.agg #[.int .i64 1, .int .i64 n, .string s, .slice a len cap]] w fun e w' => e = .returned (.bool (fieldsB 1 n s.data.toList)) ∧ Below w.heap.size w w' := by
  have e := Lib.hid (show fieldsB 1 n s.data.toList = (s.data.toList.isEmpty && inB n (-1000000000000000) 1000000000000000) by unfold fieldsB; rfl)
  by_cases h0 : 0 < s.size
  · obtain ⟨e1, e2⟩ := some_str h0
    have e3 := Lib.hid (show s.data.toList.isEmpty = false by rw [← Lib.toList_data]; exact e2)
    go_enter Tryd.func43, Tryd.ntmps43
    go_wp2_with (first
      | (go_at_call 54; refine (rIsName_any _ _ hs).mono ?_; rintro e w' ⟨rfl, rfl⟩; rw [nameR_eq]; (try rw [hn]))
      | (go_at_call 55; refine (rIsCur_any _ _ hs).mono ?_; rintro e w' ⟨rfl, rfl⟩; (try rw [hc])))
    all_goals go_ret
    all_goals exact ⟨rretB (by rw [e.out]; rw [e3.out]; rfl), below1 _ _⟩
  · obtain rfl := empty_str h0
    go_enter Tryd.func43, Tryd.ntmps43
    go_wp2_with (first
      | (go_at_call 54; refine (rIsName_any _ _ hs).mono ?_; rintro e w' ⟨rfl, rfl⟩; rw [nameR_eq]; (try rw [hn]))
      | (go_at_call 55; refine (rIsCur_any _ _ hs).mono ?_; rintro e w' ⟨rfl, rfl⟩; (try rw [hc])))
    all_goals go_ret
    all_goals exact ⟨rretB (by rw [e.out]; unfold inB; first | rfl | (rw [Bool.eq_iff_iff]; simp; omega)), below1 _ _⟩

set_option maxHeartbeats 1000000 in
theorem rf_bool (n : Int) (s : ByteArray) (a : Option Addr) (len cap : Nat) (w : World) (hs : s.size ≤ maxLen) :
    Calls Tryd.prog 43 #[.agg #[.int .i64 2, .int .i64 n, .string s, .slice a len cap]] w fun e w' => e = .returned (.bool (fieldsB 2 n s.data.toList)) ∧ Below w.heap.size w w' := by
  have e := Lib.hid (show fieldsB 2 n s.data.toList = (s.data.toList.isEmpty && inB n 0 1) by unfold fieldsB; rfl)
  by_cases h0 : 0 < s.size
  · obtain ⟨e1, e2⟩ := some_str h0
    have e3 := Lib.hid (show s.data.toList.isEmpty = false by rw [← Lib.toList_data]; exact e2)
    go_enter Tryd.func43, Tryd.ntmps43
    go_wp2_with (first
      | (go_at_call 54; refine (rIsName_any _ _ hs).mono ?_; rintro e w' ⟨rfl, rfl⟩; rw [nameR_eq]; (try rw [hn]))
      | (go_at_call 55; refine (rIsCur_any _ _ hs).mono ?_; rintro e w' ⟨rfl, rfl⟩; (try rw [hc])))
    all_goals go_ret
    all_goals exact ⟨rretB (by rw [e.out]; rw [e3.out]; rfl), below1 _ _⟩
  · obtain rfl := empty_str h0
    go_enter Tryd.func43, Tryd.ntmps43
    go_wp2_with (first
      | (go_at_call 54; refine (rIsName_any _ _ hs).mono ?_; rintro e w' ⟨rfl, rfl⟩; rw [nameR_eq]; (try rw [hn]))
      | (go_at_call 55; refine (rIsCur_any _ _ hs).mono ?_; rintro e w' ⟨rfl, rfl⟩; (try rw [hc])))
    all_goals go_ret
    all_goals exact ⟨rretB (by rw [e.out]; unfold inB; first | rfl | (rw [Bool.eq_iff_iff]; simp; omega)), below1 _ _⟩

set_option maxHeartbeats 1000000 in
theorem rf_date (n : Int) (s : ByteArray) (a : Option Addr) (len cap : Nat) (w : World) (hs : s.size ≤ maxLen) :
    Calls Tryd.prog 43 #[.agg #[.int .i64 3, .int .i64 n, .string s, .slice a len cap]] w fun e w' => e = .returned (.bool (fieldsB 3 n s.data.toList)) ∧ Below w.heap.size w w' := by
  have e := Lib.hid (show fieldsB 3 n s.data.toList = (s.data.toList.isEmpty && inB n 0 73048) by unfold fieldsB; rfl)
  by_cases h0 : 0 < s.size
  · obtain ⟨e1, e2⟩ := some_str h0
    have e3 := Lib.hid (show s.data.toList.isEmpty = false by rw [← Lib.toList_data]; exact e2)
    go_enter Tryd.func43, Tryd.ntmps43
    go_wp2_with (first
      | (go_at_call 54; refine (rIsName_any _ _ hs).mono ?_; rintro e w' ⟨rfl, rfl⟩; rw [nameR_eq]; (try rw [hn]))
      | (go_at_call 55; refine (rIsCur_any _ _ hs).mono ?_; rintro e w' ⟨rfl, rfl⟩; (try rw [hc])))
    all_goals go_ret
    all_goals exact ⟨rretB (by rw [e.out]; rw [e3.out]; rfl), below1 _ _⟩
  · obtain rfl := empty_str h0
    go_enter Tryd.func43, Tryd.ntmps43
    go_wp2_with (first
      | (go_at_call 54; refine (rIsName_any _ _ hs).mono ?_; rintro e w' ⟨rfl, rfl⟩; rw [nameR_eq]; (try rw [hn]))
      | (go_at_call 55; refine (rIsCur_any _ _ hs).mono ?_; rintro e w' ⟨rfl, rfl⟩; (try rw [hc])))
    all_goals go_ret
    all_goals exact ⟨rretB (by rw [e.out]; unfold inB; first | rfl | (rw [Bool.eq_iff_iff]; simp; omega)), below1 _ _⟩

set_option maxHeartbeats 1000000 in
theorem rf_at (n : Int) (s : ByteArray) (a : Option Addr) (len cap : Nat) (w : World) (hs : s.size ≤ maxLen) :
    Calls Tryd.prog 43 #[.agg #[.int .i64 29, .int .i64 n, .string s, .slice a len cap]] w fun e w' => e = .returned (.bool (fieldsB 29 n s.data.toList)) ∧ Below w.heap.size w w' := by
  have e := Lib.hid (show fieldsB 29 n s.data.toList = (s.data.toList.isEmpty && inB n 0 73048) by unfold fieldsB; rfl)
  by_cases h0 : 0 < s.size
  · obtain ⟨e1, e2⟩ := some_str h0
    have e3 := Lib.hid (show s.data.toList.isEmpty = false by rw [← Lib.toList_data]; exact e2)
    go_enter Tryd.func43, Tryd.ntmps43
    go_wp2_with (first
      | (go_at_call 54; refine (rIsName_any _ _ hs).mono ?_; rintro e w' ⟨rfl, rfl⟩; rw [nameR_eq]; (try rw [hn]))
      | (go_at_call 55; refine (rIsCur_any _ _ hs).mono ?_; rintro e w' ⟨rfl, rfl⟩; (try rw [hc])))
    all_goals go_ret
    all_goals exact ⟨rretB (by rw [e.out]; rw [e3.out]; rfl), below1 _ _⟩
  · obtain rfl := empty_str h0
    go_enter Tryd.func43, Tryd.ntmps43
    go_wp2_with (first
      | (go_at_call 54; refine (rIsName_any _ _ hs).mono ?_; rintro e w' ⟨rfl, rfl⟩; rw [nameR_eq]; (try rw [hn]))
      | (go_at_call 55; refine (rIsCur_any _ _ hs).mono ?_; rintro e w' ⟨rfl, rfl⟩; (try rw [hc])))
    all_goals go_ret
    all_goals exact ⟨rretB (by rw [e.out]; unfold inB; first | rfl | (rw [Bool.eq_iff_iff]; simp; omega)), below1 _ _⟩

set_option maxHeartbeats 1000000 in
theorem rf_when (n : Int) (s : ByteArray) (a : Option Addr) (len cap : Nat) (w : World) (hs : s.size ≤ maxLen) :
    Calls Tryd.prog 43 #[.agg #[.int .i64 30, .int .i64 n, .string s, .slice a len cap]] w fun e w' => e = .returned (.bool (fieldsB 30 n s.data.toList)) ∧ Below w.heap.size w w' := by
  have e := Lib.hid (show fieldsB 30 n s.data.toList = (s.data.toList.isEmpty && inB n 0 73048) by unfold fieldsB; rfl)
  by_cases h0 : 0 < s.size
  · obtain ⟨e1, e2⟩ := some_str h0
    have e3 := Lib.hid (show s.data.toList.isEmpty = false by rw [← Lib.toList_data]; exact e2)
    go_enter Tryd.func43, Tryd.ntmps43
    go_wp2_with (first
      | (go_at_call 54; refine (rIsName_any _ _ hs).mono ?_; rintro e w' ⟨rfl, rfl⟩; rw [nameR_eq]; (try rw [hn]))
      | (go_at_call 55; refine (rIsCur_any _ _ hs).mono ?_; rintro e w' ⟨rfl, rfl⟩; (try rw [hc])))
    all_goals go_ret
    all_goals exact ⟨rretB (by rw [e.out]; rw [e3.out]; rfl), below1 _ _⟩
  · obtain rfl := empty_str h0
    go_enter Tryd.func43, Tryd.ntmps43
    go_wp2_with (first
      | (go_at_call 54; refine (rIsName_any _ _ hs).mono ?_; rintro e w' ⟨rfl, rfl⟩; rw [nameR_eq]; (try rw [hn]))
      | (go_at_call 55; refine (rIsCur_any _ _ hs).mono ?_; rintro e w' ⟨rfl, rfl⟩; (try rw [hc])))
    all_goals go_ret
    all_goals exact ⟨rretB (by rw [e.out]; unfold inB; first | rfl | (rw [Bool.eq_iff_iff]; simp; omega)), below1 _ _⟩

set_option maxHeartbeats 1000000 in
theorem rf_now (n : Int) (s : ByteArray) (a : Option Addr) (len cap : Nat) (w : World) (hs : s.size ≤ maxLen) :
    Calls Tryd.prog 43 #[.agg #[.int .i64 5, .int .i64 n, .string s, .slice a len cap]] w fun e w' => e = .returned (.bool (fieldsB 5 n s.data.toList)) ∧ Below w.heap.size w w' := by
  have e := Lib.hid (show fieldsB 5 n s.data.toList = (s.data.toList.isEmpty && inB n (-3660) 3660) by unfold fieldsB; rfl)
  by_cases h0 : 0 < s.size
  · obtain ⟨e1, e2⟩ := some_str h0
    have e3 := Lib.hid (show s.data.toList.isEmpty = false by rw [← Lib.toList_data]; exact e2)
    go_enter Tryd.func43, Tryd.ntmps43
    go_wp2_with (first
      | (go_at_call 54; refine (rIsName_any _ _ hs).mono ?_; rintro e w' ⟨rfl, rfl⟩; rw [nameR_eq]; (try rw [hn]))
      | (go_at_call 55; refine (rIsCur_any _ _ hs).mono ?_; rintro e w' ⟨rfl, rfl⟩; (try rw [hc])))
    all_goals go_ret
    all_goals exact ⟨rretB (by rw [e.out]; rw [e3.out]; rfl), below1 _ _⟩
  · obtain rfl := empty_str h0
    go_enter Tryd.func43, Tryd.ntmps43
    go_wp2_with (first
      | (go_at_call 54; refine (rIsName_any _ _ hs).mono ?_; rintro e w' ⟨rfl, rfl⟩; rw [nameR_eq]; (try rw [hn]))
      | (go_at_call 55; refine (rIsCur_any _ _ hs).mono ?_; rintro e w' ⟨rfl, rfl⟩; (try rw [hc])))
    all_goals go_ret
    all_goals exact ⟨rretB (by rw [e.out]; unfold inB; first | rfl | (rw [Bool.eq_iff_iff]; simp; omega)), below1 _ _⟩

set_option maxHeartbeats 1000000 in
theorem rf_rest (op n : Int) (s : ByteArray) (a : Option Addr) (len cap : Nat) (w : World) (hs : s.size ≤ maxLen) (h1 : ¬ op = 4) (h2 : ¬ op = 31) (h3 : ¬ op = 24) (h4 : ¬ op = 1) (h5 : ¬ op = 2) (h6 : ¬ op = 3) (h7 : ¬ op = 29) (h8 : ¬ op = 30) (h9 : ¬ op = 5) :
    Calls Tryd.prog 43 #[.agg #[.int .i64 op, .int .i64 n, .string s, .slice a len cap]] w fun e w' => e = .returned (.bool (fieldsB op n s.data.toList)) ∧ Below w.heap.size w w' := by
  have e := Lib.hid (show fieldsB op n s.data.toList = (s.data.toList.isEmpty && n == 0) by unfold fieldsB; rw [if_neg h1, if_neg h2, if_neg h3, if_neg h4, if_neg h5, if_neg (by omega), if_neg h9])
  by_cases h0 : 0 < s.size
  · obtain ⟨e1, e2⟩ := some_str h0
    have e3 := Lib.hid (show s.data.toList.isEmpty = false by rw [← Lib.toList_data]; exact e2)
    go_enter Tryd.func43, Tryd.ntmps43
    go_wp2_with (first
      | (go_at_call 54; refine (rIsName_any _ _ hs).mono ?_; rintro e w' ⟨rfl, rfl⟩; rw [nameR_eq]; (try rw [hn]))
      | (go_at_call 55; refine (rIsCur_any _ _ hs).mono ?_; rintro e w' ⟨rfl, rfl⟩; (try rw [hc])))
    all_goals go_ret
    all_goals exact ⟨rretB (by rw [e.out]; rw [e3.out]; rfl), below1 _ _⟩
  · obtain rfl := empty_str h0
    go_enter Tryd.func43, Tryd.ntmps43
    go_wp2_with (first
      | (go_at_call 54; refine (rIsName_any _ _ hs).mono ?_; rintro e w' ⟨rfl, rfl⟩; rw [nameR_eq]; (try rw [hn]))
      | (go_at_call 55; refine (rIsCur_any _ _ hs).mono ?_; rintro e w' ⟨rfl, rfl⟩; (try rw [hc])))
    all_goals go_ret
    all_goals exact ⟨rretB (by rw [e.out]; first | rfl | (rw [Bool.eq_iff_iff]; simp; try omega)), below1 _ _⟩

theorem rfields_any (op n : Int) (s : ByteArray) (a : Option Addr) (len cap : Nat) (w : World) (hs : s.size ≤ maxLen) :
    Calls Tryd.prog 43 #[.agg #[.int .i64 op, .int .i64 n, .string s, .slice a len cap]] w fun e w' => e = .returned (.bool (fieldsB op n s.data.toList)) ∧ Below w.heap.size w w' := by
  by_cases h1 : op = 4
  · subst h1; exact rf_feed n s a len cap w hs
  by_cases h2 : op = 31
  · subst h2; exact rf_pick n s a len cap w hs
  by_cases h3 : op = 24
  · subst h3; exact rf_one n s a len cap w hs
  by_cases h4 : op = 1
  · subst h4; exact rf_num n s a len cap w hs
  by_cases h5 : op = 2
  · subst h5; exact rf_bool n s a len cap w hs
  by_cases h6 : op = 3
  · subst h6; exact rf_date n s a len cap w hs
  by_cases h7 : op = 29
  · subst h7; exact rf_at n s a len cap w hs
  by_cases h8 : op = 30
  · subst h8; exact rf_when n s a len cap w hs
  by_cases h9 : op = 5
  · subst h9; exact rf_now n s a len cap w hs
  exact rf_rest op n s a len cap w hs h1 h2 h3 h4 h5 h6 h7 h8 h9

end Go.Proofs.YtmjclolmoobfpaaDoor
