/-
  The walk of causal.fields.
-/
import Derived.Test.YtmjclolmoobfpaaDoorCausA
namespace Go.Proofs.YtmjclolmoobfpaaDoor
open Go.RowKit
set_option maxRecDepth 100000

set_option maxHeartbeats 1000000 in
theorem fields_feed (n : Int) (s : ByteArray) (a : Option Addr) (len cap : Nat) (w : World) (hs : s.size ≤ maxLen) :
    Calls Tryd.prog 37 #[.agg #[.int .i64 4, .int .i64 n, .string s, .slice a len cap]] w fun e w' => e = .returned (.bool (fieldsB 4 n s.data.toList)) ∧ Below w.heap.size w w' := by
  have HB : Hid (Below w.heap.size w (w.alloc (.cells #[.int .i64 4, .int .i64 n, .string s, .slice a len cap] 24))) := below1 _ _
  have e := Lib.hid (show fieldsB 4 n s.data.toList = (nameL s.data.toList && inB n (-3660) 3660) by unfold fieldsB; rw [if_pos rfl])
  cases hn : nameL s.data.toList
  all_goals
    go_enter Tryd.func37, Tryd.ntmps37
    go_wp2_with (first | (go_at_call 50; refine (isName_any _ _ hs).mono ?_; rintro e w' ⟨rfl, hb⟩; have c1 : w'.cell? ⟨w.heap.size, 1, none⟩ = some (.int .i64 n) := (hb.cell (p := ⟨w.heap.size, 1, none⟩) (by simp)).trans (by simp); replace HB := Lib.hid (HB.out.trans (hb.mono HB.out.size)); clear hb) | (go_at_call 52; refine (isCur_any _ _ hs).mono ?_; rintro e w' ⟨rfl, hb⟩; have c1 : w'.cell? ⟨w.heap.size, 1, none⟩ = some (.int .i64 n) := (hb.cell (p := ⟨w.heap.size, 1, none⟩) (by simp)).trans (by simp); replace HB := Lib.hid (HB.out.trans (hb.mono HB.out.size)); clear hb) | (go_at_call 51; refine (within_any _ _ _ _).mono ?_; rintro e w' ⟨rfl, rfl⟩))
    all_goals go_ret
    all_goals exact ⟨ret_bool (by rw [e.out]; simp [*]), HB.out⟩

set_option maxHeartbeats 1000000 in
theorem fields_pick (n : Int) (s : ByteArray) (a : Option Addr) (len cap : Nat) (w : World) (hs : s.size ≤ maxLen) :
    Calls Tryd.prog 37 #[.agg #[.int .i64 31, .int .i64 n, .string s, .slice a len cap]] w fun e w' => e = .returned (.bool (fieldsB 31 n s.data.toList)) ∧ Below w.heap.size w w' := by
  have HB : Hid (Below w.heap.size w (w.alloc (.cells #[.int .i64 31, .int .i64 n, .string s, .slice a len cap] 24))) := below1 _ _
  have e := Lib.hid (show fieldsB 31 n s.data.toList = (nameL s.data.toList && inB n 0 73048) by unfold fieldsB; rw [if_neg (by decide), if_pos rfl])
  cases hn : nameL s.data.toList
  all_goals
    go_enter Tryd.func37, Tryd.ntmps37
    go_wp2_with (first | (go_at_call 50; refine (isName_any _ _ hs).mono ?_; rintro e w' ⟨rfl, hb⟩; have c1 : w'.cell? ⟨w.heap.size, 1, none⟩ = some (.int .i64 n) := (hb.cell (p := ⟨w.heap.size, 1, none⟩) (by simp)).trans (by simp); replace HB := Lib.hid (HB.out.trans (hb.mono HB.out.size)); clear hb) | (go_at_call 52; refine (isCur_any _ _ hs).mono ?_; rintro e w' ⟨rfl, hb⟩; have c1 : w'.cell? ⟨w.heap.size, 1, none⟩ = some (.int .i64 n) := (hb.cell (p := ⟨w.heap.size, 1, none⟩) (by simp)).trans (by simp); replace HB := Lib.hid (HB.out.trans (hb.mono HB.out.size)); clear hb) | (go_at_call 51; refine (within_any _ _ _ _).mono ?_; rintro e w' ⟨rfl, rfl⟩))
    all_goals go_ret
    all_goals exact ⟨ret_bool (by rw [e.out]; simp [*]), HB.out⟩

set_option maxHeartbeats 1000000 in
theorem fields_one (n : Int) (s : ByteArray) (a : Option Addr) (len cap : Nat) (w : World) (hs : s.size ≤ maxLen) :
    Calls Tryd.prog 37 #[.agg #[.int .i64 24, .int .i64 n, .string s, .slice a len cap]] w fun e w' => e = .returned (.bool (fieldsB 24 n s.data.toList)) ∧ Below w.heap.size w w' := by
  have HB : Hid (Below w.heap.size w (w.alloc (.cells #[.int .i64 24, .int .i64 n, .string s, .slice a len cap] 24))) := below1 _ _
  have e := Lib.hid (show fieldsB 24 n s.data.toList = (curL s.data.toList && n == 0) by unfold fieldsB; rw [if_neg (by decide), if_neg (by decide), if_pos rfl])
  cases hn : curL s.data.toList
  all_goals
    go_enter Tryd.func37, Tryd.ntmps37
    go_wp2_with (first | (go_at_call 50; refine (isName_any _ _ hs).mono ?_; rintro e w' ⟨rfl, hb⟩; have c1 : w'.cell? ⟨w.heap.size, 1, none⟩ = some (.int .i64 n) := (hb.cell (p := ⟨w.heap.size, 1, none⟩) (by simp)).trans (by simp); replace HB := Lib.hid (HB.out.trans (hb.mono HB.out.size)); clear hb) | (go_at_call 52; refine (isCur_any _ _ hs).mono ?_; rintro e w' ⟨rfl, hb⟩; have c1 : w'.cell? ⟨w.heap.size, 1, none⟩ = some (.int .i64 n) := (hb.cell (p := ⟨w.heap.size, 1, none⟩) (by simp)).trans (by simp); replace HB := Lib.hid (HB.out.trans (hb.mono HB.out.size)); clear hb) | (go_at_call 51; refine (within_any _ _ _ _).mono ?_; rintro e w' ⟨rfl, rfl⟩))
    all_goals go_ret
    all_goals exact ⟨ret_bool (by rw [e.out]; simp [*]), HB.out⟩

set_option maxHeartbeats 1000000 in
theorem fields_num (n : Int) (s : ByteArray) (a : Option Addr) (len cap : Nat) (w : World) (hs : s.size ≤ maxLen) :
    Calls Tryd.prog 37 #[.agg #[.int .i64 1, .int .i64 n, .string s, .slice a len cap]] w fun e w' => e = .returned (.bool (fieldsB 1 n s.data.toList)) ∧ Below w.heap.size w w' := by
  have HB : Hid (Below w.heap.size w (w.alloc (.cells #[.int .i64 1, .int .i64 n, .string s, .slice a len cap] 24))) := below1 _ _
  have e := Lib.hid (show fieldsB 1 n s.data.toList = (s.data.toList.isEmpty && inB n (-1000000000000000) 1000000000000000) by rfl)
  by_cases h0 : 0 < s.size
  · obtain ⟨e1, e2⟩ := some_str h0
    have e3 := Lib.hid (show s.data.toList.isEmpty = false by rw [← Lib.toList_data]; exact e2)
    go_enter Tryd.func37, Tryd.ntmps37
    go_wp2_with (first | (go_at_call 50; refine (isName_any _ _ hs).mono ?_; rintro e w' ⟨rfl, hb⟩; have c1 : w'.cell? ⟨w.heap.size, 1, none⟩ = some (.int .i64 n) := (hb.cell (p := ⟨w.heap.size, 1, none⟩) (by simp)).trans (by simp); replace HB := Lib.hid (HB.out.trans (hb.mono HB.out.size)); clear hb) | (go_at_call 52; refine (isCur_any _ _ hs).mono ?_; rintro e w' ⟨rfl, hb⟩; have c1 : w'.cell? ⟨w.heap.size, 1, none⟩ = some (.int .i64 n) := (hb.cell (p := ⟨w.heap.size, 1, none⟩) (by simp)).trans (by simp); replace HB := Lib.hid (HB.out.trans (hb.mono HB.out.size)); clear hb) | (go_at_call 51; refine (within_any _ _ _ _).mono ?_; rintro e w' ⟨rfl, rfl⟩))
    all_goals go_ret
    all_goals exact ⟨ret_bool (by rw [e.out]; rw [e3.out]; rfl), HB.out⟩
  · obtain rfl := empty_str h0
    go_enter Tryd.func37, Tryd.ntmps37
    go_wp2_with (first | (go_at_call 50; refine (isName_any _ _ hs).mono ?_; rintro e w' ⟨rfl, hb⟩; have c1 : w'.cell? ⟨w.heap.size, 1, none⟩ = some (.int .i64 n) := (hb.cell (p := ⟨w.heap.size, 1, none⟩) (by simp)).trans (by simp); replace HB := Lib.hid (HB.out.trans (hb.mono HB.out.size)); clear hb) | (go_at_call 52; refine (isCur_any _ _ hs).mono ?_; rintro e w' ⟨rfl, hb⟩; have c1 : w'.cell? ⟨w.heap.size, 1, none⟩ = some (.int .i64 n) := (hb.cell (p := ⟨w.heap.size, 1, none⟩) (by simp)).trans (by simp); replace HB := Lib.hid (HB.out.trans (hb.mono HB.out.size)); clear hb) | (go_at_call 51; refine (within_any _ _ _ _).mono ?_; rintro e w' ⟨rfl, rfl⟩))
    all_goals go_ret
    all_goals exact ⟨ret_bool (by rw [e.out]; simp), HB.out⟩

set_option maxHeartbeats 1000000 in
theorem fields_bool (n : Int) (s : ByteArray) (a : Option Addr) (len cap : Nat) (w : World) (hs : s.size ≤ maxLen) :
    Calls Tryd.prog 37 #[.agg #[.int .i64 2, .int .i64 n, .string s, .slice a len cap]] w fun e w' => e = .returned (.bool (fieldsB 2 n s.data.toList)) ∧ Below w.heap.size w w' := by
  have HB : Hid (Below w.heap.size w (w.alloc (.cells #[.int .i64 2, .int .i64 n, .string s, .slice a len cap] 24))) := below1 _ _
  have e := Lib.hid (show fieldsB 2 n s.data.toList = (s.data.toList.isEmpty && inB n 0 1) by rfl)
  by_cases h0 : 0 < s.size
  · obtain ⟨e1, e2⟩ := some_str h0
    have e3 := Lib.hid (show s.data.toList.isEmpty = false by rw [← Lib.toList_data]; exact e2)
    go_enter Tryd.func37, Tryd.ntmps37
    go_wp2_with (first | (go_at_call 50; refine (isName_any _ _ hs).mono ?_; rintro e w' ⟨rfl, hb⟩; have c1 : w'.cell? ⟨w.heap.size, 1, none⟩ = some (.int .i64 n) := (hb.cell (p := ⟨w.heap.size, 1, none⟩) (by simp)).trans (by simp); replace HB := Lib.hid (HB.out.trans (hb.mono HB.out.size)); clear hb) | (go_at_call 52; refine (isCur_any _ _ hs).mono ?_; rintro e w' ⟨rfl, hb⟩; have c1 : w'.cell? ⟨w.heap.size, 1, none⟩ = some (.int .i64 n) := (hb.cell (p := ⟨w.heap.size, 1, none⟩) (by simp)).trans (by simp); replace HB := Lib.hid (HB.out.trans (hb.mono HB.out.size)); clear hb) | (go_at_call 51; refine (within_any _ _ _ _).mono ?_; rintro e w' ⟨rfl, rfl⟩))
    all_goals go_ret
    all_goals exact ⟨ret_bool (by rw [e.out]; rw [e3.out]; rfl), HB.out⟩
  · obtain rfl := empty_str h0
    go_enter Tryd.func37, Tryd.ntmps37
    go_wp2_with (first | (go_at_call 50; refine (isName_any _ _ hs).mono ?_; rintro e w' ⟨rfl, hb⟩; have c1 : w'.cell? ⟨w.heap.size, 1, none⟩ = some (.int .i64 n) := (hb.cell (p := ⟨w.heap.size, 1, none⟩) (by simp)).trans (by simp); replace HB := Lib.hid (HB.out.trans (hb.mono HB.out.size)); clear hb) | (go_at_call 52; refine (isCur_any _ _ hs).mono ?_; rintro e w' ⟨rfl, hb⟩; have c1 : w'.cell? ⟨w.heap.size, 1, none⟩ = some (.int .i64 n) := (hb.cell (p := ⟨w.heap.size, 1, none⟩) (by simp)).trans (by simp); replace HB := Lib.hid (HB.out.trans (hb.mono HB.out.size)); clear hb) | (go_at_call 51; refine (within_any _ _ _ _).mono ?_; rintro e w' ⟨rfl, rfl⟩))
    all_goals go_ret
    all_goals exact ⟨ret_bool (by rw [e.out]; simp), HB.out⟩

set_option maxHeartbeats 1000000 in
theorem fields_date (n : Int) (s : ByteArray) (a : Option Addr) (len cap : Nat) (w : World) (hs : s.size ≤ maxLen) :
    Calls Tryd.prog 37 #[.agg #[.int .i64 3, .int .i64 n, .string s, .slice a len cap]] w fun e w' => e = .returned (.bool (fieldsB 3 n s.data.toList)) ∧ Below w.heap.size w w' := by
  have HB : Hid (Below w.heap.size w (w.alloc (.cells #[.int .i64 3, .int .i64 n, .string s, .slice a len cap] 24))) := below1 _ _
  have e := Lib.hid (show fieldsB 3 n s.data.toList = (s.data.toList.isEmpty && inB n 0 73048) by rfl)
  by_cases h0 : 0 < s.size
  · obtain ⟨e1, e2⟩ := some_str h0
    have e3 := Lib.hid (show s.data.toList.isEmpty = false by rw [← Lib.toList_data]; exact e2)
    go_enter Tryd.func37, Tryd.ntmps37
    go_wp2_with (first | (go_at_call 50; refine (isName_any _ _ hs).mono ?_; rintro e w' ⟨rfl, hb⟩; have c1 : w'.cell? ⟨w.heap.size, 1, none⟩ = some (.int .i64 n) := (hb.cell (p := ⟨w.heap.size, 1, none⟩) (by simp)).trans (by simp); replace HB := Lib.hid (HB.out.trans (hb.mono HB.out.size)); clear hb) | (go_at_call 52; refine (isCur_any _ _ hs).mono ?_; rintro e w' ⟨rfl, hb⟩; have c1 : w'.cell? ⟨w.heap.size, 1, none⟩ = some (.int .i64 n) := (hb.cell (p := ⟨w.heap.size, 1, none⟩) (by simp)).trans (by simp); replace HB := Lib.hid (HB.out.trans (hb.mono HB.out.size)); clear hb) | (go_at_call 51; refine (within_any _ _ _ _).mono ?_; rintro e w' ⟨rfl, rfl⟩))
    all_goals go_ret
    all_goals exact ⟨ret_bool (by rw [e.out]; rw [e3.out]; rfl), HB.out⟩
  · obtain rfl := empty_str h0
    go_enter Tryd.func37, Tryd.ntmps37
    go_wp2_with (first | (go_at_call 50; refine (isName_any _ _ hs).mono ?_; rintro e w' ⟨rfl, hb⟩; have c1 : w'.cell? ⟨w.heap.size, 1, none⟩ = some (.int .i64 n) := (hb.cell (p := ⟨w.heap.size, 1, none⟩) (by simp)).trans (by simp); replace HB := Lib.hid (HB.out.trans (hb.mono HB.out.size)); clear hb) | (go_at_call 52; refine (isCur_any _ _ hs).mono ?_; rintro e w' ⟨rfl, hb⟩; have c1 : w'.cell? ⟨w.heap.size, 1, none⟩ = some (.int .i64 n) := (hb.cell (p := ⟨w.heap.size, 1, none⟩) (by simp)).trans (by simp); replace HB := Lib.hid (HB.out.trans (hb.mono HB.out.size)); clear hb) | (go_at_call 51; refine (within_any _ _ _ _).mono ?_; rintro e w' ⟨rfl, rfl⟩))
    all_goals go_ret
    all_goals exact ⟨ret_bool (by rw [e.out]; simp), HB.out⟩

set_option maxHeartbeats 1000000 in
theorem fields_at (n : Int) (s : ByteArray) (a : Option Addr) (len cap : Nat) (w : World) (hs : s.size ≤ maxLen) :
    Calls Tryd.prog 37 #[.agg #[.int .i64 29, .int .i64 n, .string s, .slice a len cap]] w fun e w' => e = .returned (.bool (fieldsB 29 n s.data.toList)) ∧ Below w.heap.size w w' := by
  have HB : Hid (Below w.heap.size w (w.alloc (.cells #[.int .i64 29, .int .i64 n, .string s, .slice a len cap] 24))) := below1 _ _
  have e := Lib.hid (show fieldsB 29 n s.data.toList = (s.data.toList.isEmpty && inB n 0 73048) by rfl)
  by_cases h0 : 0 < s.size
  · obtain ⟨e1, e2⟩ := some_str h0
    have e3 := Lib.hid (show s.data.toList.isEmpty = false by rw [← Lib.toList_data]; exact e2)
    go_enter Tryd.func37, Tryd.ntmps37
    go_wp2_with (first | (go_at_call 50; refine (isName_any _ _ hs).mono ?_; rintro e w' ⟨rfl, hb⟩; have c1 : w'.cell? ⟨w.heap.size, 1, none⟩ = some (.int .i64 n) := (hb.cell (p := ⟨w.heap.size, 1, none⟩) (by simp)).trans (by simp); replace HB := Lib.hid (HB.out.trans (hb.mono HB.out.size)); clear hb) | (go_at_call 52; refine (isCur_any _ _ hs).mono ?_; rintro e w' ⟨rfl, hb⟩; have c1 : w'.cell? ⟨w.heap.size, 1, none⟩ = some (.int .i64 n) := (hb.cell (p := ⟨w.heap.size, 1, none⟩) (by simp)).trans (by simp); replace HB := Lib.hid (HB.out.trans (hb.mono HB.out.size)); clear hb) | (go_at_call 51; refine (within_any _ _ _ _).mono ?_; rintro e w' ⟨rfl, rfl⟩))
    all_goals go_ret
    all_goals exact ⟨ret_bool (by rw [e.out]; rw [e3.out]; rfl), HB.out⟩
  · obtain rfl := empty_str h0
    go_enter Tryd.func37, Tryd.ntmps37
    go_wp2_with (first | (go_at_call 50; refine (isName_any _ _ hs).mono ?_; rintro e w' ⟨rfl, hb⟩; have c1 : w'.cell? ⟨w.heap.size, 1, none⟩ = some (.int .i64 n) := (hb.cell (p := ⟨w.heap.size, 1, none⟩) (by simp)).trans (by simp); replace HB := Lib.hid (HB.out.trans (hb.mono HB.out.size)); clear hb) | (go_at_call 52; refine (isCur_any _ _ hs).mono ?_; rintro e w' ⟨rfl, hb⟩; have c1 : w'.cell? ⟨w.heap.size, 1, none⟩ = some (.int .i64 n) := (hb.cell (p := ⟨w.heap.size, 1, none⟩) (by simp)).trans (by simp); replace HB := Lib.hid (HB.out.trans (hb.mono HB.out.size)); clear hb) | (go_at_call 51; refine (within_any _ _ _ _).mono ?_; rintro e w' ⟨rfl, rfl⟩))
    all_goals go_ret
    all_goals exact ⟨ret_bool (by rw [e.out]; simp), HB.out⟩

set_option maxHeartbeats 1000000 in
theorem fields_when (n : Int) (s : ByteArray) (a : Option Addr) (len cap : Nat) (w : World) (hs : s.size ≤ maxLen) :
    Calls Tryd.prog 37 #[.agg #[.int .i64 30, .int .i64 n, .string s, .slice a len cap]] w fun e w' => e = .returned (.bool (fieldsB 30 n s.data.toList)) ∧ Below w.heap.size w w' := by
  have HB : Hid (Below w.heap.size w (w.alloc (.cells #[.int .i64 30, .int .i64 n, .string s, .slice a len cap] 24))) := below1 _ _
  have e := Lib.hid (show fieldsB 30 n s.data.toList = (s.data.toList.isEmpty && inB n 0 73048) by rfl)
  by_cases h0 : 0 < s.size
  · obtain ⟨e1, e2⟩ := some_str h0
    have e3 := Lib.hid (show s.data.toList.isEmpty = false by rw [← Lib.toList_data]; exact e2)
    go_enter Tryd.func37, Tryd.ntmps37
    go_wp2_with (first | (go_at_call 50; refine (isName_any _ _ hs).mono ?_; rintro e w' ⟨rfl, hb⟩; have c1 : w'.cell? ⟨w.heap.size, 1, none⟩ = some (.int .i64 n) := (hb.cell (p := ⟨w.heap.size, 1, none⟩) (by simp)).trans (by simp); replace HB := Lib.hid (HB.out.trans (hb.mono HB.out.size)); clear hb) | (go_at_call 52; refine (isCur_any _ _ hs).mono ?_; rintro e w' ⟨rfl, hb⟩; have c1 : w'.cell? ⟨w.heap.size, 1, none⟩ = some (.int .i64 n) := (hb.cell (p := ⟨w.heap.size, 1, none⟩) (by simp)).trans (by simp); replace HB := Lib.hid (HB.out.trans (hb.mono HB.out.size)); clear hb) | (go_at_call 51; refine (within_any _ _ _ _).mono ?_; rintro e w' ⟨rfl, rfl⟩))
    all_goals go_ret
    all_goals exact ⟨ret_bool (by rw [e.out]; rw [e3.out]; rfl), HB.out⟩
  · obtain rfl := empty_str h0
    go_enter Tryd.func37, Tryd.ntmps37
    go_wp2_with (first | (go_at_call 50; refine (isName_any _ _ hs).mono ?_; rintro e w' ⟨rfl, hb⟩; have c1 : w'.cell? ⟨w.heap.size, 1, none⟩ = some (.int .i64 n) := (hb.cell (p := ⟨w.heap.size, 1, none⟩) (by simp)).trans (by simp); replace HB := Lib.hid (HB.out.trans (hb.mono HB.out.size)); clear hb) | (go_at_call 52; refine (isCur_any _ _ hs).mono ?_; rintro e w' ⟨rfl, hb⟩; have c1 : w'.cell? ⟨w.heap.size, 1, none⟩ = some (.int .i64 n) := (hb.cell (p := ⟨w.heap.size, 1, none⟩) (by simp)).trans (by simp); replace HB := Lib.hid (HB.out.trans (hb.mono HB.out.size)); clear hb) | (go_at_call 51; refine (within_any _ _ _ _).mono ?_; rintro e w' ⟨rfl, rfl⟩))
    all_goals go_ret
    all_goals exact ⟨ret_bool (by rw [e.out]; simp), HB.out⟩

set_option maxHeartbeats 1000000 in
theorem fields_now (n : Int) (s : ByteArray) (a : Option Addr) (len cap : Nat) (w : World) (hs : s.size ≤ maxLen) :
    Calls Tryd.prog 37 #[.agg #[.int .i64 5, .int .i64 n, .string s, .slice a len cap]] w fun e w' => e = .returned (.bool (fieldsB 5 n s.data.toList)) ∧ Below w.heap.size w w' := by
  have HB : Hid (Below w.heap.size w (w.alloc (.cells #[.int .i64 5, .int .i64 n, .string s, .slice a len cap] 24))) := below1 _ _
  have e := Lib.hid (show fieldsB 5 n s.data.toList = (s.data.toList.isEmpty && inB n (-3660) 3660) by rfl)
  by_cases h0 : 0 < s.size
  · obtain ⟨e1, e2⟩ := some_str h0
    have e3 := Lib.hid (show s.data.toList.isEmpty = false by rw [← Lib.toList_data]; exact e2)
    go_enter Tryd.func37, Tryd.ntmps37
    go_wp2_with (first | (go_at_call 50; refine (isName_any _ _ hs).mono ?_; rintro e w' ⟨rfl, hb⟩; have c1 : w'.cell? ⟨w.heap.size, 1, none⟩ = some (.int .i64 n) := (hb.cell (p := ⟨w.heap.size, 1, none⟩) (by simp)).trans (by simp); replace HB := Lib.hid (HB.out.trans (hb.mono HB.out.size)); clear hb) | (go_at_call 52; refine (isCur_any _ _ hs).mono ?_; rintro e w' ⟨rfl, hb⟩; have c1 : w'.cell? ⟨w.heap.size, 1, none⟩ = some (.int .i64 n) := (hb.cell (p := ⟨w.heap.size, 1, none⟩) (by simp)).trans (by simp); replace HB := Lib.hid (HB.out.trans (hb.mono HB.out.size)); clear hb) | (go_at_call 51; refine (within_any _ _ _ _).mono ?_; rintro e w' ⟨rfl, rfl⟩))
    all_goals go_ret
    all_goals exact ⟨ret_bool (by rw [e.out]; rw [e3.out]; rfl), HB.out⟩
  · obtain rfl := empty_str h0
    go_enter Tryd.func37, Tryd.ntmps37
    go_wp2_with (first | (go_at_call 50; refine (isName_any _ _ hs).mono ?_; rintro e w' ⟨rfl, hb⟩; have c1 : w'.cell? ⟨w.heap.size, 1, none⟩ = some (.int .i64 n) := (hb.cell (p := ⟨w.heap.size, 1, none⟩) (by simp)).trans (by simp); replace HB := Lib.hid (HB.out.trans (hb.mono HB.out.size)); clear hb) | (go_at_call 52; refine (isCur_any _ _ hs).mono ?_; rintro e w' ⟨rfl, hb⟩; have c1 : w'.cell? ⟨w.heap.size, 1, none⟩ = some (.int .i64 n) := (hb.cell (p := ⟨w.heap.size, 1, none⟩) (by simp)).trans (by simp); replace HB := Lib.hid (HB.out.trans (hb.mono HB.out.size)); clear hb) | (go_at_call 51; refine (within_any _ _ _ _).mono ?_; rintro e w' ⟨rfl, rfl⟩))
    all_goals go_ret
    all_goals exact ⟨ret_bool (by rw [e.out]; simp), HB.out⟩

set_option maxHeartbeats 1000000 in
theorem fields_rest (op n : Int) (s : ByteArray) (a : Option Addr) (len cap : Nat) (w : World) (hs : s.size ≤ maxLen) (h1 : ¬ op = 4) (h2 : ¬ op = 31) (h3 : ¬ op = 24) (h4 : ¬ op = 1) (h5 : ¬ op = 2) (h6 : ¬ op = 3) (h7 : ¬ op = 29) (h8 : ¬ op = 30) (h9 : ¬ op = 5) :
    Calls Tryd.prog 37 #[.agg #[.int .i64 op, .int .i64 n, .string s, .slice a len cap]] w fun e w' => e = .returned (.bool (fieldsB op n s.data.toList)) ∧ Below w.heap.size w w' := by
  have HB : Hid (Below w.heap.size w (w.alloc (.cells #[.int .i64 op, .int .i64 n, .string s, .slice a len cap] 24))) := below1 _ _
  have e := Lib.hid (show fieldsB op n s.data.toList = (s.data.toList.isEmpty && n == 0) by unfold fieldsB; rw [if_neg h1, if_neg h2, if_neg h3, if_neg h4, if_neg h5, if_neg (by omega), if_neg h9])
  by_cases h0 : 0 < s.size
  · obtain ⟨e1, e2⟩ := some_str h0
    have e3 := Lib.hid (show s.data.toList.isEmpty = false by rw [← Lib.toList_data]; exact e2)
    go_enter Tryd.func37, Tryd.ntmps37
    go_wp2_with (first | (go_at_call 50; refine (isName_any _ _ hs).mono ?_; rintro e w' ⟨rfl, hb⟩; have c1 : w'.cell? ⟨w.heap.size, 1, none⟩ = some (.int .i64 n) := (hb.cell (p := ⟨w.heap.size, 1, none⟩) (by simp)).trans (by simp); replace HB := Lib.hid (HB.out.trans (hb.mono HB.out.size)); clear hb) | (go_at_call 52; refine (isCur_any _ _ hs).mono ?_; rintro e w' ⟨rfl, hb⟩; have c1 : w'.cell? ⟨w.heap.size, 1, none⟩ = some (.int .i64 n) := (hb.cell (p := ⟨w.heap.size, 1, none⟩) (by simp)).trans (by simp); replace HB := Lib.hid (HB.out.trans (hb.mono HB.out.size)); clear hb) | (go_at_call 51; refine (within_any _ _ _ _).mono ?_; rintro e w' ⟨rfl, rfl⟩))
    all_goals go_ret
    all_goals exact ⟨ret_bool (by rw [e.out]; rw [e3.out]; rfl), HB.out⟩
  · obtain rfl := empty_str h0
    go_enter Tryd.func37, Tryd.ntmps37
    go_wp2_with (first | (go_at_call 50; refine (isName_any _ _ hs).mono ?_; rintro e w' ⟨rfl, hb⟩; have c1 : w'.cell? ⟨w.heap.size, 1, none⟩ = some (.int .i64 n) := (hb.cell (p := ⟨w.heap.size, 1, none⟩) (by simp)).trans (by simp); replace HB := Lib.hid (HB.out.trans (hb.mono HB.out.size)); clear hb) | (go_at_call 52; refine (isCur_any _ _ hs).mono ?_; rintro e w' ⟨rfl, hb⟩; have c1 : w'.cell? ⟨w.heap.size, 1, none⟩ = some (.int .i64 n) := (hb.cell (p := ⟨w.heap.size, 1, none⟩) (by simp)).trans (by simp); replace HB := Lib.hid (HB.out.trans (hb.mono HB.out.size)); clear hb) | (go_at_call 51; refine (within_any _ _ _ _).mono ?_; rintro e w' ⟨rfl, rfl⟩))
    all_goals go_ret
    all_goals exact ⟨ret_bool (by rw [e.out]; simp), HB.out⟩


theorem fields_any (op n : Int) (s : ByteArray) (a : Option Addr) (len cap : Nat) (w : World) (hs : s.size ≤ maxLen) :
    Calls Tryd.prog 37 #[.agg #[.int .i64 op, .int .i64 n, .string s, .slice a len cap]] w fun e w' => e = .returned (.bool (fieldsB op n s.data.toList)) ∧ Below w.heap.size w w' := by
  by_cases h1 : op = 4
  · subst h1; exact fields_feed n s a len cap w hs
  by_cases h2 : op = 31
  · subst h2; exact fields_pick n s a len cap w hs
  by_cases h3 : op = 24
  · subst h3; exact fields_one n s a len cap w hs
  by_cases h4 : op = 1
  · subst h4; exact fields_num n s a len cap w hs
  by_cases h5 : op = 2
  · subst h5; exact fields_bool n s a len cap w hs
  by_cases h6 : op = 3
  · subst h6; exact fields_date n s a len cap w hs
  by_cases h7 : op = 29
  · subst h7; exact fields_at n s a len cap w hs
  by_cases h8 : op = 30
  · subst h8; exact fields_when n s a len cap w hs
  by_cases h9 : op = 5
  · subst h9; exact fields_now n s a len cap w hs
  exact fields_rest op n s a len cap w hs h1 h2 h3 h4 h5 h6 h7 h8 h9

end Go.Proofs.YtmjclolmoobfpaaDoor
