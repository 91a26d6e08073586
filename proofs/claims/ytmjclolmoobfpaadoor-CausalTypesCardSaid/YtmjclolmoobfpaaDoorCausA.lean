/-
  The walks of causal's small functions: the table of sorts, names, currencies, bounds, fields.
-/
import Derived.Test.YtmjclolmoobfpaaDoorTerm
import Derived.Test.YtmjclolmoobfpaaDoorNames
import Derived.Test.YtmjclolmoobfpaaDoorShelf
import Derived.Great.BuildSlice
import Derived.Great.Walk
import Derived.Shelf.Strings.SlTrimAscii
import Derived.WalkKit
import Derived.WalkSpells
import Derived.WalkLawsBesides
import Derived.IntWalk
import Derived.Lib.Hide
namespace Go.Proofs.YtmjclolmoobfpaaDoor
open Go.RowKit
set_option maxRecDepth 100000

theorem below1 (w : World) (o : Obj) : Below w.heap.size w (w.alloc o) := (Below.refl _ _).alloc (Nat.le_refl _) _
theorem ret_int {k : IntKind} {a b : Int} (h : a = b) : Ending.returned (.int k a) = .returned (.int k b) := by rw [h]
theorem ret_bool {a b : Bool} (h : a = b) : Ending.returned (.bool a) = .returned (.bool b) := by rw [h]

theorem trim_any (s cut : ByteArray) (w : World) (hs : s.size ≤ maxLen) (hc : cut.size < 4294967281) (ha : ∀ (j : Nat) (b : UInt8), cut.data.toList[j]? = some b → b.toNat < 128) :
    Calls Tryd.prog 68 #[.string s, .string cut] w fun e w' => e = .returned (.string ⟨(Lib.trimS s.data.toList cut.data.toList).toArray⟩) ∧ Below w.heap.size w w' :=
  Any.strings_Trim_laid Tryd.lays160 (by kernel_rfl) s cut w hs hc ha

set_option maxHeartbeats 400000 in
theorem within_any (n lo hi : Int) (w : World) :
    Calls Tryd.prog 51 #[.int .i64 n, .int .i64 lo, .int .i64 hi] w fun e w' => e = .returned (.bool (inB n lo hi)) ∧ w = w' := by
  go_enter Tryd.func51, Tryd.ntmps51
  go_wp2
  all_goals go_ret
  all_goals exact ⟨ret_bool (by unfold inB; rw [Bool.eq_iff_iff]; simp; omega), rfl⟩

theorem inner_ascii : ∀ (j : Nat) (b : UInt8), innerS.data.toList[j]? = some b → b.toNat < 128 := ascii_of_all (by decide)
theorem great_ascii : ∀ (j : Nat) (b : UInt8), greatS.data.toList[j]? = some b → b.toNat < 128 := ascii_of_all (by decide)
theorem empty_str {s : ByteArray} (h : ¬ 0 < s.size) : s = ⟨#[]⟩ := by
  cases s with
  | mk d => simp only [ByteArray.mk.injEq]; exact Array.eq_empty_of_size_eq_zero (by have : d.size = (ByteArray.mk d).size := rfl; omega)
theorem some_str {s : ByteArray} (h : 0 < s.size) : ¬ s.toList = [] ∧ s.toList.isEmpty = false := by
  have : s.toList ≠ [] := fun e => by rw [Lib.toList_data] at e; have := size_list s; rw [e] at this; simp at this; omega
  exact ⟨this, by simpa using this⟩

set_option maxHeartbeats 400000 in
theorem isName_any (s : ByteArray) (w : World) (hs : s.size ≤ maxLen) :
    Calls Tryd.prog 50 #[.string s] w fun e w' => e = .returned (.bool (nameL s.data.toList)) ∧ Below w.heap.size w w' := by
  have hm := hs
  unfold maxLen at hm
  by_cases h0 : ¬ 0 < s.size
  · rw [empty_str h0]
    go_enter Tryd.func50, Tryd.ntmps50
    go_wp2
    go_ret
    exact ⟨rfl, Below.refl _ _⟩
  have h0 : 0 < s.size := by omega
  obtain ⟨e1, e2⟩ := some_str h0
  have hh := Lib.hid (head_list h0)
  have hl := Lib.hid (size_list s)
  by_cases h1 : 24 < s.size
  · have e := Lib.hid (show nameL s.data.toList = false by unfold nameL; rw [hl.out, decide_eq_false (by omega)]; rfl)
    go_enter Tryd.func50, Tryd.ntmps50
    go_wp2
    go_ret
    exact ⟨ret_bool e.out.symm, Below.refl _ _⟩
  by_cases h2 : (s[0].toNat : Int) < 97
  · have e := Lib.hid (show nameL s.data.toList = false by unfold nameL; rw [hh.out, decide_eq_false (show ¬ (97 : Int) ≤ (s[0].toNat : Int) by omega)]; simp)
    go_enter Tryd.func50, Tryd.ntmps50
    go_wp2
    go_ret
    exact ⟨ret_bool e.out.symm, Below.refl _ _⟩
  by_cases h3 : 122 < (s[0].toNat : Int)
  · have e := Lib.hid (show nameL s.data.toList = false by unfold nameL; rw [hh.out, decide_eq_false (show ¬ (s[0].toNat : Int) ≤ 122 by omega)]; simp)
    go_enter Tryd.func50, Tryd.ntmps50
    go_wp2
    go_ret
    exact ⟨ret_bool e.out.symm, Below.refl _ _⟩
  · have e := Lib.hid (show nameL s.data.toList = (Lib.trimS s.data.toList innerS.data.toList).isEmpty by
      unfold nameL; rw [hh.out, hl.out, decide_eq_true (show s.size ≤ 24 by omega), decide_eq_true (show (97 : Int) ≤ (s[0].toNat : Int) by omega), decide_eq_true (show (s[0].toNat : Int) ≤ 122 by omega), trim_empty]; rfl)
    go_enter Tryd.func50, Tryd.ntmps50
    go_wp2_with (go_at_call 68; refine (trim_any _ _ _ hs (by decide) inner_ascii).mono ?_; rintro e w' ⟨rfl, hb⟩)
    go_ret
    exact ⟨ret_bool e.out.symm, hb⟩

set_option maxHeartbeats 400000 in
theorem isCur_any (s : ByteArray) (w : World) (hs : s.size ≤ maxLen) :
    Calls Tryd.prog 52 #[.string s] w fun e w' => e = .returned (.bool (curL s.data.toList)) ∧ Below w.heap.size w w' := by
  have hm := hs
  unfold maxLen at hm
  have hl := Lib.hid (size_list s)
  by_cases h1 : s.size = 3
  · have e := Lib.hid (show curL s.data.toList = (Lib.trimS s.data.toList greatS.data.toList).isEmpty by unfold curL; rw [hl.out, decide_eq_true h1, trim_empty]; rfl)
    go_enter Tryd.func52, Tryd.ntmps52
    go_wp2_with (go_at_call 68; refine (trim_any _ _ _ hs (by decide) great_ascii).mono ?_; rintro e w' ⟨rfl, hb⟩)
    go_ret
    exact ⟨ret_bool e.out.symm, hb⟩
  · have e := Lib.hid (show curL s.data.toList = false by unfold curL; rw [hl.out, decide_eq_false h1]; rfl)
    go_enter Tryd.func52, Tryd.ntmps52
    go_wp2_with (go_at_call 68; refine (trim_any _ _ _ hs (by decide) great_ascii).mono ?_; rintro e w' ⟨rfl, hb⟩)
    go_ret
    exact ⟨ret_bool e.out.symm, Below.refl _ _⟩

theorem heap_new (w : World) (o : Obj) : (w.alloc o).heap[w.heap.size]? = some o := by show (w.heap.push o)[w.heap.size]? = _; simp
theorem setRow_new (w : World) (old cs : Array Value) (t : TypeId) : (w.alloc (.cells old t)).setRow w.heap.size cs = w.alloc (.cells cs t) := by
  unfold World.setRow World.alloc
  simp only
  congr 1
  apply Array.ext
  · simp
  · intro i h1 h2
    simp only [Array.getElem_modify, Array.getElem_push]
    by_cases h : w.heap.size = i
    · subst h; simp
    · have hi : i < w.heap.size := by simp at h1; omega
      simp [h, hi]

/-- the table's cells -/
def sortCells : Array Value := (sortTab.map fun l => Value.string ⟨l.toArray⟩).toArray
theorem sort_at {op : Int} (h : 0 ≤ op) (h' : op < 32) : sortCells[op.toNat]? = some (.string ⟨(sortL op).toArray⟩) := by
  unfold sortCells
  rw [List.getElem?_toArray, List.getElem?_map]
  have hl : op.toNat < sortTab.length := by show _ < 32; omega
  unfold sortL
  rw [if_neg (by omega), List.getD_eq_getElem?_getD, List.getElem?_eq_getElem hl]
  rfl

set_option maxHeartbeats 400000 in
theorem sort_any (op : Int) (w : World) :
    Calls Tryd.prog 36 #[.int .i64 op] w fun e w' => e = .returned (.string ⟨(sortL op).toArray⟩) ∧ Below w.heap.size w w' := by
  by_cases h0 : op < 0
  · have e := Lib.hid (show sortL op = [] by unfold sortL; rw [if_pos (.inl h0)])
    go_enter Tryd.func36, Tryd.ntmps36
    iterate 11 (first | go_values | go_skip | go_guarded | go_step)
    refine wpList_buildTo rfl 61 _ rfl (some 4) rfl sortCells (by kernel_rfl) ?_
    refine Great.wpList_allocTo rfl (some 3) rfl (.pointer (some ⟨w.heap.size, 0, none⟩)) (.cells (Array.replicate 32 (.string ⟨#[]⟩)) 61) (by kernel_rfl) ?_
    refine wpList_store_rowTo rfl 61 _ _ rfl rfl w.heap.size sortCells (by kernel_rfl) (by kernel_rfl) 61 (Array.replicate 32 (.string ⟨#[]⟩)) (heap_new w _) (by kernel_rfl) (by kernel_rfl) (by kernel_rfl) ?_
    rw [setRow_new]
    go_wp2
    go_ret
    exact ⟨by rw [e.out]; rfl, below1 _ _⟩
  by_cases h1 : 32 ≤ op
  · have e := Lib.hid (show sortL op = [] by unfold sortL; rw [if_pos (.inr h1)])
    go_enter Tryd.func36, Tryd.ntmps36
    iterate 11 (first | go_values | go_skip | go_guarded | go_step)
    refine wpList_buildTo rfl 61 _ rfl (some 4) rfl sortCells (by kernel_rfl) ?_
    refine Great.wpList_allocTo rfl (some 3) rfl (.pointer (some ⟨w.heap.size, 0, none⟩)) (.cells (Array.replicate 32 (.string ⟨#[]⟩)) 61) (by kernel_rfl) ?_
    refine wpList_store_rowTo rfl 61 _ _ rfl rfl w.heap.size sortCells (by kernel_rfl) (by kernel_rfl) 61 (Array.replicate 32 (.string ⟨#[]⟩)) (heap_new w _) (by kernel_rfl) (by kernel_rfl) (by kernel_rfl) ?_
    rw [setRow_new]
    go_wp2
    go_ret
    exact ⟨by rw [e.out]; rfl, below1 _ _⟩
  · have hg := sort_at (op := op) (by omega) (by omega)
    go_enter Tryd.func36, Tryd.ntmps36
    iterate 11 (first | go_values | go_skip | go_guarded | go_step)
    refine wpList_buildTo rfl 61 _ rfl (some 4) rfl sortCells (by kernel_rfl) ?_
    refine Great.wpList_allocTo rfl (some 3) rfl (.pointer (some ⟨w.heap.size, 0, none⟩)) (.cells (Array.replicate 32 (.string ⟨#[]⟩)) 61) (by kernel_rfl) ?_
    refine wpList_store_rowTo rfl 61 _ _ rfl rfl w.heap.size sortCells (by kernel_rfl) (by kernel_rfl) 61 (Array.replicate 32 (.string ⟨#[]⟩)) (heap_new w _) (by kernel_rfl) (by kernel_rfl) (by kernel_rfl) ?_
    rw [setRow_new]
    go_wp2
    go_ret
    exact ⟨rfl, below1 _ _⟩

end Go.Proofs.YtmjclolmoobfpaaDoor
