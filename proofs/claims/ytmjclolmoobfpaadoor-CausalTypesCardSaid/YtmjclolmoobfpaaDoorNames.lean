/-
  Plain laws of names' bytes (no program in sight).
-/
import Derived.WalkKit
import Derived.Lib.SlTrimSet
import Derived.Lib.Strings
namespace Go.Proofs.YtmjclolmoobfpaaDoor

/-- the bytes that a name may have behind its first one; a currency's letters -/
def innerS : ByteArray := ⟨#[97, 98, 99, 100, 101, 102, 103, 104, 105, 106, 107, 108, 109, 110, 111, 112, 113, 114, 115, 116, 117, 118, 119, 120, 121, 122, 48, 49, 50, 51, 52, 53, 54, 55, 56, 57, 95]⟩
def greatS : ByteArray := ⟨#[65, 66, 67, 68, 69, 70, 71, 72, 73, 74, 75, 76, 77, 78, 79, 80, 81, 82, 83, 84, 85, 86, 87, 88, 89, 90]⟩
def isInner (c : UInt8) : Bool := innerS.data.toList.contains c
def isGreat (c : UInt8) : Bool := greatS.data.toList.contains c

/-- a name's bytes -/
def nameL (l : List UInt8) : Bool := decide (l.length ≤ 24) && (decide (97 ≤ ((l.headD 0).toNat : Int)) && decide (((l.headD 0).toNat : Int) ≤ 122)) && l.all isInner
/-- a currency's -/
def curL (l : List UInt8) : Bool := decide (l.length = 3) && l.all isGreat

theorem dropWhile_nil {α : Type} (p : α → Bool) : ∀ l : List α, l.dropWhile p = [] ↔ l.all p = true
  | [] => by simp
  | a :: l => by
    rw [List.dropWhile_cons]
    cases h : p a
    · simp [h]
    · simp [h, dropWhile_nil p l]
theorem trim_nil (l cs : List UInt8) : Lib.trimS l cs = [] ↔ l.all (cs.contains ·) = true := by
  unfold Lib.trimS Lib.trimLeftS Lib.trimRightS
  rw [dropWhile_nil]
  constructor
  · intro h
    by_cases e : l.reverse.dropWhile (cs.contains ·) = []
    · rw [dropWhile_nil, List.all_reverse] at e; exact e
    · exfalso
      have k := List.head_dropWhile_not (p := (cs.contains ·)) e
      rw [List.all_reverse, List.all_eq_true] at h
      have := h _ (List.head_mem e)
      rw [this] at k
      cases k
  · intro h
    have e : l.reverse.dropWhile (cs.contains ·) = [] := by rw [dropWhile_nil, List.all_reverse]; exact h
    rw [e]; rfl
theorem trim_empty (l cs : List UInt8) : (Lib.trimS l cs).isEmpty = l.all (cs.contains ·) := by
  rw [Bool.eq_iff_iff, List.isEmpty_iff, trim_nil]
theorem size_list (s : ByteArray) : s.data.toList.length = s.size := by cases s; rfl
theorem head_list {s : ByteArray} (h : 0 < s.size) : s.data.toList.headD 0 = s[0] := by
  have : s.data.toList ≠ [] := fun e => by have := size_list s; rw [e] at this; simp at this; omega
  cases hl : s.data.toList with
  | nil => exact absurd hl this
  | cons a l =>
    have : s[0] = s.data.toList[0]'(by rw [size_list]; exact h) := rfl
    rw [this]; simp [hl]

/-- what an operation's kids are, and what it is, by letters -/
def sortTab : List (List UInt8) := [[], [62, 110], [62, 98], [62, 100], [62, 110], [62, 100], [110, 62, 110], [110, 110, 62, 110], [110, 110, 62, 110], [110, 110, 62, 110], [110, 110, 62, 110], [110, 110, 62, 98], [110, 110, 62, 98], [110, 110, 62, 98], [98, 62, 98], [98, 98, 62, 98], [98, 98, 62, 98], [100, 100, 62, 98], [100, 110, 62, 100], [100, 110, 62, 100], [100, 100, 62, 110], [100, 100, 62, 110], [98, 120, 120, 62, 120], [62, 99], [62, 99], [99, 62, 99], [110, 99, 62, 99], [99, 99, 62, 99], [98, 99, 99, 62, 99], [99, 62, 99], [98, 99, 62, 99], [99, 99, 62, 99]]
def sortL (op : Int) : List UInt8 := if op < 0 ∨ 32 ≤ op then [] else sortTab.getD op.toNat []

/-- between two bounds -/
def inB (n lo hi : Int) : Bool := decide (lo ≤ n) && decide (n ≤ hi)
/-- are N and S what an operation asks? -/
def fieldsB (op n : Int) (s : List UInt8) : Bool :=
  if op = 4 then nameL s && inB n (-3660) 3660
  else if op = 31 then nameL s && inB n 0 73048
  else if op = 24 then curL s && n == 0
  else if op = 1 then s.isEmpty && inB n (-1000000000000000) 1000000000000000
  else if op = 2 then s.isEmpty && inB n 0 1
  else if op = 3 ∨ op = 29 ∨ op = 30 then s.isEmpty && inB n 0 73048
  else if op = 5 then s.isEmpty && inB n (-3660) 3660
  else s.isEmpty && n == 0

end Go.Proofs.YtmjclolmoobfpaaDoor
