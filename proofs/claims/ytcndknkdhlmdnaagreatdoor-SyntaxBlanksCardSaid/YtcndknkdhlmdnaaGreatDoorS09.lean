/-
  Texts that the statements' proofs rest on, one behind another: DayP, Toks, ShowD, ShowE, ShowJ, ShowF, ShowK, RefS, RefTk, RefNum, RefQ, RefU7, RefScan, ShowR, ShowS, ShowT, ShowU, ShowV, ShowW, ShowX, ShowN, ShowO, ShowP, ShowQ, ShowY, ShownLaw, ShowZ, PartsLaw, ShowL, ShowM, OpenN, OpenT, ParA, ParB, ParF.
-/
import Derived.Test.YtcndknkdhlmdnaaGreatDoorS08
import Derived.Test.YtcndknkdhlmdnaaGreatDoorS01
import Derived.Test.YtcndknkdhlmdnaaGreatDoorS04
import Derived.WalkKit
import Derived.Lib.Hide
import Derived.Deep.AppendLies
import Derived.Lib.LaidTab
import Derived.Test.YtcndknkdhlmdnaaGreatDoorS02
import Derived.Shelf.RegionOpenPlain
import Derived.Lib.CutLaws
import Derived.Shelf.Strings.SlTrimAscii
import Derived.Shelf.Abstract
import Derived.Test.YtcndknkdhlmdnaaGreatDoorS03
import Derived.Deep.RegionHeld3
import Derived.BigQuiet
import Derived.Laws.Cover3
import Derived.Test.YtcndknkdhlmdnaaGreatDoorS05
import Derived.Outline
import Derived.ChangeAt2
import Derived.WideShapes
import Derived.RegionTactic
import Derived.ChangeAlike

/-
  Days read from texts.
-/
namespace Go.Proofs.YtcndknkdhlmdnaaGreatDoor
open Go.RowKit
set_option maxRecDepth 100000

/-- what a text is read as -/
def readV (s : ByteArray) : Int := if s.size = 10 then rdV s else 0
def readE (s : ByteArray) : Int := if s.size = 10 then rdE s else 30
theorem parse_any (s : ByteArray) (w : World) :
    Calls Tryz.prog 179 #[.string s] w fun e w' => e = .returned (.tuple #[.int .i64 (readV s), .int .i64 (readE s)]) ∧ Below w.heap.size w w' := by
  unfold readV readE
  by_cases h : s.size = 10
  · rw [if_pos h, if_pos h]; exact parse_ten s w h
  · rw [if_neg h, if_neg h]; exact parse_len s w h
/-- a day's number, or none, as the program tells it -/
theorem day_read (s : ByteArray) : (∃ v, dayP s.data.toList = some v ∧ readV s = v ∧ readE s = 0) ∨ (dayP s.data.toList = none ∧ readE s = 30) := by
  have hsz : s.data.toList.length = s.size := size_list s
  unfold readV readE dayP
  by_cases h : s.size = 10
  · rw [if_pos h, if_pos h]
    unfold rdV rdE ofV ofE
    by_cases f : ∀ j (hj : j < s.data.toList.length), Cal.fits j s.data.toList[j] = true
    · rw [if_pos f, if_pos f]
      by_cases o : Cal.ok (Cal.val (Cal.seg s.data.toList 0 4)) (Cal.val (Cal.seg s.data.toList 5 7)) (Cal.val (Cal.seg s.data.toList 8 10))
      · rw [if_pos o, if_pos o, if_pos ⟨hsz.trans h, f, o⟩]
        exact .inl ⟨_, rfl, rfl, rfl⟩
      · rw [if_neg (fun g => o g.2.2), if_neg o]
        exact .inr ⟨rfl, if_neg o⟩
    · rw [if_neg (fun g => f g.2.1)]
      exact .inr ⟨rfl, if_neg f⟩
  · rw [if_neg h, if_neg h, if_neg (fun g => h (hsz.symm.trans g.1))]
    exact .inr ⟨rfl, rfl⟩
end Go.Proofs.YtcndknkdhlmdnaaGreatDoor

/-
  Tokens in memory.
-/
namespace Go.Proofs.YtcndknkdhlmdnaaGreatDoor
open Go.RowKit

/-- a token's cells -/
def tkCells (t : Tk) : List Value := [.int .i64 t.kind, .string ⟨t.text.toArray⟩, .int .i64 t.n, .int .i64 t.pos]
def tksCells (ts : List Tk) : List Value := ts.flatMap tkCells
theorem tks_snoc (ts : List Tk) (t : Tk) : tksCells (ts ++ [t]) = tksCells ts ++ tkCells t := by unfold tksCells; simp
theorem tks_get : ∀ (ts : List Tk) (j : Nat) (hj : j < ts.length) (i : Nat) (_ : i < 4), (tksCells ts)[j * 4 + i]? = (tkCells ts[j])[i]?
  | t :: ts, 0, _, i, hi => by
    unfold tksCells
    rw [List.flatMap_cons, Nat.zero_mul, Nat.zero_add, List.getElem?_append_left (by exact hi)]
    rfl
  | t :: ts, j + 1, hj, i, hi => by
    have := tks_get ts j (by simpa using hj) i hi
    unfold tksCells at this ⊢
    rw [List.flatMap_cons, List.getElem?_append_right (by show 4 ≤ _; omega)]
    rw [show (j + 1) * 4 + i - (tkCells t).length = j * 4 + i by show (j + 1) * 4 + i - 4 = _; omega]
    exact this
/-- memory holds tokens, from a place on -/
def Toks (W : World) (b off : Nat) (ts : List Tk) : Prop := ∀ j (hj : j < ts.length), W.cell? ⟨b, off + j * 4, none⟩ = some (.int .i64 ts[j].kind) ∧ W.cell? ⟨b, off + j * 4 + 1, none⟩ = some (.string ⟨ts[j].text.toArray⟩) ∧ W.cell? ⟨b, off + j * 4 + 2, none⟩ = some (.int .i64 ts[j].n) ∧ W.cell? ⟨b, off + j * 4 + 3, none⟩ = some (.int .i64 ts[j].pos)
theorem Toks.below {n₀ : Nat} {W W' : World} {b off : Nat} {ts : List Tk} (h : Toks W b off ts) (hb : Below n₀ W W') (hl : b < n₀) : Toks W' b off ts := fun j hj => by
  obtain ⟨h0, h1, h2, h3⟩ := h j hj
  exact ⟨(hb.cell (p := ⟨b, off + j * 4, none⟩) hl).trans h0, (hb.cell (p := ⟨b, off + j * 4 + 1, none⟩) hl).trans h1, (hb.cell (p := ⟨b, off + j * 4 + 2, none⟩) hl).trans h2, (hb.cell (p := ⟨b, off + j * 4 + 3, none⟩) hl).trans h3⟩
theorem Toks.of_row {base T : Nat} {W : World} {g cap : Nat} {ts : List Tk} (h : W.ownsRow base T 4 (.slice (some ⟨g, 0, none⟩) ts.length cap) ts.length (tksCells ts)) : Toks W g 0 ts := by
  have hc := h.cells (g := g) rfl
  intro j hj
  have q : ∀ i, i < 4 → ∀ u, (tkCells ts[j])[i]? = some u → W.cell? ⟨g, 0 + j * 4 + i, none⟩ = some u := fun i hi u hu => by
    have := hc (j * 4 + i) u (by rw [tks_get ts j hj i hi]; exact hu)
    rw [Go.WideShapes.add_plain] at this
    rw [Nat.add_assoc]
    exact this
  exact ⟨q 0 (by decide) _ rfl, q 1 (by decide) _ rfl, q 2 (by decide) _ rfl, q 3 (by decide) _ rfl⟩
theorem cells4_new (W : World) (T : TypeId) (v0 v1 v2 v3 : Value) : ∀ j u, [v0, v1, v2, v3][j]? = some u → (W.alloc (.cells #[v0, v1, v2, v3] T)).cell? ((⟨W.heap.size, 0, none⟩ : Addr).add j) = some u := by
  intro j u h
  rw [Go.WideShapes.add_plain, Nat.zero_add]
  have h' : (W.alloc (.cells #[v0, v1, v2, v3] T)).heap[W.heap.size]? = some (.cells #[v0, v1, v2, v3] T (0, 0)) := by show (W.heap.push _)[W.heap.size]? = _; simp
  rw [World.cell?]
  simp only [h']
  match j, h with
  | 0, h => exact h
  | 1, h => exact h
  | 2, h => exact h
  | 3, h => exact h
theorem tk_one (t : Tk) : ∀ u ∈ tkCells t, u.oneCell' = true := by
  intro u hu
  unfold tkCells at hu
  simp only [List.mem_cons, List.not_mem_nil, or_false] at hu
  rcases hu with rfl | rfl | rfl | rfl <;> rfl
theorem own_below {W W' : World} {B T k : Nat} {v : Value} {n : Nat} {xs : List Value} (h : W.ownsRow B T k v n xs) (hb : Below W.heap.size W W') : W'.ownsRow B T k v n xs :=
  h.kept (row := none) ⟨hb.os, hb.tape, hb.output, hb.size, fun i hi _ => hb.block i hi⟩ (by cases hv : v.ownBlock <;> simp)
end Go.Proofs.YtcndknkdhlmdnaaGreatDoor

/-
  show's names: isInner, isName, isNear, isAny, isCur.
-/
namespace Go.Proofs.YtcndknkdhlmdnaaGreatDoor
open Go.RowKit Go.Shelf
set_option maxRecDepth 100000

theorem below_drewN (w : World) (n : Nat) : Below w.heap.size w (w.drewN n) := ⟨rfl, rfl, rfl, Nat.le_refl _, fun _ _ => rfl⟩
theorem trim_any (s cut : ByteArray) (w : World) (hs : s.size ≤ maxLen) (hc : cut.size < 4294967281) (ha : ∀ (j : Nat) (b : UInt8), cut.data.toList[j]? = some b → b.toNat < 128) :
    Calls Tryz.prog 171 #[.string s, .string cut] w fun e w' => e = .returned (.string ⟨(Lib.trimS s.data.toList cut.data.toList).toArray⟩) ∧ Below w.heap.size w w' :=
  Any.strings_Trim_laid Tryz.lays160 (by kernel_rfl) s cut w hs hc ha
theorem empty_str {s : ByteArray} (h : ¬ 0 < s.size) : s = ⟨#[]⟩ := by
  cases s with
  | mk d => simp only [ByteArray.mk.injEq]; exact Array.eq_empty_of_size_eq_zero (by have : d.size = (ByteArray.mk d).size := rfl; omega)
set_option maxHeartbeats 1000000 in
theorem lcut_any (s : ByteArray) (w : World) (hs : s.size ≤ maxLen) :
    Calls Tryz.prog 172 #[.string s, .string ⟨#[46]⟩] w fun e w' => e = .returned (.tuple #[.string ⟨(Lib.cut s.data.toList [46]).1.toArray⟩, .string ⟨(Lib.cut s.data.toList [46]).2.1.toArray⟩, .bool (Lib.cut s.data.toList [46]).2.2]) ∧ Below w.heap.size w w' := by
  have hm : s.size ≤ 9223372036854775807 := hs
  have mixed : Tryz.prog.follows .mixedOrders = true := by kernel_rfl
  have hio : Lib.indexByte s.data.toList 46 = Lib.indexB s ⟨#[46]⟩ := (Lib.index_one _ _).symm
  rcases Lib.indexB_cases s ⟨#[46]⟩ with hix | ⟨i, hix, hroom⟩
  · obtain ⟨e1, e2, e3⟩ := Lib.cutB_miss s ⟨#[46]⟩ hix
    replace e1 : (⟨(Lib.cut s.data.toList [46]).1.toArray⟩ : ByteArray) = s := e1
    replace e2 : (⟨(Lib.cut s.data.toList [46]).2.1.toArray⟩ : ByteArray) = ByteArray.empty := e2
    replace e3 : (Lib.cut s.data.toList [46]).2.2 = false := e3
    rw [e1, e2, e3]
    clear e1 e2 e3
    go_enter Tryz.func172, Tryz.ntmps172
    go_wp2_with (go_at_call 138; refine (Tryz.stringslite_Index_one s 46 _).mono ?_; rintro e w' ⟨rfl, rfl⟩; rw [hio, hix])
    go_ret3
    exact ⟨rfl, Below.refl _ _⟩
  · obtain ⟨e1, e2, e3⟩ := Lib.cutB_hit s ⟨#[46]⟩ i hix
    replace e1 : (⟨(Lib.cut s.data.toList [46]).1.toArray⟩ : ByteArray) = s.extract 0 i := e1
    replace e2 : (⟨(Lib.cut s.data.toList [46]).2.1.toArray⟩ : ByteArray) = s.extract (i + 1) s.size := e2
    replace e3 : (Lib.cut s.data.toList [46]).2.2 = true := e3
    rw [e1, e2, e3]
    clear e1 e2 e3
    replace hroom : i + 1 ≤ s.size := hroom
    have c1 : (0 : Int) ≤ ↑i := by omega
    have c2 : (↑i : Int) ≤ ↑s.size := by omega
    have c3 : (0 : Int) ≤ ↑i + 1 := by omega
    have c4 : (↑i + 1 : Int) ≤ ↑s.size := by omega
    go_enter Tryz.func172, Tryz.ntmps172
    go_wp2_with (go_at_call 138; refine (Tryz.stringslite_Index_one s 46 _).mono ?_; rintro e w' ⟨rfl, rfl⟩; rw [hio, hix])
    go_region_o
    go_wp2
    go_ret3
    exact ⟨rfl, below_drewN _ 1⟩
set_option maxHeartbeats 1000000 in
theorem cut_any (s : ByteArray) (w : World) (hs : s.size ≤ maxLen) :
    Calls Tryz.prog 142 #[.string s, .string ⟨#[46]⟩] w fun e w' => e = .returned (.tuple #[.string ⟨(Lib.cut s.data.toList [46]).1.toArray⟩, .string ⟨(Lib.cut s.data.toList [46]).2.1.toArray⟩, .bool (Lib.cut s.data.toList [46]).2.2]) ∧ Below w.heap.size w w' := by
  go_enter Tryz.func142, Tryz.ntmps142
  go_wp2_with (go_at_call 172; refine (lcut_any s _ hs).mono ?_; rintro e w' ⟨rfl, hb⟩)
  go_ret3
  exact ⟨rfl, hb⟩
end Go.Proofs.YtcndknkdhlmdnaaGreatDoor

/-
  usanceref07.IsWord and usanceref09's names: IsNear, IsFar, sign, kids, worded, numbered.
-/
namespace Go.Proofs.YtcndknkdhlmdnaaGreatDoor
open Go.RowKit Go.Shelf
set_option maxRecDepth 100000

def strV (l : List UInt8) : Value := .string ⟨l.toArray⟩
theorem row_cell (w : World) (L : List (List UInt8)) (t : TypeId) (k : Nat) (hk : k < L.length) : (w.alloc (.cells (L.map strV).toArray t)).cell? ⟨w.heap.size, k, none⟩ = some (strV L[k]) := by
  have h : (w.alloc (.cells (L.map strV).toArray t)).heap[w.heap.size]? = some (.cells (L.map strV).toArray t) := by show (w.heap.push _)[w.heap.size]? = _; simp
  rw [Lib.cell_of_heap h]
  simp [hk]
end Go.Proofs.YtcndknkdhlmdnaaGreatDoor

/-
  show's forms: how each is written.
-/
namespace Go.Proofs.YtcndknkdhlmdnaaGreatDoor
open Go.RowKit Go.Shelf
set_option maxRecDepth 100000

end Go.Proofs.YtcndknkdhlmdnaaGreatDoor

/-
  usanceref09: IsFar, kids, worded, numbered.
-/
namespace Go.Proofs.YtcndknkdhlmdnaaGreatDoor
open Go.RowKit Go.Shelf
set_option maxRecDepth 100000

end Go.Proofs.YtcndknkdhlmdnaaGreatDoor

/-
  show's forms: each form's method writes its text.
-/
namespace Go.Proofs.YtcndknkdhlmdnaaGreatDoor
open Go.RowKit Go.Shelf
set_option maxRecDepth 100000

end Go.Proofs.YtcndknkdhlmdnaaGreatDoor

/-
  usanceref07's scanner: the tokens that a text begins with.
-/
namespace Go.Proofs.YtcndknkdhlmdnaaGreatDoor
open Go.RowKit
set_option maxRecDepth 100000

theorem ext_list (s : ByteArray) (a b : Nat) : (s.extract a b).data.toList = (s.data.toList.drop a).take (b - a) := by
  have : (s.extract a b).data = s.data.extract a b := by simp
  rw [this, Array.toList_extract]
theorem ext_eq (s : ByteArray) (a b : Nat) : s.extract a b = ⟨((s.data.toList.drop a).take (b - a)).toArray⟩ := by
  rw [← ext_list]
theorem ext_size (s : ByteArray) (a b : Nat) (h : b ≤ s.size) : (s.extract a b).size = b - a := by
  rw [← size_list, ext_list, List.length_take, List.length_drop, size_list]; omega
theorem head_drop {s : ByteArray} {k : Nat} (h : k < s.size) : (s.data.toList.drop k).headD 0 = s[k] := by rw [drop_at h]; rfl
theorem head_end {s : ByteArray} {k : Nat} (h : s.size ≤ k) : (s.data.toList.drop k).headD 0 = 0 := by rw [drop_end h]; rfl
theorem u8_int {c : UInt8} {n : Nat} (hn : n < 256) : ((c.toNat : Int) = n) ↔ c = UInt8.ofNat n := by
  constructor
  · intro h
    have : c.toNat = n := by omega
    rw [← this]; simp
  · rintro rfl; simp; omega
end Go.Proofs.YtcndknkdhlmdnaaGreatDoor

/-
  usanceref07's scanner: names, numbers, strings.
-/
namespace Go.Proofs.YtcndknkdhlmdnaaGreatDoor
open Go.RowKit
set_option maxRecDepth 100000

/-- a token as the program's value -/
def tkV (t : Tk) : Value := .agg #[.int .i64 t.kind, .string ⟨t.text.toArray⟩, .int .i64 t.n, .int .i64 t.pos]
theorem below4 {B : Nat} {w w' : World} (h : Below B w w') (v0 v1 v2 v3 : Value) : Below B w ((((w'.setCell ⟨B, 0, none⟩ v0).setCell ⟨B, 1, none⟩ v1).setCell ⟨B, 2, none⟩ v2).setCell ⟨B, 3, none⟩ v3) :=
  (((h.setCell (p := ⟨B, 0, none⟩) (Nat.le_refl _) _).setCell (p := ⟨B, 1, none⟩) (Nat.le_refl _) _).setCell (p := ⟨B, 2, none⟩) (Nat.le_refl _) _).setCell (p := ⟨B, 3, none⟩) (Nat.le_refl _) _
theorem span_drop_le (s : ByteArray) (a : Nat) : spanL (s.data.toList.drop a) ≤ s.size - a := by
  have := spanL_le (s.data.toList.drop a)
  rwa [List.length_drop, size_list] at this
end Go.Proofs.YtcndknkdhlmdnaaGreatDoor

/-
  usanceref07's scanner: numbers and dates.
-/
namespace Go.Proofs.YtcndknkdhlmdnaaGreatDoor
open Go.RowKit
set_option maxRecDepth 100000

def grI (n : Int) : Bool := decide (65 ≤ n) && decide (n ≤ 90)
theorem u8_eq (c : UInt8) (n : Nat) (hn : n < 256) : ((c.toNat : Int) == n) = (c == UInt8.ofNat n) := by
  rw [Bool.eq_iff_iff, beq_iff_eq, beq_iff_eq, u8_int hn]
end Go.Proofs.YtcndknkdhlmdnaaGreatDoor

/-
  usanceref07's scanner: strings; the token at a place.
-/
namespace Go.Proofs.YtcndknkdhlmdnaaGreatDoor
open Go.RowKit
set_option maxRecDepth 100000

theorem quoC_eq (c : UInt8) : quoC c = ((c.toNat : Int) != 34 && (c.toNat : Int) != 10) := by
  unfold quoC bne
  rw [show ((c.toNat : Int) == 34) = (c == 34) from u8_eq c 34 (by decide), show ((c.toNat : Int) == 10) = (c == 10) from u8_eq c 10 (by decide)]
end Go.Proofs.YtcndknkdhlmdnaaGreatDoor

/-
  usanceref07's scanner: the token at a place.
-/
namespace Go.Proofs.YtcndknkdhlmdnaaGreatDoor
open Go.RowKit
set_option maxRecDepth 100000

theorem tok_eq (c : UInt8) (r : List UInt8) (pos : Int) : tokS c r pos = if smI c.toNat = true then namedS (c :: r) pos else if dgI c.toNat = true then numS (c :: r) pos else if (c.toNat : Int) = 34 then quotS r pos else if grI c.toNat = true then curS (c :: r) pos else markS c r pos := by
  unfold tokS
  rw [dgC_I]
  have e : (c = 34) = ((c.toNat : Int) = 34) := propext ((u8_int (c := c) (n := 34) (by decide)).symm)
  simp only [e]
  rfl
theorem mark_eq (c : UInt8) (r : List UInt8) (pos : Int) : markS c r pos = if (c.toNat : Int) = 60 ∧ ((r.headD 0).toNat : Int) = 61 then .ok (⟨8, [60, 61], 0, pos⟩, 2) else if markTab.contains c = true then .ok (⟨8, [c], 0, pos⟩, 1) else .error 71 := by
  unfold markS
  have e : (c = 60) = ((c.toNat : Int) = 60) := propext ((u8_int (c := c) (n := 60) (by decide)).symm)
  have e' : (r.headD 0 = 61) = (((r.headD 0).toNat : Int) = 61) := propext ((u8_int (c := r.headD 0) (n := 61) (by decide)).symm)
  simp only [e, e']
end Go.Proofs.YtcndknkdhlmdnaaGreatDoor

/-
  usanceref07.Scan.
-/
namespace Go.Proofs.YtcndknkdhlmdnaaGreatDoor
open Go.RowKit
set_option maxRecDepth 100000

theorem u8_le (c : UInt8) : (c.toNat ≤ 32) ↔ ((c.toNat : Int) ≤ 32) := by omega
end Go.Proofs.YtcndknkdhlmdnaaGreatDoor

/-
  usanceref09: which expressions are right.
-/
namespace Go.Proofs.YtcndknkdhlmdnaaGreatDoor
open Go.RowKit
set_option maxRecDepth 100000

end Go.Proofs.YtcndknkdhlmdnaaGreatDoor

/-
  usanceref09: a right expression's form; parts and lists of forms, by the forms of the kids.
-/
namespace Go.Proofs.YtcndknkdhlmdnaaGreatDoor
open Go.RowKit
set_option maxRecDepth 100000

end Go.Proofs.YtcndknkdhlmdnaaGreatDoor

/-
  usanceref09: a right expression's form.
-/
namespace Go.Proofs.YtcndknkdhlmdnaaGreatDoor
open Go.RowKit
set_option maxRecDepth 100000

end Go.Proofs.YtcndknkdhlmdnaaGreatDoor

/-
  usanceref09: a right expression's form: signs, words, if.
-/
namespace Go.Proofs.YtcndknkdhlmdnaaGreatDoor
open Go.RowKit
set_option maxRecDepth 100000

end Go.Proofs.YtcndknkdhlmdnaaGreatDoor

/-
  usanceref09: a right expression's form, of whatever kind.
-/
namespace Go.Proofs.YtcndknkdhlmdnaaGreatDoor
open Go.RowKit
set_option maxRecDepth 100000

end Go.Proofs.YtcndknkdhlmdnaaGreatDoor

/-
  usanceref09: which modules are right.
-/
namespace Go.Proofs.YtcndknkdhlmdnaaGreatDoor
open Go.RowKit
set_option maxRecDepth 100000

end Go.Proofs.YtcndknkdhlmdnaaGreatDoor

/-
  usanceref09: which modules are right: Right; Expr.
-/
namespace Go.Proofs.YtcndknkdhlmdnaaGreatDoor
open Go.RowKit
set_option maxRecDepth 100000

end Go.Proofs.YtcndknkdhlmdnaaGreatDoor

/-
  show.plain: the form of a node without kids.
-/
namespace Go.Proofs.YtcndknkdhlmdnaaGreatDoor
open Go.RowKit Go.Shelf
set_option maxRecDepth 100000

end Go.Proofs.YtcndknkdhlmdnaaGreatDoor

/-
  show.expr's memory: the forms of the kids ahead, and the row that they lie in.
-/
namespace Go.Proofs.YtcndknkdhlmdnaaGreatDoor
open Go.RowKit Go.Shelf
set_option maxRecDepth 100000

end Go.Proofs.YtcndknkdhlmdnaaGreatDoor

/-
  show.expr: an expression's form.
-/
namespace Go.Proofs.YtcndknkdhlmdnaaGreatDoor
open Go.RowKit Go.Shelf
set_option maxRecDepth 100000

end Go.Proofs.YtcndknkdhlmdnaaGreatDoor

/-
  show.whole, show.RightExpr, show.Expr.
-/
namespace Go.Proofs.YtcndknkdhlmdnaaGreatDoor
open Go.RowKit Go.Shelf
set_option maxRecDepth 100000

end Go.Proofs.YtcndknkdhlmdnaaGreatDoor

/-
  usanceref09: expressions and modules written.
-/
namespace Go.Proofs.YtcndknkdhlmdnaaGreatDoor
open Go.RowKit
set_option maxRecDepth 100000

end Go.Proofs.YtcndknkdhlmdnaaGreatDoor

/-
  The text that each law of layer 9 begins with: its tokens, its tree, its form (no program in sight).
-/
namespace Go.Proofs.YtcndknkdhlmdnaaGreatDoor
open Go.RowKit

def shownL : List UInt8 := [97, 32, 45, 32, 98, 32, 45, 32, 49, 46, 53]
def shownK : List Tk := [⟨1, [97], 0, 0⟩, ⟨8, [45], 0, 2⟩, ⟨1, [98], 0, 4⟩, ⟨8, [45], 0, 6⟩, ⟨6, [], 1500000, 8⟩, ⟨0, [], 0, 11⟩]
def shownA : Nd := mkN 13 [45] 0 [mkN 10 [97] 0 [] 0, mkN 10 [98] 0 [] 4] 2
def shownN : Nd := mkN 13 [45] 0 [shownA, mkN 5 [] 1500000 [] 8] 6
theorem shown_scan : scanT shownL = .ok shownK := by kernel_rfl
theorem shown_read : rd .expr 0 shownK = .ok (shownN, [⟨0, [], 0, 11⟩]) := by kernel_rfl
end Go.Proofs.YtcndknkdhlmdnaaGreatDoor

/-
  show: a bare node; the first kid that is none.
-/
namespace Go.Proofs.YtcndknkdhlmdnaaGreatDoor
open Go.RowKit Go.Shelf
set_option maxRecDepth 100000

end Go.Proofs.YtcndknkdhlmdnaaGreatDoor

/-
  ShowParts: a call's form, an if's form, by the kids' forms (no program in sight).
-/
namespace Go.Proofs.YtcndknkdhlmdnaaGreatDoor

end Go.Proofs.YtcndknkdhlmdnaaGreatDoor

/-
  show.let: a definition written.
-/
namespace Go.Proofs.YtcndknkdhlmdnaaGreatDoor
open Go.RowKit Go.Shelf
set_option maxRecDepth 100000

end Go.Proofs.YtcndknkdhlmdnaaGreatDoor

/-
  show.Module, show.Right: a module written.
-/
namespace Go.Proofs.YtcndknkdhlmdnaaGreatDoor
open Go.RowKit Go.Shelf
set_option maxRecDepth 100000

end Go.Proofs.YtcndknkdhlmdnaaGreatDoor

/-
  What comes in is a tree, and no text of it is too long for memory.
-/
namespace Go.Proofs.YtcndknkdhlmdnaaGreatDoor
open Go.ChangeShapes Go.WideShapes Go.ChangeAt Go.RowKit
set_option maxRecDepth 100000

theorem weights_each {H : Type} {P : Program} {p : Nat → Bool} : ∀ (ts : List TypeId) (ds : List (DataW H)), (DataW.weightsEach P ts ds).all p = true → ∀ (j : Nat) (t : TypeId) (d : DataW H), ts[j]? = some t → ds[j]? = some d → (d.weights P t).all p = true
  | [], _, _, j, t, d, ht, _ => by cases ht
  | _ :: _, [], _, j, t, d, _, hd => by cases hd
  | u :: ts, x :: ds, h, j, t, d, ht, hd => by
    rw [DataW.weightsEach, List.all_append, Bool.and_eq_true] at h
    cases j with
    | zero => cases ht; cases hd; exact h.1
    | succ j => exact weights_each ts ds h.2 j t d (by simpa using ht) (by simpa using hd)
end Go.Proofs.YtcndknkdhlmdnaaGreatDoor

/-
  The table of powers, off the laid list.
-/
namespace Go.Proofs.YtcndknkdhlmdnaaGreatDoor
open Go.ChangeShapes Go.WideShapes Go.ChangeAt Go.RowKit
set_option maxRecDepth 100000

end Go.Proofs.YtcndknkdhlmdnaaGreatDoor

/-
  usanceref07's parser: what it holds in memory; the token that stands next.
-/
namespace Go.Proofs.YtcndknkdhlmdnaaGreatDoor
open Go.RowKit
set_option maxRecDepth 100000

section
variable {P g cap : Nat} {ts : List Tk} {a : Nat} {n c f : Int} {W W' : World}
end
theorem grown_set (W : World) (P i : Nat) (v : Value) : W.grownBy (W.setCell ⟨P, i, none⟩ v) (some P) :=
  ⟨rfl, rfl, rfl, by simp [World.setCell], fun k _ hk => Below.heap_setCell _ _ _ _ (fun e => hk (by simpa using e))⟩
theorem grown_of {W W' : World} {r : Option Nat} (h : Below W.heap.size W W') : W.grownBy W' r := ⟨h.os, h.tape, h.output, h.size, fun k hk _ => h.block k hk⟩
theorem grown_trans {A B C : World} {r : Option Nat} (h : A.grownBy B r) (k : B.grownBy C r) : A.grownBy C r :=
  ⟨k.os.trans h.os, k.tape.trans h.tape, k.output.trans h.output, Nat.le_trans h.size k.size, fun i hi hr => (k.block i (Nat.lt_of_lt_of_le hi h.size) hr).trans (h.block i hi hr)⟩
theorem pgrown_below {A B C : World} {r : Option Nat} (h : A.grownBy B r) (k : Below A.heap.size B C) : A.grownBy C r :=
  ⟨k.os.trans h.os, k.tape.trans h.tape, k.output.trans h.output, Nat.le_trans h.size k.size, fun i hi hr => (k.block i hi).trans (h.block i hi hr)⟩
theorem bdrew {B : Nat} {w w' : World} (h : Below B w w') : Below B w w'.drew := ⟨h.os, h.tape, h.output, h.size, h.block⟩
/-- tokens from a place on -/
theorem hd_drop {ts : List Tk} {a : Nat} (h : a < ts.length) : hd (ts.drop a) = ts[a] := by
  unfold hd
  rw [List.drop_eq_getElem_cons h]; rfl
/-- is it this word or sign? -/
theorem isT_at {ts : List Tk} {a : Nat} (h : a < ts.length) (x : List UInt8) : isT x (ts.drop a) = ((ts[a].kind == 2 || ts[a].kind == 8) && ts[a].text == x) := by
  unfold isT; rw [hd_drop h]
/-- a well-formed row of tokens: an end, and none but at the end -/
def Ends (ts : List Tk) : Prop := ∀ j (hj : j < ts.length), ts[j].kind ≠ 0 → j + 1 < ts.length
theorem stepL_drop {ts : List Tk} {a : Nat} (h : a < ts.length) (hk : ts[a].kind ≠ 0) : stepL (ts.drop a) = ts.drop (a + 1) := by
  unfold stepL
  rw [hd_drop h, if_neg hk, List.tail_drop]
theorem stepL_end {ts : List Tk} {a : Nat} (h : a < ts.length) (hk : ts[a].kind = 0) : stepL (ts.drop a) = ts.drop a := by
  unfold stepL
  rw [hd_drop h, if_pos hk]
end Go.Proofs.YtcndknkdhlmdnaaGreatDoor

/-
  usanceref07's parser: the first fault; what must stand next; how deep.
-/
namespace Go.Proofs.YtcndknkdhlmdnaaGreatDoor
open Go.RowKit
set_option maxRecDepth 100000

/-- where a reading stands: what is left of the tokens, or what is wrong, and where -/
abbrev Sx := Except (Int × Int) (List Tk)
def wantX (x : List UInt8) (σ : Sx) : Sx := match σ with
  | .ok r => if isT x r = true then .ok (stepL r) else .error (74, (hd r).pos)
  | .error e => .error e
def kindX (k : Int) (σ : Sx) : Sx := match σ with
  | .ok r => if (hd r).kind = k then .ok (stepL r) else .error (74, (hd r).pos)
  | .error e => .error e
end Go.Proofs.YtcndknkdhlmdnaaGreatDoor

/-
  Reading, told by where it stands (no program in sight).
-/
namespace Go.Proofs.YtcndknkdhlmdnaaGreatDoor
open Go.RowKit

/-- reading on, if nothing is wrong yet -/
def goX (σ : Sx) (f : List Tk → Rd) : Rd := match σ with
  | .ok r => f r
  | .error e => .error e
theorem kind_go (σ : Sx) (k : Int) (f : Tk → List Tk → Rd) (T : Tk) (h : ∀ r, σ = .ok r → T = hd r) : goX σ (fun r => kindT k r f) = goX (kindX k σ) (f T) := by
  cases σ with
  | error e => rfl
  | ok r =>
    show kindT k r f = goX (if (hd r).kind = k then .ok (stepL r) else .error (74, (hd r).pos)) (f T)
    obtain rfl := h r rfl
    unfold kindT
    split <;> rfl
theorem kind_inv {k : Int} {σ : Sx} {r : List Tk} (h : kindX k σ = .ok r) : ∃ r', σ = .ok r' ∧ (hd r').kind = k ∧ r = stepL r' := by
  cases σ with
  | error e => cases h
  | ok r' =>
    replace h : (if (hd r').kind = k then .ok (stepL r') else .error (74, (hd r').pos) : Sx) = .ok r := h
    split at h
    · rename_i c; cases h; exact ⟨r', rfl, c, rfl⟩
    · cases h
/-- these blocks are as they were -/
def KeepsV (av : Nat → Prop) (W W' : World) : Prop := ∀ b, av b → W'.heap[b]? = W.heap[b]?
theorem KeepsV.refl (av : Nat → Prop) (W : World) : KeepsV av W W := fun _ _ => rfl
theorem KeepsV.set {av : Nat → Prop} {A B : World} (h : KeepsV av A B) {c : Nat} (hc : ∀ b, av b → b ≠ c) (i : Nat) (v : Value) : KeepsV av A (B.setCell ⟨c, i, none⟩ v) := fun b hb => (Below.heap_setCell _ _ _ _ (hc b hb)).trans (h b hb)
theorem lies_move {av av' : Nat → Prop} {W W' : World} {t : Nd} {a : Option Addr} {cp : Nat} (h : t.lies av W a cp) (hk : KeepsV av W W') (ha : ∀ b, av b → av' b) : t.lies av' W' a cp :=
  Nd.lies.kept (fun b hb => ⟨ha b hb, fun _ => World.cell?_of_block (hk b hb)⟩) t h
/-- blocks made since -/
def Fr (lo hi : Nat) (b : Nat) : Prop := lo ≤ b ∧ b < hi
/-- a node in a block of its own -/
def NBox (b : Nat) (t : Nd) (a : Option Addr) (cp : Nat) (W : World) : Prop := W.heap[b]? = some (.cells #[.int .i64 t.kind, .string t.text, .int .i64 t.n, .slice a t.kids.length cp, .int .i64 t.place] 24 (0, 0))
def nd0 : Nd := .mk 0 ⟨#[]⟩ 0 [] 0
section
variable {b : Nat} {t : Nd} {k : Tk} {a : Option Addr} {cp : Nat} {W W' : World}
theorem NBox.lt (h : NBox b t a cp W) : b < W.heap.size := (Array.getElem?_eq_some_iff.1 h).1
theorem NBox.cells (h : NBox b t a cp W) : (W.cell? ⟨b, 0, none⟩ = some (.int .i64 t.kind) ∧ W.cell? ⟨b, 1, none⟩ = some (.string t.text) ∧ W.cell? ⟨b, 2, none⟩ = some (.int .i64 t.n) ∧ W.cell? ⟨b, 3, none⟩ = some (.slice a t.kids.length cp) ∧ W.cell? ⟨b, 4, none⟩ = some (.int .i64 t.place)) ∧
    (W.frozen? ⟨b, 0, none⟩ = false ∧ W.frozen? ⟨b, 1, none⟩ = false ∧ W.frozen? ⟨b, 2, none⟩ = false ∧ W.frozen? ⟨b, 3, none⟩ = false ∧ W.frozen? ⟨b, 4, none⟩ = false) := by
  have h' : W.heap[b]? = some (.cells #[.int .i64 t.kind, .string t.text, .int .i64 t.n, .slice a t.kids.length cp, .int .i64 t.place] 24 (0, 0)) := h
  refine ⟨⟨?_, ?_, ?_, ?_, ?_⟩, ?_, ?_, ?_, ?_, ?_⟩ <;> simp [World.cell?, World.frozen?, h']
theorem NBox.make (w : World) (t : Nd) (a : Option Addr) (cp : Nat) : NBox w.heap.size t a cp (w.alloc (.cells #[.int .i64 t.kind, .string t.text, .int .i64 t.n, .slice a t.kids.length cp, .int .i64 t.place] 24)) := by
  show (w.heap.push _)[w.heap.size]? = _; simp
theorem NBox.below (h : NBox b t a cp W) (hb : Below W.heap.size W W') : NBox b t a cp W' := (hb.block b h.lt).trans h
theorem NBox.grown {P : Nat} (h : NBox b t a cp W) (g : W.grownBy W' (some P)) (hp : b ≠ P) : NBox b t a cp W' := (g.block b h.lt (fun e => hp (Option.some.inj e))).trans h
theorem NBox.set (h : NBox b t a cp W) {c : Nat} (hc : b ≠ c) (i : Nat) (v : Value) : NBox b t a cp (W.setCell ⟨c, i, none⟩ v) := (Below.heap_setCell _ _ _ _ hc).trans h
theorem heap_set {cs : Array Value} {T : TypeId} {fr : Nat × Nat} (h : W.heap[b]? = some (.cells cs T fr)) (i : Nat) (v : Value) : (W.setCell ⟨b, i, none⟩ v).heap[b]? = some (.cells (cs.set! i v) T fr) := by
  simp [World.setCell, Array.getElem?_modify, h]
/-- a node written over a node -/
def put5 (W : World) (b : Nat) (t : Nd) (a : Option Addr) (cp : Nat) : World := ((((W.setCell ⟨b, 0, none⟩ (.int .i64 t.kind)).setCell ⟨b, 1, none⟩ (.string t.text)).setCell ⟨b, 2, none⟩ (.int .i64 t.n)).setCell ⟨b, 3, none⟩ (.slice a t.kids.length cp)).setCell ⟨b, 4, none⟩ (.int .i64 t.place)
theorem NBox.put (h : NBox b t a cp W) (t' : Nd) (a' : Option Addr) (cp' : Nat) : NBox b t' a' cp' (put5 W b t' a' cp') := by
  have h' : W.heap[b]? = some (.cells #[.int .i64 t.kind, .string t.text, .int .i64 t.n, .slice a t.kids.length cp, .int .i64 t.place] 24 (0, 0)) := h
  exact heap_set (heap_set (heap_set (heap_set (heap_set h' 0 _) 1 _) 2 _) 3 _) 4 _
theorem KeepsV.put {av : Nat → Prop} {A B : World} (h : KeepsV av A B) {c : Nat} (hc : ∀ b, av b → b ≠ c) (t : Nd) (a : Option Addr) (cp : Nat) : KeepsV av A (put5 B c t a cp) := ((((h.set hc _ _).set hc _ _).set hc _ _).set hc _ _).set hc _ _
theorem size_put (W : World) (b : Nat) (t : Nd) (a : Option Addr) (cp : Nat) : (put5 W b t a cp).heap.size = W.heap.size := by simp [put5, World.setCell]
theorem grown_later {w : World} {r : Option Nat} (h : w.grownBy W r) {c : Nat} (hc : w.heap.size ≤ c) (i : Nat) (v : Value) : w.grownBy (W.setCell ⟨c, i, none⟩ v) r := by
  refine ⟨?_, ?_, ?_, by simp [World.setCell]; exact h.size, fun k hk hr => (Below.heap_setCell _ _ _ _ (fun e => by simp at e; omega)).trans (h.block k hk hr)⟩
  · rw [← h.os]; rfl
  · rw [← h.tape]; rfl
  · rw [← h.output]; rfl
theorem grown_put {w : World} {r : Option Nat} (h : w.grownBy W r) {c : Nat} (hc : w.heap.size ≤ c) (t : Nd) (a : Option Addr) (cp : Nat) : w.grownBy (put5 W c t a cp) r :=
  grown_later (grown_later (grown_later (grown_later (grown_later h hc _ _) hc _ _) hc _ _) hc _ _) hc _ _
end
end Go.Proofs.YtcndknkdhlmdnaaGreatDoor
