/-
  Texts that the statements' proofs rest on, one behind another: DayP, Toks, ShowD, ShowE.
-/
import Derived.Test.YtcndknkdhlmdnaaGreatDoorM14
import Derived.Test.YtcndknkdhlmdnaaGreatDoorM01
import Derived.Test.YtcndknkdhlmdnaaGreatDoorM10
import Derived.WalkKit
import Derived.Lib.Hide
import Derived.Deep.AppendLies
import Derived.Lib.LaidTab
import Derived.Test.YtcndknkdhlmdnaaGreatDoorM09
import Derived.Test.YtcndknkdhlmdnaaGreatDoorM03
import Derived.Test.YtcndknkdhlmdnaaGreatDoorM05
import Derived.Shelf.RegionOpenPlain
import Derived.Lib.CutLaws
import Derived.Shelf.Strings.SlTrimAscii
import Derived.Shelf.Abstract
import Derived.Test.YtcndknkdhlmdnaaGreatDoorM07
import Derived.Test.YtcndknkdhlmdnaaGreatDoorM06

/-
  Days read from texts.
-/
namespace Go.Proofs.YtcndknkdhlmdnaaGreatDoor
open Go.RowKit
set_option maxRecDepth 100000

/-- what a text is read as -/
def readV (s : ByteArray) : Int := if s.size = 10 then rdV s else 0
def readE (s : ByteArray) : Int := if s.size = 10 then rdE s else 30
theorem parse_any (s : ByteArray) (w : World) :
    Calls Tryz.prog 179 #[.string s] w fun e w' => e = .returned (.tuple #[.int .i64 (readV s), .int .i64 (readE s)]) ∧ Below w.heap.size w w' := by
  unfold readV readE
  by_cases h : s.size = 10
  · rw [if_pos h, if_pos h]; exact parse_ten s w h
  · rw [if_neg h, if_neg h]; exact parse_len s w h

theorem of_out {y m d : Int} (h : y = -1 ∨ m = -1 ∨ d = -1) : ofV y m d = 0 ∧ ofE y m d = 30 := by
  have n : ¬ Cal.ok y m d := by unfold Cal.ok; omega
  unfold ofV ofE
  rw [if_neg n, if_neg n]
  exact ⟨rfl, rfl⟩
theorem rparse_any (s : ByteArray) (w : World) :
    Calls Tryz.prog 124 #[.string s] w fun e w' => e = .returned (.tuple #[.int .i64 (readV s), .int .i64 (readE s)]) ∧ Below w.heap.size w w' := by
  unfold readV readE
  by_cases h : s.size = 10
  · rw [if_pos h, if_pos h]
    have hl : s.data.toList.length = 10 := by simpa using h
    have g4 : s[4] = s.data.toList[4] := rfl
    have g7 : s[7] = s.data.toList[7] := rfl
    by_cases c : (s[4].toNat : Int) = 45 ∧ (s[7].toNat : Int) = 45
    · refine (rparse_ten s w h c.1 c.2).mono ?_
      rintro e w' ⟨rfl, hb⟩
      refine ⟨?_, hb⟩
      show Ending.returned (.tuple #[.int .i64 (ofV (Cal.numL (Cal.seg s.data.toList 0 4)) (Cal.numL (Cal.seg s.data.toList 5 7)) (Cal.numL (Cal.seg s.data.toList 8 10))), .int .i64 (ofE (Cal.numL (Cal.seg s.data.toList 0 4)) (Cal.numL (Cal.seg s.data.toList 5 7)) (Cal.numL (Cal.seg s.data.toList 8 10)))]) = _
      by_cases f : ∀ j (hj : j < s.data.toList.length), Cal.fits j s.data.toList[j] = true
      · have dig : ∀ j (hj : j < s.data.toList.length), j ≠ 4 → j ≠ 7 → Cal.isDig s.data.toList[j] = true := fun j hj e f' => by rw [← Cal.fits_dig e f']; exact f j hj
        have a1 := Cal.seg_all s.data.toList (lo := 0) (hi := 4) (fun j hj _ _ => dig j hj (by omega) (by omega))
        have a2 := Cal.seg_all s.data.toList (lo := 5) (hi := 7) (fun j hj _ _ => dig j hj (by omega) (by omega))
        have a3 := Cal.seg_all s.data.toList (lo := 8) (hi := 10) (fun j hj _ _ => dig j hj (by omega) (by omega))
        unfold Cal.numL rdV rdE
        rw [if_pos a1, if_pos a2, if_pos a3, if_pos f, if_pos f]
      · have ⟨j, hj, hf⟩ : ∃ j, ∃ hj : j < s.data.toList.length, Cal.fits j s.data.toList[j] = false := by
          refine Classical.byContradiction fun n => f fun j hj => ?_
          cases e : Cal.fits j s.data.toList[j]
          · exact absurd ⟨j, hj, e⟩ n
          · rfl
        have r := rd_bad hj hf
        rw [r.1, r.2]
        have h4 : j ≠ 4 := fun e => by
          subst e
          rw [Cal.fits_dash (.inl rfl), decide_eq_false_iff_not] at hf
          exact hf c.1
        have h7 : j ≠ 7 := fun e => by
          subst e
          rw [Cal.fits_dash (.inr rfl), decide_eq_false_iff_not] at hf
          exact hf c.2
        rw [Cal.fits_dig h4 h7] at hf
        have o : Cal.numL (Cal.seg s.data.toList 0 4) = -1 ∨ Cal.numL (Cal.seg s.data.toList 5 7) = -1 ∨ Cal.numL (Cal.seg s.data.toList 8 10) = -1 := by
          by_cases k : j < 4
          · exact .inl (Cal.seg_not _ (by omega) k hj hf)
          by_cases k' : j < 7
          · exact .inr (.inl (Cal.seg_not _ (by omega) k' hj hf))
          · exact .inr (.inr (Cal.seg_not _ (by omega) (by omega) hj hf))
        have z := of_out o
        rw [z.1, z.2]
    · refine (rparse_bad s w h c).mono ?_
      rintro e w' ⟨rfl, hb⟩
      refine ⟨?_, hb⟩
      by_cases c4 : (s[4].toNat : Int) = 45
      · have c7 : ¬ (s[7].toNat : Int) = 45 := fun k => c ⟨c4, k⟩
        have r := rd_bad (s := s) (k := 7) (by omega) (by rw [Cal.fits_dash (.inr rfl), decide_eq_false_iff_not]; exact c7)
        rw [r.1, r.2]
      · have r := rd_bad (s := s) (k := 4) (by omega) (by rw [Cal.fits_dash (.inl rfl), decide_eq_false_iff_not]; exact c4)
        rw [r.1, r.2]
  · rw [if_neg h, if_neg h]; exact rparse_len s w h

/-- a date's text is read as its day -/
theorem read_text {y m d : Int} (h : Cal.ok y m d) : readV (textS y m d) = Cal.num y m d ∧ readE (textS y m d) = 0 := by
  have f := Cal.text_form h
  have v := Cal.text_vals h
  have g : ∀ j (hj : j < (textS y m d).data.toList.length), Cal.fits j (textS y m d).data.toList[j] = true := fun j hj => f j hj
  unfold readV readE
  rw [if_pos (show (textS y m d).size = 10 from rfl), if_pos (show (textS y m d).size = 10 from rfl)]
  unfold rdV rdE
  rw [if_pos g, if_pos g]
  show ofV (Cal.val (Cal.seg (Cal.text y m d) 0 4)) (Cal.val (Cal.seg (Cal.text y m d) 5 7)) (Cal.val (Cal.seg (Cal.text y m d) 8 10)) = _ ∧ ofE (Cal.val (Cal.seg (Cal.text y m d) 0 4)) (Cal.val (Cal.seg (Cal.text y m d) 5 7)) (Cal.val (Cal.seg (Cal.text y m d) 8 10)) = _
  rw [v.1, v.2.1, v.2.2]
  unfold ofV ofE
  rw [if_pos h, if_pos h]
  exact ⟨rfl, rfl⟩
/-- a day's number, or none, as the program tells it -/
theorem day_read (s : ByteArray) : (∃ v, dayP s.data.toList = some v ∧ readV s = v ∧ readE s = 0) ∨ (dayP s.data.toList = none ∧ readE s = 30) := by
  have hsz : s.data.toList.length = s.size := size_list s
  unfold readV readE dayP
  by_cases h : s.size = 10
  · rw [if_pos h, if_pos h]
    unfold rdV rdE ofV ofE
    by_cases f : ∀ j (hj : j < s.data.toList.length), Cal.fits j s.data.toList[j] = true
    · rw [if_pos f, if_pos f]
      by_cases o : Cal.ok (Cal.val (Cal.seg s.data.toList 0 4)) (Cal.val (Cal.seg s.data.toList 5 7)) (Cal.val (Cal.seg s.data.toList 8 10))
      · rw [if_pos o, if_pos o, if_pos ⟨hsz.trans h, f, o⟩]
        exact .inl ⟨_, rfl, rfl, rfl⟩
      · rw [if_neg (fun g => o g.2.2), if_neg o]
        exact .inr ⟨rfl, if_neg o⟩
    · rw [if_neg (fun g => f g.2.1)]
      exact .inr ⟨rfl, if_neg f⟩
  · rw [if_neg h, if_neg h, if_neg (fun g => h (hsz.symm.trans g.1))]
    exact .inr ⟨rfl, rfl⟩

end Go.Proofs.YtcndknkdhlmdnaaGreatDoor

/-
  Tokens in memory.
-/
namespace Go.Proofs.YtcndknkdhlmdnaaGreatDoor
open Go.RowKit

/-- a token's cells -/
def tkCells (t : Tk) : List Value := [.int .i64 t.kind, .string ⟨t.text.toArray⟩, .int .i64 t.n, .int .i64 t.pos]
def tksCells (ts : List Tk) : List Value := ts.flatMap tkCells
theorem tks_len (ts : List Tk) : (tksCells ts).length = ts.length * 4 := by
  unfold tksCells
  induction ts with
  | nil => rfl
  | cons t ts ih => rw [List.flatMap_cons, List.length_append, ih, List.length_cons]; show 4 + _ = _; omega
theorem tks_snoc (ts : List Tk) (t : Tk) : tksCells (ts ++ [t]) = tksCells ts ++ tkCells t := by unfold tksCells; simp
theorem tks_get : ∀ (ts : List Tk) (j : Nat) (hj : j < ts.length) (i : Nat) (_ : i < 4), (tksCells ts)[j * 4 + i]? = (tkCells ts[j])[i]?
  | t :: ts, 0, _, i, hi => by
    unfold tksCells
    rw [List.flatMap_cons, Nat.zero_mul, Nat.zero_add, List.getElem?_append_left (by exact hi)]
    rfl
  | t :: ts, j + 1, hj, i, hi => by
    have := tks_get ts j (by simpa using hj) i hi
    unfold tksCells at this ⊢
    rw [List.flatMap_cons, List.getElem?_append_right (by show 4 ≤ _; omega)]
    rw [show (j + 1) * 4 + i - (tkCells t).length = j * 4 + i by show (j + 1) * 4 + i - 4 = _; omega]
    exact this
/-- memory holds tokens, from a place on -/
def Toks (W : World) (b off : Nat) (ts : List Tk) : Prop := ∀ j (hj : j < ts.length), W.cell? ⟨b, off + j * 4, none⟩ = some (.int .i64 ts[j].kind) ∧ W.cell? ⟨b, off + j * 4 + 1, none⟩ = some (.string ⟨ts[j].text.toArray⟩) ∧ W.cell? ⟨b, off + j * 4 + 2, none⟩ = some (.int .i64 ts[j].n) ∧ W.cell? ⟨b, off + j * 4 + 3, none⟩ = some (.int .i64 ts[j].pos)
theorem Toks.below {n₀ : Nat} {W W' : World} {b off : Nat} {ts : List Tk} (h : Toks W b off ts) (hb : Below n₀ W W') (hl : b < n₀) : Toks W' b off ts := fun j hj => by
  obtain ⟨h0, h1, h2, h3⟩ := h j hj
  exact ⟨(hb.cell (p := ⟨b, off + j * 4, none⟩) hl).trans h0, (hb.cell (p := ⟨b, off + j * 4 + 1, none⟩) hl).trans h1, (hb.cell (p := ⟨b, off + j * 4 + 2, none⟩) hl).trans h2, (hb.cell (p := ⟨b, off + j * 4 + 3, none⟩) hl).trans h3⟩
theorem Toks.of_row {base T : Nat} {W : World} {g cap : Nat} {ts : List Tk} (h : W.ownsRow base T 4 (.slice (some ⟨g, 0, none⟩) ts.length cap) ts.length (tksCells ts)) : Toks W g 0 ts := by
  have hc := h.cells (g := g) rfl
  intro j hj
  have q : ∀ i, i < 4 → ∀ u, (tkCells ts[j])[i]? = some u → W.cell? ⟨g, 0 + j * 4 + i, none⟩ = some u := fun i hi u hu => by
    have := hc (j * 4 + i) u (by rw [tks_get ts j hj i hi]; exact hu)
    rw [Go.WideShapes.add_plain] at this
    rw [Nat.add_assoc]
    exact this
  exact ⟨q 0 (by decide) _ rfl, q 1 (by decide) _ rfl, q 2 (by decide) _ rfl, q 3 (by decide) _ rfl⟩

theorem cells4_new (W : World) (T : TypeId) (v0 v1 v2 v3 : Value) : ∀ j u, [v0, v1, v2, v3][j]? = some u → (W.alloc (.cells #[v0, v1, v2, v3] T)).cell? ((⟨W.heap.size, 0, none⟩ : Addr).add j) = some u := by
  intro j u h
  rw [Go.WideShapes.add_plain, Nat.zero_add]
  have h' : (W.alloc (.cells #[v0, v1, v2, v3] T)).heap[W.heap.size]? = some (.cells #[v0, v1, v2, v3] T (0, 0)) := by show (W.heap.push _)[W.heap.size]? = _; simp
  rw [World.cell?]
  simp only [h']
  match j, h with
  | 0, h => exact h
  | 1, h => exact h
  | 2, h => exact h
  | 3, h => exact h
theorem tk_one (t : Tk) : ∀ u ∈ tkCells t, u.oneCell' = true := by
  intro u hu
  unfold tkCells at hu
  simp only [List.mem_cons, List.not_mem_nil, or_false] at hu
  rcases hu with rfl | rfl | rfl | rfl <;> rfl
theorem own_below {W W' : World} {B T k : Nat} {v : Value} {n : Nat} {xs : List Value} (h : W.ownsRow B T k v n xs) (hb : Below W.heap.size W W') : W'.ownsRow B T k v n xs :=
  h.kept (row := none) ⟨hb.os, hb.tape, hb.output, hb.size, fun i hi _ => hb.block i hi⟩ (by cases hv : v.ownBlock <;> simp)
/-- what an append of one token leaves -/
theorem tok_append {T : TypeId} {B : Nat} {w W w5 : World} {v : Value} {ts : List Tk} {t : Tk} {g cap' : Nat} (hB : Below B w W) (how : W.ownsRow B T 4 v ts.length (tksCells ts))
    (hown' : w5.ownsRow B T 4 (.slice (some ⟨g, 0, none⟩) (ts.length + 1) cap') (ts.length + 1) (tksCells ts ++ tkCells t)) (hgrow' : W.grownBy w5 v.ownBlock) (hBW : B ≤ W.heap.size) :
    Below B w w5 ∧ w5.ownsRow B T 4 (.slice (some ⟨g, 0, none⟩) (ts ++ [t]).length cap') (ts ++ [t]).length (tksCells (ts ++ [t])) := by
  refine ⟨hB.grown hgrow' hBW (fun r e => (how.lt r e).1), ?_⟩
  rw [tks_snoc, List.length_append]
  exact hown'

end Go.Proofs.YtcndknkdhlmdnaaGreatDoor

/-
  show's names: isInner, isName, isNear, isAny, isCur.
-/
namespace Go.Proofs.YtcndknkdhlmdnaaGreatDoor
open Go.RowKit Go.Shelf
set_option maxRecDepth 100000

/-- the library's variable holds a number -/
def Env (w : World) : Prop := ∃ m, w.cell? ⟨0, 0, none⟩ = some (.int .i64 m)
theorem Env.size {w : World} (h : Env w) : 0 < w.heap.size := by
  obtain ⟨m, hm⟩ := h
  rcases Nat.lt_or_ge 0 w.heap.size with g | g
  · exact g
  · have : w.heap[0]? = none := Array.getElem?_eq_none g
    simp [World.cell?, this] at hm
theorem Env.below {w w' : World} (h : Env w) (hb : Below w.heap.size w w') : Env w' := by
  have hs := h.size
  obtain ⟨m, hm⟩ := h
  exact ⟨m, (hb.cell (p := ⟨0, 0, none⟩) hs).trans hm⟩

theorem below_drewN (w : World) (n : Nat) : Below w.heap.size w (w.drewN n) := ⟨rfl, rfl, rfl, Nat.le_refl _, fun _ _ => rfl⟩
theorem trim_any (s cut : ByteArray) (w : World) (hs : s.size ≤ maxLen) (hc : cut.size < 4294967281) (ha : ∀ (j : Nat) (b : UInt8), cut.data.toList[j]? = some b → b.toNat < 128) :
    Calls Tryz.prog 171 #[.string s, .string cut] w fun e w' => e = .returned (.string ⟨(Lib.trimS s.data.toList cut.data.toList).toArray⟩) ∧ Below w.heap.size w w' :=
  Any.strings_Trim_laid Tryz.lays160 (by kernel_rfl) s cut w hs hc ha
theorem great_ascii : ∀ (j : Nat) (b : UInt8), greatS.data.toList[j]? = some b → b.toNat < 128 := ascii_of_all (by decide)
theorem empty_str {s : ByteArray} (h : ¬ 0 < s.size) : s = ⟨#[]⟩ := by
  cases s with
  | mk d => simp only [ByteArray.mk.injEq]; exact Array.eq_empty_of_size_eq_zero (by have : d.size = (ByteArray.mk d).size := rfl; omega)
theorem some_str {s : ByteArray} (h : 0 < s.size) : ¬ s.toList = [] ∧ s.toList.isEmpty = false := by
  have : s.toList ≠ [] := fun e => by rw [Lib.toList_data] at e; have := size_list s; rw [e] at this; simp at this; omega
  exact ⟨this, by simpa using this⟩

set_option maxHeartbeats 1000000 in
theorem lcut_any (s : ByteArray) (w : World) (hs : s.size ≤ maxLen) :
    Calls Tryz.prog 172 #[.string s, .string ⟨#[46]⟩] w fun e w' => e = .returned (.tuple #[.string ⟨(Lib.cut s.data.toList [46]).1.toArray⟩, .string ⟨(Lib.cut s.data.toList [46]).2.1.toArray⟩, .bool (Lib.cut s.data.toList [46]).2.2]) ∧ Below w.heap.size w w' := by
  have hm : s.size ≤ 9223372036854775807 := hs
  have mixed : Tryz.prog.follows .mixedOrders = true := by kernel_rfl
  have hio : Lib.indexByte s.data.toList 46 = Lib.indexB s ⟨#[46]⟩ := (Lib.index_one _ _).symm
  rcases Lib.indexB_cases s ⟨#[46]⟩ with hix | ⟨i, hix, hroom⟩
  · obtain ⟨e1, e2, e3⟩ := Lib.cutB_miss s ⟨#[46]⟩ hix
    replace e1 : (⟨(Lib.cut s.data.toList [46]).1.toArray⟩ : ByteArray) = s := e1
    replace e2 : (⟨(Lib.cut s.data.toList [46]).2.1.toArray⟩ : ByteArray) = ByteArray.empty := e2
    replace e3 : (Lib.cut s.data.toList [46]).2.2 = false := e3
    rw [e1, e2, e3]
    clear e1 e2 e3
    go_enter Tryz.func172, Tryz.ntmps172
    go_wp2_with (go_at_call 138; refine (Tryz.stringslite_Index_one s 46 _).mono ?_; rintro e w' ⟨rfl, rfl⟩; rw [hio, hix])
    go_ret3
    exact ⟨rfl, Below.refl _ _⟩
  · obtain ⟨e1, e2, e3⟩ := Lib.cutB_hit s ⟨#[46]⟩ i hix
    replace e1 : (⟨(Lib.cut s.data.toList [46]).1.toArray⟩ : ByteArray) = s.extract 0 i := e1
    replace e2 : (⟨(Lib.cut s.data.toList [46]).2.1.toArray⟩ : ByteArray) = s.extract (i + 1) s.size := e2
    replace e3 : (Lib.cut s.data.toList [46]).2.2 = true := e3
    rw [e1, e2, e3]
    clear e1 e2 e3
    replace hroom : i + 1 ≤ s.size := hroom
    have c1 : (0 : Int) ≤ ↑i := by omega
    have c2 : (↑i : Int) ≤ ↑s.size := by omega
    have c3 : (0 : Int) ≤ ↑i + 1 := by omega
    have c4 : (↑i + 1 : Int) ≤ ↑s.size := by omega
    go_enter Tryz.func172, Tryz.ntmps172
    go_wp2_with (go_at_call 138; refine (Tryz.stringslite_Index_one s 46 _).mono ?_; rintro e w' ⟨rfl, rfl⟩; rw [hio, hix])
    go_region_o
    go_wp2
    go_ret3
    exact ⟨rfl, below_drewN _ 1⟩
set_option maxHeartbeats 1000000 in
theorem cut_any (s : ByteArray) (w : World) (hs : s.size ≤ maxLen) :
    Calls Tryz.prog 142 #[.string s, .string ⟨#[46]⟩] w fun e w' => e = .returned (.tuple #[.string ⟨(Lib.cut s.data.toList [46]).1.toArray⟩, .string ⟨(Lib.cut s.data.toList [46]).2.1.toArray⟩, .bool (Lib.cut s.data.toList [46]).2.2]) ∧ Below w.heap.size w w' := by
  go_enter Tryz.func142, Tryz.ntmps142
  go_wp2_with (go_at_call 172; refine (lcut_any s _ hs).mono ?_; rintro e w' ⟨rfl, hb⟩)
  go_ret3
  exact ⟨rfl, hb⟩

/-- a rune that a name may have behind its first one -/
def inR (n : Nat) : Bool := decide (97 ≤ n) && decide (n ≤ 122) || decide (48 ≤ n) && decide (n ≤ 57) || decide (n = 95)
theorem inR_inner (c : UInt8) : inR c.toNat = isInner c := by
  have := u8_each (p := fun c => inR c.toNat == isInner c) (by decide +kernel) c
  simpa using this
theorem idx_inner (s : ByteArray) : ∀ (f pos : Nat), s.size - pos ≤ f → (Lib.idxFuncFrom (fun n => !inR n) true s f pos < 0 ↔ (s.data.toList.drop pos).all isInner = true)
  | 0, pos, h => by
    rw [drop_end (by omega)]
    simp [Lib.idxFuncFrom]
  | f + 1, pos, h => by
    unfold Lib.idxFuncFrom
    by_cases hp : pos < s.size
    · rw [if_pos hp, drop_at hp, List.all_cons]
      by_cases ha : (s[pos]'hp).toNat < 128
      · rw [decode_ascii s pos hp ha]
        simp only [inR_inner]
        cases hi : isInner s[pos] with
        | false => simp
        | true =>
          have := idx_inner s f (pos + 1) (by omega)
          simpa using this
      · have hd := (decode_high s pos hp (by omega)).1
        have hr : inR (Utf8.decode s pos).1 = false := by unfold inR; simp; omega
        have hi : isInner s[pos] = false := by
          rw [← inR_inner]; unfold inR; simp; omega
        simp only [hr, hi]
        simp
    · rw [if_neg hp, drop_end (by omega)]
      simp
theorem idx_name (s : ByteArray) : Lib.idxFunc (fun n => !inR n) true s < 0 ↔ s.data.toList.all isInner = true := idx_inner s s.size 0 (by omega)

set_option maxHeartbeats 400000 in
theorem sinner_any (n : Nat) (w : World) : Calls Tryz.prog 101 #[.int .i32 n] w fun e w' => e = .returned (.bool (inR n)) ∧ w = w' := by
  go_enter Tryz.func101, Tryz.ntmps101
  go_wp2
  all_goals go_ret
  all_goals exact ⟨nretB (by unfold inR; rw [Bool.eq_iff_iff]; simp; omega), rfl⟩
set_option maxHeartbeats 400000 in
theorem snoinner_any (n : Nat) (w : World) : Calls Tryz.prog 100 #[.int .i32 n] w fun e w' => e = .returned (.bool (!inR n)) ∧ w = w' := by
  go_enter Tryz.func100, Tryz.ntmps100
  go_wp2_with (go_at_call 101; refine (sinner_any n _).mono ?_; rintro e w' ⟨rfl, rfl⟩)
  go_ret
  exact ⟨rfl, rfl⟩
theorem sidx_any (s : ByteArray) (w : World) : Calls Tryz.prog 99 #[.string s, .func (.func 100) #[] #[]] w fun e w' => e = .returned (.int .i64 (Lib.idxFunc (fun n => !inR n) true s)) ∧ Below w.heap.size w w' :=
  Tryz.strings_IndexFunc 100 #[] (enters_of Tryz.func100 (by kernel_rfl) rfl) (fun n => !inR n) s w fun W x _ => (snoinner_any x W).mono fun e w' ⟨h, h'⟩ => ⟨h, 0, h'.symm⟩

set_option maxHeartbeats 1000000 in
theorem sisName_any (s : ByteArray) (w : World) (hs : s.size ≤ maxLen) :
    Calls Tryz.prog 59 #[.string s] w fun e w' => e = .returned (.bool (nameL s.data.toList)) ∧ Below w.heap.size w w' := by
  have hm := hs
  unfold maxLen at hm
  by_cases h0 : ¬ 0 < s.size
  · rw [empty_str h0]
    go_enter Tryz.func59, Tryz.ntmps59
    go_wp2
    go_ret
    exact ⟨rfl, Below.refl _ _⟩
  have h0 : 0 < s.size := by omega
  obtain ⟨e1, e2⟩ := some_str h0
  have hh := Lib.hid (head_list h0)
  have hl := Lib.hid (size_list s)
  by_cases h1 : ¬ s.size ≤ 24
  · have e := Lib.hid (show nameL s.data.toList = false by unfold nameL; rw [hl.out, decide_eq_false (by omega)]; rfl)
    have h1 : 24 < s.size := by omega
    go_enter Tryz.func59, Tryz.ntmps59
    go_wp2
    go_ret
    exact ⟨nretB e.out.symm, Below.refl _ _⟩
  have h1 : s.size ≤ 24 := by omega
  by_cases h2 : (s[0].toNat : Int) < 97
  · have e := Lib.hid (show nameL s.data.toList = false by unfold nameL; rw [hh.out, decide_eq_false (show ¬ (97 : Int) ≤ (s[0].toNat : Int) by omega)]; simp)
    go_enter Tryz.func59, Tryz.ntmps59
    go_wp2
    go_ret
    exact ⟨nretB e.out.symm, Below.refl _ _⟩
  by_cases h3 : 122 < (s[0].toNat : Int)
  · have e := Lib.hid (show nameL s.data.toList = false by unfold nameL; rw [hh.out, decide_eq_false (show ¬ (s[0].toNat : Int) ≤ 122 by omega)]; simp)
    go_enter Tryz.func59, Tryz.ntmps59
    go_wp2
    go_ret
    exact ⟨nretB e.out.symm, Below.refl _ _⟩
  · have e := Lib.hid (show nameL s.data.toList = decide (Lib.idxFunc (fun n => !inR n) true s < 0) by
      unfold nameL; rw [hh.out, hl.out, decide_eq_true (show s.size ≤ 24 by omega), decide_eq_true (show (97 : Int) ≤ (s[0].toNat : Int) by omega), decide_eq_true (show (s[0].toNat : Int) ≤ 122 by omega), Bool.eq_iff_iff, decide_eq_true_eq, idx_name]; rfl)
    go_enter Tryz.func59, Tryz.ntmps59
    go_wp2_with (go_at_call 99; refine (sidx_any s _).mono ?_; rintro e w' ⟨rfl, hb⟩)
    go_ret
    exact ⟨nretB e.out.symm, hb⟩

set_option maxHeartbeats 1000000 in
theorem sisNear_any (s : ByteArray) (w : World) (hs : s.size ≤ maxLen) (he : Env w) :
    Calls Tryz.prog 36 #[.string s] w fun e w' => e = .returned (.bool (nearL s.data.toList)) ∧ Below w.heap.size w w' := by
  have hm := hs
  unfold maxLen at hm
  cases hn : nameL s.data.toList
  · have E := Lib.hid (show nearL s.data.toList = false by unfold nearL; rw [hn]; rfl)
    go_enter Tryz.func36, Tryz.ntmps36
    go_wp2_with (first | (go_at_call 59; refine (sisName_any s _ hs).mono ?_; rintro e w' ⟨rfl, hb⟩; rw [hn]))
    go_ret
    exact ⟨nretB E.out.symm, hb⟩
  · have E := Lib.hid (show nearL s.data.toList = !wordL s.data.toList by unfold nearL; rw [hn]; rfl)
    have hz : s.size ≤ 24 := by have := name_len hn; rw [size_list] at this; exact this
    have C := Lib.hid (word_contains hn)
    go_enter Tryz.func36, Tryz.ntmps36
    go_wp2_with (first | (go_at_call 59; refine (sisName_any s _ hs).mono ?_; rintro e w1 ⟨rfl, hb1⟩; rw [hn]; obtain ⟨m, hm'⟩ := he.below hb1) | (go_at_call 60; refine (Tryz.strings_Contains _ _ m _ (by decide) hm').mono ?_; rintro e w' ⟨rfl, rfl⟩))
    go_ret
    exact ⟨nretB (by rw [E.out, ← C.out]; rfl), hb1⟩

theorem cut_sizes (s : ByteArray) : (⟨(Lib.cut s.data.toList [46]).1.toArray⟩ : ByteArray).size ≤ s.size ∧ (⟨(Lib.cut s.data.toList [46]).2.1.toArray⟩ : ByteArray).size ≤ s.size := by
  have hl := size_list s
  show (Lib.cut s.data.toList [46]).1.toArray.size ≤ s.size ∧ (Lib.cut s.data.toList [46]).2.1.toArray.size ≤ s.size
  simp only [List.size_toArray]
  unfold Lib.cut
  split
  · simp only [List.length_take, List.length_drop]; omega
  · simp
set_option maxHeartbeats 2000000 in
theorem sisAny_any (s : ByteArray) (w : World) (hs : s.size ≤ maxLen) (he : Env w) :
    Calls Tryz.prog 105 #[.string s] w fun e w' => e = .returned (.bool (anyL s.data.toList)) ∧ Below w.heap.size w w' := by
  obtain ⟨z1, z2⟩ := cut_sizes s
  have E := Lib.hid (show anyL s.data.toList = (nearL (Lib.cut s.data.toList [46]).1 && (!(Lib.cut s.data.toList [46]).2.2 || nearL (Lib.cut s.data.toList [46]).2.1)) from rfl)
  cases h1 : nearL (Lib.cut s.data.toList [46]).1
  case' true => cases h2 : (Lib.cut s.data.toList [46]).2.2
  all_goals
    go_enter Tryz.func105, Tryz.ntmps105
    go_wp2_with fail
    refine Calls.mono (cut_any s w hs) ?_
    rintro e w1 ⟨rfl, hb1⟩
    have he1 := Lib.hid (he.below hb1)
    have HB := Lib.hid hb1
    clear hb1
    (try rw [h2])
    go_wp2_with fail
    refine Calls.mono (sisNear_any _ _ (Nat.le_trans z1 hs) he1.out) ?_
    rintro e w2 ⟨rfl, hb2⟩
    rw [show nearL ({ data := (Lib.cut s.data.toList [46]).1.toArray } : ByteArray).data.toList = _ from h1]
    have he2 := Lib.hid (he1.out.below hb2)
    have HC := Lib.hid (HB.out.trans (hb2.mono HB.out.size))
    clear hb2
    go_wp2_with fail
  · go_ret
    exact ⟨nretB (by rw [E.out, h1, h2]; rfl), HC.out⟩
  · refine Calls.mono (sisNear_any _ _ (Nat.le_trans z2 hs) he2.out) ?_
    rintro e w3 ⟨rfl, hb3⟩
    have HD := Lib.hid (HC.out.trans (hb3.mono HC.out.size))
    clear hb3
    go_wp2_with fail
    go_ret
    exact ⟨nretB (by rw [E.out, h1, h2]; rfl), HD.out⟩
  · go_ret
    exact ⟨nretB (by rw [E.out, h1]; rfl), HC.out⟩

set_option maxHeartbeats 400000 in
theorem sisCur_any (s : ByteArray) (w : World) (hs : s.size ≤ maxLen) :
    Calls Tryz.prog 141 #[.string s] w fun e w' => e = .returned (.bool (curL s.data.toList)) ∧ Below w.heap.size w w' := by
  have hm := hs
  unfold maxLen at hm
  have hl := Lib.hid (size_list s)
  by_cases h1 : s.size = 3
  · have e := Lib.hid (show curL s.data.toList = (Lib.trimS s.data.toList greatS.data.toList).isEmpty by unfold curL; rw [hl.out, decide_eq_true h1, trim_empty]; rfl)
    go_enter Tryz.func141, Tryz.ntmps141
    go_wp2_with (go_at_call 171; refine (trim_any _ _ _ hs (by decide) great_ascii).mono ?_; rintro e w' ⟨rfl, hb⟩)
    go_ret
    exact ⟨nretB e.out.symm, hb⟩
  · have e := Lib.hid (show curL s.data.toList = false by unfold curL; rw [hl.out, decide_eq_false h1]; rfl)
    go_enter Tryz.func141, Tryz.ntmps141
    go_wp2_with (go_at_call 171; refine (trim_any _ _ _ hs (by decide) great_ascii).mono ?_; rintro e w' ⟨rfl, hb⟩)
    go_ret
    exact ⟨nretB e.out.symm, Below.refl _ _⟩

end Go.Proofs.YtcndknkdhlmdnaaGreatDoor

/-
  usanceref07.IsWord and usanceref09's names: IsNear, IsFar, sign, kids, worded, numbered.
-/
namespace Go.Proofs.YtcndknkdhlmdnaaGreatDoor
open Go.RowKit Go.Shelf
set_option maxRecDepth 100000

def strV (l : List UInt8) : Value := .string ⟨l.toArray⟩
theorem row_cell (w : World) (L : List (List UInt8)) (t : TypeId) (k : Nat) (hk : k < L.length) : (w.alloc (.cells (L.map strV).toArray t)).cell? ⟨w.heap.size, k, none⟩ = some (strV L[k]) := by
  have h : (w.alloc (.cells (L.map strV).toArray t)).heap[w.heap.size]? = some (.cells (L.map strV).toArray t) := by show (w.heap.push _)[w.heap.size]? = _; simp
  rw [Lib.cell_of_heap h]
  simp [hk]
set_option maxHeartbeats 1000000 in
theorem rWords_any (w : World) : Calls Tryz.prog 112 #[] w fun e w' => e = .returned (.slice (some ⟨w.heap.size, 0, none⟩) 13 13) ∧ w' = w.alloc (.cells (wordTab.map strV).toArray 9) := by
  go_enter Tryz.func112, Tryz.ntmps112
  go_wp2
  go_ret
  exact ⟨rfl, rfl⟩
theorem str_ne {s : ByteArray} {l : List UInt8} (h : l ≠ s.data.toList) : ¬ (⟨l.toArray⟩ : ByteArray).toList = s.toList := by
  rw [Lib.toList_data, Lib.toList_data]
  exact h
theorem str_neb {s : ByteArray} {l : List UInt8} (h : l ≠ s.data.toList) : ((⟨l.toArray⟩ : ByteArray).toList == s.toList) = false := beq_eq_false_iff_ne.2 (str_ne h)
theorem str_eq {s : ByteArray} {l : List UInt8} (h : l = s.data.toList) : s = ⟨l.toArray⟩ := by
  subst h; cases s; simp
theorem mem_tab {L : List (List UInt8)} {l : List UInt8} {k : Nat} (hk : k < L.length) (h : L[k] = l) : L.contains l = true := by
  rw [List.contains_iff_mem, ← h]; exact List.getElem_mem _
theorem no_tab {L : List (List UInt8)} {l : List UInt8} (h : ∀ j (hj : j < L.length), L[j] ≠ l) : L.contains l = false := by
  rw [Bool.eq_false_iff]
  intro e
  obtain ⟨j, hj, e2⟩ := List.getElem_of_mem (List.contains_iff_mem.1 e)
  exact h j hj e2

set_option maxHeartbeats 2000000 in
theorem rIsWord_any (s : ByteArray) (w : World) : Calls Tryz.prog 72 #[.string s] w fun e w' => e = .returned (.bool (wordL s.data.toList)) ∧ Below w.heap.size w w' := by
  have hc : Hid (∀ (k : Nat) (hk : k < wordTab.length), (w.alloc (.cells (wordTab.map strV).toArray 9)).cell? ⟨w.heap.size, k, none⟩ = some (strV wordTab[k])) := row_cell w wordTab _
  have HB := Lib.hid (nbelow1 w (.cells (wordTab.map strV).toArray 9))
  go_enter Tryz.func72, Tryz.ntmps72
  go_wp2_with (go_at_call 112; refine (rWords_any _).mono ?_; rintro e w' ⟨rfl, rfl⟩)
  generalize (w.alloc (.cells (wordTab.map strV).toArray 9)) = W1 at hc HB ⊢
  go_loop [4] (fun i => ∃ k : Nat, k ≤ 13 ∧ i = .int .i64 k ∧ Hid (∀ j (hj : j < wordTab.length), j < k → wordTab[j] ≠ s.data.toList)) (fun i => 13 - (intOf i).toNat)
  case atStart => exact ⟨0, by omega, rfl, fun j hj h => by omega⟩
  case round =>
    obtain ⟨k, hk, rfl, HI⟩ := hrel
    by_cases hlt : k < 13
    · have c := hc.out k hlt
      by_cases he : wordTab[k]'hlt = s.data.toList
      · have F := Lib.hid (show wordL s.data.toList = true from mem_tab hlt he)
        have e1 := str_eq he
        unfold strV at c
        rw [← e1] at c
        clear e1 he
        go_wp2
        go_ret
        exact ⟨nretB F.out.symm, HB.out⟩
      · have e1 := str_neb he
        unfold strV at c
        have HE := Lib.hid he
        clear he
        generalize (⟨(wordTab[k]'hlt).toArray⟩ : ByteArray) = x at c e1
        go_wp2
        go_round
        case rel =>
          refine ⟨k + 1, by omega, by go_num, fun j hj h => ?_⟩
          by_cases ej : j = k
          · subst ej; exact HE.out
          · exact HI.out j hj (by omega)
        case measure => simp [intOf]; omega
    · have F := Lib.hid (show wordL s.data.toList = false from no_tab fun j hj => HI.out j hj (by have : j < 13 := hj; omega))
      go_wp2
      go_ret
      exact ⟨nretB F.out.symm, HB.out⟩

set_option maxHeartbeats 1000000 in
theorem rIsNear_any (s : ByteArray) (w : World) (hs : s.size ≤ maxLen) : Calls Tryz.prog 47 #[.string s] w fun e w' => e = .returned (.bool (nearL s.data.toList)) ∧ Below w.heap.size w w' := by
  have E := Lib.hid (show nearL s.data.toList = (nameR s.data.toList && !wordL s.data.toList) by rw [nameR_eq]; rfl)
  cases h1 : nameR s.data.toList
  all_goals
    go_enter Tryz.func47, Tryz.ntmps47
    go_wp2_with (first | (go_at_call 71; refine (rIsName_any s _ hs).mono ?_; rintro e w' ⟨rfl, rfl⟩; rw [h1]) | (go_at_call 72; refine (rIsWord_any s _).mono ?_; rintro e w' ⟨rfl, hb⟩))
    go_ret
    exact ⟨nretB (by rw [E.out, h1]; rfl), hb⟩

set_option maxHeartbeats 2000000 in
theorem rsign_any (s : ByteArray) (w : World) : Calls Tryz.prog 115 #[.string s] w fun e w' => e = .returned (.bool (signL s.data.toList)) ∧ Below w.heap.size w w' := by
  have hc : Hid (∀ (k : Nat) (hk : k < signTab.length), (w.alloc (.cells (signTab.map strV).toArray 9)).cell? ⟨w.heap.size, k, none⟩ = some (strV signTab[k])) := row_cell w signTab _
  have HB := Lib.hid (nbelow1 w (.cells (signTab.map strV).toArray 9))
  go_enter Tryz.func115, Tryz.ntmps115
  go_wp2
  have ew : w.alloc (.cells (signTab.map strV).toArray 9) = w.alloc (.cells #[strV [111, 114], strV [97, 110, 100], strV [60], strV [60, 61], strV [61], strV [43], strV [45], strV [42], strV [47]] 9) := rfl
  rw [ew] at hc HB
  unfold strV at HB hc
  generalize (w.alloc _) = W1 at hc HB ⊢
  go_loop [4] (fun i => ∃ k : Nat, k ≤ 9 ∧ i = .int .i64 k ∧ Hid (∀ j (hj : j < signTab.length), j < k → signTab[j] ≠ s.data.toList)) (fun i => 9 - (intOf i).toNat)
  case atStart => exact ⟨0, by omega, rfl, fun j hj h => by omega⟩
  case round =>
    obtain ⟨k, hk, rfl, HI⟩ := hrel
    by_cases hlt : k < 9
    · have c := hc.out k hlt
      by_cases he : signTab[k]'hlt = s.data.toList
      · have F := Lib.hid (show signL s.data.toList = true from mem_tab hlt he)
        have e1 := str_eq he
        rw [← e1] at c
        clear e1 he
        go_wp2
        go_ret
        exact ⟨nretB F.out.symm, HB.out⟩
      · have e1 := str_neb he
        have HE := Lib.hid he
        clear he
        generalize (⟨(signTab[k]'hlt).toArray⟩ : ByteArray) = x at c e1
        go_wp2
        go_round
        case rel =>
          refine ⟨k + 1, by omega, by go_num, fun j hj h => ?_⟩
          by_cases ej : j = k
          · subst ej; exact HE.out
          · exact HI.out j hj (by omega)
        case measure => simp [intOf]; omega
    · have F := Lib.hid (show signL s.data.toList = false from no_tab fun j hj => HI.out j hj (by have : j < 9 := hj; omega))
      go_wp2
      go_ret
      exact ⟨nretB F.out.symm, HB.out⟩

end Go.Proofs.YtcndknkdhlmdnaaGreatDoor
