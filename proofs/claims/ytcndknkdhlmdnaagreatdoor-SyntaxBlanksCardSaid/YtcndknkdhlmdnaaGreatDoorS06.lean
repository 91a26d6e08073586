/-
  Texts that the statements' proofs rest on, one behind another: SynI, NumQ, ModR, SynK.
-/
import Derived.Test.YtcndknkdhlmdnaaGreatDoorS05
import Derived.Test.YtcndknkdhlmdnaaGreatDoorS04
import Derived.Test.YtcndknkdhlmdnaaGreatDoorS02

/-
  Tokens of a text with more behind it (no program in sight).
-/
namespace Go.Proofs.YtcndknkdhlmdnaaGreatDoor

/-- a pattern of digits (true) and dashes, and no digit behind it -/
def patF : List Bool → List UInt8 → Bool
  | [], u => !dgC (u.headD 0)
  | _ :: _, [] => false
  | b :: P, c :: u => (if b = true then dgC c else c == 45) && patF P u
def datePat : List Bool := [true, true, true, true, false, true, true, false, true, true]
theorem date_pat (l : List UInt8) : dateAt l = patF datePat l := by
  have hx : ∀ (a b : UInt8) (k : Nat), Cal.fits k a = if k = 4 ∨ k = 7 then decide ((a.toNat : Int) = 45) else dgC a := fun a b k => by
    unfold Cal.fits
    split
    · rfl
    · rw [dg_isDig]
  have h45 : ∀ a : UInt8, decide ((a.toNat : Int) = 45) = (a == 45) := fun a => by
    have := u8_all (p := fun c => decide ((c.toNat : Int) = 45) == (c == 45)) (by decide +kernel) a
    simpa using this
  match l with
  | [] => rfl
  | [_] => simp [dateAt, patF, datePat]
  | [_, _] => simp [dateAt, patF, datePat]
  | [_, _, _] => simp [dateAt, patF, datePat]
  | [_, _, _, _] => simp [dateAt, patF, datePat]
  | [_, _, _, _, _] => simp [dateAt, patF, datePat]
  | [_, _, _, _, _, _] => simp [dateAt, patF, datePat]
  | [_, _, _, _, _, _, _] => simp [dateAt, patF, datePat]
  | [_, _, _, _, _, _, _, _] => simp [dateAt, patF, datePat]
  | [_, _, _, _, _, _, _, _, _] => simp [dateAt, patF, datePat]
  | a0 :: a1 :: a2 :: a3 :: a4 :: a5 :: a6 :: a7 :: a8 :: a9 :: r =>
    rw [Bool.eq_iff_iff, date_parts]
    have e : (a0 :: a1 :: a2 :: a3 :: a4 :: a5 :: a6 :: a7 :: a8 :: a9 :: r).take 10 = [a0, a1, a2, a3, a4, a5, a6, a7, a8, a9] := rfl
    rw [e]
    simp only [patF, datePat, if_true, Bool.false_eq_true, if_false, Bool.and_eq_true, Bool.not_eq_true']
    constructor
    · rintro ⟨-, h, h'⟩
      have g : ∀ j (hj : j < 10), (if j = 4 ∨ j = 7 then ([a0, a1, a2, a3, a4, a5, a6, a7, a8, a9][j]'hj == 45) else dgC ([a0, a1, a2, a3, a4, a5, a6, a7, a8, a9][j]'hj)) = true := fun j hj => by
        have := h j hj
        rwa [hx _ 0, h45] at this
      exact ⟨g 0 (by decide), g 1 (by decide), g 2 (by decide), g 3 (by decide), g 4 (by decide), g 5 (by decide), g 6 (by decide), g 7 (by decide), g 8 (by decide), g 9 (by decide), h'⟩
    · rintro ⟨g0, g1, g2, g3, g4, g5, g6, g7, g8, g9, h'⟩
      refine ⟨by simp, fun j hj => ?_, h'⟩
      rw [hx _ 0, h45]
      match j, hj with
      | 0, _ => exact g0
      | 1, _ => exact g1
      | 2, _ => exact g2
      | 3, _ => exact g3
      | 4, _ => exact g4
      | 5, _ => exact g5
      | 6, _ => exact g6
      | 7, _ => exact g7
      | 8, _ => exact g8
      | 9, _ => exact g9
/-- a blank or a remark fits no pattern -/
theorem pat_soft {P : List Bool} (hP : P ≠ []) {u : List UInt8} (h : (u.headD 0).toNat ≤ 32 ∨ u.headD 0 = 35) : patF P u = false := by
  cases P with
  | nil => exact absurd rfl hP
  | cons b P =>
    cases u with
    | nil => rfl
    | cons c u =>
      have hd := soft_dg _ (soft_hd h)
      rw [List.headD_cons] at h hd
      rw [patF]
      cases b with
      | true => rw [if_pos rfl, hd]; rfl
      | false =>
        rw [if_neg (by decide), beq_eq_false_iff_ne.2 (show c ≠ 45 from ?_), Bool.false_and]
        rintro rfl
        rcases h with h | h <;> exact absurd h (by decide)
/-- the last byte of a pattern is a digit -/
def digEnd (P : List Bool) : Prop := P ≠ [] ∧ P.getLast? = some true
theorem digEnd.tail {b : Bool} {P : List Bool} (h : digEnd (b :: P)) (hP : P ≠ []) : digEnd P := by
  refine ⟨hP, ?_⟩
  have := h.2
  cases P with
  | nil => exact absurd rfl hP
  | cons c P => rwa [List.getLast?_cons_cons] at this
/-- what fits a pattern elsewhere fits it here -/
def Pat (u u' : List UInt8) : Prop := ∀ P, digEnd P → patF P u' = true → patF P u = true
theorem pat_date {u u' : List UInt8} (h : Pat u u') : dateAt u' = true → dateAt u = true := by
  rw [date_pat, date_pat]
  exact h datePat ⟨by decide, rfl⟩
theorem pat_of_soft {u u' : List UInt8} (h : (u'.headD 0).toNat ≤ 32 ∨ u'.headD 0 = 35) : Pat u u' := fun P hP e => by
  rw [pat_soft hP.1 h] at e; cases e
/-- a text with a line's end and more behind it -/
theorem pat_line (v : List UInt8) : ∀ u : List UInt8, Pat u (u ++ 10 :: v)
  | [] => pat_of_soft (.inl (show (10 : UInt8).toNat ≤ 32 by decide))
  | c :: u => by
    intro P hP e
    cases P with
    | nil => exact absurd rfl hP.1
    | cons b P =>
      rw [List.cons_append, patF, Bool.and_eq_true] at e
      rw [patF, Bool.and_eq_true]
      refine ⟨e.1, ?_⟩
      cases P with
      | nil =>
        cases u with
        | nil => rfl
        | cons d u => exact e.2
      | cons b2 P => exact pat_line v u _ (hP.tail (List.cons_ne_nil _ _)) e.2
theorem tok_pos {c : UInt8} {r : List UInt8} {p : Int} {t : Tk} {n : Nat} (h : tokS c r p = .ok (t, n)) : t.pos = p := by
  unfold tokS namedS numS quotS curS markS at h
  simp only at h
  repeat' (split at h)
  all_goals first | (cases h; rfl) | cases h
/-- a token somewhere else -/
def shT (d : Int) (t : Tk) : Tk := ⟨t.kind, t.text, t.n, t.pos + d⟩
theorem scan_line {u : List UInt8} {p : Int} {l : List Tk} (h : Scan u p l) : ∃ ts e, l = ts ++ [⟨0, [], 0, e⟩] ∧ e = p + u.length ∧ ∀ (d : Int) (v : List UInt8) (vs : List Tk), Scan v (p + d + u.length + 1) vs → Scan (u ++ 10 :: v) (p + d) (ts.map (shT d) ++ vs) := by
  induction h with
  | fin p =>
    refine ⟨[], p, rfl, by simp, fun d v vs hv => ?_⟩
    have : Scan v (p + d + 1) vs := by simpa using hv
    exact .blank (by decide) this
  | @blank c r p l h hl ih =>
    obtain ⟨ts, e, rfl, rfl, ih⟩ := ih
    refine ⟨ts, _, rfl, by rw [List.length_cons]; omega, fun d v vs hv => ?_⟩
    rw [List.length_cons] at hv
    have := ih d v vs (by rw [show p + 1 + d + (r.length : Int) + 1 = p + d + ((r.length + 1 : Nat) : Int) + 1 by omega]; exact hv)
    rw [show p + 1 + d = p + d + 1 by omega] at this
    exact .blank h this
  | @rem r p l hl ih =>
    obtain ⟨ts, e, rfl, rfl, ih⟩ := ih
    have hle := takeWhile_le (· != 10) r
    have hle' : remR r ≤ r.length := hle
    have hlen : ((r.drop (remR r)).length : Int) = r.length - remR r := by rw [List.length_drop]; omega
    refine ⟨ts, _, rfl, by rw [List.length_cons, hlen]; omega, fun d v vs hv => ?_⟩
    have er : remR (r ++ 10 :: v) = remR r := by
      unfold remR
      have : ∀ x : List UInt8, ((x ++ 10 :: v).takeWhile (· != 10)) = x.takeWhile (· != 10) := fun x => by
        induction x with
        | nil => rfl
        | cons a x ihx =>
          rw [List.cons_append, List.takeWhile_cons, List.takeWhile_cons, ihx]
      rw [this]
    have ed : (r ++ 10 :: v).drop (remR r) = r.drop (remR r) ++ 10 :: v := List.drop_append_of_le_length hle'
    have := ih d v vs (by rw [hlen]; rw [List.length_cons] at hv; rw [show p + 1 + (remR r : Int) + d + (r.length - remR r) + 1 = p + d + ((r.length + 1 : Nat) : Int) + 1 by omega]; exact hv)
    rw [List.cons_append]
    refine .rem ?_
    rw [er, ed, show p + d + 1 + (remR r : Int) = p + 1 + remR r + d by omega]
    exact this
  | @tok c r p t n l h h' ht hl ih =>
    obtain ⟨ts, e, rfl, rfl, ih⟩ := ih
    have hn := tok_len ht
    have hlen : (((c :: r).drop n).length : Int) = (c :: r).length - n := by rw [List.length_drop, List.length_cons]; omega
    refine ⟨t :: ts, _, rfl, by rw [hlen]; omega, fun d v vs hv => ?_⟩
    have hpos : t.pos = p := tok_pos ht
    rw [List.map_cons, List.cons_append, List.cons_append]
    have e1 : (r ++ 10 :: v).take (n - 1) = r.take (n - 1) := List.take_append_of_le_length (by omega)
    have e2 : (r ++ 10 :: v).drop (n - 1) = r.drop (n - 1) ++ 10 :: v := List.drop_append_of_le_length (by omega)
    have ht' := tok_ctx ht e1 (by
      rw [e2]
      cases r.drop (n - 1) with
      | nil => exact .inr (.inl (show (10 : UInt8).toNat ≤ 32 by decide))
      | cons a x => exact .inl rfl) (pat_date (pat_line v (c :: r))) (p + d)
    have et : shT d t = ⟨t.kind, t.text, t.n, p + d⟩ := by unfold shT; rw [hpos]
    rw [et]
    refine .tok h h' ht' ?_
    rw [← List.cons_append, List.drop_append_of_le_length (by rw [List.length_cons]; omega), show p + d + (n : Int) = p + n + d by omega]
    exact ih d v vs (by rw [hlen, show p + (n : Int) + d + ((c :: r).length - n) + 1 = p + d + (c :: r).length + 1 by omega]; exact hv)
end Go.Proofs.YtcndknkdhlmdnaaGreatDoor

/-
  A number's text, cut at its point (no program in sight).
-/
namespace Go.Proofs.YtcndknkdhlmdnaaGreatDoor

def digL (l : List UInt8) : Bool := !l.isEmpty && l.all dgC
/-- may these be a number's whole part, and what stands behind its point? -/
def wholeOk (a : List UInt8) : Bool := digL a && (!decide (10 < a.length) && !(decide (1 < a.length) && a.headD 0 == 48))
def tailOk (point : Bool) (b : List UInt8) : Bool := !point || (digL b && !decide (6 < b.length))
def valQ (a b : List UInt8) : Int := Cal.val (a ++ b ++ List.replicate (6 - b.length) 48)
def numQ (c : List UInt8 × List UInt8 × Bool) : Option Int := if wholeOk c.1 = true ∧ tailOk c.2.2 c.2.1 = true then some (valQ c.1 c.2.1) else none
theorem while_all {p : UInt8 → Bool} {l : List UInt8} (h : l.all p = true) (r : List UInt8) (hr : ∀ c q, r = c :: q → p c = false) : (l ++ r).takeWhile p = l := by
  induction l with
  | nil =>
    cases r with
    | nil => rfl
    | cons c q => rw [List.nil_append, List.takeWhile_cons, if_neg (by rw [hr c q rfl]; decide)]
  | cons a l ih =>
    rw [List.all_cons, Bool.and_eq_true] at h
    rw [List.cons_append, List.takeWhile_cons, if_pos h.1, ih h.2]
theorem while_not {p : UInt8 → Bool} : ∀ {l : List UInt8}, l.all p = false → ∀ r, ∃ c q, (l ++ r).drop ((l ++ r).takeWhile p).length = c :: q ∧ p c = false ∧ c ∈ l
  | [], h, _ => by cases h
  | a :: l, h, r => by
    rw [List.all_cons] at h
    cases ha : p a with
    | false => exact ⟨a, l ++ r, by rw [List.cons_append, List.takeWhile_cons, if_neg (by rw [ha]; decide)]; rfl, ha, List.mem_cons_self ..⟩
    | true =>
      rw [ha, Bool.true_and] at h
      obtain ⟨c, q, h1, h2, h3⟩ := while_not h r
      exact ⟨c, q, by rw [List.cons_append, List.takeWhile_cons, if_pos ha, List.length_cons, List.drop_succ_cons]; exact h1, h2, List.mem_cons_of_mem _ h3⟩
/-- what is cut off at a point -/
theorem cut_pt {l : List UInt8} (h : (Lib.cut l [46]).2.2 = true) : l = (Lib.cut l [46]).1 ++ 46 :: (Lib.cut l [46]).2.1 := cut_app h
theorem cut_dots : ∀ (l : List UInt8), ∀ c ∈ (Lib.cut l [46]).1, c ≠ 46
  | [], c, h => by
    have : (Lib.cut [] [46]).1 = ([] : List UInt8) := rfl
    rw [this] at h; cases h
  | a :: l, c, h => by
    have ih := cut_dots l
    by_cases ha : a = 46
    · subst ha
      have : (Lib.cut (46 :: l) [46]).1 = ([] : List UInt8) := by
        unfold Lib.cut
        have e : Lib.index (46 :: l) [46] = 0 := by rw [Lib.index]; rfl
        rw [e]; rfl
      rw [this] at h; cases h
    · have hp : [46].isPrefixOf (a :: l) = false := by
        rw [List.isPrefixOf, beq_eq_false_iff_ne.2 (fun e => ha e.symm), Bool.false_and]
      have e : Lib.index (a :: l) [46] = if Lib.index l [46] == -1 then -1 else Lib.index l [46] + 1 := by
        rw [Lib.index, hp]; rfl
      have hge := Lib.index_ge l [46]
      have key : (Lib.cut (a :: l) [46]).1 = a :: (Lib.cut l [46]).1 := by
        by_cases hn : Lib.index l [46] = -1
        · have e2 : Lib.index (a :: l) [46] = -1 := by rw [e, hn]; rfl
          unfold Lib.cut
          rw [e2, hn, if_neg (by decide), if_neg (by decide)]
        · have e2 : Lib.index (a :: l) [46] = Lib.index l [46] + 1 := by rw [e, if_neg (by rw [beq_iff_eq]; exact hn)]
          unfold Lib.cut
          rw [e2, if_pos (by omega), if_pos (by omega)]
          show (a :: l).take _ = a :: l.take _
          rw [show (Lib.index l [46] + 1).toNat = (Lib.index l [46]).toNat + 1 by omega, List.take_succ_cons]
      rw [key] at h
      rcases List.mem_cons.1 h with rfl | h
      · exact ha
      · exact ih c h
theorem cut_none {l : List UInt8} (h : (Lib.cut l [46]).2.2 = false) : Lib.cut l [46] = (l, [], false) := by
  unfold Lib.cut at h ⊢
  split
  · rename_i g; rw [if_pos g] at h; cases h
  · rfl
theorem numU_cut (l : List UInt8) : numU l = numQ (Lib.cut l [46]) := by
  have h46 : dgC 46 = false := by decide
  cases hpt : (Lib.cut l [46]).2.2 with
  | false =>
    rw [cut_none hpt]
    unfold numQ tailOk
    have e0 : (wholeOk l = true ∧ (!false || (digL [] && !decide (6 < ([] : List UInt8).length))) = true) ↔ wholeOk l = true := by simp
    simp only [e0]
    cases hd : l.all dgC with
    | true =>
      have ew : l.takeWhile dgC = l := by
        have := while_all hd [] (fun c q h => by cases h)
        rwa [List.append_nil] at this
      unfold numU
      simp only [ew, List.drop_length]
      have ec : (1 ≤ l.length ∧ l.length ≤ 10 ∧ (l.length = 1 ∨ l.headD 0 ≠ 48) ∧ partOk [] = true) ↔ wholeOk l = true := by
        unfold wholeOk digL
        rw [hd]
        cases l with
        | nil => simp
        | cons a l => simp [partOk]; try omega
      simp only [ec]
      rfl
    | false =>
      have hw : ¬ wholeOk l = true := by unfold wholeOk digL; rw [hd]; simp
      rw [if_neg hw]
      obtain ⟨c, q, h1, h2, h3⟩ := while_not hd []
      rw [List.append_nil] at h1
      unfold numU
      simp only
      rw [if_neg]
      rintro ⟨-, -, -, h⟩
      rw [h1] at h
      unfold partOk at h
      simp only [Bool.and_eq_true, beq_iff_eq] at h
      have := cut_dots l c (by rw [cut_none hpt]; exact h3)
      exact this h.1
  | true =>
    have hl := cut_pt hpt
    have hdots := cut_dots l
    rcases hcut : Lib.cut l [46] with ⟨a, b, f⟩
    rw [hcut] at hpt hl hdots
    replace hpt : f = true := hpt
    subst hpt
    replace hl : l = a ++ 46 :: b := hl
    replace hdots : ∀ c ∈ a, c ≠ 46 := hdots
    unfold numQ
    simp only
    cases hd : a.all dgC with
    | true =>
      have ew : l.takeWhile dgC = a := by rw [hl]; exact while_all hd _ (fun c q h => by cases h; exact h46)
      have er : l.drop a.length = 46 :: b := by rw [hl]; exact List.drop_left
      unfold numU
      simp only [ew, er]
      have ec : (1 ≤ a.length ∧ a.length ≤ 10 ∧ (a.length = 1 ∨ l.headD 0 ≠ 48) ∧ partOk (46 :: b) = true) ↔ (wholeOk a = true ∧ tailOk true b = true) := by
        unfold wholeOk tailOk digL partOk
        rw [hd]
        cases a with
        | nil => simp
        | cons x a =>
          rw [hl]
          cases b with
          | nil => simp
          | cons y b =>
            simp
            constructor
            · rintro ⟨h1, h2, h3, h4, h5⟩; exact ⟨⟨h1, h2⟩, ⟨h4, h5⟩, h3⟩
            · rintro ⟨⟨h1, h2⟩, ⟨h4, h5⟩, h3⟩; exact ⟨h1, h2, h3, h4, h5⟩
      simp only [ec]
      rfl
    | false =>
      have hw : ¬ wholeOk a = true := by unfold wholeOk digL; rw [hd]; simp
      rw [if_neg (fun h => hw h.1)]
      obtain ⟨c, q, h1, h2, h3⟩ := while_not hd (46 :: b)
      rw [← hl] at h1
      unfold numU
      simp only
      rw [if_neg]
      rintro ⟨-, -, -, h⟩
      rw [h1] at h
      unfold partOk at h
      simp only [Bool.and_eq_true, beq_iff_eq] at h
      exact hdots c h3 h.1
end Go.Proofs.YtcndknkdhlmdnaaGreatDoor

/-
  What tokens are read as, as a module (no program in sight).
-/
namespace Go.Proofs.YtcndknkdhlmdnaaGreatDoor

/-- things with commas between them, a closing sign behind: so many more at most -/
def listR (rdr : List Tk → Rd) : Nat → List Nd → List Tk → Rd
  | 0, _, l => .error (76, (hd l).pos)
  | f + 1, acc, l => (rdr l).then fun t r => if isT tComma r = true then listR rdr f (acc ++ [t]) (stepL r) else wantT tShut r fun r => .ok (mkN 0 [] 0 (acc ++ [t]) 0, r)
theorem args_list (nest : Nat) : ∀ (f : Nat) (acc : List Nd) (l : List Tk), acc.length + f = 8 → rd (.args acc) nest l = listR (rd .expr nest) f acc l
  | 0, acc, l, h => by
    rw [rd_eq]
    exact if_pos (by omega)
  | f + 1, acc, l, h => by
    rw [rd_eq]
    show (if acc.length = 8 then _ else _) = _
    rw [if_neg (by omega), listR]
    congr 1
    funext t r
    split
    · exact args_list nest f (acc ++ [t]) (stepL r) (by rw [List.length_append]; simp; omega)
    · rfl
/-- a parameter -/
def paramR (l : List Tk) : Rd := kindT 1 l fun t r => .ok (mkN 4 t.text 0 [] t.pos, r)
/-- the parameters, if there are any -/
def paramsR (l : List Tk) : Rd := if isT tOpen l = true then listR paramR 8 [] (stepL l) else .ok (mkN 0 [] 0 [] 0, l)
/-- a definition -/
def letR (l : List Tk) : Rd := wantT tLet l fun r => kindT 1 r fun t r => (paramsR r).then fun ps r => wantT tEq r fun r => (rd .expr 0 r).then fun x r => wantT tSemi r fun r => .ok (mkN 3 t.text 0 (ps.kids ++ [x]) t.pos, r)
/-- imports, so many more at most -/
def importsR : Nat → List Nd → List Tk → Rd
  | 0, acc, l => if isT tImport l = true then .error (76, (hd l).pos) else .ok (mkN 0 [] 0 acc 0, l)
  | f + 1, acc, l => if isT tImport l = true then kindT 1 (stepL l) fun t r => wantT tSemi r fun r => importsR f (acc ++ [mkN 2 t.text 0 [] t.pos]) r else .ok (mkN 0 [] 0 acc 0, l)
/-- definitions, so many more at most -/
def letsR : Nat → List Nd → List Tk → Rd
  | 0, acc, l => if isT tLet l = true then .error (76, (hd l).pos) else .ok (mkN 0 [] 0 acc 0, l)
  | f + 1, acc, l => if isT tLet l = true then (letR l).then fun t r => letsR f (acc ++ [t]) r else .ok (mkN 0 [] 0 acc 0, l)
/-- a module -/
def modR (l : List Tk) : Rd := wantT tModule l fun r => kindT 1 r fun t r => wantT tSemi r fun r => (importsR 100 [] r).then fun is r => (letsR 200 is.kids r).then fun ls r => .ok (mkN 1 t.text 0 ls.kids (hd l).pos, r)
end Go.Proofs.YtcndknkdhlmdnaaGreatDoor

/-
  What is read is right and not too great; what is wrong has a number (no program in sight).
-/
namespace Go.Proofs.YtcndknkdhlmdnaaGreatDoor

mutual
def locN : Nd → Bool
  | .mk kind s n ks _ => kidsOk kind ks.length && textOk kind s.data.toList && numOk kind n && locKs ks
def locKs : List Nd → Bool
  | [] => true
  | k :: ks => locN k && locKs ks
end
theorem locKs_all : ∀ ks, locKs ks = ks.all locN
  | [] => rfl
  | k :: ks => by rw [locKs, locKs_all ks]; rfl
theorem locN_eq (t : Nd) : locN t = (kidsOk t.kind t.kids.length && textOk t.kind t.text.data.toList && numOk t.kind t.n && locKs t.kids) := by
  cases t; rw [locN]; rfl
mutual
theorem loc_right : ∀ (t : Nd) (d : Int), locN t = true → d + depthN t ≤ 101 → rightN t d = true
  | .mk k s n ks p, d, h, hd => by
    rw [locN, Bool.and_eq_true] at h
    rw [depthN] at hd
    rw [rightN, Bool.and_eq_true, Bool.and_eq_true, Bool.and_eq_true, Bool.and_eq_true]
    obtain ⟨h1, h2⟩ := h
    rw [Bool.and_eq_true, Bool.and_eq_true] at h1
    exact ⟨⟨⟨⟨decide_eq_true (by omega), h1.1.1⟩, h1.1.2⟩, h1.2⟩, locs_right ks (d + 1) h2 (by omega)⟩
theorem locs_right : ∀ (ks : List Nd) (d : Int), locKs ks = true → d + depthKs ks ≤ 101 → rightKs ks d = true
  | [], _, _, _ => by rw [rightKs]
  | k :: ks, d, h, hd => by
    rw [locKs, Bool.and_eq_true] at h
    rw [depthKs] at hd
    rw [rightKs, Bool.and_eq_true]
    exact ⟨loc_right k d h.1 (by omega), locs_right ks d h.2 (by omega)⟩
end

/-- a token that a text may have -/
structure GT (t : Tk) : Prop where
  name : t.kind = 1 → nearL t.text = true
  far : t.kind = 3 → anyL t.text = true
  cur : t.kind = 4 → curL t.text = true
  day : t.kind = 5 → 0 ≤ t.n ∧ t.n ≤ 73048
  num : t.kind = 6 → 0 ≤ t.n ∧ t.n ≤ 1000000000000000
  str : t.kind = 7 → nameL t.text = true
/-- right, and not too deep -/
def Gd (t : Nd) : Prop := locN t = true ∧ depthN t ≤ 100
theorem Gd.right {t : Nd} (h : Gd t) : rightN t 1 = true := loc_right t 1 h.1 (by have := h.2; omega)
/-- what is read is so; what is wrong has a number -/
def Post (Q : Nd → List Tk → Prop) (x : Rd) : Prop := match x with
  | .ok (t, r) => Q t r
  | .error (c, _) => c ≠ 0
section
variable {Q Q' : Nd → List Tk → Prop}
theorem Post.mono {x : Rd} (h : Post Q x) (hq : ∀ t r, Q t r → Q' t r) : Post Q' x := by
  match x, h with
  | .ok (t, r), h => exact hq t r h
  | .error (c, p), h => exact h
theorem Post.ok {t : Nd} {r : List Tk} (h : Q t r) : Post Q (.ok (t, r)) := h
theorem Post.error {c p : Int} (h : c ≠ 0) : Post Q (.error (c, p)) := h
theorem Post.then {x : Rd} {f : Nd → List Tk → Rd} (h : Post Q x) (hf : ∀ t r, Q t r → Post Q' (f t r)) : Post Q' (x.then f) := by
  match x, h with
  | .ok (t, r), h => exact hf t r h
  | .error (c, p), h => exact h
theorem Post.made {t : Nd} {r : List Tk} (h : depthN t ≤ 100 → Q t r) : Post Q (made t r) := by
  unfold Go.Proofs.YtcndknkdhlmdnaaGreatDoor.made
  split
  · exact Post.error (by decide)
  · exact h (by omega)
theorem Post.want {w : List UInt8} {l : List Tk} {f : List Tk → Rd} (h : isT w l = true → Post Q (f (stepL l))) : Post Q (wantT w l f) := by
  unfold wantT
  split
  · rename_i g; exact h g
  · exact Post.error (by decide)
theorem Post.kind {k : Int} {l : List Tk} {f : Tk → List Tk → Rd} (h : (hd l).kind = k → Post Q (f (hd l) (stepL l))) : Post Q (kindT k l f) := by
  unfold kindT
  split
  · rename_i g; exact h g
  · exact Post.error (by decide)
theorem Post.nest {n : Nat} {l : List Tk} {x : Rd} (h : Post Q x) : Post Q (nestT n l x) := by
  unfold nestT
  split
  · exact Post.error (by decide)
  · exact h
theorem Post.ite {c : Prop} [Decidable c] {x y : Rd} (h : c → Post Q x) (h' : ¬ c → Post Q y) : Post Q (if c then x else y) := by
  split
  · exact h (by assumption)
  · exact h' (by assumption)
end

/-- what is left of right tokens: fewer right tokens -/
def Lt (l : List Tk) (n : Nat) (r : List Tk) : Prop := (∀ k ∈ r, GT k) ∧ r.length + n ≤ l.length
theorem Lt.refl {l : List Tk} (h : ∀ k ∈ l, GT k) : Lt l 0 l := ⟨h, by omega⟩
theorem hd_mem {l : List Tk} (h : l ≠ []) : hd l ∈ l := by
  cases l with
  | nil => exact absurd rfl h
  | cons a l => exact List.mem_cons_self ..
theorem step_mem {l : List Tk} {k : Tk} (h : k ∈ stepL l) : k ∈ l := by
  unfold stepL at h
  split at h
  · exact h
  · exact List.mem_of_mem_tail h
theorem Lt.step {l r : List Tk} {n : Nat} (h : Lt l n r) (hs : (stepL r).length + 1 = r.length) : Lt l (n + 1) (stepL r) := ⟨fun k hk => h.1 k (step_mem hk), by have := h.2; omega⟩
theorem Lt.is {l r : List Tk} {n : Nat} (h : Lt l n r) {w : List UInt8} (hs : isT w r = true) : Lt l (n + 1) (stepL r) := h.step (isT_len hs)
theorem Lt.any {l r : List Tk} {n : Nat} (h : Lt l n r) {ws : List (List UInt8)} (hs : anyT ws r = true) : Lt l (n + 1) (stepL r) := h.step (anyT_len hs)
theorem Lt.kind {l r : List Tk} {n : Nat} (h : Lt l n r) {k : Int} (hs : (hd r).kind = k) (hk : k ≠ 0) : Lt l (n + 1) (stepL r) ∧ GT (hd r) := ⟨h.step (step_len hs hk), h.1 _ (hd_mem (hd_kind hs hk))⟩
theorem nodesKs_app : ∀ (a b : List Nd), nodesKs (a ++ b) = nodesKs a + nodesKs b
  | [], b => by rw [List.nil_append, nodesKs]; omega
  | k :: a, b => by rw [List.cons_append, nodesKs, nodesKs, nodesKs_app a b]; omega
theorem nodesKs_one (t : Nd) : nodesKs [t] = nodesN t := by rw [nodesKs, nodesKs]; omega
theorem nodes_mk (k : Int) (s : List UInt8) (n : Int) (ks : List Nd) (p : Int) : nodesN (mkN k s n ks p) = nodesKs ks + 1 := by unfold mkN; rw [nodesN]
theorem kids_mk (k : Int) (s : List UInt8) (n : Int) (ks : List Nd) (p : Int) : (mkN k s n ks p).kids = ks := rfl
theorem text_mk (k : Int) (s : List UInt8) (n : Int) (ks : List Nd) (p : Int) : (mkN k s n ks p).text.data.toList = s := rfl
theorem loc_mk {k n p : Int} {s : List UInt8} {ks : List Nd} (h1 : kidsOk k ks.length = true) (h2 : textOk k s = true) (h3 : numOk k n = true) (h4 : ∀ t ∈ ks, Gd t) : locN (mkN k s n ks p) = true := by
  rw [locN_eq, locKs_all, Bool.and_eq_true, Bool.and_eq_true, Bool.and_eq_true]
  exact ⟨⟨⟨h1, h2⟩, h3⟩, List.all_eq_true.2 fun t ht => (h4 t ht).1⟩
theorem gd_leaf {k n p : Int} {s : List UInt8} (h1 : kidsOk k 0 = true) (h2 : textOk k s = true) (h3 : numOk k n = true) : Gd (mkN k s n [] p) :=
  ⟨loc_mk h1 h2 h3 (fun t ht => by cases ht), by unfold mkN; rw [depthN, depthKs]; omega⟩
theorem nodes_leaf (k : Int) (s : List UInt8) (n p : Int) : nodesN (mkN k s n [] p) = 1 := by rw [nodes_mk, nodesKs]
/-- what a reading begins with is right -/
def preM : Md → Prop
  | .loop _ t => Gd t
  | .args acc => (∀ k ∈ acc, Gd k) ∧ acc.length ≤ 8
  | _ => True
def wM : Md → Nat
  | .loop _ t => nodesN t
  | .args acc => nodesKs acc
  | _ => 0
/-- what a reading ends with -/
def postM (m : Md) (l : List Tk) (t : Nd) (r : List Tk) : Prop := match m with
  | .args acc => (∀ k ∈ t.kids, Gd k) ∧ 1 ≤ t.kids.length ∧ t.kids.length ≤ 8 ∧ (∀ k ∈ r, GT k) ∧ nodesKs t.kids + r.length ≤ nodesKs acc + l.length
  | m => Gd t ∧ (∀ k ∈ r, GT k) ∧ nodesN t + r.length ≤ wM m + l.length
theorem sign_text {lv : Nat} {l : List Tk} (h : anyT (signsT lv) l = true) : signL (hd l).text = true := by
  have hs : ∀ w ∈ signsT lv, signL w = true := by
    unfold signsT
    split
    · decide
    · split
      · decide
      · split
        · decide
        · decide
  obtain ⟨w, hw, hi⟩ := List.any_eq_true.1 h
  rw [(isT_kind hi).2]; exact hs w hw
theorem cmp_text {l : List Tk} (h : anyT cmpT l = true) : signL (hd l).text = true := by
  have hs : ∀ w ∈ cmpT, signL w = true := by decide
  obtain ⟨w, hw, hi⟩ := List.any_eq_true.1 h
  rw [(isT_kind hi).2]; exact hs w hw
theorem near_any {s : List UInt8} (h : nearL s = true) : anyL s = true := by rw [← any_eq, h]; rfl
theorem body_post {g : Md → Nat → List Tk → Rd} (ih : ∀ m n l, preM m → (∀ k ∈ l, GT k) → Post (postM m l) (g m n l)) (m : Md) (n : Nat) (l : List Tk) (hm : preM m) (hl : ∀ k ∈ l, GT k) : Post (postM m l) (body g m n l) := by
  have L0 := Lt.refl hl
  have three : ∀ {a b c : Nd} {k : Int} {s : List UInt8} {p : Int} {r : List Tk}, kidsOk k 3 = true → textOk k s = true → numOk k 0 = true → Gd a → Gd b → Gd c → (∀ k ∈ r, GT k) → nodesN a + (nodesN b + nodesN c) + 1 + r.length ≤ l.length → depthN (mkN k s 0 [a, b, c] p) ≤ 100 → Gd (mkN k s 0 [a, b, c] p) ∧ (∀ k ∈ r, GT k) ∧ nodesN (mkN k s 0 [a, b, c] p) + r.length ≤ 0 + l.length := by
    intro a b c k s p r h1 h2 h3 ha hb hc hr hn hd
    refine ⟨⟨loc_mk h1 h2 h3 (fun t ht => ?_), hd⟩, hr, ?_⟩
    · simp only [List.mem_cons, List.not_mem_nil, or_false] at ht
      rcases ht with rfl | rfl | rfl <;> assumption
    · rw [nodes_mk, nodesKs, nodesKs, nodesKs, nodesKs]; omega
  cases m with
  | expr =>
    refine Post.nest (Post.ite (fun h => ?_) fun h => ?_)
    · have L1 := L0.is h
      refine Post.then (ih .expr _ _ trivial L1.1) ?_
      rintro a r ⟨ga, hr, na⟩
      refine Post.want fun h2 => ?_
      have L2 := (Lt.refl hr).is h2
      refine Post.then (ih .expr _ _ trivial L2.1) ?_
      rintro b r2 ⟨gb, hr2, nb⟩
      refine Post.want fun h3 => ?_
      have L3 := (Lt.refl hr2).is h3
      refine Post.then (ih .expr _ _ trivial L3.1) ?_
      rintro c r3 ⟨gc, hr3, nc⟩
      refine Post.made fun hd => ?_
      have := L1.2
      have := L2.2
      have := L3.2
      simp only [wM] at na nb nc
      exact three (by decide) (by decide) (by decide) ga gb gc hr3 (by omega) hd
    · refine (ih (.chain 0) _ _ trivial hl).mono ?_
      rintro t r h; exact h
  | chain lv =>
    refine Post.then (Q := fun t r => Gd t ∧ (∀ k ∈ r, GT k) ∧ nodesN t + r.length ≤ 0 + l.length) ?_ ?_
    · have : ∃ m', lower lv = m' ∧ preM m' ∧ wM m' = 0 ∧ (∀ t r, postM m' l t r → Gd t ∧ (∀ k ∈ r, GT k) ∧ nodesN t + r.length ≤ 0 + l.length) := by
        unfold lower
        split
        · exact ⟨_, rfl, trivial, rfl, fun t r h => h⟩
        · split
          · exact ⟨_, rfl, trivial, rfl, fun t r h => h⟩
          · split
            · exact ⟨_, rfl, trivial, rfl, fun t r h => h⟩
            · exact ⟨_, rfl, trivial, rfl, fun t r h => h⟩
      obtain ⟨m', e, h1, -, h2⟩ := this
      rw [e]
      exact (ih m' _ _ h1 hl).mono h2
    · rintro t r ⟨gt, hr, nt⟩
      refine (ih (.loop lv t) _ _ gt hr).mono ?_
      rintro u q ⟨gu, hq, nu⟩
      simp only [wM] at nu
      exact ⟨gu, hq, by simp only [wM]; omega⟩
  | loop lv t =>
    refine Post.ite (fun h => ?_) fun h => ?_
    · have L1 := L0.any h
      refine Post.then (Q := fun t r => Gd t ∧ (∀ k ∈ r, GT k) ∧ nodesN t + r.length ≤ 0 + (stepL l).length) ?_ ?_
      · have : ∃ m', lower lv = m' ∧ preM m' ∧ (∀ t r, postM m' (stepL l) t r → Gd t ∧ (∀ k ∈ r, GT k) ∧ nodesN t + r.length ≤ 0 + (stepL l).length) := by
          unfold lower
          split
          · exact ⟨_, rfl, trivial, fun t r h => h⟩
          · split
            · exact ⟨_, rfl, trivial, fun t r h => h⟩
            · split
              · exact ⟨_, rfl, trivial, fun t r h => h⟩
              · exact ⟨_, rfl, trivial, fun t r h => h⟩
        obtain ⟨m', e, h1, h2⟩ := this
        rw [e]
        exact (ih m' _ _ h1 L1.1).mono h2
      · rintro u r ⟨gu, hr, nu⟩
        refine Post.then (Q := fun v q => Gd v ∧ (∀ k ∈ q, GT k) ∧ nodesN v + q.length ≤ nodesN t + l.length) (Post.made fun hd => ?_) ?_
        · refine ⟨⟨loc_mk (show kidsOk 13 2 = true by decide) (sign_text h) (by decide) (fun v hv => ?_), hd⟩, hr, ?_⟩
          · simp only [List.mem_cons, List.not_mem_nil, or_false] at hv
            rcases hv with rfl | rfl
            · exact hm
            · exact gu
          · rw [nodes_mk, nodesKs, nodesKs, nodesKs]
            have := L1.2
            omega
        · rintro v q ⟨gv, hq, nv⟩
          refine (ih (.loop lv v) _ _ gv hq).mono ?_
          rintro x y ⟨gx, hy, nx⟩
          simp only [wM] at nx
          exact ⟨gx, hy, by simp only [wM]; omega⟩
    · exact Post.ok ⟨hm, hl, by simp only [wM]; omega⟩
  | not =>
    refine Post.ite (fun h => ?_) fun h => ?_
    · have L1 := L0.is h
      refine Post.nest (Post.then (ih .not _ _ trivial L1.1) ?_)
      rintro t r ⟨gt, hr, nt⟩
      refine Post.made fun hd => ?_
      refine ⟨⟨loc_mk (show kidsOk 12 1 = true by decide) (by rw [(isT_kind h).2]; decide) (by decide) (fun v hv => ?_), hd⟩, hr, ?_⟩
      · rw [List.mem_singleton.1 hv]; exact gt
      · rw [nodes_mk, nodesKs_one]
        have := L1.2
        simp only [wM] at nt ⊢
        omega
    · refine Post.then (ih (.chain 2) _ _ trivial hl) ?_
      rintro a r ⟨ga, hr, na⟩
      simp only [wM] at na
      refine Post.ite (fun h2 => ?_) fun h2 => ?_
      · have L1 := (Lt.refl hr).any h2
        refine Post.then (ih (.chain 2) _ _ trivial L1.1) ?_
        rintro b q ⟨gb, hq, nb⟩
        simp only [wM] at nb
        refine Post.made fun hd => ?_
        refine ⟨⟨loc_mk (show kidsOk 13 2 = true by decide) (cmp_text h2) (by decide) (fun v hv => ?_), hd⟩, hq, ?_⟩
        · simp only [List.mem_cons, List.not_mem_nil, or_false] at hv
          rcases hv with rfl | rfl
          · exact ga
          · exact gb
        · rw [nodes_mk, nodesKs, nodesKs, nodesKs]
          have := L1.2
          simp only [wM]
          omega
      · exact Post.ok ⟨ga, hr, by simp only [wM]; omega⟩
  | unary =>
    refine Post.ite (fun h => ?_) fun h => ?_
    · have L1 := L0.is h
      refine Post.nest (Post.then (ih .unary _ _ trivial L1.1) ?_)
      rintro t r ⟨gt, hr, nt⟩
      refine Post.made fun hd => ?_
      refine ⟨⟨loc_mk (show kidsOk 12 1 = true by decide) (by rw [(isT_kind h).2]; decide) (by decide) (fun v hv => ?_), hd⟩, hr, ?_⟩
      · rw [List.mem_singleton.1 hv]; exact gt
      · rw [nodes_mk, nodesKs_one]
        have := L1.2
        simp only [wM] at nt ⊢
        omega
    · exact (ih .atom _ _ trivial hl).mono fun t r h => h
  | atom =>
    have leaf : ∀ {k n p : Int} {s : List UInt8} {r : List Tk} {j : Nat}, Lt l (j + 1) r → kidsOk k 0 = true → textOk k s = true → numOk k n = true → Post (postM .atom l) (.ok (mkN k s n [] p, r)) := by
      intro k n p s r j L h1 h2 h3
      refine Post.ok ⟨gd_leaf h1 h2 h3, L.1, ?_⟩
      rw [nodes_leaf]
      have := L.2
      simp only [wM]
      omega
    refine Post.ite (fun h => ?_) fun _ => ?_
    · obtain ⟨L1, g⟩ := L0.kind h (by decide)
      exact leaf L1 (by decide) (by decide) (by have := g.num h; unfold numOk; rw [if_pos rfl, decide_eq_true this.1, decide_eq_true this.2]; rfl)
    refine Post.ite (fun h => ?_) fun _ => ?_
    · obtain ⟨L1, g⟩ := L0.kind h (by decide)
      exact leaf L1 (by decide) (by decide) (by have := g.day h; unfold numOk; rw [if_neg (by decide), if_pos rfl, decide_eq_true this.1, decide_eq_true this.2]; rfl)
    refine Post.ite (fun h => ?_) fun _ => ?_
    · obtain ⟨L1, g⟩ := L0.kind h (by decide)
      exact leaf L1 (by decide) (g.cur h) (by decide)
    refine Post.ite (fun h => ?_) fun _ => ?_
    · have hx : Lt l 1 (stepL l) ∧ anyL (hd l).text = true := by
        rcases h with h | h
        · obtain ⟨L1, g⟩ := L0.kind h (by decide)
          exact ⟨L1, near_any (g.name h)⟩
        · obtain ⟨L1, g⟩ := L0.kind h (by decide)
          exact ⟨L1, g.far h⟩
      obtain ⟨L1, hany⟩ := hx
      refine Post.ite (fun h2 => ?_) fun _ => ?_
      · have L2 := L1.is h2
        refine Post.then (ih (.args []) _ _ ⟨(fun k hk => by cases hk), by simp⟩ L2.1) ?_
        rintro a r ⟨ga, h1, h8, hr, na⟩
        refine Post.made fun hd => ?_
        refine ⟨⟨loc_mk (by unfold kidsOk; rw [if_neg (by decide), if_pos rfl, decide_eq_true h1, decide_eq_true h8]; rfl) hany (by decide) ga, hd⟩, hr, ?_⟩
        rw [nodes_mk]
        have := L2.2
        rw [nodesKs] at na
        simp only [wM]
        omega
      · exact leaf L1 (by decide) hany (by decide)
    refine Post.ite (fun h => ?_) fun _ => ?_
    · exact leaf (L0.is h) (by decide) (by decide) (by decide)
    refine Post.ite (fun h => ?_) fun _ => ?_
    · exact leaf (L0.is h) (by decide) (by decide) (by decide)
    refine Post.ite (fun h => ?_) fun _ => ?_
    · refine Post.kind fun h2 => ?_
      obtain ⟨L2, g⟩ := (L0.is h).kind h2 (by decide)
      exact leaf L2 (by decide) (g.str h2) (by decide)
    refine Post.ite (fun h => ?_) fun _ => ?_
    · refine Post.kind fun h2 => ?_
      obtain ⟨L2, g⟩ := (L0.is h).kind h2 (by decide)
      refine Post.want fun h3 => ?_
      have L3 := L2.is h3
      refine Post.then (ih .expr _ _ trivial L3.1) ?_
      rintro a r ⟨ga, hr, na⟩
      refine Post.want fun h4 => ?_
      have L4 := (Lt.refl hr).is h4
      refine Post.then (ih .expr _ _ trivial L4.1) ?_
      rintro b r2 ⟨gb, hr2, nb⟩
      refine Post.want fun h5 => ?_
      have L5 := (Lt.refl hr2).is h5
      refine Post.then (ih .expr _ _ trivial L5.1) ?_
      rintro c r3 ⟨gc, hr3, nc⟩
      refine Post.want fun h6 => ?_
      have L6 := (Lt.refl hr3).is h6
      refine Post.made fun hd => ?_
      have := L3.2
      have := L4.2
      have := L5.2
      have := L6.2
      simp only [wM] at na nb nc
      exact three (by decide) (g.str h2) (by decide) ga gb gc L6.1 (by omega) hd
    refine Post.ite (fun h => ?_) fun _ => ?_
    · have L1 := L0.is h
      refine Post.then (ih .expr _ _ trivial L1.1) ?_
      rintro x r ⟨gx, hr, nx⟩
      refine Post.want fun h2 => ?_
      have L2 := (Lt.refl hr).is h2
      have := L1.2
      have := L2.2
      simp only [wM] at nx
      exact Post.ok ⟨gx, L2.1, by simp only [wM]; omega⟩
    · exact Post.error (by decide)
  | args acc =>
    refine Post.ite (fun h => Post.error (by decide)) fun h => ?_
    refine Post.then (ih .expr _ _ trivial hl) ?_
    rintro t r ⟨gt, hr, nt⟩
    simp only [wM] at nt
    have hm1 := hm.1
    have hm2 := hm.2
    have hg : ∀ k ∈ acc ++ [t], Gd k := fun k hk => by
      rcases List.mem_append.1 hk with h | h
      · exact hm1 k h
      · rw [List.mem_singleton.1 h]; exact gt
    have hlen : (acc ++ [t]).length = acc.length + 1 := by rw [List.length_append]; rfl
    refine Post.ite (fun h2 => ?_) fun h2 => ?_
    · have L1 := (Lt.refl hr).is h2
      refine (ih (.args (acc ++ [t])) _ _ ⟨hg, by omega⟩ L1.1).mono ?_
      rintro u q ⟨gu, h1, h8, hq, nu⟩
      refine ⟨gu, h1, h8, hq, ?_⟩
      rw [nodesKs_app, nodesKs_one] at nu
      have := L1.2
      omega
    · refine Post.want fun h3 => ?_
      have L1 := (Lt.refl hr).is h3
      refine Post.ok ⟨hg, ?_, ?_, L1.1, ?_⟩
      · rw [kids_mk]; omega
      · rw [kids_mk]; omega
      · rw [kids_mk, nodesKs_app, nodesKs_one]
        have := L1.2
        omega
theorem run_post : ∀ (f : Nat) (m : Md) (n : Nat) (l : List Tk), preM m → (∀ k ∈ l, GT k) → Post (postM m l) (runF f m n l)
  | 0, _, _, _, _, _ => Post.error (by decide)
  | f + 1, m, n, l, hm, hl => body_post (fun m n l h h' => run_post f m n l h h') m n l hm hl
/-- an expression that is read is right, and has no more nodes than tokens -/
theorem rd_post (n : Nat) {l : List Tk} (hl : ∀ k ∈ l, GT k) : Post (fun t r => Gd t ∧ (∀ k ∈ r, GT k) ∧ nodesN t + r.length ≤ l.length) (rd .expr n l) :=
  (run_post _ .expr n l trivial hl).mono fun t r h => ⟨h.1, h.2.1, by have := h.2.2; simp only [wM] at this; omega⟩
end Go.Proofs.YtcndknkdhlmdnaaGreatDoor
