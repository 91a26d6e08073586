/-
  Texts that the statements' proofs rest on, one behind another: ExprLaw, ShowMod, ModLaw, FormLaw, Reg, NodeA.
-/
import Derived.Test.YtcndknkdhlmdnaaGreatDoorM04
import Derived.Test.YtcndknkdhlmdnaaGreatDoorM03
import Derived.Test.YtcndknkdhlmdnaaGreatDoorProg
import Derived.WalkKit
import Derived.Deep.RegionWith
import Derived.Deep.RegionHeld3
import Derived.Test.YtcndknkdhlmdnaaGreatDoorM02
import Derived.WalkSpells
import Derived.WalkLawsBesides
import Derived.IntWalk
import Derived.Lib.Hide

/-
  Which expressions are right, as the program asks it: plain laws (no program in sight).
-/
namespace Go.Proofs.YtcndknkdhlmdnaaGreatDoor

/-- is it a right node without kids? -/
def plainB (t : Nd) : Bool := decide (5 ≤ t.kind ∧ t.kind ≤ 10) && (textOk t.kind t.text.data.toList && numOk t.kind t.n) && t.kids.isEmpty
/-- is a node with kids what its kind asks? -/
def compB (t : Nd) : Bool :=
  if t.kind = 11 then anyL t.text.data.toList
  else if t.kind = 15 then nameL t.text.data.toList && decide (t.kids.length = 3)
  else if t.kind = 14 then t.text.data.toList.isEmpty && decide (t.kids.length = 3)
  else if t.kind = 12 then (t.text.data.toList == [45] || t.text.data.toList == [110, 111, 116]) && decide (t.kids.length = 1)
  else if t.kind = 13 then signL t.text.data.toList && decide (t.kids.length = 2)
  else false
theorem plain_comp {t : Nd} (h : plainB t = true) : compB t = false := by
  unfold plainB at h
  simp only [Bool.and_eq_true, decide_eq_true_eq] at h
  unfold compB
  repeat rw [if_neg (by omega)]
theorem right_eq (t : Nd) (d : Int) : rightN t d = (decide (d ≤ 100) && (plainB t || (decide (t.n = 0) && (decide (1 ≤ t.kids.length) && decide (t.kids.length ≤ 8)) && rightKs t.kids (d + 1) && compB t))) := by
  cases t with
  | mk kind s n ks p =>
  rw [rightN]
  show (decide (d ≤ 100) && kidsOk kind ks.length && textOk kind s.data.toList && numOk kind n && rightKs ks (d + 1)) = (decide (d ≤ 100) && ((decide (5 ≤ kind ∧ kind ≤ 10) && (textOk kind s.data.toList && numOk kind n) && ks.isEmpty) ||
    (decide (n = 0) && (decide (1 ≤ ks.length) && decide (ks.length ≤ 8)) && rightKs ks (d + 1) && (if kind = 11 then anyL s.data.toList
      else if kind = 15 then nameL s.data.toList && decide (ks.length = 3)
      else if kind = 14 then s.data.toList.isEmpty && decide (ks.length = 3)
      else if kind = 12 then (s.data.toList == [45] || s.data.toList == [110, 111, 116]) && decide (ks.length = 1)
      else if kind = 13 then signL s.data.toList && decide (ks.length = 2)
      else false))))
  cases decide (d ≤ 100)
  · simp
  simp only [Bool.true_and]
  by_cases h1 : 5 ≤ kind ∧ kind ≤ 10
  · rw [decide_eq_true h1, if_neg (by omega), if_neg (by omega), if_neg (by omega), if_neg (by omega), if_neg (by omega), Bool.and_false, Bool.or_false, Bool.true_and]
    unfold kidsOk
    rw [if_pos h1]
    cases ks with
    | nil => rw [rightKs]; simp
    | cons k ks => simp
  · rw [decide_eq_false h1, Bool.false_and, Bool.false_and, Bool.false_or]
    have hk : kind = 11 ∨ kind = 15 ∨ kind = 14 ∨ kind = 12 ∨ kind = 13 ∨ (kind ≠ 11 ∧ kind ≠ 15 ∧ kind ≠ 14 ∧ kind ≠ 12 ∧ kind ≠ 13) := by omega
    rcases hk with hk | hk | hk | hk | hk | hk
    · subst hk
      have e1 : kidsOk 11 ks.length = (decide (1 ≤ ks.length) && decide (ks.length ≤ 8)) := rfl
      have e2 : textOk 11 s.data.toList = anyL s.data.toList := rfl
      have e3 : numOk 11 n = decide (n = 0) := rfl
      rw [e1, e2, e3, if_pos rfl]
      cases decide (1 ≤ ks.length) <;> cases decide (ks.length ≤ 8) <;> cases decide (n = 0) <;> cases anyL s.data.toList <;> cases rightKs ks (d + 1) <;> rfl
    · subst hk
      have e1 : kidsOk 15 ks.length = decide (ks.length = 3) := rfl
      have e2 : textOk 15 s.data.toList = nameL s.data.toList := rfl
      have e3 : numOk 15 n = decide (n = 0) := rfl
      rw [e1, e2, e3, if_neg (by decide), if_pos rfl]
      by_cases hl : ks.length = 3
      · rw [decide_eq_true hl, decide_eq_true (show 1 ≤ ks.length by omega), decide_eq_true (show ks.length ≤ 8 by omega)]
        cases decide (n = 0) <;> cases nameL s.data.toList <;> cases rightKs ks (d + 1) <;> rfl
      · rw [decide_eq_false hl]; simp
    · subst hk
      have e1 : kidsOk 14 ks.length = decide (ks.length = 3) := rfl
      have e2 : textOk 14 s.data.toList = s.data.toList.isEmpty := rfl
      have e3 : numOk 14 n = decide (n = 0) := rfl
      rw [e1, e2, e3, if_neg (by decide), if_neg (by decide), if_pos rfl]
      by_cases hl : ks.length = 3
      · rw [decide_eq_true hl, decide_eq_true (show 1 ≤ ks.length by omega), decide_eq_true (show ks.length ≤ 8 by omega)]
        cases decide (n = 0) <;> cases s.data.toList.isEmpty <;> cases rightKs ks (d + 1) <;> rfl
      · rw [decide_eq_false hl]; simp
    · subst hk
      have e1 : kidsOk 12 ks.length = decide (ks.length = 1) := rfl
      have e2 : textOk 12 s.data.toList = (s.data.toList == [45] || s.data.toList == [110, 111, 116]) := rfl
      have e3 : numOk 12 n = decide (n = 0) := rfl
      rw [e1, e2, e3, if_neg (by decide), if_neg (by decide), if_neg (by decide), if_pos rfl]
      by_cases hl : ks.length = 1
      · rw [decide_eq_true hl, decide_eq_true (show 1 ≤ ks.length by omega), decide_eq_true (show ks.length ≤ 8 by omega)]
        cases decide (n = 0) <;> cases (s.data.toList == [45] || s.data.toList == [110, 111, 116]) <;> cases rightKs ks (d + 1) <;> rfl
      · rw [decide_eq_false hl]; simp
    · subst hk
      have e1 : kidsOk 13 ks.length = decide (ks.length = 2) := rfl
      have e2 : textOk 13 s.data.toList = signL s.data.toList := rfl
      have e3 : numOk 13 n = decide (n = 0) := rfl
      rw [e1, e2, e3, if_neg (by decide), if_neg (by decide), if_neg (by decide), if_neg (by decide), if_pos rfl]
      by_cases hl : ks.length = 2
      · rw [decide_eq_true hl, decide_eq_true (show 1 ≤ ks.length by omega), decide_eq_true (show ks.length ≤ 8 by omega)]
        cases decide (n = 0) <;> cases signL s.data.toList <;> cases rightKs ks (d + 1) <;> rfl
      · rw [decide_eq_false hl]; simp
    · have e1 : kidsOk kind ks.length = false := by
        unfold kidsOk
        rw [if_neg h1, if_neg hk.1, if_neg hk.2.2.2.1, if_neg hk.2.2.2.2, if_neg (by omega)]
      rw [e1, if_neg hk.1, if_neg hk.2.1, if_neg hk.2.2.1, if_neg hk.2.2.2.1, if_neg hk.2.2.2.2]
      simp
theorem rightKs_take (ks : List Nd) (d : Int) : ∀ n, (∀ j (hj : j < ks.length), j < n → rightN ks[j] d = true) → rightKs (ks.take n) d = true := by
  intro n h
  rw [rightKs_iff, List.all_eq_true]
  intro k hk
  obtain ⟨i, hi, rfl⟩ := List.getElem_of_mem hk
  rw [List.length_take] at hi
  rw [List.getElem_take]
  exact h i (by omega) (by omega)
theorem rightKs_not {ks : List Nd} {d : Int} {j : Nat} (hj : j < ks.length) (h : rightN ks[j] d = false) : rightKs ks d = false := by
  rw [rightKs_iff, Bool.eq_false_iff]
  intro e
  rw [List.all_eq_true] at e
  rw [e _ (List.getElem_mem hj)] at h
  cases h

end Go.Proofs.YtcndknkdhlmdnaaGreatDoor

/-
  Which modules are right, and how each is written: plain laws (no program in sight).
-/
namespace Go.Proofs.YtcndknkdhlmdnaaGreatDoor

/-- a node of a kind, with a name, and nothing else -/
def bareN (kind : Int) (t : Nd) : Bool := t.kind == kind && nearL t.text.data.toList && t.n == 0 && t.kids.isEmpty
/-- the last kid -/
def lastK (t : Nd) : Nd := t.kids.getLastD (.mk 0 ByteArray.empty 0 [] 0)
/-- a definition -/
def letN (t : Nd) : Bool := t.kind == 3 && nearL t.text.data.toList && t.n == 0 && decide (1 ≤ t.kids.length) && decide (t.kids.length ≤ 9) && (t.kids.dropLast.all (bareN 4) && rightN (lastK t) 1)
/-- its text -/
def letHead (t : Nd) : List UInt8 := [108, 101, 116, 32] ++ t.text.data.toList
def letL (t : Nd) : List UInt8 := letHead t ++ (if t.kids.length = 1 then [] else listL (t.kids.dropLast.map fun p => p.text.data.toList)) ++ [32, 61, 32] ++ formN (lastK t) ++ [59, 10]
def impL (t : Nd) : List UInt8 := [105, 109, 112, 111, 114, 116, 32] ++ t.text.data.toList ++ [59, 10]
def modHead (t : Nd) : List UInt8 := [109, 111, 100, 117, 108, 101, 32] ++ t.text.data.toList ++ [59, 10]
/-- how many imports stand ahead -/
def impsN (ks : List Nd) : Nat := (ks.takeWhile (bareN 2)).length
/-- is it a module's tree? -/
def modN (t : Nd) : Bool := t.kind == 1 && nearL t.text.data.toList && t.n == 0 && smallN t && (decide (impsN t.kids ≤ 100) && decide (t.kids.length - impsN t.kids ≤ 200) && (t.kids.drop (impsN t.kids)).all letN)
def modL (t : Nd) : List UInt8 := modHead t ++ (t.kids.take (impsN t.kids)).flatMap impL ++ (t.kids.drop (impsN t.kids)).flatMap letL

theorem impsN_le (ks : List Nd) : impsN ks ≤ ks.length := (List.takeWhile_sublist (l := ks) (bareN 2)).length_le
theorem nodes_mem : ∀ (ks : List Nd) (k : Nd), k ∈ ks → nodesN k ≤ nodesKs ks
  | a :: r, k, h => by
    rw [nodesKs]
    rcases List.mem_cons.1 h with rfl | h
    · omega
    · have := nodes_mem r k h; omega
  | [], _, h => by cases h
theorem nodes_kids (t : Nd) : nodesN t = nodesKs t.kids + 1 := by cases t; rw [nodesN]; rfl
theorem small_kid {t k : Nd} (h : smallN t = true) (hk : k ∈ t.kids) : smallN k = true := by
  rw [smallN_eq, decide_eq_true_eq] at h ⊢
  have := nodes_mem t.kids k hk
  have := nodes_kids t
  omega
theorem last_get {t : Nd} (h : 1 ≤ t.kids.length) : t.kids[t.kids.length - 1]'(by omega) = lastK t := by
  unfold lastK
  rw [List.getLastD_eq_getLast?, List.getLast?_eq_getElem?, List.getElem?_eq_getElem (by omega)]
  rfl
theorem last_mem {t : Nd} (h : 1 ≤ t.kids.length) : lastK t ∈ t.kids := by
  rw [← last_get h]
  exact List.getElem_mem _
theorem sum_le {l : List Nat} {b : Nat} (h : ∀ x ∈ l, x ≤ b) : l.sum ≤ l.length * b := by
  induction l with
  | nil => simp
  | cons a l ih =>
    have h1 := h a (List.mem_cons_self ..)
    have h2 := ih fun x hx => h x (List.mem_cons_of_mem _ hx)
    rw [List.sum_cons, List.length_cons, Nat.succ_mul]
    omega
theorem small_form {t : Nd} (h : smallN t = true) {d : Int} (hr : rightN t d = true) : (formN t).length ≤ 1048576 := by
  rw [smallN_eq, decide_eq_true_eq] at h
  have := formN_len t d hr
  omega
theorem bare_near {k : Int} {t : Nd} (h : bareN k t = true) : nearL t.text.data.toList = true ∧ t.kind = k ∧ t.n = 0 ∧ t.kids = [] := by
  unfold bareN at h
  simp only [Bool.and_eq_true, beq_iff_eq, List.isEmpty_iff] at h
  exact ⟨h.1.1.2, h.1.1.1, h.1.2, h.2⟩
theorem params_len {t : Nd} (h : letN t = true) : (listL (t.kids.dropLast.map fun p => p.text.data.toList)).length ≤ 300 := by
  unfold letN at h
  simp only [Bool.and_eq_true, decide_eq_true_eq, List.all_eq_true] at h
  have h1 := listL_len (t.kids.dropLast.map fun p => p.text.data.toList)
  have h2 := sum_le (l := (t.kids.dropLast.map fun p => p.text.data.toList).map fun f => f.length + 2) (b := 26) (by
    intro x hx
    rw [List.map_map, List.mem_map] at hx
    obtain ⟨p, hp, rfl⟩ := hx
    have := near_len (bare_near (h.2.1 p hp)).1
    show p.text.data.toList.length + 2 ≤ 26
    omega)
  simp only [List.length_map, List.length_dropLast] at h2
  omega
theorem letL_len {t : Nd} (h : letN t = true) (hs : smallN (lastK t) = true) : (letL t).length ≤ 1100000 := by
  have h1 := params_len h
  unfold letN at h
  simp only [Bool.and_eq_true, decide_eq_true_eq, List.all_eq_true] at h
  have h2 := near_len h.1.1.1.1.2
  have h3 := small_form hs h.2.2
  unfold letL letHead
  simp only [List.length_append, List.length_cons, List.length_nil]
  split <;> (try simp only [List.length_nil]) <;> omega
theorem impL_len {t : Nd} (h : bareN 2 t = true) : (impL t).length ≤ 40 := by
  have := near_len (bare_near h).1
  unfold impL
  simp only [List.length_append, List.length_cons, List.length_nil]
  omega
theorem flat_len {f : Nd → List UInt8} {b : Nat} : ∀ (l : List Nd), (∀ x ∈ l, (f x).length ≤ b) → (l.flatMap f).length ≤ l.length * b
  | [], _ => by simp
  | a :: l, h => by
    have h1 := h a (List.mem_cons_self ..)
    have h2 := flat_len l fun x hx => h x (List.mem_cons_of_mem _ hx)
    rw [List.flatMap_cons, List.length_append, List.length_cons, Nat.succ_mul]
    omega
theorem flat_step {f : Nd → List UInt8} (l : List Nd) (k : Nat) (h : k < l.length) : (l.take (k + 1)).flatMap f = (l.take k).flatMap f ++ f l[k] := by
  rw [List.take_succ_eq_append_getElem h, List.flatMap_append]
  simp
theorem imps_bare {ks : List Nd} {k : Nat} (h : k < impsN ks) (hk : k < ks.length) : bareN 2 ks[k] = true := by
  unfold impsN at h
  have h1 : (ks.takeWhile (bareN 2))[k] = ks[k] := (List.takeWhile_prefix (bareN 2)).getElem h
  rw [← h1]
  exact List.all_eq_true.1 (List.all_takeWhile (l := ks) (p := bareN 2)) _ (List.getElem_mem _)

/-! ### The document's way: imports by their kind -/
def impsR (ks : List Nd) : Nat := (ks.takeWhile (fun k => k.kind == 2)).length
theorem bare_let (t : Nd) (h : t.kind = 2) : letN t = false := by unfold letN; rw [h]; rfl
/-- a module's right kids, as the document tells them -/
def kidsR (ks : List Nd) : Bool := (ks.take (impsR ks)).all (bareN 2) && (decide (impsR ks ≤ 100) && decide (ks.length - impsR ks ≤ 200) && (ks.drop (impsR ks)).all letN)
def kidsS (ks : List Nd) : Bool := decide (impsN ks ≤ 100) && decide (ks.length - impsN ks ≤ 200) && (ks.drop (impsN ks)).all letN
theorem imps_same : ∀ ks : List Nd, (ks.take (impsR ks)).all (bareN 2) = true → impsN ks = impsR ks
  | [], _ => rfl
  | k :: r, h => by
    unfold impsR at h
    unfold impsN impsR
    rw [List.takeWhile_cons] at h ⊢
    rw [List.takeWhile_cons]
    by_cases e : (k.kind == 2) = true
    · rw [if_pos e] at h ⊢
      rw [List.length_cons, List.take_succ_cons, List.all_cons, Bool.and_eq_true] at h
      rw [if_pos h.1, List.length_cons, List.length_cons]
      exact congrArg (· + 1) (imps_same r h.2)
    · have : ¬ bareN 2 k = true := fun g => e (by rw [(bare_near g).2.1]; rfl)
      rw [if_neg e, if_neg this]
theorem imps_other : ∀ ks : List Nd, (ks.take (impsR ks)).all (bareN 2) = false → (ks.drop (impsN ks)).all letN = false
  | [], h => by cases h
  | k :: r, h => by
    unfold impsR at h
    unfold impsN
    rw [List.takeWhile_cons] at h ⊢
    by_cases e : (k.kind == 2) = true
    · rw [if_pos e, List.length_cons, List.take_succ_cons, List.all_cons] at h
      by_cases g : bareN 2 k = true
      · rw [g, Bool.true_and] at h
        rw [if_pos g, List.length_cons, List.drop_succ_cons]
        exact imps_other r h
      · rw [if_neg g, List.length_nil, List.drop_zero, List.all_cons, bare_let k (eq_of_beq e), Bool.false_and]
    · rw [if_neg e] at h; cases h
theorem kids_eq (ks : List Nd) : kidsR ks = kidsS ks := by
  unfold kidsR kidsS
  cases h : (ks.take (impsR ks)).all (bareN 2) with
  | true => rw [imps_same ks h, Bool.true_and]
  | false => rw [imps_other ks h, Bool.and_false, Bool.false_and]
/-- a kid's text, as the document tells it -/
def kidL (k : Nd) : List UInt8 := if k.kind = 2 then impL k else letL k
theorem let_kind {t : Nd} (h : letN t = true) : t.kind = 3 := by
  unfold letN at h
  simp only [Bool.and_eq_true, beq_iff_eq] at h
  exact h.1.1.1.1.1
theorem modL_eq {t : Nd} (h : modN t = true) : modL t = modHead t ++ t.kids.flatMap kidL := by
  unfold modN at h
  simp only [Bool.and_eq_true, List.all_eq_true] at h
  have e1 : (t.kids.take (impsN t.kids)).flatMap impL = (t.kids.take (impsN t.kids)).flatMap kidL := by
    rw [List.flatMap_def, List.flatMap_def]
    congr 1
    refine List.map_congr_left fun k hk => ?_
    obtain ⟨i, hi, rfl⟩ := List.getElem_of_mem hk
    rw [List.length_take] at hi
    rw [List.getElem_take]
    have := imps_bare (ks := t.kids) (k := i) (by omega) (by omega)
    rw [kidL, if_pos (bare_near this).2.1]
  have e2 : (t.kids.drop (impsN t.kids)).flatMap letL = (t.kids.drop (impsN t.kids)).flatMap kidL := by
    rw [List.flatMap_def, List.flatMap_def]
    congr 1
    refine List.map_congr_left fun k hk => ?_
    rw [kidL, if_neg (by rw [let_kind (h.2.2 k hk)]; decide)]
  unfold modL
  rw [e1, e2, List.append_assoc, ← List.flatMap_append, List.take_append_drop]

end Go.Proofs.YtcndknkdhlmdnaaGreatDoor

/-
  Which modules are right, kid by kid (no program in sight).
-/
namespace Go.Proofs.YtcndknkdhlmdnaaGreatDoor

theorem takeWhile_len {α : Type} (p : α → Bool) : ∀ (l : List α) (k : Nat), k ≤ l.length → (∀ j (hj : j < l.length), j < k → p l[j] = true) → (∀ (hk : k < l.length), p l[k] = false) → (l.takeWhile p).length = k
  | [], k, hk, _, _ => by simp at hk; simp [hk]
  | a :: r, 0, _, _, h => by
    have := h (by simp)
    rw [List.takeWhile_cons, if_neg (by rw [show (a :: r)[0] = a from rfl] at this; rw [this]; decide)]
    rfl
  | a :: r, k + 1, hk, h, h' => by
    have := h 0 (by simp) (by omega)
    rw [List.takeWhile_cons, if_pos (by rw [show (a :: r)[0] = a from rfl] at this; exact this), List.length_cons]
    rw [takeWhile_len p r k (by simpa using hk) (fun j hj hjk => by have := h (j + 1) (by simpa using hj) (by omega); simpa using this) (fun hk' => by have := h' (by simpa using hk'); simpa using this)]
theorem takeWhile_lt {α : Type} (p : α → Bool) : ∀ (l : List α) (k : Nat), k < l.length → (∀ j (hj : j < l.length), j ≤ k → p l[j] = true) → k < (l.takeWhile p).length
  | [], k, hk, _ => by simp at hk
  | a :: r, k, hk, h => by
    have := h 0 (by simp) (by omega)
    rw [List.takeWhile_cons, if_pos (by rw [show (a :: r)[0] = a from rfl] at this; exact this), List.length_cons]
    cases k with
    | zero => omega
    | succ k =>
      have := takeWhile_lt p r k (by simpa using hk) (fun j hj hjk => by have := h (j + 1) (by simpa using hj) (by omega); simpa using this)
      omega
theorem all_take {α : Type} {p : α → Bool} {l : List α} {n : Nat} (h : ∀ j (hj : j < l.length), j < n → p l[j] = true) : (l.take n).all p = true := by
  rw [List.all_eq_true]
  intro a ha
  obtain ⟨i, hi, rfl⟩ := List.getElem_of_mem ha
  rw [List.length_take] at hi
  rw [List.getElem_take]
  exact h i (by omega) (by omega)
theorem all_drop {α : Type} {p : α → Bool} {l : List α} {n : Nat} (h : ∀ j (hj : j < l.length), n ≤ j → p l[j] = true) : (l.drop n).all p = true := by
  rw [List.all_eq_true]
  intro a ha
  obtain ⟨i, hi, rfl⟩ := List.getElem_of_mem ha
  rw [List.length_drop] at hi
  rw [List.getElem_drop]
  exact h _ (by omega) (by omega)
theorem all_not {α : Type} {p : α → Bool} {l : List α} {a : α} (ha : a ∈ l) (h : p a = false) : l.all p = false := by
  rw [Bool.eq_false_iff]
  intro e
  rw [List.all_eq_true] at e
  rw [e a ha] at h; cases h
theorem mem_take {α : Type} {l : List α} {j n : Nat} (hj : j < l.length) (h : j < n) : l[j] ∈ l.take n := by
  have : (l.take n)[j]'(by rw [List.length_take]; omega) = l[j] := List.getElem_take ..
  rw [← this]; exact List.getElem_mem _
theorem mem_drop {α : Type} {l : List α} {j n : Nat} (hj : j < l.length) (h : n ≤ j) : l[j] ∈ l.drop n := by
  have : (l.drop n)[j - n]'(by rw [List.length_drop]; omega) = l[j] := by rw [List.getElem_drop]; congr 1; omega
  rw [← this]; exact List.getElem_mem _
theorem imps_of {ks : List Nd} {k : Nat} (hk : k ≤ ks.length) (h : ∀ j (hj : j < ks.length), j < k → ks[j].kind = 2) (h' : ∀ (hk : k < ks.length), ks[k].kind ≠ 2) : impsR ks = k :=
  takeWhile_len _ ks k hk (fun j hj hjk => by rw [beq_iff_eq]; exact h j hj hjk) (fun hk => by rw [beq_eq_false_iff_ne]; exact h' hk)
theorem imps_bad {ks : List Nd} {k : Nat} (hk : k < ks.length) (h : ∀ j (hj : j < ks.length), j ≤ k → ks[j].kind = 2) (hb : bareN 2 ks[k] = false) : kidsR ks = false := by
  have hlt : k < impsR ks := takeWhile_lt _ ks k hk fun j hj hjk => by rw [beq_iff_eq]; exact h j hj hjk
  unfold kidsR
  rw [all_not (mem_take hk hlt) hb, Bool.false_and]
theorem modN_eq (t : Nd) : modN t = (t.kind == 1 && nearL t.text.data.toList && t.n == 0 && smallN t && kidsR t.kids) := by rw [kids_eq]; rfl
theorem letN_eq (t : Nd) : letN t = (t.kind == 3 && nearL t.text.data.toList && t.n == 0 && decide (1 ≤ t.kids.length) && decide (t.kids.length ≤ 9) && (t.kids.dropLast.all (bareN 4) && rightN (lastK t) 1)) := rfl
theorem bareN_eq (kind : Int) (t : Nd) : bareN kind t = (t.kind == kind && nearL t.text.data.toList && t.n == 0 && decide ((t.kids.length : Int) = 0)) := by
  unfold bareN
  cases t.kids with
  | nil => rfl
  | cons a l =>
    have : decide ((((a :: l).length : Nat) : Int) = 0) = false := decide_eq_false (by simp; omega)
    rw [this]; rfl
theorem dropLast_mem {ks : List Nd} {j : Nat} (hj : j < ks.length - 1) (hj' : j < ks.length) : ks[j] ∈ ks.dropLast := by
  have : (ks.dropLast)[j]'(by rw [List.length_dropLast]; exact hj) = ks[j] := List.getElem_dropLast ..
  rw [← this]; exact List.getElem_mem _
theorem dropLast_all {ks : List Nd} {p : Nd → Bool} (h : ∀ j (hj : j < ks.length), j < ks.length - 1 → p ks[j] = true) : ks.dropLast.all p = true := by
  rw [List.all_eq_true]
  intro a ha
  obtain ⟨i, hi, rfl⟩ := List.getElem_of_mem ha
  rw [List.length_dropLast] at hi
  rw [List.getElem_dropLast]
  exact h i (by omega) (by omega)

theorem mod_parts {t : Nd} (h : modN t = true) : smallN t = true ∧ nearL t.text.data.toList = true ∧ t.kids.length ≤ 300 := by
  unfold modN at h
  simp only [Bool.and_eq_true, decide_eq_true_eq] at h
  exact ⟨h.1.2, h.1.1.1.2, by omega⟩
theorem mod_kid {t : Nd} (h : modN t = true) (j : Nat) (hj : j < t.kids.length) : (t.kids[j].kind = 2 ∧ bareN 2 t.kids[j] = true) ∨ (t.kids[j].kind ≠ 2 ∧ letN t.kids[j] = true) := by
  unfold modN at h
  simp only [Bool.and_eq_true] at h
  rcases Nat.lt_or_ge j (impsN t.kids) with g | g
  · have := imps_bare g hj
    exact .inl ⟨(bare_near this).2.1, this⟩
  · have := List.all_eq_true.1 h.2.2 _ (mem_drop hj g)
    exact .inr ⟨by rw [let_kind this]; decide, this⟩
theorem kidL_imp {k : Nd} (h : k.kind = 2) : kidL k = impL k := if_pos h
theorem kidL_let {k : Nd} (h : ¬ k.kind = 2) : kidL k = letL k := if_neg h
theorem let_parts {t : Nd} (h : letN t = true) : nearL t.text.data.toList = true ∧ 1 ≤ t.kids.length ∧ t.kids.length ≤ 9 ∧ (∀ p ∈ t.kids.dropLast, bareN 4 p = true) ∧ rightN (lastK t) 1 = true := by
  unfold letN at h
  simp only [Bool.and_eq_true, decide_eq_true_eq, List.all_eq_true] at h
  exact ⟨h.1.1.1.1.2, h.1.1.2, h.1.2, h.2.1, h.2.2⟩
theorem mod_len {t : Nd} (h : modN t = true) (k : Nat) : (modHead t ++ (t.kids.take k).flatMap kidL).length ≤ 400000000 := by
  have hp := mod_parts h
  have h1 : ((t.kids.take k).flatMap kidL).length ≤ (t.kids.take k).length * 1100000 := flat_len _ fun x hx => by
    have hx' := List.mem_of_mem_take hx
    obtain ⟨j, hj, rfl⟩ := List.getElem_of_mem hx'
    rcases mod_kid h j hj with ⟨a, b⟩ | ⟨a, b⟩
    · rw [kidL_imp a]; have := impL_len b; omega
    · rw [kidL_let a]
      have hsk := small_kid hp.1 hx'
      exact letL_len b (small_kid hsk (last_mem (let_parts b).2.1))
  have h2 : (t.kids.take k).length ≤ 300 := by rw [List.length_take]; omega
  have h3 := near_len hp.2.1
  have h4 : (t.kids.take k).length * 1100000 ≤ 300 * 1100000 := Nat.mul_le_mul_right _ h2
  unfold modHead
  simp only [List.length_append, List.length_cons, List.length_nil]
  omega

end Go.Proofs.YtcndknkdhlmdnaaGreatDoor

/-
  Forms in parentheses, one by one (no program in sight).
-/
namespace Go.Proofs.YtcndknkdhlmdnaaGreatDoor

/-- forms with commas between them -/
def bodyL : List (List UInt8) → List UInt8
  | [] => []
  | f :: r => f ++ commaL r
theorem list_body (l : List (List UInt8)) : listL l = 40 :: (bodyL l ++ [41]) := by cases l <;> simp [listL, bodyL]
theorem comma_snoc : ∀ (l : List (List UInt8)) (f : List UInt8), commaL (l ++ [f]) = commaL l ++ (44 :: 32 :: f)
  | [], f => by simp [commaL]
  | g :: r, f => by rw [List.cons_append, commaL, comma_snoc r f, commaL]; simp
theorem body_snoc (l : List (List UInt8)) (f : List UInt8) : bodyL (l ++ [f]) = if l.length = 0 then f else bodyL l ++ (44 :: 32 :: f) := by
  cases l with
  | nil => simp [bodyL, commaL]
  | cons g r => rw [List.cons_append, bodyL, comma_snoc, bodyL, if_neg (by simp)]; simp
theorem body_step (ks : List Nd) (k : Nat) (hk : k < ks.length) : bodyL ((ks.take (k + 1)).map formN) = if k = 0 then formN ks[k] else bodyL ((ks.take k).map formN) ++ (44 :: 32 :: formN ks[k]) := by
  rw [List.take_succ_eq_append_getElem hk, List.map_append]
  show bodyL (_ ++ [formN ks[k]]) = _
  rw [body_snoc, List.length_map, List.length_take, Nat.min_eq_left (Nat.le_of_lt hk)]
theorem comma_app : ∀ (l m : List (List UInt8)), commaL (l ++ m) = commaL l ++ commaL m
  | [], m => rfl
  | g :: r, m => by rw [List.cons_append, commaL, comma_app r m, commaL]; simp
theorem body_take (l : List (List UInt8)) (k : Nat) : (bodyL (l.take k)).length ≤ (bodyL l).length := by
  cases l with
  | nil => simp
  | cons f r =>
    cases k with
    | zero => simp [bodyL]
    | succ k =>
      rw [List.take_succ_cons, bodyL, bodyL, List.length_append, List.length_append]
      have : commaL r = commaL (r.take k) ++ commaL (r.drop k) := by rw [← comma_app, List.take_append_drop]
      rw [this, List.length_append]; omega
theorem body_mem : ∀ (l : List (List UInt8)) (f : List UInt8), f ∈ l → f.length ≤ (bodyL l).length
  | g :: r, f, h => by
    rw [bodyL, List.length_append]
    rcases List.mem_cons.1 h with rfl | h
    · omega
    · have : ∀ (r : List (List UInt8)), f ∈ r → f.length ≤ (commaL r).length := by
        intro r
        induction r with
        | nil => intro h; cases h
        | cons a r ih =>
          intro h
          rw [commaL, List.length_append, List.length_append]
          rcases List.mem_cons.1 h with rfl | h
          · omega
          · have := ih h; omega
      have := this r h; omega
  | [], _, h => by cases h
theorem list_len (l : List (List UInt8)) : (listL l).length = (bodyL l).length + 2 := by rw [list_body]; simp
theorem formKs_snd (ks : List Nd) : (formKs ks).map (·.2) = ks.map formN := by rw [formKs_map, List.map_map]; rfl
theorem form_eq' (t : Nd) : formN t = formOf t.kind t.n t.text.data.toList (formKs t.kids) := by cases t; rw [formN]; rfl

end Go.Proofs.YtcndknkdhlmdnaaGreatDoor

/-
  For regions that are walked operation by operation (region.py).
-/
namespace Go.Proofs.YtcndknkdhlmdnaaGreatDoor

theorem op_at {l : List Oper} {n : Nat} {o : Oper} {r : List Oper} (h : l.drop n = o :: r) : l.toArray[n]? = some o := by
  rw [List.getElem?_toArray]
  have : (l.drop n)[0]? = some o := by rw [h]; rfl
  rw [List.getElem?_drop] at this
  simpa using this

end Go.Proofs.YtcndknkdhlmdnaaGreatDoor

/-
  usanceref07: how many nodes a tree has, and whether two are the same.
-/
namespace Go.Proofs.YtcndknkdhlmdnaaGreatDoor
open Go.RowKit
set_option maxRecDepth 100000

theorem nbelow1 (w : World) (o : Obj) : Below w.heap.size w (w.alloc o) := (Below.refl _ _).alloc (Nat.le_refl _) _
theorem nretI {k : IntKind} {a b : Int} (h : a = b) : Ending.returned (.int k a) = .returned (.int k b) := by rw [h]
theorem nretB {a b : Bool} (h : a = b) : Ending.returned (.bool a) = .returned (.bool b) := by rw [h]
theorem nbox (w : World) (x0 x1 x2 x3 x4 : Value) : (w.alloc (.cells #[x0, x1, x2, x3, x4] 24)).cell? ⟨w.heap.size, 0, none⟩ = some x0 ∧ (w.alloc (.cells #[x0, x1, x2, x3, x4] 24)).cell? ⟨w.heap.size, 1, none⟩ = some x1 ∧
    (w.alloc (.cells #[x0, x1, x2, x3, x4] 24)).cell? ⟨w.heap.size, 2, none⟩ = some x2 ∧ (w.alloc (.cells #[x0, x1, x2, x3, x4] 24)).cell? ⟨w.heap.size, 3, none⟩ = some x3 ∧ (w.alloc (.cells #[x0, x1, x2, x3, x4] 24)).cell? ⟨w.heap.size, 4, none⟩ = some x4 := by
  refine ⟨?_, ?_, ?_, ?_, ?_⟩ <;> simp

set_option maxHeartbeats 4000000 in
theorem rleft_any' (N : Nat) : ∀ (t : Nd), SizeOf.sizeOf t < N → ∀ (a : Option Addr) (cap n₀ : Nat) (m : Int) (w : World), t.hold n₀ w a cap → n₀ ≤ w.heap.size → 0 ≤ m → m ≤ 8192 →
    Calls Tryz.prog 52 #[.agg #[.int .i64 t.kind, .string t.text, .int .i64 t.n, .slice a t.kids.length cap, .int .i64 t.place], .int .i64 m] w fun e w' => e = .returned (.int .i64 (leftN t m)) ∧ Below w.heap.size w w' := by
  induction N with
  | zero => intro t ht; omega
  | succ N ih =>
  intro t ht
  cases t with
  | mk kind s n ks p =>
  intro a cap n₀ m w hh hn h0 h1
  show Calls Tryz.prog 52 #[.agg #[.int .i64 kind, .string s, .int .i64 n, .slice a ks.length cap, .int .i64 p], .int .i64 m] w _
  have hkl : ks.length ≤ cap ∧ cap ≤ maxLen := ⟨hh.2.2.2.2.1, hh.2.2.2.2.2.1⟩
  have hm := hkl
  unfold maxLen at hm
  have HH := Lib.hid hh
  have IH := Lib.hid ih
  have HT := Lib.hid ht
  clear hh ih ht
  have E := Lib.hid (show leftN (.mk kind s n ks p) m = leftKs ks (m - 1) by rw [leftN])
  go_enter Tryz.func52, Tryz.ntmps52
  go_wp2
  obtain ⟨W1, hW1⟩ : ∃ W1, W1 = w.alloc (.cells #[.int .i64 kind, .string s, .int .i64 n, .slice a ks.length cap, .int .i64 p] 24) := ⟨_, rfl⟩
  have HB := Lib.hid (show Below w.heap.size w W1 from hW1 ▸ nbelow1 _ _)
  have hsz : W1.heap.size = w.heap.size + 1 := by rw [hW1]; simp
  have D3 := Lib.hid (show W1.cell? ⟨w.heap.size, 3, none⟩ = some (.slice a ks.length cap) from hW1 ▸ (nbox w _ _ _ _ _).2.2.2.1)
  rw [← hW1]
  clear hW1
  go_loopw [1, 5] (fun x i wr => ∃ (k : Nat) (y : Int), k ≤ ks.length ∧ i = .int .i64 k ∧ x = .int .i64 y ∧ -1 ≤ y ∧ y ≤ 8192 ∧ Hid (leftKs (ks.drop k) y = leftKs ks (m - 1)) ∧ Hid (Below W1.heap.size W1 wr)) (fun _ i _ => (ks.length - (intOf i).toNat))
  case atStart => exact ⟨0, m - 1, Nat.zero_le _, rfl, by go_num, by omega, by omega, rfl, Below.refl _ _⟩
  case round =>
    obtain ⟨k, y, hk, rfl, rfl, hy0, hy1, HI, HBr⟩ := hrel
    have d3 := (HBr.out.cell (p := ⟨w.heap.size, 3, none⟩) (by show w.heap.size < W1.heap.size; omega)).trans D3.out
    have HW := Lib.hid (HB.out.trans (HBr.out.mono HB.out.size))
    by_cases hlt : k < ks.length
    · by_cases hy : 0 ≤ y
      · obtain ⟨b, off, a', cap', A⟩ := (HH.out.below (HW.out.mono hn)).kid k hlt
        obtain ⟨rfl, hb, c0, c1, c2, c3, c4, hk1⟩ := A
        have HK := Lib.hid hk1
        clear hk1
        have R := leftN_range ks[k] y hy
        have S := Lib.hid (leftKs_step ks k hlt y)
        go_wp2_with (go_at_call 52; refine (IH.out _ (nkid_size hlt HT.out) a' cap' n₀ y _ HK.out (Nat.le_trans hn HW.out.size) hy hy1).mono ?_; rintro e w' ⟨rfl, hb⟩)
        go_roundw
        case rel => exact ⟨k + 1, _, by omega, by go_num, rfl, R.1, by omega, by show _ = _; rw [← HI.out, S.out, if_pos hy], HBr.out.trans (hb.mono HBr.out.size)⟩
        case measure => simp [intOf]; omega
      · have S := Lib.hid (leftKs_neg (ks.drop k) hy)
        go_wp2
        go_ret
        exact ⟨nretI (by rw [E.out, ← HI.out, S.out]), HW.out⟩
    · have S := Lib.hid (leftKs_end ks k hlt y)
      go_wp2
      go_ret
      exact ⟨nretI (by rw [E.out, ← HI.out, S.out]), HW.out⟩

/-- how many of so many nodes are left behind a tree's -/
theorem rleft_any (t : Nd) (a : Option Addr) (cap n₀ : Nat) (m : Int) (w : World) (hh : t.hold n₀ w a cap) (hn : n₀ ≤ w.heap.size) (h0 : 0 ≤ m) (h1 : m ≤ 8192) :
    Calls Tryz.prog 52 #[.agg #[.int .i64 t.kind, .string t.text, .int .i64 t.n, .slice a t.kids.length cap, .int .i64 t.place], .int .i64 m] w fun e w' => e = .returned (.int .i64 (leftN t m)) ∧ Below w.heap.size w w' :=
  rleft_any' _ t (Nat.lt_succ_self _) a cap n₀ m w hh hn h0 h1

set_option maxHeartbeats 1000000 in
theorem rSmall_any (t : Nd) (a : Option Addr) (cap n₀ : Nat) (w : World) (hh : t.hold n₀ w a cap) (hn : n₀ ≤ w.heap.size) :
    Calls Tryz.prog 25 #[.agg #[.int .i64 t.kind, .string t.text, .int .i64 t.n, .slice a t.kids.length cap, .int .i64 t.place]] w fun e w' => e = .returned (.bool (smallN t)) ∧ Below w.heap.size w w' := by
  have HH := Lib.hid hh
  clear hh
  have HB := Lib.hid (nbelow1 w (.cells #[.int .i64 t.kind, .string t.text, .int .i64 t.n, .slice a t.kids.length cap, .int .i64 t.place] 24))
  go_enter Tryz.func25, Tryz.ntmps25
  go_wp2_with (go_at_call 52; refine (rleft_any t a cap n₀ 8192 _ (HH.out.below (HB.out.mono hn)) (Nat.le_trans hn HB.out.size) (by omega) (by omega)).mono ?_; rintro e w' ⟨rfl, hb⟩)
  go_ret
  exact ⟨rfl, HB.out.trans (hb.mono HB.out.size)⟩

end Go.Proofs.YtcndknkdhlmdnaaGreatDoor
