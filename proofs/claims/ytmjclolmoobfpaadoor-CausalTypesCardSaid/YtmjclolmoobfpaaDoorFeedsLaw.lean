/-
  A term's feeds, plainly: each put in its place, or all sorted and each kept once: the same list.
-/
import Derived.Test.YtmjclolmoobfpaaDoorTypesLaw
import Derived.Lib.SlicesCompact
import Derived.Sort.Row
namespace Go.Proofs.YtmjclolmoobfpaaDoor
open Go.RowKit
set_option maxRecDepth 100000

abbrev Nm := List UInt8
/-- where a name belongs among names -/
def placeL (l : List Nm) (s : Nm) : Nat := (l.takeWhile fun a => decide (a < s)).length
/-- names, with one more, each once -/
def withL (l : List Nm) (s : Nm) : List Nm := if l[placeL l s]? = some s then l else l.take (placeL l s) ++ s :: l.drop (placeL l s)
theorem withL_nil (s : Nm) : withL [] s = [s] := rfl
theorem withL_cons (a : Nm) (l : List Nm) (s : Nm) : withL (a :: l) s = if a < s then a :: withL l s else if a = s then a :: l else s :: a :: l := by
  unfold withL placeL
  by_cases h : a < s
  · rw [List.takeWhile_cons_of_pos (by simpa using h), if_pos h]
    simp only [List.length_cons, List.getElem?_cons_succ, List.take_succ_cons, List.drop_succ_cons, List.cons_append]
    split <;> rfl
  · rw [List.takeWhile_cons_of_neg (by simpa using h), if_neg h]
    simp only [List.length_nil, List.getElem?_cons_zero, Option.some.injEq, List.take_zero, List.drop_zero, List.nil_append]
theorem withL_mem (l : List Nm) (s x : Nm) : x ∈ withL l s ↔ x ∈ l ∨ x = s := by
  induction l with
  | nil => rw [withL_nil]; simp
  | cons a l ih =>
    rw [withL_cons]
    split
    · simp only [List.mem_cons, ih, or_assoc]
    · split
      · rename_i h; subst h; simp only [List.mem_cons]; constructor
        · exact .inl
        · rintro (h | h)
          · exact h
          · exact .inl h
      · simp only [List.mem_cons]; constructor
        · rintro (h | h | h)
          · exact .inr h
          · exact .inl (.inl h)
          · exact .inl (.inr h)
        · rintro ((h | h) | h)
          · exact .inr (.inl h)
          · exact .inr (.inr h)
          · exact .inl h
theorem withL_sorted (l : List Nm) (s : Nm) (h : l.Pairwise (· < ·)) : (withL l s).Pairwise (· < ·) := by
  induction l with
  | nil => rw [withL_nil]; simp
  | cons a l ih =>
    rw [List.pairwise_cons] at h
    rw [withL_cons]
    split
    · rename_i hs
      rw [List.pairwise_cons]
      refine ⟨fun x hx => ?_, ih h.2⟩
      rcases (withL_mem l s x).1 hx with hx | hx
      · exact h.1 x hx
      · rw [hx]; exact hs
    · rename_i hs
      split
      · exact List.pairwise_cons.2 h
      · rename_i he
        have hlt : s < a := Classical.byContradiction fun hc => he (List.le_antisymm hc hs)
        rw [List.pairwise_cons, List.pairwise_cons]
        refine ⟨fun x hx => ?_, h⟩
        rcases List.mem_cons.1 hx with e | hx
        · rw [e]; exact hlt
        · exact List.lt_trans hlt (h.1 x hx)
theorem sorted_unique {l l' : List Nm} (h : l.Pairwise (· < ·)) (h' : l'.Pairwise (· < ·)) (hm : ∀ a, a ∈ l ↔ a ∈ l') : l = l' := by
  have nd : ∀ {l : List Nm}, l.Pairwise (· < ·) → l.Nodup := fun h => h.imp fun {a b} hab e => by subst e; exact List.lt_irrefl _ hab
  exact List.Perm.eq_of_pairwise (fun a b _ _ h1 h2 => absurd (List.lt_trans h1 h2) (List.lt_irrefl a)) h h' ((List.perm_ext_iff_of_nodup (nd h) (nd h')).2 hm)

theorem compact_part (d : Array Nm) (hs : ∀ i j, i ≤ j → j < d.size → d[i]! ≤ d[j]!) (m : Nat) (hm : m ≤ d.size) :
    (Lib.compactUpTo d m).Pairwise (· < ·) ∧ (∀ a, a ∈ Lib.compactUpTo d m ↔ ∃ j, j < m ∧ d[j]! = a) := by
  induction m with
  | zero => refine ⟨by simp [Lib.compactUpTo], fun a => by simp [Lib.compactUpTo]⟩
  | succ m ih =>
    obtain ⟨h1, h2⟩ := ih (by omega)
    rw [Lib.compactUpTo_succ]
    by_cases hk : Lib.keeps d m = true
    · rw [if_pos hk]
      refine ⟨List.pairwise_append.2 ⟨h1, by simp, fun a ha b hb => ?_⟩, fun a => ?_⟩
      · obtain ⟨j, hj, rfl⟩ := (h2 a).1 ha
        obtain rfl : b = d[m]! := by simpa using hb
        have hle := hs j (m - 1) (by omega) (by omega)
        have hle2 := hs (m - 1) m (by omega) (by omega)
        have hne : d[m]! ≠ d[m - 1]! := by
          have := of_decide_eq_true hk
          rcases this with e | e
          · omega
          · exact e
        refine Classical.byContradiction fun hc => ?_
        have h3 : d[m]! ≤ d[j]! := hc
        have h4 : d[m]! ≤ d[m - 1]! := List.le_trans h3 hle
        exact hne (List.le_antisymm h4 hle2)
      · rw [List.mem_append, h2]
        simp only [List.mem_singleton]
        constructor
        · rintro (⟨j, hj, e⟩ | e)
          · exact ⟨j, by omega, e⟩
          · exact ⟨m, by omega, e.symm⟩
        · rintro ⟨j, hj, e⟩
          by_cases hjm : j = m
          · subst hjm; exact .inr e.symm
          · exact .inl ⟨j, by omega, e⟩
    · rw [if_neg hk, List.append_nil]
      refine ⟨h1, fun a => ?_⟩
      rw [h2]
      have hk' : ¬ (m = 0 ∨ d[m]! ≠ d[m - 1]!) := fun h => hk (decide_eq_true h)
      have h0 : m ≠ 0 := fun h => hk' (.inl h)
      have he : d[m]! = d[m - 1]! := Classical.byContradiction fun h => hk' (.inr h)
      constructor
      · rintro ⟨j, hj, e⟩; exact ⟨j, by omega, e⟩
      · rintro ⟨j, hj, e⟩
        by_cases hjm : j = m
        · subst hjm; exact ⟨j - 1, by omega, by rw [← he]; exact e⟩
        · exact ⟨j, by omega, e⟩
/-- sorted, each once -/
def tidy (zs : List Nm) : List Nm := Lib.compact (zs.mergeSort fun x y => decide (x ≤ y))
theorem tidy_spec (zs : List Nm) : (tidy zs).Pairwise (· < ·) ∧ ∀ a, a ∈ tidy zs ↔ a ∈ zs := by
  unfold tidy Lib.compact
  obtain ⟨ys, hy⟩ : ∃ ys, ys = zs.mergeSort fun x y => decide (x ≤ y) := ⟨_, rfl⟩
  rw [← hy]
  have hp : ys.Pairwise (fun x y => decide (x ≤ y) = true) := by
    rw [hy]
    apply List.pairwise_mergeSort
    · intro a b c h1 h2
      simp only [decide_eq_true_eq] at *
      exact List.le_trans h1 h2
    · intro a b
      simp only [Bool.or_eq_true, decide_eq_true_eq]
      exact List.le_total a b
  have hs : ∀ i j, i ≤ j → j < ys.toArray.size → ys.toArray[i]! ≤ ys.toArray[j]! := fun i j hij hj => by
    have hj' : j < ys.length := by simpa using hj
    rw [getElem!_pos _ i (by simp; omega), getElem!_pos _ j (by simpa using hj')]
    by_cases e : i = j
    · subst e; exact List.le_refl _
    · exact of_decide_eq_true (List.pairwise_iff_getElem.1 hp i j (by omega) hj' (by omega))
  have := compact_part ys.toArray hs ys.length (by simp)
  refine ⟨this.1, fun a => ?_⟩
  rw [this.2]
  have hm : a ∈ ys ↔ a ∈ zs := by rw [hy]; exact List.mem_mergeSort
  rw [← hm, List.mem_iff_getElem]
  constructor
  · rintro ⟨j, hj, e⟩
    refine ⟨j, hj, ?_⟩
    rw [getElem!_pos _ j (by simpa using hj)] at e
    exact e
  · rintro ⟨j, hj, e⟩
    refine ⟨j, hj, ?_⟩
    rw [getElem!_pos _ j (by simpa using hj)]
    exact e
theorem fold_spec (zs : List Nm) (l : List Nm) (h : l.Pairwise (· < ·)) : (zs.foldl withL l).Pairwise (· < ·) ∧ ∀ a, a ∈ zs.foldl withL l ↔ a ∈ l ∨ a ∈ zs := by
  induction zs generalizing l with
  | nil => exact ⟨h, fun a => by simp⟩
  | cons z zs ih =>
    obtain ⟨h1, h2⟩ := ih (withL l z) (withL_sorted l z h)
    refine ⟨h1, fun a => ?_⟩
    rw [List.foldl_cons, h2, withL_mem, List.mem_cons, or_assoc]
theorem fold_tidy (zs : List Nm) : zs.foldl withL [] = tidy zs := by
  obtain ⟨h1, h2⟩ := fold_spec zs [] List.Pairwise.nil
  obtain ⟨h3, h4⟩ := tidy_spec zs
  exact sorted_unique h1 h3 fun a => by rw [h2, h4]; simp

/-- the feeds that a list of terms names, in order -/
def fedL (ts : List Tm) : List Nm := (ts.filter fun x => decide (x.op = 4)).map fun x => x.s.data.toList
/-- one term's feed put among others -/
def putF (l : List Nm) (x : Tm) : List Nm := if x.op = 4 then withL l x.s.data.toList else l
theorem fold_put (ts : List Tm) (l : List Nm) : ts.foldl putF l = (fedL ts).foldl withL l := by
  induction ts generalizing l with
  | nil => rfl
  | cons x ts ih =>
    rw [List.foldl_cons, ih]
    unfold putF fedL
    by_cases h : x.op = 4
    · rw [if_pos h, List.filter_cons_of_pos (by simpa using h)]; rfl
    · rw [if_neg h, List.filter_cons_of_neg (by simpa using h)]
/-- a term's feeds -/
def feedsB (t : Tm) : List Nm := if rightB t then tidy (fedL t.terms) else []

end Go.Proofs.YtmjclolmoobfpaaDoor
