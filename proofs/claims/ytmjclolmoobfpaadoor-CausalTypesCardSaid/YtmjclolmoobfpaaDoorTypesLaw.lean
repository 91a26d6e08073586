/-
  The document's types, plainly, and that they are the program's.
-/
import Derived.Test.YtmjclolmoobfpaaDoorBothLaw
namespace Go.Proofs.YtmjclolmoobfpaaDoor
open Go.RowKit
set_option maxRecDepth 100000

/-- a letter's type -/
def codeI (x : Int) : Int := if x = 110 then 0 else if x = 98 then 1 else if x = 100 then 2 else if x = 99 then 4 else 3
/-- the types of an operation's kids, and its own -/
def kidsTab : List (Option (List Int × Int)) := [none, some ([], 0), some ([], 1), some ([], 2), some ([], 0), some ([], 2), some ([0], 0), some ([0, 0], 0), some ([0, 0], 0), some ([0, 0], 0), some ([0, 0], 0), some ([0, 0], 1), some ([0, 0], 1), some ([0, 0], 1), some ([1], 1), some ([1, 1], 1), some ([1, 1], 1), some ([2, 2], 1), some ([2, 0], 2), some ([2, 0], 2), some ([2, 2], 0), some ([2, 2], 0), none, some ([], 4), some ([], 4), some ([4], 4), some ([0, 4], 4), some ([4, 4], 4), some ([1, 4, 4], 4), some ([4], 4), some ([1, 4], 4), some ([4, 4], 4)]
def kidsT (op : Int) : Option (List Int × Int) := if op < 0 ∨ 32 ≤ op then none else kidsTab.getD op.toNat none
/-- what comes of an operation with kids of such types -/
def combine (op : Int) (l : List Int) : Option Int :=
  if op = 22 then
    match l with
    | [a, b, c] => if a = 1 ∧ b = c ∧ b ≠ 4 then some c else none
    | _ => none
  else match kidsT op with
    | none => none
    | some (want, t) => if l = want then some t else none
mutual
/-- a term's type, but for how great it is -/
def typedO : Tm → Option Int
  | .mk op n s ks => if fieldsB op n s.data.toList = true ∧ ks.length ≤ 3 then
      match typedOs ks with
      | none => none
      | some l => combine op l
    else none
def typedOs : List Tm → Option (List Int)
  | [] => some []
  | k :: ks => match typedO k with
    | none => none
    | some a => match typedOs ks with
      | none => none
      | some l => some (a :: l)
end

def isLet (x : Int) : Prop := x = 98 ∨ x = 99 ∨ x = 100 ∨ x = 110
theorem codeI_inj {x y : Int} (hx : isLet x) (hy : isLet y) (h : codeI x = codeI y) : x = y := by
  rcases hx with rfl | rfl | rfl | rfl <;> rcases hy with rfl | rfl | rfl | rfl <;> first | rfl | (revert h; decide)
theorem tab_fact : ∀ m : Fin 32, m.val ≠ 22 → (okL (m.val : Int) = true → kidsT (m.val : Int) = some ((kidsL (m.val : Int)).map fun c => codeI c.toNat, codeI ((ownL (m.val : Int)).headD 0).toNat) ∧
    (∀ c ∈ kidsL (m.val : Int), isLet c.toNat) ∧ ownL (m.val : Int) ≠ [120] ∧ isLet ((ownL (m.val : Int)).headD 0).toNat ∧ (kidsL (m.val : Int)).length ≤ 3) ∧ (okL (m.val : Int) = false → kidsT (m.val : Int) = none) := by
  unfold isLet; decide +kernel
theorem tab_if : okL 22 = true ∧ kidsL 22 = [98, 120, 120] ∧ ownL 22 = [120] := by decide +kernel
theorem ok_out {op : Int} (h : op < 0 ∨ 32 ≤ op) : okL op = false := by
  unfold okL sortL; rw [if_pos h]; rfl

theorem letters_plain : ∀ (ks : List Tm) (cs : List UInt8) (x : Int), (∀ c ∈ cs, isLet c.toNat) → ks.length = cs.length →
    lettersB ks cs x = if ks.map letterB = cs.map (fun c => (c.toNat : Int)) then some x else none
  | [], [], x, _, _ => by simp [lettersB]
  | [], _ :: _, _, _, h => by simp at h
  | _ :: _, [], _, _, h => by simp at h
  | k :: ks, c :: cs, x, hc, h => by
    have hc0 := hc c (by simp)
    have ih := letters_plain ks cs x (fun d hd => hc d (by simp [hd])) (by simpa using h)
    rw [lettersB, ih]
    unfold isLet at hc0
    by_cases h0 : letterB k = 0
    · rw [if_pos h0, if_neg]
      simp only [List.map_cons, List.cons.injEq, not_and]
      intro e; omega
    rw [if_neg h0]
    by_cases h1 : (c.toNat : Int) = letterB k
    · rw [if_neg (by omega), if_neg (by omega)]
      simp only [List.map_cons, List.cons.injEq]
      by_cases h2 : ks.map letterB = cs.map (fun c => (c.toNat : Int))
      · rw [if_pos h2, if_pos ⟨h1.symm, h2⟩]
      · rw [if_neg h2, if_neg (fun e => h2 e.2)]
    · rw [if_neg (by omega), if_pos h1, if_neg]
      simp only [List.map_cons, List.cons.injEq, not_and]
      intro e; exact absurd e.symm h1

theorem letter_let_aux (op n : Int) (s : ByteArray) (ks : List Tm) (ih : ∀ k ∈ ks, letterB k = 0 ∨ isLet (letterB k)) : letterB (.mk op n s ks) = 0 ∨ isLet (letterB (.mk op n s ks)) := by
  by_cases hc : okL op = true ∧ (kidsL op).length = ks.length ∧ fieldsB op n s.data.toList = true
  · rw [letterB, if_pos hc]
    by_cases h22 : op = 22
    · subst h22
      obtain ⟨-, hk, ho⟩ := tab_if
      rw [hk, ho]
      have hl := hc.2.1
      rw [hk] at hl
      match ks, hl, ih with
      | [a, b, c], _, ih =>
        have ia := ih a (by simp)
        have ib := ih b (by simp)
        have ic := ih c (by simp)
        simp only [lettersB]
        unfold isLet at *
        by_cases a0 : letterB a = 0
        · simp [a0]
        by_cases a1 : letterB a = 98
        · by_cases b0 : letterB b = 0
          · simp [a1, b0]
          by_cases b1 : letterB b = 99
          · simp [a1, b1]
          by_cases c0 : letterB c = 0
          · simp [a1, b0, b1, c0]
          by_cases c1 : letterB c = 99
          · simp [a1, b0, b1, c1]
          by_cases cb : letterB b = letterB c
          · simp [a1, b0, b1, c0, c1, cb]; rw [← cb]; omega
          · have c120 : ¬ (120 = letterB c) := by omega
            simp [a1, b0, b1, c0, c1, cb, c120]
        · have : ¬ (98 = letterB a) := fun e => a1 e.symm
          simp [a0, this]
    · have hop : 0 ≤ op ∧ op < 32 := by
        refine Classical.byContradiction fun h => ?_
        have := ok_out (op := op) (by omega)
        rw [hc.1] at this; cases this
      obtain ⟨m, rfl⟩ : ∃ m : Nat, op = m := ⟨op.toNat, by omega⟩
      have hm : m < 32 := by omega
      obtain ⟨-, h2, h3, h4, -⟩ := (tab_fact ⟨m, hm⟩ (by simpa using fun e : m = 22 => h22 (by omega))).1 hc.1
      rw [letters_plain ks _ 0 h2 hc.2.1.symm]
      by_cases e : ks.map letterB = (kidsL (m : Int)).map (fun c => (c.toNat : Int))
      · rw [if_pos e]; simp only; rw [if_neg h3]; exact .inr h4
      · rw [if_neg e]; exact .inl rfl
  · rw [letterB, if_neg hc]; exact .inl rfl
mutual
theorem letter_let : ∀ t : Tm, letterB t = 0 ∨ isLet (letterB t)
  | .mk op n s ks => letter_let_aux op n s ks (letters_let ks)
theorem letters_let : ∀ ks : List Tm, ∀ k ∈ ks, letterB k = 0 ∨ isLet (letterB k)
  | [], k, h => by cases h
  | q :: ks, k, h => by
    rcases List.mem_cons.1 h with e | h
    · rw [e]; exact letter_let q
    · exact letters_let ks k h
end

/-- a term's type, by its letter -/
def byLetter (t : Tm) : Option Int := if letterB t = 0 then none else some (codeI (letterB t))
theorem combine22 {l : List Int} (h : l.length ≠ 3) : combine 22 l = none := by
  unfold combine
  rw [if_pos rfl]
  match l, h with
  | [], _ => rfl
  | [_], _ => rfl
  | [_, _], _ => rfl
  | [_, _, _], h => exact absurd rfl h
  | _ :: _ :: _ :: _ :: _, _ => rfl
theorem typeds_of (l : List Tm) (hl : ∀ k ∈ l, typedO k = byLetter k) : typedOs l = if ∀ k ∈ l, letterB k ≠ 0 then some (l.map fun k => codeI (letterB k)) else none := by
  induction l with
  | nil => rw [typedOs]; simp
  | cons k l ih' =>
    rw [typedOs, hl k (by simp), ih' (fun q hq => hl q (by simp [hq]))]
    unfold byLetter
    by_cases h0 : letterB k = 0
    · have : ¬ ∀ q ∈ k :: l, letterB q ≠ 0 := fun h => h k (List.mem_cons_self ..) h0
      rw [if_pos h0, if_neg this]
    · rw [if_neg h0]
      by_cases h1 : ∀ q ∈ l, letterB q ≠ 0
      · have : ∀ q ∈ k :: l, letterB q ≠ 0 := fun q hq => by
          rcases List.mem_cons.1 hq with e | hq
          · rw [e]; exact h0
          · exact h1 q hq
        rw [if_pos h1, if_pos this]; rfl
      · have : ¬ ∀ q ∈ k :: l, letterB q ≠ 0 := fun h => h1 fun q hq => h q (List.mem_cons_of_mem _ hq)
        rw [if_neg h1, if_neg this]
theorem typedO_mk (op n : Int) (s : ByteArray) (ks : List Tm) (ih : ∀ k ∈ ks, typedO k = byLetter k) :
    typedO (.mk op n s ks) = if fieldsB op n s.data.toList = true ∧ ks.length ≤ 3 ∧ ∀ k ∈ ks, letterB k ≠ 0 then combine op (ks.map fun k => codeI (letterB k)) else none := by
  rw [typedO, typeds_of ks ih]
  by_cases h1 : fieldsB op n s.data.toList = true ∧ ks.length ≤ 3
  · rw [if_pos h1]
    by_cases h2 : ∀ k ∈ ks, letterB k ≠ 0
    · rw [if_pos h2, if_pos ⟨h1.1, h1.2, h2⟩]
    · rw [if_neg h2, if_neg (fun h => h2 h.2.2)]
  · rw [if_neg h1, if_neg (fun h => h1 ⟨h.1, h.2.1⟩)]
theorem byLetter_zero {t : Tm} (h : letterB t = 0) : byLetter t = none := by unfold byLetter; rw [if_pos h]
theorem byLetter_some {t : Tm} {x : Int} (h : letterB t = x) (hx : x ≠ 0) : byLetter t = some (codeI x) := by unfold byLetter; rw [h, if_neg hx]
theorem typed_none {op n : Int} {s : ByteArray} {ks : List Tm} (ih : ∀ k ∈ ks, typedO k = byLetter k) (h : fieldsB op n s.data.toList = true → (∀ k ∈ ks, letterB k ≠ 0) → ks.length ≤ 3 → combine op (ks.map fun k => codeI (letterB k)) = none) : typedO (.mk op n s ks) = none := by
  rw [typedO_mk op n s ks ih]
  split
  · rename_i h1; exact h h1.1 h1.2.2 h1.2.1
  · rfl
theorem typed_if (n : Int) (s : ByteArray) (a b c : Tm) (hf : fieldsB 22 n s.data.toList = true) (ih : ∀ k ∈ [a, b, c], typedO k = byLetter k) : typedO (.mk 22 n s [a, b, c]) = byLetter (.mk 22 n s [a, b, c]) := by
  obtain ⟨hok, hk, ho⟩ := tab_if
  have la := letter_let a
  have lb := letter_let b
  have lc := letter_let c
  unfold isLet at la lb lc
  have L : letterB (.mk 22 n s [a, b, c]) = match lettersB [a, b, c] [98, 120, 120] 0 with
      | none => 0
      | some x => x := by
    rw [letterB, if_pos ⟨hok, by rw [hk]; rfl, hf⟩, hk, ho]
    cases lettersB [a, b, c] [98, 120, 120] 0 with
    | none => rfl
    | some x => simp
  rw [typedO_mk 22 n s _ ih]
  simp only [lettersB] at L
  by_cases a0 : letterB a = 0
  · rw [byLetter_zero (by rw [L]; simp [a0]), if_neg (fun h => h.2.2 a (by simp) a0)]
  by_cases b0 : letterB b = 0
  · rw [byLetter_zero, if_neg (fun h => h.2.2 b (by simp) b0)]
    rw [L]; simp [a0, b0]
  by_cases c0 : letterB c = 0
  · rw [byLetter_zero, if_neg (fun h => h.2.2 c (by simp) c0)]
    rw [L]
    by_cases a1 : letterB a = 98
    · by_cases b1 : letterB b = 99
      · simp [a1, b1]
      · simp [a1, b0, b1, c0]
    · have h98 : ¬ (98 = letterB a) := fun e => a1 e.symm
      simp [a0, h98]
  have hall : ∀ k ∈ [a, b, c], letterB k ≠ 0 := by
    intro k hk'
    simp only [List.mem_cons, List.not_mem_nil, or_false] at hk'
    rcases hk' with e | e | e <;> rw [e] <;> assumption
  rw [if_pos ⟨hf, by simp, hall⟩]
  unfold combine
  rw [if_pos rfl]
  show (if codeI (letterB a) = 1 ∧ codeI (letterB b) = codeI (letterB c) ∧ codeI (letterB b) ≠ 4 then some (codeI (letterB c)) else none) = _
  have k1 : codeI (letterB a) = 1 ↔ letterB a = 98 := ⟨fun e => codeI_inj (y := 98) (by unfold isLet; omega) (by unfold isLet; omega) e, fun e => by rw [e]; rfl⟩
  have k2 : codeI (letterB b) = codeI (letterB c) ↔ letterB b = letterB c := ⟨fun e => codeI_inj (by unfold isLet; omega) (by unfold isLet; omega) e, fun e => by rw [e]⟩
  have k3 : codeI (letterB b) = 4 ↔ letterB b = 99 := ⟨fun e => codeI_inj (y := 99) (by unfold isLet; omega) (by unfold isLet; omega) e, fun e => by rw [e]; rfl⟩
  simp only [k1, k2, Ne, k3]
  by_cases a1 : letterB a = 98
  · by_cases b1 : letterB b = 99
    · rw [if_neg (fun h => h.2.2 b1), byLetter_zero]
      rw [L]; simp [a1, b1]
    by_cases cb : letterB b = letterB c
    · rw [if_pos ⟨a1, cb, b1⟩, byLetter_some (x := letterB c) _ c0]
      rw [L]
      have c1 : ¬ letterB c = 99 := by rw [← cb]; exact b1
      simp [a1, c0, c1, cb]
    · rw [if_neg (fun h => cb h.2.1), byLetter_zero]
      rw [L]
      have c120 : ¬ (120 = letterB c) := by omega
      simp [a1, b0, b1, c0, cb, c120]
  · rw [if_neg (fun h => a1 h.1), byLetter_zero]
    rw [L]
    have h98 : ¬ (98 = letterB a) := fun e => a1 e.symm
    simp [a0, h98]
theorem typed_aux (op n : Int) (s : ByteArray) (ks : List Tm) (ih : ∀ k ∈ ks, typedO k = byLetter k) : typedO (.mk op n s ks) = byLetter (.mk op n s ks) := by
  by_cases hf : fieldsB op n s.data.toList = true
  · by_cases h22 : op = 22
    · subst h22
      obtain ⟨-, hk, -⟩ := tab_if
      by_cases hl : ks.length = 3
      · match ks, hl with
        | [a, b, c], _ => exact typed_if n s a b c hf ih
      · rw [typed_none ih (fun _ _ _ => combine22 (by simpa using hl)), byLetter_zero]
        rw [letterB, if_neg (fun h => hl (by rw [hk] at h; exact h.2.1.symm))]
    by_cases hout : op < 0 ∨ 32 ≤ op
    · have ho := ok_out hout
      have hk : kidsT op = none := by unfold kidsT; rw [if_pos hout]
      rw [typed_none ih (fun _ _ _ => by unfold combine; rw [if_neg h22, hk]), byLetter_zero]
      rw [letterB, if_neg (fun h => by rw [ho] at h; cases h.1)]
    obtain ⟨m, rfl⟩ : ∃ m : Nat, op = m := ⟨op.toNat, by omega⟩
    have hm : m < 32 := by omega
    have tf := tab_fact ⟨m, hm⟩ (by simpa using fun e : m = 22 => h22 (by omega))
    simp only at tf
    cases hok : okL (m : Int)
    · have hk := tf.2 hok
      rw [typed_none ih (fun _ _ _ => by unfold combine; rw [if_neg h22, hk]), byLetter_zero]
      rw [letterB, if_neg (fun h => by rw [hok] at h; cases h.1)]
    obtain ⟨t1, t2, t3, t4, t5⟩ := tf.1 hok
    by_cases hl : (kidsL (m : Int)).length = ks.length
    · have L : letterB (.mk (m : Int) n s ks) = match (if ks.map letterB = (kidsL (m : Int)).map (fun c => (c.toNat : Int)) then some (0 : Int) else none) with
          | none => 0
          | some _ => ((ownL (m : Int)).headD 0).toNat := by
        rw [letterB, if_pos ⟨hok, hl, hf⟩, letters_plain ks _ 0 t2 hl.symm]
        by_cases e : ks.map letterB = (kidsL (m : Int)).map (fun c => (c.toNat : Int))
        · rw [if_pos e]; simp only; rw [if_neg t3]
        · rw [if_neg e]
      by_cases e : ks.map letterB = (kidsL (m : Int)).map (fun c => (c.toNat : Int))
      · have hne : ∀ k ∈ ks, letterB k ≠ 0 := fun k hk h0 => by
          have : letterB k ∈ ks.map letterB := List.mem_map_of_mem hk
          rw [e, List.mem_map] at this
          obtain ⟨c, hc, hc'⟩ := this
          have := t2 c hc
          unfold isLet at this; omega
        rw [if_pos e] at L
        have nz : (((ownL (m : Int)).headD 0).toNat : Int) ≠ 0 := by unfold isLet at t4; omega
        rw [byLetter_some L nz, typedO_mk _ n s ks ih, if_pos ⟨hf, by omega, hne⟩]
        unfold combine
        rw [if_neg h22, t1]
        have e' : (ks.map fun k => codeI (letterB k)) = (kidsL (m : Int)).map fun c => codeI c.toNat := by
          have := congrArg (List.map codeI) e
          rw [List.map_map, List.map_map] at this
          exact this
        simp only
        rw [if_pos e']
      · rw [if_neg e] at L
        rw [byLetter_zero L]
        refine typed_none ih fun _ hne _ => ?_
        unfold combine
        rw [if_neg h22, t1]
        simp only
        rw [if_neg]
        intro h
        refine e (List.ext_getElem (by simp [hl]) fun i h1 h2 => ?_)
        have q := congrArg (fun l => l[i]?) h
        simp only [List.length_map] at h1 h2
        simp only [List.getElem?_map, List.getElem?_eq_getElem h1, List.getElem?_eq_getElem h2, Option.map_some, Option.some.injEq] at q
        rw [List.getElem_map, List.getElem_map]
        rcases letter_let ks[i] with z | z
        · exact absurd z (hne _ (List.getElem_mem h1))
        · exact codeI_inj z (t2 _ (List.getElem_mem h2)) q
    · rw [byLetter_zero (by rw [letterB, if_neg (fun h => hl h.2.1)])]
      refine typed_none ih fun _ _ _ => ?_
      unfold combine
      rw [if_neg h22, t1]
      simp only
      rw [if_neg]
      intro h
      have := congrArg List.length h
      simp at this
      exact hl this.symm
  · rw [typed_none ih (fun h => absurd h hf), byLetter_zero]
    rw [letterB, if_neg (fun h => hf h.2.2)]
mutual
theorem typed_letter : ∀ t : Tm, typedO t = byLetter t
  | .mk op n s ks => typed_aux op n s ks (typeds_letter ks)
theorem typeds_letter : ∀ ks : List Tm, ∀ k ∈ ks, typedO k = byLetter k
  | [], k, h => by cases h
  | q :: ks, k, h => by
    rcases List.mem_cons.1 h with e | h
    · rw [e]; exact typed_letter q
    · exact typeds_letter ks k h
end

end Go.Proofs.YtmjclolmoobfpaaDoor
