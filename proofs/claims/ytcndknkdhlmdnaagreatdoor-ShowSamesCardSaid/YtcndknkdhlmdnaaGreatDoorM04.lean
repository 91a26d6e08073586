/-
  Texts that the statements' proofs rest on, one behind another: ApartLaw.
-/
import Derived.Test.YtcndknkdhlmdnaaGreatDoorM03

/-
  Two right expressions are the same just if their forms are: plain laws (no program in sight).
-/
namespace Go.Proofs.YtcndknkdhlmdnaaGreatDoor

/-- what may stand behind a part; behind an expression -/
def stop (r : List UInt8) : Prop := ∀ c l, r = c :: l → c = 32 ∨ c = 41 ∨ c = 44
def term (r : List UInt8) : Prop := r = [] ∨ (∃ l, r = 41 :: l) ∨ (∃ l, r = 44 :: l) ∨ (∃ l, r = 32 :: ([116, 104, 101, 110] ++ 32 :: l)) ∨ (∃ l, r = 32 :: ([101, 108, 115, 101] ++ 32 :: l))
theorem term_stop {r : List UInt8} (h : term r) : stop r := by
  intro c l e
  rcases h with rfl | ⟨x, rfl⟩ | ⟨x, rfl⟩ | ⟨x, rfl⟩ | ⟨x, rfl⟩
  · cases e
  · exact .inr (.inl (List.cons.inj e).1.symm)
  · exact .inr (.inr (List.cons.inj e).1.symm)
  · exact .inl (List.cons.inj e).1.symm
  · exact .inl (List.cons.inj e).1.symm
theorem stop_32 (l : List UInt8) : stop (32 :: l) := fun _ _ e => .inl (List.cons.inj e).1.symm
theorem stop_word {r : List UInt8} (h : stop r) : ∀ c l, r = c :: l → wordC c = false := by
  intro c l e
  rcases h c l e with rfl | rfl | rfl <;> rfl

def atomK (k : Int) : Prop := (5 ≤ k ∧ k ≤ 11) ∨ k = 15
theorem atom_wrap {k : Int} (h : atomK k) : ¬ wrapK k = true := by
  unfold wrapK
  simp only [Bool.or_eq_true, decide_eq_true_eq]
  unfold atomK at h
  omega
theorem right_parts {t : Nd} {d : Int} (h : rightN t d = true) : kidsOk t.kind t.kids.length = true ∧ textOk t.kind t.text.data.toList = true ∧ numOk t.kind t.n = true ∧ rightKs t.kids (d + 1) = true := by
  cases t
  rw [rightN] at h
  simp only [Bool.and_eq_true] at h
  exact ⟨h.1.1.1.2, h.1.1.2, h.1.2, h.2⟩
theorem kids_kind {k : Int} {n : Nat} (h : kidsOk k n = true) : 5 ≤ k ∧ k ≤ 15 := by
  unfold kidsOk at h
  split at h
  · omega
  split at h
  · omega
  split at h
  · omega
  split at h
  · omega
  split at h
  · omega
  · cases h
theorem no_atom {k : Int} {n : Nat} (h : kidsOk k n = true) (h' : ¬ wrapK k = true) : atomK k := by
  have := kids_kind h
  unfold wrapK at h'
  simp only [Bool.or_eq_true, decide_eq_true_eq] at h'
  unfold atomK
  omega
theorem form_eq (t : Nd) : formN t = formOf t.kind t.n t.text.data.toList (formKs t.kids) := by cases t; rw [formN]; rfl
theorem form_bin (s : ByteArray) (n p : Int) (k u : Nd) : formN (.mk 13 s n [k, u] p) = partL k.kind (formN k) ++ 32 :: (s.data.toList ++ 32 :: partL u.kind (formN u)) := by
  rw [formN, formKs, formKs, formKs]
  show partL k.kind (formN k) ++ [32] ++ s.data.toList ++ [32] ++ partL u.kind (formN u) = _
  simp
theorem form_una (s : ByteArray) (n p : Int) (k : Nd) : formN (.mk 12 s n [k] p) = (if s.data.toList = [45] then [45] else [110, 111, 116, 32]) ++ partL k.kind (formN k) := by
  rw [formN, formKs, formKs]; rfl
theorem form_if (s : ByteArray) (n p : Int) (k u v : Nd) : formN (.mk 14 s n [k, u, v] p) = 105 :: 102 :: 32 :: (formN k ++ 32 :: ([116, 104, 101, 110] ++ 32 :: (formN u ++ 32 :: ([101, 108, 115, 101] ++ 32 :: formN v)))) := by
  rw [formN, formKs, formKs, formKs, formKs]
  show [105, 102, 32] ++ formN k ++ [32, 116, 104, 101, 110, 32] ++ formN u ++ [32, 101, 108, 115, 101, 32] ++ formN v = _
  simp
theorem kids_0 {t : Nd} {d : Int} (h : rightN t d = true) (hk : 5 ≤ t.kind ∧ t.kind ≤ 10) : t.kids = [] := by
  have := (right_parts h).1
  unfold kidsOk at this
  rw [if_pos hk, decide_eq_true_eq] at this
  exact List.eq_nil_of_length_eq_zero this

/-- the word that an atom begins with, and what stands behind it -/
def hw (t : Nd) : List UInt8 := if t.kind = 9 then [102, 101, 101, 100] else if t.kind = 15 then [112, 105, 99, 107] else if t.kind = 11 then t.text.data.toList else formN t
def quoteL (s : List UInt8) : List UInt8 := 32 :: 34 :: (s ++ [34])
def tl (t : Nd) : List UInt8 := if t.kind = 9 then quoteL t.text.data.toList else if t.kind = 15 then quoteL t.text.data.toList ++ listL ((formKs t.kids).map (·.2)) else if t.kind = 11 then listL ((formKs t.kids).map (·.2)) else []
theorem hw_tl (t : Nd) : formN t = hw t ++ tl t := by
  unfold hw tl
  by_cases h9 : t.kind = 9
  · rw [if_pos h9, if_pos h9, form_eq, h9]
    show [102, 101, 101, 100, 32, 34] ++ t.text.data.toList ++ [34] = _
    simp [quoteL]
  rw [if_neg h9, if_neg h9]
  by_cases h15 : t.kind = 15
  · rw [if_pos h15, if_pos h15, form_eq, h15]
    show [112, 105, 99, 107, 32, 34] ++ t.text.data.toList ++ [34] ++ listL ((formKs t.kids).map (·.2)) = _
    simp [quoteL]
  rw [if_neg h15, if_neg h15]
  by_cases h11 : t.kind = 11
  · rw [if_pos h11, if_pos h11, form_eq, h11]; rfl
  rw [if_neg h11, if_neg h11, List.append_nil]
theorem list_head (l : List (List UInt8)) : ∃ x, listL l = 40 :: x := by
  cases l <;> exact ⟨_, rfl⟩
theorem tl_stop (t : Nd) {r : List UInt8} (hr : stop r) : ∀ c l, tl t ++ r = c :: l → wordC c = false := by
  intro c l e
  unfold tl at e
  split at e
  · rw [← (List.cons.inj e).1]; rfl
  split at e
  · rw [← (List.cons.inj e).1]; rfl
  split at e
  · obtain ⟨x, hx⟩ := list_head ((formKs t.kids).map (·.2))
    rw [hx] at e
    rw [← (List.cons.inj e).1]; rfl
  · exact stop_word hr c l e
def cw (w : List UInt8) : Int := if w = [102, 101, 101, 100] then 9 else if w = [112, 105, 99, 107] then 15 else if w = [116, 114, 117, 101] ∨ w = [102, 97, 108, 115, 101] then 8
  else if dgC (w.headD 0) = true then (if 45 ∈ w then 6 else 5) else if isGreat (w.headD 0) = true then 7 else 10
theorem cw_dg {w : List UInt8} (h : dgC (w.headD 0) = true) : cw w = if 45 ∈ w then 6 else 5 := by
  unfold cw
  rw [if_neg (by rintro rfl; exact absurd h (by decide)), if_neg (by rintro rfl; exact absurd h (by decide)), if_neg (by rintro (rfl | rfl) <;> exact absurd h (by decide)), if_pos h]
theorem great_dg (c : UInt8) (h : isGreat c = true) : ¬ dgC c = true := by
  have := u8_each (p := fun c => !isGreat c || !dgC c) (by decide +kernel) c
  rw [h] at this; simpa using this
theorem cw_great {w : List UInt8} (h : isGreat (w.headD 0) = true) : cw w = 7 := by
  unfold cw
  rw [if_neg (by rintro rfl; exact absurd h (by decide)), if_neg (by rintro rfl; exact absurd h (by decide)), if_neg (by rintro (rfl | rfl) <;> exact absurd h (by decide)), if_neg (great_dg _ h), if_pos h]
theorem cw_name {w : List UInt8} (h : anyL w = true) : cw w = 10 := by
  obtain ⟨h1, h2, h3, h4⟩ := any_num h
  have hd : ¬ dgC (w.headD 0) = true := by unfold dgC; simp only [Bool.and_eq_true, decide_eq_true_eq]; omega
  have hg : ¬ isGreat (w.headD 0) = true := by
    intro g
    have := u8_each (p := fun c => !isGreat c || decide (c.toNat ≤ 90)) (by decide +kernel) (w.headD 0)
    rw [g] at this
    have : (w.headD 0).toNat ≤ 90 := by simpa using this
    omega
  unfold cw
  rw [if_neg (by rintro rfl; exact absurd h (by decide)), if_neg (by rintro rfl; exact absurd h (by decide)), if_neg (by rintro (rfl | rfl) <;> exact absurd h (by decide)), if_neg hd, if_neg hg]
theorem atom_cases {k : Int} (h : atomK k) : k = 5 ∨ k = 6 ∨ k = 7 ∨ k = 8 ∨ k = 9 ∨ k = 10 ∨ k = 11 ∨ k = 15 := by unfold atomK at h; omega
/-- what an atom's first word tells -/
structure HwOk (w : List UInt8) (k : Int) : Prop where
  word : ∀ c ∈ w, wordC c = true
  ne : w ≠ []
  cls : cw w = if k = 11 then 10 else k
  min : w.headD 0 ≠ 45
  no : w ≠ [110, 111, 116]
  iff : w ≠ [105, 102]
theorem dg_45 {c : UInt8} (h : dgC c = true) : c ≠ 45 := by rintro rfl; exact absurd h (by decide)
theorem hw_ok {t : Nd} {d : Int} (h : rightN t d = true) (ha : atomK t.kind) : HwOk (hw t) t.kind := by
  obtain ⟨hk, ht, hn, -⟩ := right_parts h
  have ef := form_eq t
  rcases atom_cases ha with e | e | e | e | e | e | e | e
  · have eh : hw t = showI t.n := by unfold hw; rw [e, if_neg (by decide), if_neg (by decide), if_neg (by decide), ef, e]; rfl
    rw [e] at hn
    have hb : 0 ≤ t.n ∧ t.n ≤ 1000000000000000 := by
      unfold numOk at hn
      simpa using hn
    obtain ⟨a, b, c, g⟩ := showI_num hb.1 hb.2
    rw [eh, e]
    exact ⟨c, b, by rw [cw_dg a, if_neg g]; rfl, dg_45 a, fun x => by rw [x] at a; exact absurd a (by decide), fun x => by rw [x] at a; exact absurd a (by decide)⟩
  · have eh : hw t = dateT t.n := by unfold hw; rw [e, if_neg (by decide), if_neg (by decide), if_neg (by decide), ef, e]; rfl
    rw [e] at hn
    have hb : 0 ≤ t.n ∧ t.n ≤ 73048 := by
      unfold numOk at hn
      simpa using hn
    obtain ⟨a, b, c, g⟩ := dateT_num hb.1 hb.2
    rw [eh, e]
    exact ⟨c, b, by rw [cw_dg a, if_pos g]; rfl, dg_45 a, fun x => by rw [x] at a; exact absurd a (by decide), fun x => by rw [x] at a; exact absurd a (by decide)⟩
  · have eh : hw t = t.text.data.toList := by unfold hw; rw [e, if_neg (by decide), if_neg (by decide), if_neg (by decide), ef, e, kids_0 h (by omega), formKs]; rfl
    rw [e] at ht
    have hc : curL t.text.data.toList = true := ht
    rw [eh, e]
    unfold curL at hc
    simp only [Bool.and_eq_true, decide_eq_true_eq, List.all_eq_true] at hc
    have hg : isGreat (t.text.data.toList.headD 0) = true := by
      cases hl : t.text.data.toList with
      | nil => rw [hl] at hc; exact absurd hc.1 (by decide)
      | cons c l => exact hc.2 c (by rw [hl]; exact List.mem_cons_self ..)
    exact ⟨fun c h => great_word c (hc.2 c h), fun x => by rw [x] at hc; exact absurd hc.1 (by decide), by rw [cw_great hg]; rfl, fun x => by rw [x] at hg; exact absurd hg (by decide), fun x => by rw [x] at hg; exact absurd hg (by decide), fun x => by rw [x] at hg; exact absurd hg (by decide)⟩
  · have eh : hw t = if t.n = 1 then [116, 114, 117, 101] else [102, 97, 108, 115, 101] := by unfold hw; rw [e, if_neg (by decide), if_neg (by decide), if_neg (by decide), ef, e]; rfl
    rw [eh, e]
    split
    · exact ⟨by decide, by decide, by decide, by decide, by decide, by decide⟩
    · exact ⟨by decide, by decide, by decide, by decide, by decide, by decide⟩
  · have eh : hw t = [102, 101, 101, 100] := by unfold hw; rw [e]; rfl
    rw [eh, e]
    exact ⟨by decide, by decide, by decide, by decide, by decide, by decide⟩
  · have eh : hw t = t.text.data.toList := by unfold hw; rw [e, if_neg (by decide), if_neg (by decide), if_neg (by decide), ef, e, kids_0 h (by omega), formKs]; rfl
    rw [e] at ht
    have hc : anyL t.text.data.toList = true := ht
    rw [eh, e]
    obtain ⟨a, b, c, g⟩ := any_num hc
    exact ⟨g, c, by rw [cw_name hc]; rfl, fun x => by rw [x] at a; exact absurd a (by decide), fun x => by rw [x] at hc; exact absurd hc (by decide), fun x => by rw [x] at hc; exact absurd hc (by decide)⟩
  · have eh : hw t = t.text.data.toList := by unfold hw; rw [e]; rfl
    rw [e] at ht
    have hc : anyL t.text.data.toList = true := ht
    rw [eh, e]
    obtain ⟨a, b, c, g⟩ := any_num hc
    exact ⟨g, c, by rw [cw_name hc]; rfl, fun x => by rw [x] at a; exact absurd a (by decide), fun x => by rw [x] at hc; exact absurd hc (by decide), fun x => by rw [x] at hc; exact absurd hc (by decide)⟩
  · have eh : hw t = [112, 105, 99, 107] := by unfold hw; rw [e]; rfl
    rw [eh, e]
    exact ⟨by decide, by decide, by decide, by decide, by decide, by decide⟩

/-- two nodes of one kind -/
theorem same_mk {a b : Nd} (hk : a.kind = b.kind) (ht : a.text.data.toList = b.text.data.toList) (hn : a.n = b.n) (hs : sameKs a.kids b.kids = true) : sameN a b = true := by
  rw [sameN_eq, hk, data_inj ht, hn, hs]; simp
/-- expressions' forms tell them apart, whatever stands behind them -/
def Tells (a : Nd) : Prop := ∀ (b : Nd) (d d' : Int) (r r' : List UInt8), rightN a d = true → rightN b d' = true → term r → term r' → formN a ++ r = formN b ++ r' → sameN a b = true ∧ r = r'
theorem comma_term (ks : List Nd) (r : List UInt8) : term (commaL ((formKs ks).map (·.2)) ++ 41 :: r) := by
  cases ks with
  | nil => exact .inr (.inl ⟨r, rfl⟩)
  | cons k ks => exact .inr (.inr (.inl ⟨_, rfl⟩))
theorem comma_inj : ∀ (ks us : List Nd) (d d' : Int) (r r' : List UInt8), (∀ k ∈ ks, Tells k) → rightKs ks d = true → rightKs us d' = true → commaL ((formKs ks).map (·.2)) ++ 41 :: r = commaL ((formKs us).map (·.2)) ++ 41 :: r' → sameKs ks us = true ∧ r = r'
  | [], [], _, _, _, _, _, _, _, e => ⟨rfl, (List.cons.inj e).2⟩
  | [], u :: us, _, _, _, _, _, _, _, e => absurd (List.cons.inj e).1 (by decide)
  | k :: ks, [], _, _, _, _, _, _, _, e => absurd (List.cons.inj e).1 (by decide)
  | k :: ks, u :: us, d, d', r, r', ih, hk, hu, e => by
    rw [rightKs, Bool.and_eq_true] at hk hu
    have e' : formN k ++ (commaL ((formKs ks).map (·.2)) ++ 41 :: r) = formN u ++ (commaL ((formKs us).map (·.2)) ++ 41 :: r') := by
      have : [44, 32] ++ formN k ++ commaL ((formKs ks).map (·.2)) ++ 41 :: r = [44, 32] ++ formN u ++ commaL ((formKs us).map (·.2)) ++ 41 :: r' := e
      simpa using this
    obtain ⟨s1, e2⟩ := ih k (List.mem_cons_self ..) u d d' _ _ hk.1 hu.1 (comma_term _ _) (comma_term _ _) e'
    obtain ⟨s2, e3⟩ := comma_inj ks us d d' r r' (fun x hx => ih x (List.mem_cons_of_mem _ hx)) hk.2 hu.2 e2
    exact ⟨by rw [sameKs, s1, s2]; rfl, e3⟩
theorem list_inj (ks us : List Nd) (d d' : Int) (r r' : List UInt8) (h : ks ≠ []) (h' : us ≠ []) (ih : ∀ k ∈ ks, Tells k) (hk : rightKs ks d = true) (hu : rightKs us d' = true)
    (e : listL ((formKs ks).map (·.2)) ++ r = listL ((formKs us).map (·.2)) ++ r') : sameKs ks us = true ∧ r = r' := by
  cases ks with
  | nil => exact absurd rfl h
  | cons k ks =>
  cases us with
  | nil => exact absurd rfl h'
  | cons u us =>
  refine comma_inj (k :: ks) (u :: us) d d' r r' ih hk hu ?_
  have : [40] ++ formN k ++ commaL ((formKs ks).map (·.2)) ++ [41] ++ r = [40] ++ formN u ++ commaL ((formKs us).map (·.2)) ++ [41] ++ r' := e
  show [44, 32] ++ formN k ++ commaL ((formKs ks).map (·.2)) ++ 41 :: r = [44, 32] ++ formN u ++ commaL ((formKs us).map (·.2)) ++ 41 :: r'
  simpa using this
theorem quote_inj {s s' r r' : List UInt8} (h : nameL s = true) (h' : nameL s' = true) (e : quoteL s ++ r = quoteL s' ++ r') : s = s' ∧ r = r' := by
  have q : ∀ c : UInt8, isInner c = true → (c != 34) = true := fun c g => by
    have := u8_each (p := fun c => !isInner c || c != 34) (by decide +kernel) c
    rw [g] at this; simpa using this
  have e' : s ++ 34 :: r = s' ++ 34 :: r' := by simpa [quoteL] using e
  obtain ⟨a, b⟩ := split_at (p := (· != 34)) (fun c hc => q c (name_inner h c hc)) (fun c hc => q c (name_inner h' c hc)) (fun c l x => by rw [← (List.cons.inj x).1]; rfl) (fun c l x => by rw [← (List.cons.inj x).1]; rfl) e'
  exact ⟨a, (List.cons.inj b).2⟩
theorem kids_pos {t : Nd} {d : Int} (h : rightN t d = true) (hk : t.kind = 11 ∨ t.kind = 15) : t.kids ≠ [] := by
  have := (right_parts h).1
  intro e
  rw [e] at this
  rcases hk with hk | hk <;> (rw [hk] at this; exact absurd this (by decide))
theorem numOk_0 {k n : Int} (h : numOk k n = true) (hk : k ≠ 5 ∧ k ≠ 6 ∧ k ≠ 8) : n = 0 := by
  unfold numOk at h
  rw [if_neg hk.1, if_neg hk.2.1, if_neg hk.2.2, decide_eq_true_eq] at h
  exact h
theorem atom_inj {a b : Nd} {d d' : Int} {r r' : List UInt8} (ha : rightN a d = true) (hb : rightN b d' = true) (ka : atomK a.kind) (kb : atomK b.kind) (hr : stop r) (hr' : stop r') (ih : ∀ k ∈ a.kids, Tells k)
    (e : formN a ++ r = formN b ++ r') : sameN a b = true ∧ r = r' := by
  have oa := hw_ok ha ka
  have ob := hw_ok hb kb
  have fa := hw_tl a
  have fb := hw_tl b
  obtain ⟨e1, e2⟩ := split_at oa.word ob.word (tl_stop a hr) (tl_stop b hr') (show hw a ++ (tl a ++ r) = hw b ++ (tl b ++ r') by rw [← List.append_assoc, ← List.append_assoc, ← fa, ← fb]; exact e)
  have ek : (if a.kind = 11 then 10 else a.kind) = (if b.kind = 11 then 10 else b.kind) := by rw [← oa.cls, ← ob.cls, e1]
  obtain ⟨qa, ta, na, ra⟩ := right_parts ha
  obtain ⟨qb, tb, nb, rb⟩ := right_parts hb
  have tl11 : ∀ {u v : Nd} {x y : List UInt8}, u.kind = 11 → v.kind = 10 → stop y → ¬ tl u ++ x = tl v ++ y := by
    intro u v x y hu hv hy h
    obtain ⟨z, hz⟩ := list_head ((formKs u.kids).map (·.2))
    unfold tl at h
    rw [hu, if_neg (by decide), if_neg (by decide), if_pos rfl, hv, if_neg (by decide), if_neg (by decide), if_neg (by decide), hz] at h
    rcases hy 40 _ h.symm with g | g | g <;> cases g
  have kab : a.kind = b.kind := by
    by_cases h1 : a.kind = 11
    · by_cases h2 : b.kind = 11
      · rw [h1, h2]
      · rw [if_pos h1, if_neg h2] at ek
        exact absurd e2 (tl11 h1 ek.symm hr')
    · rw [if_neg h1] at ek
      by_cases h2 : b.kind = 11
      · rw [if_pos h2] at ek
        exact absurd e2.symm (tl11 h2 ek hr)
      · rw [if_neg h2] at ek; exact ek
  have leaf : 5 ≤ a.kind ∧ a.kind ≤ 10 → sameKs a.kids b.kids = true := fun h => by
    rw [kids_0 ha h, kids_0 hb (by omega)]; rfl
  unfold hw at e1
  unfold tl at e2
  rw [← kab] at e1 e2 tb nb
  rcases atom_cases ka with q | q | q | q | q | q | q | q
  · rw [q] at e1 e2 ta tb na nb
    have e3 : showI a.n = showI b.n := by
      have h1 : formN a = showI a.n := by rw [form_eq, q]; rfl
      have h2 : formN b = showI b.n := by rw [form_eq, ← kab, q]; rfl
      rw [← h1, ← h2]; exact e1
    have h1 : 0 ≤ a.n ∧ a.n ≤ 1000000000000000 := by unfold numOk at na; simpa using na
    have h2 : 0 ≤ b.n ∧ b.n ≤ 1000000000000000 := by unfold numOk at nb; simpa using nb
    have h3 : a.text.data.toList = [] := List.isEmpty_iff.1 ta
    have h4 : b.text.data.toList = [] := List.isEmpty_iff.1 tb
    exact ⟨same_mk kab (h3.trans h4.symm) (showI_inj h1.1 h1.2 h2.1 h2.2 e3) (leaf (by omega)), e2⟩
  · rw [q] at e1 e2 ta tb na nb
    have e3 : dateT a.n = dateT b.n := by
      have h1 : formN a = dateT a.n := by rw [form_eq, q]; rfl
      have h2 : formN b = dateT b.n := by rw [form_eq, ← kab, q]; rfl
      rw [← h1, ← h2]; exact e1
    have h1 : 0 ≤ a.n ∧ a.n ≤ 73048 := by unfold numOk at na; simpa using na
    have h2 : 0 ≤ b.n ∧ b.n ≤ 73048 := by unfold numOk at nb; simpa using nb
    have h3 : a.text.data.toList = [] := List.isEmpty_iff.1 ta
    have h4 : b.text.data.toList = [] := List.isEmpty_iff.1 tb
    exact ⟨same_mk kab (h3.trans h4.symm) (dateT_inj h1.1 h1.2 h2.1 h2.2 e3) (leaf (by omega)), e2⟩
  · rw [q] at e1 e2 na nb
    have h1 : formN a = a.text.data.toList := by rw [form_eq, q, kids_0 ha (by omega), formKs]; rfl
    have h2 : formN b = b.text.data.toList := by rw [form_eq, ← kab, q, kids_0 hb (by omega), formKs]; rfl
    have e3 : formN a = formN b := e1
    rw [h1, h2] at e3
    exact ⟨same_mk kab e3 ((numOk_0 na (by decide)).trans (numOk_0 nb (by decide)).symm) (leaf (by omega)), e2⟩
  · rw [q] at e1 e2 ta tb na nb
    have h3 : a.text.data.toList = [] := List.isEmpty_iff.1 ta
    have h4 : b.text.data.toList = [] := List.isEmpty_iff.1 tb
    have h1 : a.n = 0 ∨ a.n = 1 := by unfold numOk at na; simpa using na
    have h2 : b.n = 0 ∨ b.n = 1 := by unfold numOk at nb; simpa using nb
    have f1 : formN a = if a.n = 1 then [116, 114, 117, 101] else [102, 97, 108, 115, 101] := by rw [form_eq, q]; rfl
    have f2 : formN b = if b.n = 1 then [116, 114, 117, 101] else [102, 97, 108, 115, 101] := by rw [form_eq, ← kab, q]; rfl
    have e3 : formN a = formN b := e1
    rw [f1, f2] at e3
    have hn : a.n = b.n := by
      rcases h1 with h1 | h1 <;> rcases h2 with h2 | h2 <;> rw [h1, h2] at e3 ⊢ <;> exact absurd e3 (by decide)
    exact ⟨same_mk kab (h3.trans h4.symm) hn (leaf (by omega)), e2⟩
  · rw [q] at e2 ta tb na nb
    obtain ⟨e3, e4⟩ := quote_inj (show nameL a.text.data.toList = true from ta) (show nameL b.text.data.toList = true from tb) e2
    exact ⟨same_mk kab e3 ((numOk_0 na (by decide)).trans (numOk_0 nb (by decide)).symm) (leaf (by omega)), e4⟩
  · rw [q] at e1 e2 na nb
    have h1 : formN a = a.text.data.toList := by rw [form_eq, q, kids_0 ha (by omega), formKs]; rfl
    have h2 : formN b = b.text.data.toList := by rw [form_eq, ← kab, q, kids_0 hb (by omega), formKs]; rfl
    have e3 : formN a = formN b := e1
    rw [h1, h2] at e3
    exact ⟨same_mk kab e3 ((numOk_0 na (by decide)).trans (numOk_0 nb (by decide)).symm) (leaf (by omega)), e2⟩
  · rw [q] at e1 e2 na nb
    obtain ⟨s1, e4⟩ := list_inj a.kids b.kids _ _ r r' (kids_pos ha (.inl q)) (kids_pos hb (.inl (kab ▸ q))) ih ra rb e2
    exact ⟨same_mk kab e1 ((numOk_0 na (by decide)).trans (numOk_0 nb (by decide)).symm) s1, e4⟩
  · rw [q] at e2 ta tb na nb
    have e2' : quoteL a.text.data.toList ++ (listL ((formKs a.kids).map (·.2)) ++ r) = quoteL b.text.data.toList ++ (listL ((formKs b.kids).map (·.2)) ++ r') := by
      rw [← List.append_assoc, ← List.append_assoc]; exact e2
    obtain ⟨e3, e4⟩ := quote_inj (show nameL a.text.data.toList = true from ta) (show nameL b.text.data.toList = true from tb) e2'
    obtain ⟨s1, e5⟩ := list_inj a.kids b.kids _ _ r r' (kids_pos ha (.inr q)) (kids_pos hb (.inr (kab ▸ q))) ih ra rb e4
    exact ⟨same_mk kab e3 ((numOk_0 na (by decide)).trans (numOk_0 nb (by decide)).symm) s1, e5⟩

theorem no_paren {t : Nd} {d : Int} (h : rightN t d = true) (ha : atomK t.kind) {x r : List UInt8} : ¬ 40 :: x = formN t ++ r := by
  intro e
  have o := hw_ok h ha
  rw [hw_tl t, List.append_assoc] at e
  cases hl : hw t with
  | nil => exact o.ne hl
  | cons c l =>
    rw [hl] at e
    have h1 := o.word c (by rw [hl]; exact List.mem_cons_self ..)
    rw [← (List.cons.inj e).1] at h1
    cases h1
theorem part_inj {a b : Nd} {d d' : Int} {r r' : List UInt8} (ha : rightN a d = true) (hb : rightN b d' = true) (hr : stop r) (hr' : stop r') (iha : wrapK a.kind = true → Tells a) (ih : ∀ k ∈ a.kids, Tells k)
    (e : partL a.kind (formN a) ++ r = partL b.kind (formN b) ++ r') : sameN a b = true ∧ r = r' := by
  unfold partL at e
  by_cases wa : wrapK a.kind = true
  · rw [if_pos wa] at e
    by_cases wb : wrapK b.kind = true
    · rw [if_pos wb] at e
      have e' : formN a ++ 41 :: r = formN b ++ 41 :: r' := by simpa using e
      obtain ⟨s, e2⟩ := iha wa b d d' _ _ ha hb (.inr (.inl ⟨_, rfl⟩)) (.inr (.inl ⟨_, rfl⟩)) e'
      exact ⟨s, (List.cons.inj e2).2⟩
    · rw [if_neg wb] at e
      exact absurd (show 40 :: (formN a ++ [41] ++ r) = formN b ++ r' by rw [← e]; simp) (no_paren hb (no_atom (right_parts hb).1 wb))
  · rw [if_neg wa] at e
    by_cases wb : wrapK b.kind = true
    · rw [if_pos wb] at e
      exact absurd (show 40 :: (formN b ++ [41] ++ r') = formN a ++ r by rw [e]; simp) (no_paren ha (no_atom (right_parts ha).1 wa))
    · rw [if_neg wb] at e
      exact atom_inj ha hb (no_atom (right_parts ha).1 wa) (no_atom (right_parts hb).1 wb) hr hr' ih e

/-- what an expression begins with -/
def lead (l : List UInt8) : Nat := if l.headD 0 = 45 then 1 else if l.takeWhile wordC = [110, 111, 116] then 2 else if l.takeWhile wordC = [105, 102] then 3 else 0
def leadN (t : Nd) : Nat := if t.kind = 12 then (if t.text.data.toList = [45] then 1 else 2) else if t.kind = 14 then 3 else 0
theorem take_word : ∀ {w r : List UInt8}, (∀ c ∈ w, wordC c = true) → (∀ c l, r = c :: l → wordC c = false) → (w ++ r).takeWhile wordC = w
  | [], [], _, _ => rfl
  | [], c :: r, _, h => by rw [List.nil_append, List.takeWhile_cons, h c r rfl]; rfl
  | c :: w, r, h, h' => by
    rw [List.cons_append, List.takeWhile_cons, h c (List.mem_cons_self ..), if_pos rfl, take_word (fun x hx => h x (List.mem_cons_of_mem _ hx)) h']
theorem part_lead {t : Nd} {d : Int} (h : rightN t d = true) {r : List UInt8} (hr : stop r) : lead (partL t.kind (formN t) ++ r) = 0 := by
  unfold partL
  by_cases w : wrapK t.kind = true
  · rw [if_pos w]
    have e : [40] ++ formN t ++ [41] ++ r = 40 :: (formN t ++ [41] ++ r) := rfl
    have e2 : (40 :: (formN t ++ [41] ++ r)).takeWhile wordC = [] := by rw [List.takeWhile_cons]; rfl
    unfold lead
    rw [e, e2]; rfl
  · rw [if_neg w]
    have o := hw_ok h (no_atom (right_parts h).1 w)
    have e2 : (formN t ++ r).takeWhile wordC = hw t := by rw [hw_tl t, List.append_assoc]; exact take_word o.word (tl_stop t hr)
    have e3 : (formN t ++ r).headD 0 = (hw t).headD 0 := by
      rw [hw_tl t, List.append_assoc]
      cases hl : hw t with
      | nil => exact absurd hl o.ne
      | cons c l => rfl
    unfold lead
    rw [e2, e3, if_neg o.min, if_neg o.no, if_neg o.iff]
theorem len1 {α : Type} {l : List α} (h : l.length = 1) : ∃ a, l = [a] := by
  match l, h with
  | [a], _ => exact ⟨a, rfl⟩
theorem len2 {α : Type} {l : List α} (h : l.length = 2) : ∃ a b, l = [a, b] := by
  match l, h with
  | [a, b], _ => exact ⟨a, b, rfl⟩
theorem len3 {α : Type} {l : List α} (h : l.length = 3) : ∃ a b c, l = [a, b, c] := by
  match l, h with
  | [a, b, c], _ => exact ⟨a, b, c, rfl⟩
theorem right_una {t : Nd} {d : Int} (h : rightN t d = true) (hk : t.kind = 12) : ∃ s k p, t = .mk 12 s 0 [k] p ∧ (s.data.toList = [45] ∨ s.data.toList = [110, 111, 116]) ∧ rightN k (d + 1) = true := by
  obtain ⟨q, ht, hn, hr⟩ := right_parts h
  cases t with
  | mk kind s n ks p =>
  obtain rfl : kind = 12 := hk
  obtain ⟨k, rfl⟩ := len1 (show ks.length = 1 by have q' : kidsOk 12 ks.length = true := q; simpa [kidsOk] using q')
  obtain rfl : n = 0 := numOk_0 (k := 12) hn (by decide)
  have ht' : s.data.toList = [45] ∨ s.data.toList = [110, 111, 116] := by
    have : (s.data.toList == [45] || s.data.toList == [110, 111, 116]) = true := ht
    simpa using this
  rw [Nd.kids, rightKs, Bool.and_eq_true] at hr
  exact ⟨s, k, p, rfl, ht', hr.1⟩
theorem right_bin {t : Nd} {d : Int} (h : rightN t d = true) (hk : t.kind = 13) : ∃ s k u p, t = .mk 13 s 0 [k, u] p ∧ signL s.data.toList = true ∧ rightN k (d + 1) = true ∧ rightN u (d + 1) = true := by
  obtain ⟨q, ht, hn, hr⟩ := right_parts h
  cases t with
  | mk kind s n ks p =>
  obtain rfl : kind = 13 := hk
  obtain ⟨k, u, rfl⟩ := len2 (show ks.length = 2 by have q' : kidsOk 13 ks.length = true := q; simpa [kidsOk] using q')
  obtain rfl : n = 0 := numOk_0 (k := 13) hn (by decide)
  rw [Nd.kids, rightKs, rightKs, Bool.and_eq_true, Bool.and_eq_true] at hr
  exact ⟨s, k, u, p, rfl, ht, hr.1, hr.2.1⟩
theorem right_if {t : Nd} {d : Int} (h : rightN t d = true) (hk : t.kind = 14) : ∃ s k u v p, t = .mk 14 s 0 [k, u, v] p ∧ s.data.toList = [] ∧ rightN k (d + 1) = true ∧ rightN u (d + 1) = true ∧ rightN v (d + 1) = true := by
  obtain ⟨q, ht, hn, hr⟩ := right_parts h
  cases t with
  | mk kind s n ks p =>
  obtain rfl : kind = 14 := hk
  obtain ⟨k, u, v, rfl⟩ := len3 (show ks.length = 3 by have q' : kidsOk 14 ks.length = true := q; simpa [kidsOk] using q')
  obtain rfl : n = 0 := numOk_0 (k := 14) hn (by decide)
  rw [Nd.kids, rightKs, rightKs, rightKs, Bool.and_eq_true, Bool.and_eq_true, Bool.and_eq_true] at hr
  exact ⟨s, k, u, v, p, rfl, List.isEmpty_iff.1 ht, hr.1, hr.2.1, hr.2.2.1⟩
theorem lead_form {t : Nd} {d : Int} (h : rightN t d = true) {r : List UInt8} (hr : stop r) : lead (formN t ++ r) = leadN t := by
  by_cases h12 : t.kind = 12
  · obtain ⟨s, k, p, rfl, hs, -⟩ := right_una h h12
    rw [form_una]
    unfold leadN
    rw [show (Nd.mk 12 s 0 [k] p).kind = 12 from rfl, if_pos rfl, show (Nd.mk 12 s 0 [k] p).text = s from rfl]
    rcases hs with hs | hs
    · rw [if_pos hs, if_pos hs]; rfl
    · rw [hs, if_neg (by decide), if_neg (by decide)]
      have e : [110, 111, 116, 32] ++ partL k.kind (formN k) ++ r = [110, 111, 116] ++ (32 :: (partL k.kind (formN k) ++ r)) := by simp
      have e2 := take_word (w := [110, 111, 116]) (r := 32 :: (partL k.kind (formN k) ++ r)) (by decide) (stop_word (stop_32 _))
      unfold lead
      rw [e, e2]; rfl
  by_cases h14 : t.kind = 14
  · obtain ⟨s, k, u, v, p, rfl, -⟩ := right_if h h14
    rw [form_if]
    have e2 := fun x => take_word (w := [105, 102]) (r := 32 :: x) (by decide) (stop_word (stop_32 _))
    have e3 : ∀ x : List UInt8, (105 :: 102 :: 32 :: x).takeWhile wordC = [105, 102] := e2
    unfold lead
    rw [List.cons_append, List.cons_append, List.cons_append, e3]; rfl
  have hl : leadN t = 0 := by unfold leadN; rw [if_neg h12, if_neg h14]
  rw [hl]
  by_cases h13 : t.kind = 13
  · obtain ⟨s, k, u, p, rfl, -, hk, -⟩ := right_bin h h13
    rw [form_bin, List.append_assoc]
    exact part_lead hk (stop_32 _)
  · have w : ¬ wrapK t.kind = true := by unfold wrapK; simp only [Bool.or_eq_true, decide_eq_true_eq]; omega
    have := part_lead h hr
    unfold partL at this
    rw [if_neg w] at this
    exact this
theorem sign_no {s : List UInt8} (h : signL s = true) : (∀ c ∈ s, (c != 32) = true) ∧ s ≠ [116, 104, 101, 110] ∧ s ≠ [101, 108, 115, 101] := by
  have : ∀ w ∈ signTab, (∀ c ∈ w, (c != 32) = true) ∧ w ≠ [116, 104, 101, 110] ∧ w ≠ [101, 108, 115, 101] := by decide
  exact this s (List.contains_iff_mem.1 h)
theorem sign_split {s s' r r' : List UInt8} (h : ∀ c ∈ s, (c != 32) = true) (h' : ∀ c ∈ s', (c != 32) = true) (e : 32 :: (s ++ 32 :: r) = 32 :: (s' ++ 32 :: r')) : s = s' ∧ r = r' := by
  obtain ⟨a, b⟩ := split_at (p := (· != 32)) h h' (fun c l x => by rw [← (List.cons.inj x).1]; rfl) (fun c l x => by rw [← (List.cons.inj x).1]; rfl) (List.cons.inj e).2
  exact ⟨a, (List.cons.inj b).2⟩
theorem term_sign {r s x : List UInt8} (h : term r) (hs : signL s = true) : ¬ r = 32 :: (s ++ 32 :: x) := by
  intro e
  obtain ⟨g, g1, g2⟩ := sign_no hs
  rcases h with rfl | ⟨l, rfl⟩ | ⟨l, rfl⟩ | ⟨l, rfl⟩ | ⟨l, rfl⟩
  · cases e
  · exact absurd (List.cons.inj e).1 (by decide)
  · exact absurd (List.cons.inj e).1 (by decide)
  · exact g1 (sign_split (by decide) g e).1.symm
  · exact g2 (sign_split (by decide) g e).1.symm
theorem size_kid {t k : Nd} {N : Nat} (h : SizeOf.sizeOf t < N + 1) (hk : k ∈ t.kids) : SizeOf.sizeOf k < N := by
  cases t with
  | mk kind s n ks p =>
  have := List.sizeOf_lt_of_mem (show k ∈ ks from hk)
  simp only [Nd.mk.sizeOf_spec] at h
  omega
theorem tells (N : Nat) : ∀ a : Nd, SizeOf.sizeOf a < N → Tells a := by
  induction N with
  | zero => intro a h; omega
  | succ N IH =>
  intro a hN b d d' r r' ha hb hr hr' e
  have ih : ∀ k ∈ a.kids, Tells k := fun k hk => IH k (size_kid hN hk)
  have ih2 : ∀ k ∈ a.kids, ∀ j ∈ k.kids, Tells j := fun k hk j hj => IH j (by
    have h1 := size_kid hN hk
    have h2 := size_kid (t := k) (k := j) (N := N) (by omega) hj
    exact h2)
  have hl : leadN a = leadN b := by rw [← lead_form ha (term_stop hr), ← lead_form hb (term_stop hr'), e]
  unfold leadN at hl
  by_cases a12 : a.kind = 12
  · have b12 : b.kind = 12 := by
      by_cases h : b.kind = 12
      · exact h
      · rw [if_pos a12, if_neg h] at hl
        split at hl <;> split at hl <;> cases hl
    rw [if_pos a12, if_pos b12] at hl
    obtain ⟨s, k, p, rfl, hs, hk⟩ := right_una ha a12
    obtain ⟨s', k', p', rfl, hs', hk'⟩ := right_una hb b12
    have es : s.data.toList = s'.data.toList := by
      rcases hs with hs | hs <;> rcases hs' with hs' | hs'
      · rw [hs, hs']
      · rw [show (Nd.mk 12 s 0 [k] p).text = s from rfl, show (Nd.mk 12 s' 0 [k'] p').text = s' from rfl, hs, hs'] at hl; exact absurd hl (by decide)
      · rw [show (Nd.mk 12 s 0 [k] p).text = s from rfl, show (Nd.mk 12 s' 0 [k'] p').text = s' from rfl, hs, hs'] at hl; exact absurd hl (by decide)
      · rw [hs, hs']
    rw [form_una, form_una, es, List.append_assoc, List.append_assoc] at e
    have e' := List.append_cancel_left e
    obtain ⟨h1, h2⟩ := part_inj hk hk' (term_stop hr) (term_stop hr') (fun _ => ih k (by simp [Nd.kids])) (ih2 k (by simp [Nd.kids])) e'
    exact ⟨same_mk rfl es rfl (by show sameKs [k] [k'] = true; rw [sameKs, h1]; rfl), h2⟩
  by_cases a14 : a.kind = 14
  · have b14 : b.kind = 14 := by
      by_cases h : b.kind = 14
      · exact h
      · rw [if_neg a12, if_pos a14, if_neg h] at hl
        split at hl
        · split at hl <;> cases hl
        · cases hl
    obtain ⟨s, k, u, v, p, rfl, hs, hk, hu, hv⟩ := right_if ha a14
    obtain ⟨s', k', u', v', p', rfl, hs', hk', hu', hv'⟩ := right_if hb b14
    rw [form_if, form_if] at e
    simp only [List.cons_append, List.append_assoc, List.cons.injEq, true_and] at e
    obtain ⟨h1, e1⟩ := ih k (by simp [Nd.kids]) k' _ _ _ _ hk hk' (.inr (.inr (.inr (.inl ⟨_, rfl⟩)))) (.inr (.inr (.inr (.inl ⟨_, rfl⟩)))) e
    simp only [List.cons_append, List.nil_append, List.cons.injEq, true_and] at e1
    obtain ⟨h2, e2⟩ := ih u (by simp [Nd.kids]) u' _ _ _ _ hu hu' (.inr (.inr (.inr (.inr ⟨_, rfl⟩)))) (.inr (.inr (.inr (.inr ⟨_, rfl⟩)))) e1
    simp only [List.cons_append, List.nil_append, List.cons.injEq, true_and] at e2
    obtain ⟨h3, e3⟩ := ih v (by simp [Nd.kids]) v' _ _ _ _ hv hv' hr hr' e2
    exact ⟨same_mk rfl (hs.trans hs'.symm) rfl (by show sameKs [k, u, v] [k', u', v'] = true; rw [sameKs, sameKs, sameKs, h1, h2, h3]; rfl), e3⟩
  have hb' : b.kind ≠ 12 ∧ b.kind ≠ 14 := by
    rw [if_neg a12, if_neg a14] at hl
    constructor
    · intro h
      rw [if_pos h] at hl
      split at hl <;> cases hl
    · intro h
      rw [h] at hl
      cases hl
  have hat : ∀ {t : Nd} {x : Int}, rightN t x = true → t.kind ≠ 12 → t.kind ≠ 13 → t.kind ≠ 14 → ¬ wrapK t.kind = true := by
    intro t x _ h1 h2 h3
    unfold wrapK
    simp only [Bool.or_eq_true, decide_eq_true_eq]
    omega
  by_cases a13 : a.kind = 13
  · obtain ⟨s, k, u, p, rfl, hs, hk, hu⟩ := right_bin ha a13
    rw [form_bin, List.append_assoc] at e
    by_cases b13 : b.kind = 13
    · obtain ⟨s', k', u', p', rfl, hs', hk', hu'⟩ := right_bin hb b13
      rw [form_bin, List.append_assoc] at e
      obtain ⟨h1, e1⟩ := part_inj hk hk' (stop_32 _) (stop_32 _) (fun _ => ih k (by simp [Nd.kids])) (ih2 k (by simp [Nd.kids])) e
      have e1' : 32 :: (s.data.toList ++ 32 :: partL u.kind (formN u)) ++ r = 32 :: (s'.data.toList ++ 32 :: partL u'.kind (formN u')) ++ r' := e1
      replace e1 : 32 :: (s.data.toList ++ 32 :: (partL u.kind (formN u) ++ r)) = 32 :: (s'.data.toList ++ 32 :: (partL u'.kind (formN u') ++ r')) := by simpa using e1'
      obtain ⟨es, e2⟩ := sign_split (sign_no hs).1 (sign_no hs').1 e1
      obtain ⟨h2, e3⟩ := part_inj hu hu' (term_stop hr) (term_stop hr') (fun _ => ih u (by simp [Nd.kids])) (ih2 u (by simp [Nd.kids])) e2
      exact ⟨same_mk rfl es rfl (by show sameKs [k, u] [k', u'] = true; rw [sameKs, sameKs, h1, h2]; rfl), e3⟩
    · have w := hat hb hb'.1 b13 hb'.2
      have e' : partL k.kind (formN k) ++ (32 :: (s.data.toList ++ 32 :: partL u.kind (formN u)) ++ r) = partL b.kind (formN b) ++ r' := by
        rw [e]; unfold partL; rw [if_neg w]
      obtain ⟨h1, e1⟩ := part_inj hk hb (stop_32 _) (term_stop hr') (fun _ => ih k (by simp [Nd.kids])) (ih2 k (by simp [Nd.kids])) e'
      exact absurd (show r' = 32 :: (s.data.toList ++ 32 :: (partL u.kind (formN u) ++ r)) by rw [← e1]; simp) (term_sign hr' hs)
  · have wa := hat ha a12 a13 a14
    by_cases b13 : b.kind = 13
    · obtain ⟨s', k', u', p', rfl, hs', hk', hu'⟩ := right_bin hb b13
      rw [form_bin, List.append_assoc] at e
      have e' : partL a.kind (formN a) ++ r = partL k'.kind (formN k') ++ (32 :: (s'.data.toList ++ 32 :: partL u'.kind (formN u')) ++ r') := by
        rw [← e]; unfold partL; rw [if_neg wa]
      obtain ⟨h1, e1⟩ := part_inj ha hk' (term_stop hr) (stop_32 _) (fun h => absurd h wa) ih e'
      exact absurd (show r = 32 :: (s'.data.toList ++ 32 :: (partL u'.kind (formN u') ++ r')) by rw [e1]; simp) (term_sign hr hs')
    · have wb := hat hb hb'.1 b13 hb'.2
      exact atom_inj ha hb (no_atom (right_parts ha).1 wa) (no_atom (right_parts hb).1 wb) (term_stop hr) (term_stop hr') ih e

mutual
theorem same_form : ∀ (a b : Nd), sameN a b = true → formN a = formN b
  | .mk k s n ks p, b, h => by
    rw [sameN_eq] at h
    simp only [Bool.and_eq_true, beq_iff_eq, Nd.kind, Nd.text, Nd.n, Nd.kids] at h
    obtain ⟨⟨⟨h1, h2⟩, h3⟩, h4⟩ := h
    cases b with
    | mk k' s' n' ks' p' =>
    have h2' : s.data.toList = s'.data.toList := by rw [Lib.toList_data, Lib.toList_data] at h2; exact h2
    rw [formN, formN, same_forms ks ks' h4]
    simp only at h1 h3
    rw [h1, h3, h2']
theorem same_forms : ∀ (a b : List Nd), sameKs a b = true → formKs a = formKs b
  | [], b, h => by
    rw [sameKs, List.isEmpty_iff] at h
    rw [h]
  | a :: r, [], h => by rw [sameKs] at h; cases h
  | a :: r, b :: l, h => by
    rw [sameKs, Bool.and_eq_true] at h
    have e : a.kind = b.kind := by
      have := h.1
      rw [sameN_eq] at this
      simp only [Bool.and_eq_true, beq_iff_eq] at this
      exact this.1.1.1
    rw [formKs, formKs, same_form a b h.1, same_forms r l h.2, e]
end
/-- two right expressions are the same just if their forms are -/
theorem apart {a b : Nd} {d d' : Int} (ha : rightN a d = true) (hb : rightN b d' = true) : formN a = formN b ↔ sameN a b = true := by
  constructor
  · intro e
    exact (tells _ a (Nat.lt_succ_self _) b d d' [] [] ha hb (.inl rfl) (.inl rfl) (by rw [e])).1
  · exact same_form a b

end Go.Proofs.YtcndknkdhlmdnaaGreatDoor
