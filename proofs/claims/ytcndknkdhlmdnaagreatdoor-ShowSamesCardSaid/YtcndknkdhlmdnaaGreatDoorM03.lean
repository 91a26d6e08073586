/-
  Texts that the statements' proofs rest on, one behind another: Words, ShowLaw, Forms, WordLaw.
-/
import Derived.Test.YtcndknkdhlmdnaaGreatDoorM02
import Derived.Lib.IndexMore
import Derived.Lib.IndexBytes
import Derived.Test.YtcndknkdhlmdnaaGreatDoorM01

/-
  Plain laws of keywords, signs and names with a module's name ahead (no program in sight).
-/
namespace Go.Proofs.YtcndknkdhlmdnaaGreatDoor

theorem contains_cons (b : UInt8) (l sub : List UInt8) : Lib.contains (b :: l) sub = (sub.isPrefixOf (b :: l) || Lib.contains l sub) := by
  unfold Lib.contains
  rw [Lib.index]
  have := Lib.index_ge l sub
  split
  · rename_i h; rw [h]; rfl
  · rename_i h
    rw [Bool.eq_false_iff.2 h, Bool.false_or]
    split
    · rename_i g; rw [eq_of_beq g]
    · rename_i g
      rw [Bool.eq_iff_iff]
      simp only [decide_eq_true_eq]
      have : Lib.index l sub ≠ -1 := fun e => g (by rw [e]; rfl)
      omega
theorem contains_skip (sub : List UInt8) : ∀ (w m : List UInt8), (∀ c ∈ w, c ≠ 32) → Lib.contains (w ++ m) (32 :: sub) = Lib.contains m (32 :: sub)
  | [], _, _ => rfl
  | c :: w, m, h => by
    have hc : (32 == c) = false := by rw [beq_eq_false_iff_ne]; exact fun e => h c (List.mem_cons_self ..) e.symm
    rw [List.cons_append, contains_cons, List.isPrefixOf, hc, Bool.false_and, Bool.false_or]
    exact contains_skip sub w m fun d hd => h d (List.mem_cons_of_mem _ hd)
theorem word_prefix : ∀ (s w m : List UInt8), (∀ c ∈ s, c ≠ 32) → (∀ c ∈ w, c ≠ 32) → (s ++ [32]).isPrefixOf (w ++ 32 :: m) = (s == w)
  | [], [], _, _, _ => rfl
  | [], c :: w, m, _, h => by
    have hc : (32 == c) = false := by rw [beq_eq_false_iff_ne]; exact fun e => h c (List.mem_cons_self ..) e.symm
    rw [List.nil_append, List.cons_append, List.isPrefixOf, hc]; rfl
  | c :: s, [], m, h, _ => by
    have hc : (c == 32) = false := by rw [beq_eq_false_iff_ne]; exact fun e => h c (List.mem_cons_self ..) e
    rw [List.cons_append, List.nil_append, List.isPrefixOf, hc]; rfl
  | c :: s, d :: w, m, h, g => by
    rw [List.cons_append, List.cons_append, List.isPrefixOf, word_prefix s w m (fun x hx => h x (List.mem_cons_of_mem _ hx)) (fun x hx => g x (List.mem_cons_of_mem _ hx))]
    rfl
/-- words with blanks about them -/
def spaced : List (List UInt8) → List UInt8
  | [] => [32]
  | w :: r => 32 :: (w ++ spaced r)
theorem spaced_head : ∀ L, ∃ m, spaced L = 32 :: m
  | [] => ⟨_, rfl⟩
  | _ :: _ => ⟨_, rfl⟩
theorem contains_spaced (s : List UInt8) (hs : ∀ c ∈ s, c ≠ 32) : ∀ (L : List (List UInt8)), (∀ w ∈ L, ∀ c ∈ w, c ≠ 32) → Lib.contains (spaced L) (32 :: (s ++ [32])) = L.contains s
  | [], _ => by
    show Lib.contains [32] (32 :: (s ++ [32])) = false
    rw [contains_cons]
    cases s with
    | nil => rfl
    | cons c s => rfl
  | w :: r, h => by
    obtain ⟨m, hm⟩ := spaced_head r
    have hw := h w (List.mem_cons_self ..)
    rw [spaced, contains_cons, contains_skip _ _ _ hw, contains_spaced s hs r (fun w hw => h w (List.mem_cons_of_mem _ hw)), List.isPrefixOf, hm, word_prefix s w m hs hw, List.contains_cons]
    rfl

/-- the keywords -/
def wordTab : List (List UInt8) := [[109, 111, 100, 117, 108, 101], [105, 109, 112, 111, 114, 116], [108, 101, 116], [105, 102], [116, 104, 101, 110], [101, 108, 115, 101], [97, 110, 100], [111, 114], [110, 111, 116], [116, 114, 117, 101], [102, 97, 108, 115, 101], [102, 101, 101, 100], [112, 105, 99, 107]]
/-- the signs and words of a Binary -/
def signTab : List (List UInt8) := [[111, 114], [97, 110, 100], [60], [60, 61], [61], [43], [45], [42], [47]]
def wordL (l : List UInt8) : Bool := wordTab.contains l
def signL (l : List UInt8) : Bool := signTab.contains l
/-- a name that is no keyword -/
def nearL (l : List UInt8) : Bool := nameL l && !wordL l
/-- perhaps a module's name and a point ahead -/
def anyL (l : List UInt8) : Bool := nearL (Lib.cut l [46]).1 && (!(Lib.cut l [46]).2.2 || nearL (Lib.cut l [46]).2.1)
/-- with a module's name and a point ahead -/
def farL (l : List UInt8) : Bool := (Lib.cut l [46]).2.2 && (nearL (Lib.cut l [46]).1 && nearL (Lib.cut l [46]).2.1)
def wordS : ByteArray := ⟨(spaced wordTab).toArray⟩
def signS : ByteArray := ⟨(spaced signTab).toArray⟩

theorem inner_no (c : UInt8) (h : isInner c = true) : c ≠ 32 ∧ c ≠ 46 := by
  constructor <;> (rintro rfl; exact absurd h (by decide))
theorem name_inner {l : List UInt8} (h : nameL l = true) : ∀ c ∈ l, isInner c = true := by
  unfold nameL at h
  rw [Bool.and_eq_true] at h
  exact List.all_eq_true.1 h.2
theorem word_contains {l : List UInt8} (h : nameL l = true) : Lib.contains (spaced wordTab) (32 :: (l ++ [32])) = wordL l :=
  contains_spaced l (fun c hc => (inner_no c (name_inner h c hc)).1) wordTab (by decide)
theorem contains_one (l : List UInt8) (c : UInt8) : Lib.contains l [c] = l.contains c := by
  induction l with
  | nil => rfl
  | cons b l ih => rw [contains_cons, ih, List.contains_cons, List.isPrefixOf, List.isPrefixOf, Bool.and_true]
theorem sign_contains (l : List UInt8) : (!l.isEmpty && !Lib.contains l [32] && Lib.contains (spaced signTab) (32 :: (l ++ [32]))) = signL l := by
  by_cases h : ∀ c ∈ l, c ≠ 32
  · rw [contains_spaced l h signTab (by decide), contains_one]
    have h1 : l.contains 32 = false := by
      rw [Bool.eq_false_iff]; intro e; exact h 32 (List.contains_iff_mem.1 e) rfl
    rw [h1]
    cases l with
    | nil => rfl
    | cons c l => rfl
  · have h1 : l.contains 32 = true := by
      rw [List.contains_iff_mem]
      exact Classical.byContradiction fun g => h fun c hc e => g (e ▸ hc)
    rw [contains_one, h1, Bool.not_true, Bool.and_false, Bool.false_and]
    symm
    rw [Bool.eq_false_iff]
    intro e
    have hm : l ∈ signTab := List.contains_iff_mem.1 e
    have : ∀ w ∈ signTab, w.contains 32 = false := by decide
    rw [this l hm] at h1
    cases h1

theorem cut_no {l : List UInt8} (h : (Lib.cut l [46]).2.2 = false) : (Lib.cut l [46]).1 = l := by
  unfold Lib.cut at h ⊢
  split
  · rename_i g; rw [if_pos g] at h; cases h
  · rfl
theorem index_mem {l : List UInt8} {c : UInt8} (h : 0 ≤ Lib.index l [c]) : c ∈ l := by
  have := contains_one l c
  unfold Lib.contains at this
  rw [decide_eq_true h] at this
  exact List.contains_iff_mem.1 this.symm
/-- a name is near or far just if it is any -/
theorem any_eq (l : List UInt8) : (nearL l || farL l) = anyL l := by
  unfold farL anyL
  cases h : (Lib.cut l [46]).2.2
  · rw [cut_no h]; simp
  · have hn : nearL l = false := by
      rw [Bool.eq_false_iff]
      intro e
      unfold nearL at e
      rw [Bool.and_eq_true] at e
      have hm : (46 : UInt8) ∈ l := by
        unfold Lib.cut at h
        split at h
        · rename_i g; exact index_mem g
        · cases h
      exact (inner_no 46 (name_inner e.1 46 hm)).2 rfl
    rw [hn]; simp

end Go.Proofs.YtcndknkdhlmdnaaGreatDoor

/-
  Which trees are right, and how each is written: plain laws (no program in sight).
-/
namespace Go.Proofs.YtcndknkdhlmdnaaGreatDoor

/-- all days -/
def dayTab : List (Int × Int × Int) := (List.range 200).flatMap fun (y : Nat) => (List.range 12).flatMap fun (m : Nat) => (List.range 31).map fun (d : Nat) => (1900 + (y : Int), 1 + (m : Int), 1 + (d : Int))
instance (y m d : Int) : Decidable (Cal.ok y m d) := inferInstanceAs (Decidable (_ ∧ _))
/-- a day's text -/
def dateT (k : Int) : List UInt8 := match dayTab.find? (fun t => decide (Cal.ok t.1 t.2.1 t.2.2 ∧ Cal.num t.1 t.2.1 t.2.2 = k)) with
  | some t => Cal.text t.1 t.2.1 t.2.2
  | none => []
theorem dayTab_mem {y m d : Int} (h : Cal.ok y m d) : (y, m, d) ∈ dayTab := by
  obtain ⟨h1, h2, h3, h4, h5, h6⟩ := h
  have := Cal.mlen_bd y m
  refine List.mem_flatMap.2 ⟨(y - 1900).toNat, List.mem_range.2 (by omega), List.mem_flatMap.2 ⟨(m - 1).toNat, List.mem_range.2 (by omega), List.mem_map.2 ⟨(d - 1).toNat, List.mem_range.2 (by omega), ?_⟩⟩⟩
  simp only [Prod.mk.injEq]
  omega
theorem dateT_eq {y m d : Int} (h : Cal.ok y m d) : dateT (Cal.num y m d) = Cal.text y m d := by
  unfold dateT
  cases hf : dayTab.find? (fun t => decide (Cal.ok t.1 t.2.1 t.2.2 ∧ Cal.num t.1 t.2.1 t.2.2 = Cal.num y m d)) with
  | none =>
    have := List.find?_eq_none.1 hf (y, m, d) (dayTab_mem h)
    exact absurd (decide_eq_true ⟨h, rfl⟩) this
  | some t =>
    have := List.find?_some hf
    simp only [decide_eq_true_eq] at this
    obtain ⟨e1, e2, e3⟩ := Cal.num_inj this.1 h this.2
    show Cal.text t.1 t.2.1 t.2.2 = _
    rw [e1, e2, e3]

/-- is a node's text what its kind asks? -/
def textOk (kind : Int) (l : List UInt8) : Bool :=
  if kind = 7 then curL l else if kind = 9 ∨ kind = 15 then nameL l else if kind = 10 ∨ kind = 11 then anyL l
  else if kind = 12 then l == [45] || l == [110, 111, 116] else if kind = 13 then signL l else l.isEmpty
/-- is a node's number what its kind asks? -/
def numOk (kind n : Int) : Bool :=
  if kind = 5 then decide (0 ≤ n) && decide (n ≤ 1000000000000000) else if kind = 6 then decide (0 ≤ n) && decide (n ≤ 73048)
  else if kind = 8 then decide (n = 0) || decide (n = 1) else decide (n = 0)
/-- has a node as many kids as its kind asks? -/
def kidsOk (kind : Int) (k : Nat) : Bool :=
  if 5 ≤ kind ∧ kind ≤ 10 then decide (k = 0) else if kind = 11 then decide (1 ≤ k) && decide (k ≤ 8)
  else if kind = 12 then decide (k = 1) else if kind = 13 then decide (k = 2) else if kind = 14 ∨ kind = 15 then decide (k = 3) else false
mutual
/-- an expression's tree, at a depth -/
def rightN : Nd → Int → Bool
  | .mk kind s n ks _, d => decide (d ≤ 100) && kidsOk kind ks.length && textOk kind s.data.toList && numOk kind n && rightKs ks (d + 1)
def rightKs : List Nd → Int → Bool
  | [], _ => true
  | k :: ks, d => rightN k d && rightKs ks d
end

/-- is it written in parentheses, as a part? -/
def wrapK (kind : Int) : Bool := decide (kind = 12) || decide (kind = 13) || decide (kind = 14)
def partL (kind : Int) (f : List UInt8) : List UInt8 := if wrapK kind = true then [40] ++ f ++ [41] else f
/-- forms, with commas between them -/
def commaL : List (List UInt8) → List UInt8
  | [] => []
  | f :: r => [44, 32] ++ f ++ commaL r
def listL : List (List UInt8) → List UInt8
  | [] => [40, 41]
  | f :: r => [40] ++ f ++ commaL r ++ [41]
/-- a node's form, by its kids' kinds and forms -/
def formOf (kind n : Int) (s : List UInt8) (l : List (Int × List UInt8)) : List UInt8 :=
  if kind = 5 then showI n
  else if kind = 6 then dateT n
  else if kind = 8 then (if n = 1 then [116, 114, 117, 101] else [102, 97, 108, 115, 101])
  else if kind = 9 then [102, 101, 101, 100, 32, 34] ++ s ++ [34]
  else if kind = 11 then s ++ listL (l.map (·.2))
  else if kind = 15 then [112, 105, 99, 107, 32, 34] ++ s ++ [34] ++ listL (l.map (·.2))
  else match l with
    | [a] => (if kind = 12 then (if s = [45] then [45] else [110, 111, 116, 32]) ++ partL a.1 a.2 else s)
    | [a, b] => (if kind = 13 then partL a.1 a.2 ++ [32] ++ s ++ [32] ++ partL b.1 b.2 else s)
    | [a, b, c] => (if kind = 14 then [105, 102, 32] ++ a.2 ++ [32, 116, 104, 101, 110, 32] ++ b.2 ++ [32, 101, 108, 115, 101, 32] ++ c.2 else s)
    | _ => s
mutual
/-- a right expression's form -/
def formN : Nd → List UInt8
  | .mk kind s n ks _ => formOf kind n s.data.toList (formKs ks)
def formKs : List Nd → List (Int × List UInt8)
  | [] => []
  | k :: ks => (k.kind, formN k) :: formKs ks
end
theorem formKs_map : ∀ ks : List Nd, formKs ks = ks.map fun k => (k.kind, formN k)
  | [] => rfl
  | k :: ks => by rw [formKs, formKs_map ks]; rfl
theorem rightKs_iff : ∀ (ks : List Nd) (d : Int), rightKs ks d = ks.all fun k => rightN k d
  | [], _ => rfl
  | k :: ks, d => by rw [rightKs, rightKs_iff ks d]; rfl
/-- an expression's tree that is not too great -/
def rightE (t : Nd) : Bool := smallN t && rightN t 1

end Go.Proofs.YtcndknkdhlmdnaaGreatDoor

/-
  Forms as data, and how long texts are: plain laws (no program in sight).
-/
namespace Go.Proofs.YtcndknkdhlmdnaaGreatDoor

/-- a form: how a right tree is written -/
inductive Fm where
  | leaf (s : ByteArray)
  | called (head : ByteArray) (kids : List Fm)
  | unary (sign kid : Fm)
  | binary (a sign b : Fm)
  | choice (a b c : Fm)
/-- is it written in parentheses, as a part? -/
def Fm.wrap : Fm → Bool
  | .leaf _ => false
  | .called _ _ => false
  | _ => true
def wrapL (b : Bool) (l : List UInt8) : List UInt8 := if b = true then [40] ++ l ++ [41] else l
mutual
/-- its text -/
def Fm.text : Fm → List UInt8
  | .leaf s => s.data.toList
  | .called h ks => h.data.toList ++ Fm.texts true ks ++ [41]
  | .unary s k => s.text ++ wrapL k.wrap k.text
  | .binary a s b => wrapL a.wrap a.text ++ [32] ++ s.text ++ [32] ++ wrapL b.wrap b.text
  | .choice a b c => [105, 102, 32] ++ a.text ++ [32, 116, 104, 101, 110, 32] ++ b.text ++ [32, 101, 108, 115, 101, 32] ++ c.text
def Fm.texts : Bool → List Fm → List UInt8
  | _, [] => []
  | first, k :: ks => (if first = true then [40] else [44, 32]) ++ k.text ++ Fm.texts false ks
end
theorem texts_comma : ∀ fs : List Fm, Fm.texts false fs = commaL (fs.map Fm.text)
  | [] => by rw [Fm.texts]; rfl
  | k :: ks => by rw [Fm.texts, texts_comma ks]; rfl
theorem texts_list (fs : List Fm) (h : fs ≠ []) : Fm.texts true fs ++ [41] = listL (fs.map Fm.text) := by
  cases fs with
  | nil => exact absurd rfl h
  | cons k ks => rw [Fm.texts, texts_comma ks, if_pos rfl]; rfl
theorem texts_step (fs : List Fm) (k : Nat) (hk : k < fs.length) : Fm.texts (decide (k = 0)) (fs.drop k) = (if k = 0 then [40] else [44, 32]) ++ fs[k].text ++ Fm.texts (decide (k + 1 = 0)) (fs.drop (k + 1)) := by
  rw [List.drop_eq_getElem_cons hk, Fm.texts]
  by_cases h : k = 0
  · subst h; rfl
  · rw [decide_eq_false h, if_neg (by decide), if_neg h]; rfl
theorem fmkid_size {h : ByteArray} {ks : List Fm} {N k : Nat} (hk : k < ks.length) (g : SizeOf.sizeOf (Fm.called h ks) < N + 1) : SizeOf.sizeOf ks[k] < N := by
  have := List.sizeOf_lt_of_mem (List.getElem_mem hk)
  simp only [Fm.called.sizeOf_spec] at g
  omega
theorem texts_len (b : Bool) : ∀ (fs : List Fm) (f : Fm), f ∈ fs → f.text.length + 1 ≤ (Fm.texts b fs).length
  | k :: ks, f, h => by
    rw [Fm.texts]
    rcases List.mem_cons.1 h with rfl | h
    · simp only [List.length_append]
      split <;> simp <;> omega
    · have := texts_len false ks f h
      simp only [List.length_append]; omega
  | [], f, h => by cases h

/-! ### How long texts are -/
theorem name_len {l : List UInt8} (h : nameL l = true) : l.length ≤ 24 := by
  unfold nameL at h
  simp only [Bool.and_eq_true, decide_eq_true_eq] at h
  exact h.1.1
theorem near_len {l : List UInt8} (h : nearL l = true) : l.length ≤ 24 := by
  unfold nearL at h
  rw [Bool.and_eq_true] at h
  exact name_len h.1
theorem any_len {l : List UInt8} (h : anyL l = true) : l.length ≤ 49 := by
  unfold anyL at h
  rw [Bool.and_eq_true] at h
  have h1 := near_len h.1
  cases hc : (Lib.cut l [46]).2.2 with
  | false => rw [cut_no hc] at h1; omega
  | true =>
    rw [hc] at h
    have h2 := near_len (by simpa using h.2)
    unfold Lib.cut at h1 h2 hc
    split at hc
    · rename_i g
      rw [if_pos g] at h1 h2
      simp only [List.length_take, List.length_drop, List.length_cons, List.length_nil] at h1 h2
      omega
    · cases hc
theorem sign_len {l : List UInt8} (h : signL l = true) : 1 ≤ l.length ∧ l.length ≤ 3 := by
  have : ∀ w ∈ signTab, 1 ≤ w.length ∧ w.length ≤ 3 := by decide
  exact this l (List.contains_iff_mem.1 h)
theorem decF_len : ∀ (f n : Nat) (l : List UInt8), (decF f n l).length ≤ f + l.length
  | 0, _, _ => by rw [decF]; omega
  | f + 1, n, l => by
    rw [decF]
    split
    · omega
    · have := decF_len f (n / 10) (dig n :: l)
      simp only [List.length_cons] at this
      omega
theorem decL_len (n : Nat) : (decL n).length ≤ 21 := by
  have := decF_len 20 (n / 10) [dig n]
  simpa [decL] using this
theorem trimZ_len (l : List UInt8) : (trimZ l).length ≤ l.length := by
  unfold trimZ
  have := (List.dropWhile_sublist (l := l.reverse) (· == 48)).length_le
  simpa using this
theorem showI_len (n : Int) : (showI n).length ≤ 29 := by
  unfold showI showU
  have h1 := decL_len ((clampI n).natAbs / 1000000)
  have h2 := trimZ_len (lowF 6 (clampI n).natAbs [])
  rw [lowF_length] at h2
  simp only [List.length_append]
  simp only [List.length_nil] at h2
  split <;> split <;> simp <;> omega
theorem dateT_len (n : Int) : (dateT n).length ≤ 10 := by
  unfold dateT
  split
  · exact Nat.le_refl _
  · exact Nat.zero_le _
theorem partL_len (k : Int) (f : List UInt8) : (partL k f).length ≤ f.length + 2 := by
  unfold partL
  split <;> simp
theorem commaL_len : ∀ (fs : List (List UInt8)), (commaL fs).length = (fs.map fun f => f.length + 2).sum
  | [] => rfl
  | f :: r => by
    rw [commaL, List.map_cons, List.sum_cons, ← commaL_len r]
    simp; omega
theorem listL_len (fs : List (List UInt8)) : (listL fs).length ≤ (fs.map fun f => f.length + 2).sum + 2 := by
  cases fs with
  | nil => exact Nat.le_refl _
  | cons f r =>
    rw [listL, List.map_cons, List.sum_cons, ← commaL_len r]
    simp; omega
theorem textOk_len {k : Int} {l : List UInt8} (h : textOk k l = true) : l.length ≤ 49 := by
  unfold textOk at h
  split at h
  · unfold curL at h; simp only [Bool.and_eq_true, decide_eq_true_eq] at h; omega
  split at h
  · have := name_len h; omega
  split at h
  · exact any_len h
  split at h
  · rw [Bool.or_eq_true] at h
    rcases h with h | h <;> (rw [eq_of_beq h]; decide)
  split at h
  · have := sign_len h; omega
  · rw [List.isEmpty_iff] at h; rw [h]; decide
theorem formOf_len (kind n : Int) (s : List UInt8) (l : List (Int × List UInt8)) (h : s.length ≤ 49) : (formOf kind n s l).length ≤ 100 + (l.map fun x => x.2.length + 2).sum := by
  have e : (l.map (·.2)).map (fun f => f.length + 2) = l.map fun x => x.2.length + 2 := by rw [List.map_map]; rfl
  have hl := listL_len (l.map (·.2))
  rw [e] at hl
  unfold formOf
  split
  · have := showI_len n; omega
  split
  · have := dateT_len n; omega
  split
  · split <;> simp <;> omega
  split
  · simp; omega
  split
  · simp only [List.length_append]; omega
  split
  · simp only [List.length_append, List.length_cons, List.length_nil]; omega
  split
  · rename_i a
    split
    · have := partL_len a.1 a.2
      simp only [List.length_append, List.map_cons, List.map_nil, List.sum_cons, List.sum_nil]
      split <;> simp <;> omega
    · omega
  · rename_i a b
    split
    · have h1 := partL_len a.1 a.2
      have h2 := partL_len b.1 b.2
      simp only [List.length_append, List.map_cons, List.map_nil, List.sum_cons, List.sum_nil, List.length_cons, List.length_nil]
      omega
    · omega
  · split
    · simp only [List.length_append, List.map_cons, List.map_nil, List.sum_cons, List.sum_nil, List.length_cons, List.length_nil]
      omega
    · omega
  · omega
mutual
/-- a form is no longer than its nodes allow -/
theorem formN_len : ∀ (t : Nd) (d : Int), rightN t d = true → (formN t).length + 2 ≤ 128 * nodesN t
  | .mk kind s n ks p, d, h => by
    rw [rightN] at h
    simp only [Bool.and_eq_true] at h
    have h1 := formOf_len kind n s.data.toList (formKs ks) (textOk_len h.1.1.2)
    have h2 := formKs_len ks (d + 1) h.2
    rw [formN, nodesN]
    omega
theorem formKs_len : ∀ (ks : List Nd) (d : Int), rightKs ks d = true → ((formKs ks).map fun x => x.2.length + 2).sum ≤ 128 * nodesKs ks
  | [], _, _ => by rw [formKs]; exact Nat.zero_le _
  | k :: ks, d, h => by
    rw [rightKs, Bool.and_eq_true] at h
    have h1 := formN_len k d h.1
    have h2 := formKs_len ks d h.2
    rw [formKs, nodesKs, List.map_cons, List.sum_cons]
    simp only
    omega
end

end Go.Proofs.YtcndknkdhlmdnaaGreatDoor

/-
  Numbers', dates' and names' texts tell what they are of: plain laws (no program in sight).
-/
namespace Go.Proofs.YtcndknkdhlmdnaaGreatDoor

theorem u8_each {p : UInt8 → Bool} (h : ∀ n : Fin 256, p (UInt8.ofNat n.val) = true) (c : UInt8) : p c = true := by
  have := h ⟨c.toNat, c.toNat_lt⟩
  simpa using this
/-- a word's byte; a digit -/
def wordC (c : UInt8) : Bool := isInner c || c == 46 || isGreat c || c == 45
def dgC (c : UInt8) : Bool := decide (48 ≤ c.toNat) && decide (c.toNat ≤ 57)
theorem dg_word (c : UInt8) (h : dgC c = true) : wordC c = true := by
  have := u8_each (p := fun c => !dgC c || wordC c) (by decide +kernel) c
  rw [h] at this; simpa using this
theorem inner_word (c : UInt8) (h : isInner c = true) : wordC c = true := by unfold wordC; rw [h]; rfl
theorem great_word (c : UInt8) (h : isGreat c = true) : wordC c = true := by unfold wordC; rw [h]; simp
theorem split_at {p : UInt8 → Bool} : ∀ {s s' r r' : List UInt8}, (∀ c ∈ s, p c = true) → (∀ c ∈ s', p c = true) → (∀ c l, r = c :: l → p c = false) → (∀ c l, r' = c :: l → p c = false) → s ++ r = s' ++ r' → s = s' ∧ r = r'
  | [], [], _, _, _, _, _, _, e => ⟨rfl, e⟩
  | [], c :: s', r, r', _, h', hr, _, e => by
    have := hr c (s' ++ r') e
    rw [h' c (List.mem_cons_self ..)] at this
    cases this
  | c :: s, [], r, r', h, _, _, hr', e => by
    have := hr' c (s ++ r) e.symm
    rw [h c (List.mem_cons_self ..)] at this
    cases this
  | c :: s, c' :: s', r, r', h, h', hr, hr', e => by
    rw [List.cons_append, List.cons_append, List.cons.injEq] at e
    obtain ⟨rfl, e⟩ := e
    obtain ⟨e1, e2⟩ := split_at (fun x hx => h x (List.mem_cons_of_mem _ hx)) (fun x hx => h' x (List.mem_cons_of_mem _ hx)) hr hr' e
    exact ⟨by rw [e1], e2⟩

theorem data_inj {s s' : ByteArray} (h : s.data.toList = s'.data.toList) : s = s' := by
  cases s; cases s'
  simp only [Array.toList_inj] at h
  rw [h]

/-! ### numbers -/
theorem dig_inj {a b : Nat} (h : dig a = dig b) : a % 10 = b % 10 := by
  have := congrArg UInt8.toNat h
  rw [dig_nat, dig_nat] at this
  omega
theorem dig_dg (n : Nat) : dgC (dig n) = true := by
  unfold dgC
  rw [dig_nat]
  have : n % 10 < 10 := Nat.mod_lt _ (by decide)
  simp; omega
theorem lowF_inj : ∀ (k n m : Nat), lowF k n [] = lowF k m [] → n % 10 ^ k = m % 10 ^ k
  | 0, n, m, _ => by simp [Nat.mod_one]
  | k + 1, n, m, h => by
    rw [lowF, lowF, lowF_app k _ [dig n], lowF_app k _ [dig m]] at h
    have h' := List.append_inj' h rfl
    have e : (10 : Nat) ^ (k + 1) = 10 * 10 ^ k := by rw [Nat.pow_succ, Nat.mul_comm]
    rw [e, Nat.mod_mul, Nat.mod_mul, lowF_inj k _ _ h'.1, dig_inj (by simpa using h'.2)]
def vR : List UInt8 → Nat
  | [] => 0
  | c :: l => (c.toNat - 48) * 10 ^ l.length + vR l
theorem vR_dec : ∀ (f n : Nat) (l : List UInt8), n < 10 ^ f → vR (decF f n l) = n * 10 ^ l.length + vR l
  | 0, n, l, h => by
    have : n = 0 := by simpa using h
    subst this
    rw [decF]; simp
  | f + 1, n, l, h => by
    rw [decF]
    by_cases h0 : n = 0
    · subst h0; rw [if_pos rfl]; simp
    · rw [if_neg h0, vR_dec f _ _ (by rw [Nat.pow_succ] at h; omega), List.length_cons, vR, dig_nat, Nat.pow_succ]
      have e : n * 10 ^ l.length = n / 10 * (10 ^ l.length * 10) + n % 10 * 10 ^ l.length := by
        conv => lhs; rw [← Nat.div_add_mod n 10, Nat.add_mul]
        rw [Nat.mul_comm 10, Nat.mul_assoc, Nat.mul_comm 10]
      rw [e, Nat.add_sub_cancel_left, Nat.add_assoc]
theorem decL_inj {n m : Nat} (hn : n < 10 ^ 20) (hm : m < 10 ^ 20) (h : decL n = decL m) : n = m := by
  have e : ∀ k : Nat, k < 10 ^ 20 → vR (decL k) = k := fun k hk => by
    unfold decL
    rw [vR_dec 20 _ _ (by omega)]
    show k / 10 * 10 ^ 1 + ((dig k).toNat - 48) * 10 ^ 0 + 0 = k
    rw [dig_nat]
    omega
  rw [← e n hn, ← e m hm, h]
theorem decF_dg : ∀ (f n : Nat) (l : List UInt8), (∀ c ∈ l, dgC c = true) → ∀ c ∈ decF f n l, dgC c = true
  | 0, _, _, h => h
  | f + 1, n, l, h => by
    rw [decF]
    split
    · exact h
    · refine decF_dg f _ _ fun c hc => ?_
      rcases List.mem_cons.1 hc with rfl | hc
      · exact dig_dg n
      · exact h c hc
theorem decL_dg (n : Nat) : ∀ c ∈ decL n, dgC c = true := decF_dg 20 _ _ fun c hc => by rw [List.mem_singleton.1 hc]; exact dig_dg n
theorem lowF_dg : ∀ (k n : Nat), ∀ c ∈ lowF k n [], dgC c = true
  | 0, _, c, h => by cases h
  | k + 1, n, c, h => by
    rw [lowF, lowF_app] at h
    rcases List.mem_append.1 h with h | h
    · exact lowF_dg k _ c h
    · rw [List.mem_singleton.1 h]; exact dig_dg n
theorem trimZ_app (l : List UInt8) : ∃ k, l = trimZ l ++ List.replicate k 48 := by
  have h1 := List.takeWhile_append_dropWhile (p := (· == 48)) (l := l.reverse)
  have e := congrArg List.reverse h1
  rw [List.reverse_append, List.reverse_reverse] at e
  have h2 : l.reverse.takeWhile (· == 48) = List.replicate (l.reverse.takeWhile (· == 48)).length 48 :=
    List.eq_replicate_iff.2 ⟨rfl, fun b hb => eq_of_beq (List.all_eq_true.1 (List.all_takeWhile (l := l.reverse) (p := (· == 48))) b hb)⟩
  refine ⟨(l.reverse.takeWhile (· == 48)).length, ?_⟩
  rw [h2, List.reverse_replicate] at e
  exact e.symm
theorem trimZ_inj {l m : List UInt8} (h : trimZ l = trimZ m) (hl : l.length = m.length) : l = m := by
  obtain ⟨k, hk⟩ := trimZ_app l
  obtain ⟨j, hj⟩ := trimZ_app m
  have h1 := congrArg List.length hk
  have h2 := congrArg List.length hj
  simp only [List.length_append, List.length_replicate] at h1 h2
  rw [h] at h1
  have : k = j := by omega
  rw [hk, hj, h, this]
theorem trimZ_sub (l : List UInt8) : ∀ c ∈ trimZ l, c ∈ l := fun c hc => by
  obtain ⟨k, hk⟩ := trimZ_app l
  rw [hk]; exact List.mem_append_left _ hc
def tailU (x : Nat) : List UInt8 := if trimZ (lowF 6 x []) = [] then [] else 46 :: trimZ (lowF 6 x [])
theorem tailU_inj {x y : Nat} (h : tailU x = tailU y) : x % 1000000 = y % 1000000 := by
  have e : trimZ (lowF 6 x []) = trimZ (lowF 6 y []) := by
    unfold tailU at h
    split at h <;> split at h
    · rename_i a b; rw [a, b]
    · cases h
    · cases h
    · exact (List.cons.inj h).2
  exact lowF_inj 6 x y (trimZ_inj e (by rw [lowF_length, lowF_length]))
theorem tailU_stop (x : Nat) : ∀ c l, tailU x = c :: l → dgC c = false := by
  intro c l h
  unfold tailU at h
  split at h
  · cases h
  · rw [← (List.cons.inj h).1]; rfl
theorem showU_inj {x y : Nat} (hx : x < 10 ^ 20) (hy : y < 10 ^ 20) (h : showU x = showU y) : x = y := by
  obtain ⟨h1, h2⟩ := split_at (decL_dg _) (decL_dg _) (tailU_stop x) (tailU_stop y) (show decL (x / 1000000) ++ tailU x = decL (y / 1000000) ++ tailU y from h)
  have h3 := decL_inj (by omega) (by omega) h1
  have h4 := tailU_inj h2
  omega
theorem showI_pos {n : Int} (h : 0 ≤ n) (h' : n ≤ 1000000000000000) : showI n = showU n.natAbs := by
  unfold showI
  have e : clampI n = n := by unfold clampI; rw [if_neg (by omega), if_neg (by omega)]
  rw [e, if_neg (by omega)]; rfl
theorem showI_inj {n m : Int} (h : 0 ≤ n) (h' : n ≤ 1000000000000000) (g : 0 ≤ m) (g' : m ≤ 1000000000000000) (e : showI n = showI m) : n = m := by
  rw [showI_pos h h', showI_pos g g'] at e
  have := showU_inj (by omega) (by omega) e
  omega
theorem showI_num {n : Int} (h : 0 ≤ n) (h' : n ≤ 1000000000000000) : dgC ((showI n).headD 0) = true ∧ showI n ≠ [] ∧ (∀ c ∈ showI n, wordC c = true) ∧ (45 : UInt8) ∉ showI n := by
  rw [showI_pos h h']
  have hd := decL_dg (n.natAbs / 1000000)
  have hne := decL_pos (n.natAbs / 1000000)
  have hc : ∀ c ∈ showU n.natAbs, dgC c = true ∨ c = 46 := fun c hc => by
    rcases List.mem_append.1 hc with hc | hc
    · exact .inl (hd c hc)
    · split at hc
      · cases hc
      · rcases List.mem_cons.1 hc with rfl | hc
        · exact .inr rfl
        · exact .inl (lowF_dg 6 _ c (trimZ_sub _ c hc))
  refine ⟨?_, ?_, ?_, ?_⟩
  · unfold showU
    cases hl : decL (n.natAbs / 1000000) with
    | nil => exact absurd hl hne
    | cons c l => exact hd c (by rw [hl]; exact List.mem_cons_self ..)
  · unfold showU
    intro e
    exact hne (List.append_eq_nil_iff.1 e).1
  · intro c h
    rcases hc c h with h | rfl
    · exact dg_word c h
    · rfl
  · intro h
    rcases hc _ h with h | h
    · cases h
    · cases h

/-! ### dates -/
theorem dateT_of {n : Int} (h : 0 ≤ n) (h' : n ≤ 73048) : ∃ y m d, Cal.ok y m d ∧ Cal.num y m d = n ∧ dateT n = Cal.text y m d := by
  obtain ⟨y, m, d, ho, rfl⟩ := Cal.date_of n h h'
  exact ⟨y, m, d, ho, rfl, dateT_eq ho⟩
theorem dateT_inj {n k : Int} (h : 0 ≤ n) (h' : n ≤ 73048) (g : 0 ≤ k) (g' : k ≤ 73048) (e : dateT n = dateT k) : n = k := by
  obtain ⟨y, m, d, ho, rfl, et⟩ := dateT_of h h'
  obtain ⟨y', m', d', ho', rfl, et'⟩ := dateT_of g g'
  rw [et, et'] at e
  obtain ⟨e1, e2, e3⟩ := Cal.text_vals ho
  obtain ⟨f1, f2, f3⟩ := Cal.text_vals ho'
  rw [e] at e1 e2 e3
  rw [← e1, ← e2, ← e3, f1, f2, f3]
theorem isDig_dg (c : UInt8) (h : Cal.isDig c = true) : dgC c = true := by
  have := u8_each (p := fun c => !Cal.isDig c || dgC c) (by decide +kernel) c
  rw [h] at this; simpa using this
theorem dateT_num {n : Int} (h : 0 ≤ n) (h' : n ≤ 73048) : dgC ((dateT n).headD 0) = true ∧ dateT n ≠ [] ∧ (∀ c ∈ dateT n, wordC c = true) ∧ (45 : UInt8) ∈ dateT n := by
  obtain ⟨y, m, d, ho, rfl, et⟩ := dateT_of h h'
  rw [et]
  have hf := Cal.text_form ho
  refine ⟨?_, ?_, ?_, ?_⟩
  · have h0 := hf 0 (by rw [Cal.text_len]; decide)
    rw [Cal.fits_dig (by decide) (by decide)] at h0
    exact isDig_dg _ h0
  · intro e; cases e
  · intro c hc
    obtain ⟨i, hi, rfl⟩ := List.getElem_of_mem hc
    have h0 := hf i hi
    by_cases hj : i = 4 ∨ i = 7
    · rw [Cal.fits_dash hj] at h0
      have : (Cal.text y m d)[i] = 45 := UInt8.toNat_inj.1 (by have := of_decide_eq_true h0; exact Int.ofNat.inj this)
      rw [this]; rfl
    · rw [Cal.fits_dig (by omega) (by omega)] at h0
      exact dg_word _ (isDig_dg _ h0)
  · unfold Cal.text; simp

/-! ### names -/
theorem name_head {l : List UInt8} (h : nameL l = true) : 97 ≤ (l.headD 0).toNat ∧ (l.headD 0).toNat ≤ 122 ∧ l ≠ [] := by
  unfold nameL at h
  simp only [Bool.and_eq_true, decide_eq_true_eq] at h
  refine ⟨by omega, by omega, ?_⟩
  rintro rfl
  have := h.1.2.1
  simp at this
theorem near_name {l : List UInt8} (h : nearL l = true) : nameL l = true := by
  unfold nearL at h
  rw [Bool.and_eq_true] at h
  exact h.1
theorem cut_app {l : List UInt8} (h : (Lib.cut l [46]).2.2 = true) : l = (Lib.cut l [46]).1 ++ 46 :: (Lib.cut l [46]).2.1 := by
  unfold Lib.cut at h ⊢
  split at h
  · rename_i g
    rw [if_pos g]
    rcases Lib.index_spec l [46] with ⟨h1, _⟩ | ⟨i, h1, h2, h3, _⟩
    · omega
    · rw [h1]
      show l = l.take i ++ 46 :: l.drop (i + 1)
      unfold Lib.occAt at h3
      cases hd : l.drop i with
      | nil => rw [hd] at h3; cases h3
      | cons c r =>
        rw [hd, List.isPrefixOf, Bool.and_eq_true] at h3
        have : c = 46 := (eq_of_beq h3.1).symm
        subst this
        have e := List.take_append_drop i l
        rw [hd] at e
        have : l.drop (i + 1) = r := by rw [← List.drop_drop, hd]; rfl
        rw [this]
        exact e.symm
  · cases h
theorem any_num {l : List UInt8} (h : anyL l = true) : 97 ≤ (l.headD 0).toNat ∧ (l.headD 0).toNat ≤ 122 ∧ l ≠ [] ∧ (∀ c ∈ l, wordC c = true) := by
  unfold anyL at h
  rw [Bool.and_eq_true] at h
  have h1 := near_name h.1
  cases hc : (Lib.cut l [46]).2.2 with
  | false =>
    rw [cut_no hc] at h1
    obtain ⟨a, b, c⟩ := name_head h1
    exact ⟨a, b, c, fun c hc => inner_word c (name_inner h1 c hc)⟩
  | true =>
    rw [hc] at h
    have h2 := near_name (show nearL (Lib.cut l [46]).2.1 = true by simpa using h.2)
    have e := cut_app hc
    generalize (Lib.cut l [46]).1 = x at *
    generalize (Lib.cut l [46]).2.1 = y at *
    subst e
    obtain ⟨a, b, c⟩ := name_head h1
    have hh : (x ++ 46 :: y).headD 0 = x.headD 0 := by
      cases x with
      | nil => exact absurd rfl c
      | cons c x => rfl
    rw [hh]
    refine ⟨a, b, by simp, fun c hc => ?_⟩
    rcases List.mem_append.1 hc with hc | hc
    · exact inner_word c (name_inner h1 c hc)
    · rcases List.mem_cons.1 hc with rfl | hc
      · rfl
      · exact inner_word c (name_inner h2 c hc)

end Go.Proofs.YtcndknkdhlmdnaaGreatDoor
