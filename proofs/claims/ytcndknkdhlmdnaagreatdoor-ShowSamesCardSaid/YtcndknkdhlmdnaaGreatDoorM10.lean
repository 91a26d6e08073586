/-
  Texts that the statements' proofs rest on, one behind another: Syn, SynA, SynB.
-/
import Derived.Test.YtcndknkdhlmdnaaGreatDoorM02
import Derived.Test.YtcndknkdhlmdnaaGreatDoorM03
import Derived.Test.YtcndknkdhlmdnaaGreatDoorM01
import Derived.Test.YtcndknkdhlmdnaaGreatDoorM09

/-
  What a text is read as: its tokens, and the tree of them (no program in sight).
-/
namespace Go.Proofs.YtcndknkdhlmdnaaGreatDoor

/-! ### Tokens -/
/-- a token: its kind, its text, its number, its place -/
structure Tk where
  kind : Int
  text : List UInt8
  n : Int
  pos : Int
/-- the bytes of digits ahead -/
def digR (l : List UInt8) : Nat := (l.takeWhile dgC).length
def grC (c : UInt8) : Bool := decide (65 ≤ (c.toNat : Int)) && decide ((c.toNat : Int) ≤ 90)
/-- the name, far name or keyword ahead, and its length -/
def namedS (l : List UInt8) (pos : Int) : Except Int (Tk × Nat) :=
  let n := spanL l
  if (l.drop n).headD 0 = 46 then
    let m := spanL (l.drop (n + 1))
    if 24 < n ∨ m < 1 ∨ 24 < m ∨ wordL (l.take n) = true ∨ wordL ((l.drop (n + 1)).take m) = true then .error 73
    else .ok (⟨3, l.take n ++ 46 :: (l.drop (n + 1)).take m, 0, pos⟩, n + 1 + m)
  else if 24 < n then .error 73 else .ok (⟨if wordL (l.take n) = true then 2 else 1, l.take n, 0, pos⟩, n)
/-- a day's number -/
def dayP (l : List UInt8) : Option Int :=
  if l.length = 10 ∧ (∀ j (hj : j < l.length), Cal.fits j l[j] = true) ∧ Cal.ok (Cal.val (Cal.seg l 0 4)) (Cal.val (Cal.seg l 5 7)) (Cal.val (Cal.seg l 8 10))
  then some (Cal.num (Cal.val (Cal.seg l 0 4)) (Cal.val (Cal.seg l 5 7)) (Cal.val (Cal.seg l 8 10))) else none
/-- what stands behind a number's point: none, or one to six digits -/
def partOk (r : List UInt8) : Bool := match r with
  | [] => true
  | c :: p => c == 46 && (decide (1 ≤ p.length) && decide (p.length ≤ 6) && p.all dgC)
/-- a number that is not below 0: digits, perhaps a point and digits -/
def numU (l : List UInt8) : Option Int :=
  let w := l.takeWhile dgC
  let r := l.drop w.length
  if 1 ≤ w.length ∧ w.length ≤ 10 ∧ (w.length = 1 ∨ l.headD 0 ≠ 48) ∧ partOk r = true then some (Cal.val (w ++ r.tail ++ List.replicate (6 - r.tail.length) 48)) else none
/-- a number -/
def numP (l : List UInt8) : Option Int :=
  if l.headD 0 = 45 then (match numU l.tail with | some n => if 1000000000000000 < n ∨ n = 0 then none else some (-n) | none => none)
  else match numU l with | some n => if 1000000000000000 < n then none else some n | none => none
/-- does a date's form stand ahead? -/
def dateAt (l : List UInt8) : Bool := decide (10 ≤ l.length) && (decide (∀ j (hj : j < (l.take 10).length), Cal.fits j (l.take 10)[j] = true) && !dgC ((l.drop 10).headD 0))
/-- may a byte stand behind a number? -/
def numEnd (c : UInt8) : Bool := !(smC c || grC c || c == 95 || c == 46)
/-- the bytes of a number ahead -/
def numR (l : List UInt8) : Nat := if (l.drop (digR l)).headD 0 = 46 ∧ dgC ((l.drop (digR l + 1)).headD 0) = true then digR l + 1 + digR (l.drop (digR l + 1)) else digR l
/-- the number or date ahead, and its length -/
def numS (l : List UInt8) (pos : Int) : Except Int (Tk × Nat) :=
  if dateAt l = true then
    match dayP (l.take 10) with
    | none => .error 72
    | some v => if numEnd ((l.drop 10).headD 0) = true then .ok (⟨5, [], v, pos⟩, 10) else .error 72
  else
    match numP (l.take (numR l)) with
    | none => .error 72
    | some v => if numEnd ((l.drop (numR l)).headD 0) = true then .ok (⟨6, [], v, pos⟩, numR l) else .error 72
def quoC (c : UInt8) : Bool := c != 34 && c != 10
def quoR (l : List UInt8) : Nat := (l.takeWhile quoC).length
/-- the string ahead (behind its first sign), and its length with both signs -/
def quotS (r : List UInt8) (pos : Int) : Except Int (Tk × Nat) :=
  if (r.drop (quoR r)).headD 0 ≠ 34 then .error 71
  else if nameL (r.take (quoR r)) = true then .ok (⟨7, r.take (quoR r), 0, pos⟩, quoR r + 2) else .error 73
def greR (l : List UInt8) : Nat := (l.takeWhile grC).length
def curS (l : List UInt8) (pos : Int) : Except Int (Tk × Nat) := if greR l = 3 then .ok (⟨4, l.take 3, 0, pos⟩, 3) else .error 73
def markTab : List UInt8 := [40, 41, 44, 59, 61, 60, 43, 45, 42, 47]
def markS (c : UInt8) (r : List UInt8) (pos : Int) : Except Int (Tk × Nat) :=
  if c = 60 ∧ r.headD 0 = 61 then .ok (⟨8, [60, 61], 0, pos⟩, 2)
  else if markTab.contains c = true then .ok (⟨8, [c], 0, pos⟩, 1) else .error 71
/-- the token ahead, and its length -/
def tokS (c : UInt8) (r : List UInt8) (pos : Int) : Except Int (Tk × Nat) :=
  if smC c = true then namedS (c :: r) pos
  else if dgC c = true then numS (c :: r) pos
  else if c = 34 then quotS r pos
  else if grC c = true then curS (c :: r) pos
  else markS c r pos
/-- the bytes of a remark ahead, behind its first -/
def remR (l : List UInt8) : Nat := (l.takeWhile (· != 10)).length
/-- all tokens, the end behind them: so many stand ahead, so many bytes are to be passed over -/
def scanS : List UInt8 → Int → Nat → Nat → Except (Int × Int) (List Tk)
  | [], pos, _, _ => .ok [⟨0, [], 0, pos⟩]
  | _ :: r, pos, k, s + 1 => scanS r (pos + 1) k s
  | c :: r, pos, k, 0 =>
    if c.toNat ≤ 32 then scanS r (pos + 1) k 0
    else if c = 35 then scanS r (pos + 1) k (remR r)
    else match tokS c r pos with
      | .error e => .error (e, pos)
      | .ok (t, n) => if k = 8192 then .error (76, pos) else match scanS r (pos + 1) (k + 1) (n - 1) with
        | .error e => .error e
        | .ok ts => .ok (t :: ts)
/-- a text's tokens, or what is wrong, and where -/
def scanT (l : List UInt8) : Except (Int × Int) (List Tk) := if 16384 < l.length then .error (70, 0) else scanS l 0 0 0

/-! ### Trees -/
def hd (l : List Tk) : Tk := l.headD ⟨0, [], 0, 0⟩
/-- is it this word or sign? -/
def isT (w : List UInt8) (l : List Tk) : Bool := ((hd l).kind == 2 || (hd l).kind == 8) && (hd l).text == w
def stepL (l : List Tk) : List Tk := if (hd l).kind = 0 then l else l.tail
/-- a tree and the tokens behind it; or what is wrong, and where -/
abbrev Rd := Except (Int × Int) (Nd × List Tk)
mutual
def depthN : Nd → Nat
  | .mk _ _ _ ks _ => depthKs ks + 1
def depthKs : List Nd → Nat
  | [] => 0
  | k :: ks => max (depthN k) (depthKs ks)
end
def mkN (kind : Int) (s : List UInt8) (n : Int) (ks : List Nd) (p : Int) : Nd := .mk kind ⟨s.toArray⟩ n ks p
def made (t : Nd) (r : List Tk) : Rd := if 100 < depthN t then .error (75, t.place) else .ok (t, r)
def Rd.then (x : Rd) (f : Nd → List Tk → Rd) : Rd := match x with
  | .error e => .error e
  | .ok (t, r) => f t r
def wantT (w : List UInt8) (l : List Tk) (f : List Tk → Rd) : Rd := if isT w l = true then f (stepL l) else .error (74, (hd l).pos)
def kindT (k : Int) (l : List Tk) (f : Tk → List Tk → Rd) : Rd := if (hd l).kind = k then f (hd l) (stepL l) else .error (74, (hd l).pos)
/-- what is read -/
inductive Md where
  | expr | chain (lv : Nat) | loop (lv : Nat) (t : Nd) | not | unary | atom | args (acc : List Nd)
def signsT (lv : Nat) : List (List UInt8) := if lv = 0 then [[111, 114]] else if lv = 1 then [[97, 110, 100]] else if lv = 2 then [[43], [45]] else [[42], [47]]
def cmpT : List (List UInt8) := [[60], [60, 61], [61]]
def lower (lv : Nat) : Md := if lv = 0 then .chain 1 else if lv = 1 then .not else if lv = 2 then .chain 3 else .unary
def anyT (ws : List (List UInt8)) (l : List Tk) : Bool := ws.any fun w => isT w l
def tIf : List UInt8 := [105, 102]
def tThen : List UInt8 := [116, 104, 101, 110]
def tElse : List UInt8 := [101, 108, 115, 101]
def tNot : List UInt8 := [110, 111, 116]
def tMinus : List UInt8 := [45]
def tOpen : List UInt8 := [40]
def tShut : List UInt8 := [41]
def tComma : List UInt8 := [44]
def tSemi : List UInt8 := [59]
def tEq : List UInt8 := [61]
def tTrue : List UInt8 := [116, 114, 117, 101]
def tFalse : List UInt8 := [102, 97, 108, 115, 101]
def tFeed : List UInt8 := [102, 101, 101, 100]
def tPick : List UInt8 := [112, 105, 99, 107]
def tLet : List UInt8 := [108, 101, 116]
def tModule : List UInt8 := [109, 111, 100, 117, 108, 101]
def tImport : List UInt8 := [105, 109, 112, 111, 114, 116]
def nestT (nest : Nat) (l : List Tk) (x : Rd) : Rd := if 300 < nest + 1 then .error (75, (hd l).pos) else x
/-- one step of reading, what is within being read by rd -/
def body (rd : Md → Nat → List Tk → Rd) : Md → Nat → List Tk → Rd
  | .expr, nest, l => nestT nest l <|
    if isT tIf l = true then
      (rd .expr (nest + 1) (stepL l)).then fun a r => wantT tThen r fun r => (rd .expr (nest + 1) r).then fun b r => wantT tElse r fun r => (rd .expr (nest + 1) r).then fun c r => made (mkN 14 [] 0 [a, b, c] (hd l).pos) r
    else rd (.chain 0) (nest + 1) l
  | .chain lv, nest, l => (rd (lower lv) nest l).then fun t r => rd (.loop lv t) nest r
  | .loop lv t, nest, l =>
    if anyT (signsT lv) l = true then (rd (lower lv) nest (stepL l)).then fun m r => (made (mkN 13 (hd l).text 0 [t, m] (hd l).pos) r).then fun t r => rd (.loop lv t) nest r
    else .ok (t, l)
  | .not, nest, l =>
    if isT tNot l = true then nestT nest l <| (rd .not (nest + 1) (stepL l)).then fun t r => made (mkN 12 (hd l).text 0 [t] (hd l).pos) r
    else (rd (.chain 2) nest l).then fun a r => if anyT cmpT r = true then (rd (.chain 2) nest (stepL r)).then fun b r' => made (mkN 13 (hd r).text 0 [a, b] (hd r).pos) r' else .ok (a, r)
  | .unary, nest, l =>
    if isT tMinus l = true then nestT nest l <| (rd .unary (nest + 1) (stepL l)).then fun t r => made (mkN 12 (hd l).text 0 [t] (hd l).pos) r
    else rd .atom nest l
  | .atom, nest, l =>
    if (hd l).kind = 6 then .ok (mkN 5 [] (hd l).n [] (hd l).pos, stepL l)
    else if (hd l).kind = 5 then .ok (mkN 6 [] (hd l).n [] (hd l).pos, stepL l)
    else if (hd l).kind = 4 then .ok (mkN 7 (hd l).text 0 [] (hd l).pos, stepL l)
    else if (hd l).kind = 1 ∨ (hd l).kind = 3 then
      if isT tOpen (stepL l) = true then (rd (.args []) nest (stepL (stepL l))).then fun a r => made (mkN 11 (hd l).text 0 a.kids (hd l).pos) r
      else .ok (mkN 10 (hd l).text 0 [] (hd l).pos, stepL l)
    else if isT tTrue l = true then .ok (mkN 8 [] 1 [] (hd l).pos, stepL l)
    else if isT tFalse l = true then .ok (mkN 8 [] 0 [] (hd l).pos, stepL l)
    else if isT tFeed l = true then kindT 7 (stepL l) fun s r => .ok (mkN 9 s.text 0 [] (hd l).pos, r)
    else if isT tPick l = true then kindT 7 (stepL l) fun s r => wantT tOpen r fun r => (rd .expr nest r).then fun a r => wantT tComma r fun r => (rd .expr nest r).then fun b r => wantT tComma r fun r => (rd .expr nest r).then fun c r =>
      wantT tShut r fun r => made (mkN 15 s.text 0 [a, b, c] (hd l).pos) r
    else if isT tOpen l = true then (rd .expr nest (stepL l)).then fun x r => wantT tShut r fun r => .ok (x, r)
    else .error (74, (hd l).pos)
  | .args acc, nest, l =>
    if acc.length = 8 then .error (76, (hd l).pos)
    else (rd .expr nest l).then fun t r => if isT tComma r = true then rd (.args (acc ++ [t])) nest (stepL r) else wantT tShut r fun r => .ok (mkN 0 [] 0 (acc ++ [t]) 0, r)
/-- out of fuel -/
def spent : Rd := .error (-1, -1)
def runF : Nat → Md → Nat → List Tk → Rd
  | 0 => fun _ _ _ => spent
  | f + 1 => body (runF f)
def rank : Md → Nat
  | .args _ => 10 | .expr => 9 | .chain lv => if lv = 0 then 8 else if lv = 1 then 7 else if lv = 2 then 5 else 4
  | .not => 6 | .unary => 3 | .atom => 2 | .loop _ _ => 1
def enough (m : Md) (l : List Tk) : Nat := 11 * l.length + rank m + 1
/-- an expression's parts, as they are read -/
def rd (m : Md) (nest : Nat) (l : List Tk) : Rd := runF (enough m l) m nest l

end Go.Proofs.YtcndknkdhlmdnaaGreatDoor

/-
  Reading is what one step of reading says, over itself (no program in sight).
-/
namespace Go.Proofs.YtcndknkdhlmdnaaGreatDoor

theorem hd_kind {l : List Tk} {k : Int} (h : (hd l).kind = k) (hk : k ≠ 0) : l ≠ [] := by
  rintro rfl; exact hk h.symm
theorem step_len {l : List Tk} {k : Int} (h : (hd l).kind = k) (hk : k ≠ 0) : (stepL l).length + 1 = l.length := by
  have hne := hd_kind h hk
  unfold stepL
  rw [if_neg (by rw [h]; exact hk)]
  cases l with
  | nil => exact absurd rfl hne
  | cons a l => rfl
theorem isT_kind {w : List UInt8} {l : List Tk} (h : isT w l = true) : ((hd l).kind = 2 ∨ (hd l).kind = 8) ∧ (hd l).text = w := by
  unfold isT at h
  simpa using h
theorem isT_len {w : List UInt8} {l : List Tk} (h : isT w l = true) : (stepL l).length + 1 = l.length := by
  rcases (isT_kind h).1 with g | g
  · exact step_len g (by decide)
  · exact step_len g (by decide)
theorem anyT_len {ws : List (List UInt8)} {l : List Tk} (h : anyT ws l = true) : (stepL l).length + 1 = l.length := by
  unfold anyT at h
  obtain ⟨w, -, hw⟩ := List.any_eq_true.1 h
  exact isT_len hw
theorem stepL_le (l : List Tk) : (stepL l).length ≤ l.length := by
  unfold stepL
  split
  · exact Nat.le_refl _
  · simp

/-- two readings say the same, and leave no more than so many tokens -/
def Agree (n : Nat) (x y : Rd) : Prop := x = y ∧ ∀ t r, x = .ok (t, r) → r.length ≤ n
theorem Agree.error (n : Nat) (e : Int × Int) : Agree n (.error e) (.error e) := ⟨rfl, fun _ _ h => by cases h⟩
theorem Agree.ok {n : Nat} (t : Nd) {r : List Tk} (h : r.length ≤ n) : Agree n (.ok (t, r)) (.ok (t, r)) := ⟨rfl, fun _ _ e => by cases e; exact h⟩
theorem Agree.made {n : Nat} (t : Nd) {r : List Tk} (h : r.length ≤ n) : Agree n (made t r) (made t r) := by
  unfold Proofs.YtcndknkdhlmdnaaGreatDoor.made
  split
  · exact Agree.error n _
  · exact Agree.ok t h
theorem Agree.then {n m : Nat} {x y : Rd} {f g : Nd → List Tk → Rd} (h : Agree n x y) (hf : ∀ t r, r.length ≤ n → Agree m (f t r) (g t r)) : Agree m (x.then f) (y.then g) := by
  obtain ⟨rfl, hl⟩ := h
  cases x with
  | error e => exact Agree.error m e
  | ok p => obtain ⟨t, r⟩ := p; exact hf t r (hl t r rfl)
theorem Agree.want {m : Nat} {w : List UInt8} {l : List Tk} {f g : List Tk → Rd} (h : (stepL l).length + 1 = l.length → Agree m (f (stepL l)) (g (stepL l))) : Agree m (wantT w l f) (wantT w l g) := by
  unfold wantT
  split
  · rename_i c; exact h (isT_len c)
  · exact Agree.error m _
theorem Agree.kind {m : Nat} {k : Int} {l : List Tk} {f g : Tk → List Tk → Rd} (hk : k ≠ 0) (h : (stepL l).length + 1 = l.length → Agree m (f (hd l) (stepL l)) (g (hd l) (stepL l))) : Agree m (kindT k l f) (kindT k l g) := by
  unfold kindT
  split
  · rename_i c; exact h (step_len c hk)
  · exact Agree.error m _
theorem Agree.nest {m nest : Nat} {l : List Tk} {x y : Rd} (h : Agree m x y) : Agree m (nestT nest l x) (nestT nest l y) := by
  unfold nestT
  split
  · exact Agree.error m _
  · exact h
theorem Agree.ite {m : Nat} {c : Prop} [Decidable c] {x x' y y' : Rd} (h : c → Agree m x x') (h' : ¬ c → Agree m y y') : Agree m (if c then x else y) (if c then x' else y') := by
  split
  · rename_i g; exact h g
  · rename_i g; exact h' g
theorem Agree.mono {n m : Nat} {x y : Rd} (h : Agree n x y) (hn : n ≤ m) : Agree m x y := ⟨h.1, fun t r e => Nat.le_trans (h.2 t r e) hn⟩

theorem rank_lower (lv : Nat) : rank (lower lv) + 1 ≤ rank (.chain lv) := by
  unfold lower
  split
  · rename_i h; subst h; decide
  split
  · rename_i h; subst h; decide
  split
  · rename_i h; subst h; decide
  · rename_i h0 h1 h2
    show 3 + 1 ≤ (if lv = 0 then 8 else if lv = 1 then 7 else if lv = 2 then 5 else 4)
    rw [if_neg h0, if_neg h1, if_neg h2]
    exact Nat.le_refl _
theorem rank_chain (lv : Nat) : rank (.chain lv) ≤ 8 ∧ 4 ≤ rank (.chain lv) := by
  show (if lv = 0 then 8 else if lv = 1 then 7 else if lv = 2 then 5 else 4) ≤ 8 ∧ 4 ≤ (if lv = 0 then 8 else if lv = 1 then 7 else if lv = 2 then 5 else 4)
  split
  · omega
  split
  · omega
  split <;> omega
theorem rank_le (m : Md) : rank m ≤ 10 := by
  cases m with
  | chain lv => have := rank_chain lv; omega
  | expr => exact (by decide : (9 : Nat) ≤ 10)
  | loop lv t => exact (by decide : (1 : Nat) ≤ 10)
  | not => exact (by decide : (6 : Nat) ≤ 10)
  | unary => exact (by decide : (3 : Nat) ≤ 10)
  | atom => exact (by decide : (2 : Nat) ≤ 10)
  | args acc => exact Nat.le_refl 10

theorem body_agree {g h : Md → Nat → List Tk → Rd} (m : Md) (nest : Nat) (l : List Tk) (ih : ∀ m' nest' l', enough m' l' < enough m l → Agree l'.length (g m' nest' l') (h m' nest' l')) : Agree l.length (body g m nest l) (body h m nest l) := by
  have rk := rank_le
  unfold enough at ih
  cases m with
  | expr =>
    refine Agree.nest (Agree.ite (fun c => ?_) fun c => ?_)
    · have := isT_len c
      have e : rank .expr = 9 := rfl
      refine (ih _ _ _ (by rw [e]; omega)).then fun t r hr => Agree.want fun h1 => (ih _ _ _ (by rw [e]; omega)).then fun t r hr => Agree.want fun h1 => (ih _ _ _ (by rw [e]; omega)).then fun t r hr => Agree.made _ (by omega)
    · exact ih _ _ _ (by have : rank (.chain 0) = 8 := rfl; have e : rank .expr = 9 := rfl; omega)
  | chain lv =>
    have := rank_lower lv
    have h2 := rank_chain lv
    refine (ih _ _ _ (by omega)).then fun t r hr => (ih _ _ _ ?_).mono hr
    show 11 * r.length + 1 + 1 < _
    omega
  | loop lv t =>
    have e : rank (.loop lv t) = 1 := rfl
    refine Agree.ite (fun c => ?_) fun c => Agree.ok _ (Nat.le_refl _)
    have := anyT_len c
    have := rk (lower lv)
    refine (ih _ _ _ (by rw [e]; omega)).then fun u r hr => (Agree.made _ hr).then fun u r hr => (ih _ _ _ ?_).mono (by omega)
    show 11 * r.length + 1 + 1 < 11 * l.length + 1 + 1
    omega
  | not =>
    have e : rank .not = 6 := rfl
    refine Agree.ite (fun c => ?_) fun c => ?_
    · have := isT_len c
      exact Agree.nest ((ih _ _ _ (by omega)).then fun u r hr => Agree.made _ (by omega))
    · have e2 : rank (.chain 2) = 5 := rfl
      refine (ih _ _ _ (by rw [e, e2]; omega)).then fun a r hr => Agree.ite (fun c => ?_) fun c => Agree.ok _ hr
      have := anyT_len c
      exact (ih _ _ _ (by rw [e, e2]; omega)).then fun u r hr => Agree.made _ (by omega)
  | unary =>
    have e : rank .unary = 3 := rfl
    refine Agree.ite (fun c => ?_) fun c => ?_
    · have := isT_len c
      exact Agree.nest ((ih _ _ _ (by omega)).then fun u r hr => Agree.made _ (by omega))
    · have e2 : rank .atom = 2 := rfl
      exact ih _ _ _ (by omega)
  | atom =>
    have e : rank .atom = 2 := rfl
    have e2 : rank .expr = 9 := rfl
    have hl := stepL_le l
    refine Agree.ite (fun c => Agree.ok _ hl) fun _ => Agree.ite (fun c => Agree.ok _ hl) fun _ => Agree.ite (fun c => Agree.ok _ hl) fun _ => Agree.ite (fun c => ?_) fun _ => Agree.ite (fun c => Agree.ok _ hl) fun _ => Agree.ite (fun c => Agree.ok _ hl) fun _ =>
      Agree.ite (fun c => Agree.kind (by decide) fun h1 => Agree.ok _ (by omega)) fun _ => Agree.ite (fun c => ?_) fun _ => Agree.ite (fun c => ?_) fun _ => Agree.error _ _
    · refine Agree.ite (fun c' => ?_) fun c => Agree.ok _ hl
      have h0 : (stepL l).length + 1 = l.length := by rcases c with c | c <;> exact step_len c (by decide)
      have h1 := isT_len c'
      have e3 : rank (.args []) = 10 := rfl
      exact (ih _ _ _ (by rw [e, e3]; omega)).then fun a r hr => Agree.made _ (by omega)
    · have h0 := isT_len c
      exact Agree.kind (by decide) fun h1 => Agree.want fun h2 => (ih _ _ _ (by rw [e, e2]; omega)).then fun t r hr => Agree.want fun h3 => (ih _ _ _ (by rw [e, e2]; omega)).then fun t r hr => Agree.want fun h3 => (ih _ _ _ (by rw [e, e2]; omega)).then fun t r hr => Agree.want fun h3 => Agree.made _ (by omega)
    · have h0 := isT_len c
      exact (ih _ _ _ (by rw [e, e2]; omega)).then fun t r hr => Agree.want fun h3 => Agree.ok _ (by omega)
  | args acc =>
    have e : rank (.args acc) = 10 := rfl
    have e2 : rank .expr = 9 := rfl
    refine Agree.ite (fun c => Agree.error _ _) fun c => ?_
    refine (ih _ _ _ (by rw [e, e2]; omega)).then fun t r hr => Agree.ite (fun c => ?_) fun c => Agree.want fun h1 => Agree.ok _ (by omega)
    have := isT_len c
    exact (ih _ _ _ (by show 11 * (stepL r).length + 10 + 1 < 11 * l.length + 10 + 1; omega)).mono (by omega)

theorem runF_rd : ∀ (n : Nat) (m : Md) (nest : Nat) (l : List Tk), enough m l ≤ n → ∀ f, enough m l ≤ f → Agree l.length (runF f m nest l) (rd m nest l)
  | 0, m, _, l, h, _, _ => by unfold enough at h; omega
  | n + 1, m, nest, l, h, f, hf => by
    unfold rd
    obtain ⟨f', rfl⟩ : ∃ f', f = f' + 1 := ⟨f - 1, by unfold enough at hf; omega⟩
    obtain ⟨g, hg⟩ : ∃ g, enough m l = g + 1 := ⟨11 * l.length + rank m, rfl⟩
    rw [hg]
    refine body_agree m nest l fun m' nest' l' hl => ?_
    have h1 := runF_rd n m' nest' l' (by omega) f' (by omega)
    have h2 := runF_rd n m' nest' l' (by omega) g (by omega)
    exact ⟨h1.1.trans h2.1.symm, h1.2⟩
/-- the law of reading -/
theorem rd_eq (m : Md) (nest : Nat) (l : List Tk) : rd m nest l = body rd m nest l := by
  have h : rd m nest l = body (runF (11 * l.length + rank m)) m nest l := rfl
  rw [h]
  refine (body_agree m nest l fun m' nest' l' hl => ?_).1
  exact runF_rd _ m' nest' l' (Nat.le_refl _) _ (by unfold enough at hl; unfold enough; omega)
theorem rd_len (m : Md) (nest : Nat) (l : List Tk) {t : Nd} {r : List Tk} (h : rd m nest l = .ok (t, r)) : r.length ≤ l.length := (runF_rd _ m nest l (Nat.le_refl _) _ (Nat.le_refl _)).2 t r h

end Go.Proofs.YtcndknkdhlmdnaaGreatDoor

/-
  What places, and what stands behind, make no difference to (no program in sight).
-/
namespace Go.Proofs.YtcndknkdhlmdnaaGreatDoor

mutual
/-- a tree, with its places or without -/
def strN (b : Bool) : Nd → Nd
  | .mk k s n ks p => .mk k s n (strKs b ks) (if b = true then p else 0)
def strKs (b : Bool) : List Nd → List Nd
  | [] => []
  | k :: ks => strN b k :: strKs b ks
end
def strT (b : Bool) (t : Tk) : Tk := ⟨t.kind, t.text, t.n, if b = true then t.pos else 0⟩
theorem strKs_map (b : Bool) : ∀ ks, strKs b ks = ks.map (strN b)
  | [] => by rw [strKs]; rfl
  | k :: ks => by rw [strKs, strKs_map b ks]; rfl
mutual
theorem strN_true : ∀ t, strN true t = t
  | .mk k s n ks p => by rw [strN, strKs_true ks]; rfl
theorem strKs_true : ∀ ks, strKs true ks = ks
  | [] => by rw [strKs]
  | k :: ks => by rw [strKs, strN_true k, strKs_true ks]
end
theorem strT_true (t : Tk) : strT true t = t := rfl
mutual
theorem depth_str (b : Bool) : ∀ t, depthN (strN b t) = depthN t
  | .mk k s n ks p => by rw [strN, depthN, depthN, depths_str b ks]
theorem depths_str (b : Bool) : ∀ ks, depthKs (strKs b ks) = depthKs ks
  | [] => by rw [strKs]
  | k :: ks => by rw [strKs, depthKs, depthKs, depth_str b k, depths_str b ks]
end
mutual
theorem same_str : ∀ (t u : Nd), sameN t u = true ↔ strN false t = strN false u
  | .mk k s n ks p, u => by
    rw [sameN_eq]
    cases u with
    | mk k' s' n' ks' p' =>
    rw [strN, strN]
    simp only [Nd.kind, Nd.text, Nd.n, Nd.kids, Bool.and_eq_true, beq_iff_eq, Nd.mk.injEq, and_true, Bool.false_eq_true, if_false]
    rw [same_strs ks ks', Lib.toList_data, Lib.toList_data]
    constructor
    · rintro ⟨⟨⟨h1, h2⟩, h3⟩, h4⟩; exact ⟨h1, data_inj h2, h3, h4⟩
    · rintro ⟨h1, h2, h3, h4⟩; exact ⟨⟨⟨h1, by rw [h2]⟩, h3⟩, h4⟩
theorem same_strs : ∀ (l r : List Nd), sameKs l r = true ↔ strKs false l = strKs false r
  | [], r => by
    rw [sameKs, strKs]
    cases r with
    | nil => rw [strKs]; simp
    | cons a r => rw [strKs]; simp
  | a :: l, [] => by rw [sameKs, strKs, strKs]; simp
  | a :: l, c :: r => by rw [sameKs, strKs, strKs, Bool.and_eq_true, same_str a c, same_strs l r, List.cons.injEq]
end

/-- where an expression may end: none of its words or signs stands here -/
def peekT : List (List UInt8) := [tIf, [111, 114], [97, 110, 100], [43], [45], [42], [47], [60], [60, 61], [61], tNot, tOpen, tTrue, tFalse, tFeed, tPick, tComma]
structure Stop (x : List Tk) : Prop where
  kind : (hd x).kind ≠ 6 ∧ (hd x).kind ≠ 5 ∧ (hd x).kind ≠ 4 ∧ (hd x).kind ≠ 1 ∧ (hd x).kind ≠ 3
  word : ∀ w ∈ peekT, isT w x = false
/-- the same tokens ahead of two ends -/
def SimL (b : Bool) (x x' l l' : List Tk) : Prop := ∃ t t' : List Tk, l = t ++ x ∧ l' = t' ++ x' ∧ t.map (strT b) = t'.map (strT b) ∧ ∀ k ∈ t, k.kind ≠ 0
def SimR (b : Bool) (d : Nat) (x x' : List Tk) (r r' : Rd) : Prop := ∀ t l, r = .ok (t, l) → (∃ t' l', r' = .ok (t', l') ∧ strN b t = strN b t' ∧ SimL b x x' l l') ∨ (0 < d ∧ ∃ p, r' = .error (75, p))
theorem SimL.nil (b : Bool) (x x' : List Tk) : SimL b x x' x x' := ⟨[], [], rfl, rfl, rfl, fun k h => by cases h⟩

section
variable {b : Bool} {d : Nat} {x x' : List Tk}
theorem SimL.cases {l l' : List Tk} (h : SimL b x x' l l') : (l = x ∧ l' = x') ∨ ((hd l).kind = (hd l').kind ∧ (hd l).text = (hd l').text ∧ (hd l).n = (hd l').n ∧ (b = true → (hd l).pos = (hd l').pos) ∧ (hd l).kind ≠ 0 ∧ SimL b x x' (stepL l) (stepL l')) := by
  obtain ⟨t, t', rfl, rfl, h, hk⟩ := h
  cases t with
  | nil =>
    cases t' with
    | nil => exact .inl ⟨rfl, rfl⟩
    | cons a t' => cases h
  | cons a t =>
    cases t' with
    | nil => cases h
    | cons a' t' =>
      rw [List.map_cons, List.map_cons, List.cons.injEq] at h
      obtain ⟨h1, h2⟩ := h
      unfold strT at h1
      rw [Tk.mk.injEq] at h1
      obtain ⟨e1, e2, e3, e4⟩ := h1
      have k0 : a.kind ≠ 0 := hk a (List.mem_cons_self ..)
      have s1 : stepL ((a :: t) ++ x) = t ++ x := by
        show (if a.kind = 0 then _ else _) = _
        rw [if_neg k0]; rfl
      have s2 : stepL ((a' :: t') ++ x') = t' ++ x' := by
        show (if a'.kind = 0 then _ else _) = _
        rw [if_neg (by rw [← e1]; exact k0)]; rfl
      refine .inr ⟨e1, e2, e3, fun hb => ?_, k0, ?_⟩
      · subst hb; exact e4
      · rw [s1, s2]
        exact ⟨t, t', rfl, rfl, h2, fun k hk' => hk k (List.mem_cons_of_mem _ hk')⟩
theorem isT_sim {l l' : List Tk} {w : List UInt8} (e1 : (hd l).kind = (hd l').kind) (e2 : (hd l).text = (hd l').text) : isT w l = isT w l' := by unfold isT; rw [e1, e2]
theorem SimL.peek {l l' : List Tk} (h : SimL b x x' l l') (hx : Stop x) (hx' : Stop x') {w : List UInt8} (hw : w ∈ peekT) : isT w l = isT w l' := by
  rcases h.cases with ⟨rfl, rfl⟩ | ⟨e1, e2, -⟩
  · rw [hx.word w hw, hx'.word w hw]
  · exact isT_sim e1 e2
theorem SimL.peeks {l l' : List Tk} (h : SimL b x x' l l') (hx : Stop x) (hx' : Stop x') {ws : List (List UInt8)} (hw : ∀ w ∈ ws, w ∈ peekT) : anyT ws l = anyT ws l' := by
  unfold anyT
  rw [Bool.eq_iff_iff, List.any_eq_true, List.any_eq_true]
  constructor
  · rintro ⟨w, h1, h2⟩; exact ⟨w, h1, by rw [← h.peek hx hx' (hw w h1)]; exact h2⟩
  · rintro ⟨w, h1, h2⟩; exact ⟨w, h1, by rw [h.peek hx hx' (hw w h1)]; exact h2⟩
theorem SimL.some {l l' : List Tk} (h : SimL b x x' l l') (hx : Stop x) {w : List UInt8} (hw : isT w l = true) (hp : w ∈ peekT) : (hd l).kind = (hd l').kind ∧ (hd l).text = (hd l').text ∧ (hd l).n = (hd l').n ∧ (b = true → (hd l).pos = (hd l').pos) ∧ SimL b x x' (stepL l) (stepL l') := by
  rcases h.cases with ⟨rfl, rfl⟩ | ⟨e1, e2, e3, e4, -, e6⟩
  · rw [hx.word w hp] at hw; cases hw
  · exact ⟨e1, e2, e3, e4, e6⟩
theorem SimL.somes {l l' : List Tk} (h : SimL b x x' l l') (hx : Stop x) {ws : List (List UInt8)} (hw : anyT ws l = true) (hp : ∀ w ∈ ws, w ∈ peekT) : (hd l).kind = (hd l').kind ∧ (hd l).text = (hd l').text ∧ (hd l).n = (hd l').n ∧ (b = true → (hd l).pos = (hd l').pos) ∧ SimL b x x' (stepL l) (stepL l') := by
  unfold anyT at hw
  obtain ⟨w, h1, h2⟩ := List.any_eq_true.1 hw
  exact h.some hx h2 (hp w h1)
theorem SimR.error {e : Int × Int} {r' : Rd} : SimR b d x x' (.error e) r' := fun _ _ h => by cases h
theorem SimR.ok {t t' : Nd} {l l' : List Tk} (ht : strN b t = strN b t') (hl : SimL b x x' l l') : SimR b d x x' (.ok (t, l)) (.ok (t', l')) := fun u m h => by cases h; exact .inl ⟨t', l', rfl, ht, hl⟩
theorem SimR.made {t t' : Nd} {l l' : List Tk} (ht : strN b t = strN b t') (hl : SimL b x x' l l') : SimR b d x x' (made t l) (made t' l') := by
  have h : depthN t = depthN t' := by rw [← depth_str b t, ht, depth_str b t']
  unfold Proofs.YtcndknkdhlmdnaaGreatDoor.made
  rw [← h]
  split
  · exact SimR.error
  · exact SimR.ok ht hl
theorem SimR.then {r r' : Rd} {f g : Nd → List Tk → Rd} (h : SimR b d x x' r r') (hf : ∀ t t' l l', strN b t = strN b t' → SimL b x x' l l' → SimR b d x x' (f t l) (g t' l')) : SimR b d x x' (r.then f) (r'.then g) := by
  cases r with
  | error e => exact SimR.error
  | ok p =>
    obtain ⟨t, l⟩ := p
    rcases h t l rfl with ⟨t', l', rfl, ht, hl⟩ | ⟨hd, p, rfl⟩
    · exact hf t t' l l' ht hl
    · exact fun _ _ _ => .inr ⟨hd, p, rfl⟩
theorem SimR.want {l l' : List Tk} {w : List UInt8} {f g : List Tk → Rd} (h : SimL b x x' l l') (hx : isT w x = false) (hf : ∀ l l', SimL b x x' l l' → SimR b d x x' (f l) (g l')) : SimR b d x x' (wantT w l f) (wantT w l' g) := by
  unfold wantT
  rcases h.cases with ⟨rfl, rfl⟩ | ⟨e1, e2, -, -, -, e6⟩
  · rw [hx]; exact SimR.error
  · rw [isT_sim e1 e2]
    split
    · exact hf _ _ e6
    · exact SimR.error
theorem SimR.kind {l l' : List Tk} {k : Int} {f g : Tk → List Tk → Rd} (h : SimL b x x' l l') (hx : (hd x).kind ≠ k) (hf : ∀ t t' l l', t.text = t'.text → t.n = t'.n → (b = true → t.pos = t'.pos) → SimL b x x' l l' → SimR b d x x' (f t l) (g t' l')) : SimR b d x x' (kindT k l f) (kindT k l' g) := by
  unfold kindT
  rcases h.cases with ⟨rfl, rfl⟩ | ⟨e1, e2, e3, e4, -, e6⟩
  · rw [if_neg hx]; exact SimR.error
  · rw [e1]
    split
    · exact hf _ _ _ _ e2 e3 e4 e6
    · exact SimR.error
theorem SimR.ite {c c' : Prop} [Decidable c] [Decidable c'] {u v u' v' : Rd} (hc : c ↔ c') (h : c → SimR b d x x' u u') (h' : ¬ c → SimR b d x x' v v') : SimR b d x x' (if c then u else v) (if c' then u' else v') := by
  by_cases g : c
  · rw [if_pos g, if_pos (hc.1 g)]; exact h g
  · rw [if_neg g, if_neg (fun g' => g (hc.2 g'))]; exact h' g
theorem SimR.nest {n : Nat} {l l' : List Tk} {r r' : Rd} (h : SimR b d x x' r r') : SimR b d x x' (nestT n l r) (nestT (n + d) l' r') := by
  unfold nestT
  by_cases g : 300 < n + 1
  · rw [if_pos g]; exact SimR.error
  rw [if_neg g]
  by_cases g' : 300 < n + d + 1
  · rw [if_pos g']
    exact fun _ _ _ => .inr ⟨by omega, _, rfl⟩
  · rw [if_neg g']; exact h
theorem str_mk {k n p p' : Int} {s s' : List UInt8} {ks ks' : List Nd} (hs : s = s') (hk : ks.map (strN b) = ks'.map (strN b)) (hp : b = true → p = p') {n' : Int} (hn : n = n') : strN b (mkN k s n ks p) = strN b (mkN k s' n' ks' p') := by
  unfold mkN
  rw [strN, strN, strKs_map, strKs_map, hk, hs, hn]
  cases b with
  | false => rfl
  | true => rw [hp rfl]
end

/-- the same thing to be read, but for places -/
inductive SimM (b : Bool) : Md → Md → Prop
  | expr : SimM b .expr .expr
  | chain (lv : Nat) : SimM b (.chain lv) (.chain lv)
  | loop (lv : Nat) {t t' : Nd} (h : strN b t = strN b t') : SimM b (.loop lv t) (.loop lv t')
  | not : SimM b .not .not
  | unary : SimM b .unary .unary
  | atom : SimM b .atom .atom
  | args {l l' : List Nd} (h : l.map (strN b) = l'.map (strN b)) : SimM b (.args l) (.args l')
theorem SimM.lower (b : Bool) (lv : Nat) : SimM b (lower lv) (lower lv) := by
  unfold Proofs.YtcndknkdhlmdnaaGreatDoor.lower
  split
  · exact .chain 1
  split
  · exact .not
  split
  · exact .chain 3
  · exact .unary
theorem signs_peek (lv : Nat) : ∀ w ∈ signsT lv, w ∈ peekT := by
  unfold signsT
  split
  · decide
  split
  · decide
  split <;> decide
theorem kids_str {b : Bool} {t t' : Nd} (h : strN b t = strN b t') : t.kids.map (strN b) = t'.kids.map (strN b) := by
  cases t with
  | mk k s n ks p =>
  cases t' with
  | mk k' s' n' ks' p' =>
  rw [strN, strN, Nd.mk.injEq, strKs_map, strKs_map] at h
  exact h.2.2.2.1

theorem body_sim {b : Bool} {d : Nat} {x x' : List Tk} (hx : Stop x) (hx' : Stop x') (hq : isT tThen x = false ∧ isT tElse x = false ∧ isT tShut x = false ∧ (hd x).kind ≠ 7) {g h : Md → Nat → List Tk → Rd} (ih : ∀ m m' n l l', SimM b m m' → SimL b x x' l l' → SimR b d x x' (g m n l) (h m' (n + d) l'))
    (m m' : Md) (hm : SimM b m m') (n : Nat) (l l' : List Tk) (hl : SimL b x x' l l') : SimR b d x x' (body g m n l) (body h m' (n + d) l') := by
  have bt : ∀ {u v : Bool}, u = v → (u = true ↔ v = true) := fun e => by rw [e]
  have ih1 : ∀ m m' n l l', SimM b m m' → SimL b x x' l l' → SimR b d x x' (g m (n + 1) l) (h m' (n + d + 1) l') := fun m m' n l l' h1 h2 => by
    rw [show n + d + 1 = n + 1 + d by omega]; exact ih m m' (n + 1) l l' h1 h2
  cases hm with
  | expr =>
    refine SimR.nest (SimR.ite (bt (hl.peek hx hx' (by decide))) (fun c => ?_) fun _ => ih1 _ _ _ _ _ (.chain 0) hl)
    obtain ⟨-, -, -, hp, hl2⟩ := hl.some hx c (by decide)
    refine (ih1 _ _ _ _ _ .expr hl2).then fun t t' l1 l1' ht h1 => SimR.want h1 hq.1 fun l2 l2' h2 => (ih1 _ _ _ _ _ .expr h2).then fun u u' l3 l3' hu h3 => SimR.want h3 hq.2.1 fun l4 l4' h4 => (ih1 _ _ _ _ _ .expr h4).then fun v v' l5 l5' hv h5 =>
      SimR.made (str_mk rfl (by simp only [List.map_cons, List.map_nil, ht, hu, hv]) hp rfl) h5
  | chain lv => exact (ih _ _ _ _ _ (SimM.lower b lv) hl).then fun t t' l1 l1' ht h1 => ih _ _ _ _ _ (.loop lv ht) h1
  | loop lv ht =>
    refine SimR.ite (bt (hl.peeks hx hx' (signs_peek lv))) (fun c => ?_) fun _ => SimR.ok ht hl
    obtain ⟨-, ht2, -, hp, hl2⟩ := hl.somes hx c (signs_peek lv)
    exact (ih _ _ _ _ _ (SimM.lower b lv) hl2).then fun u u' l1 l1' hu h1 => (SimR.made (str_mk ht2 (by simp only [List.map_cons, List.map_nil, ht, hu]) hp rfl) h1).then fun v v' l2 l2' hv h2 => ih _ _ _ _ _ (.loop lv hv) h2
  | not =>
    refine SimR.ite (bt (hl.peek hx hx' (by decide))) (fun c => ?_) fun _ => ?_
    · obtain ⟨-, ht2, -, hp, hl2⟩ := hl.some hx c (by decide)
      exact SimR.nest ((ih1 _ _ _ _ _ .not hl2).then fun u u' l1 l1' hu h1 => SimR.made (str_mk ht2 (by simp only [List.map_cons, List.map_nil, hu]) hp rfl) h1)
    · refine (ih _ _ _ _ _ (.chain 2) hl).then fun u u' l1 l1' hu h1 => SimR.ite (bt (h1.peeks hx hx' (by decide))) (fun c => ?_) fun _ => SimR.ok hu h1
      obtain ⟨-, ht2, -, hp, hl2⟩ := h1.somes hx c (by decide)
      exact (ih _ _ _ _ _ (.chain 2) hl2).then fun v v' l2 l2' hv h2 => SimR.made (str_mk ht2 (by simp only [List.map_cons, List.map_nil, hu, hv]) hp rfl) h2
  | unary =>
    refine SimR.ite (bt (hl.peek hx hx' (by decide))) (fun c => ?_) fun _ => ih _ _ _ _ _ .atom hl
    obtain ⟨-, ht2, -, hp, hl2⟩ := hl.some hx c (by decide)
    exact SimR.nest ((ih1 _ _ _ _ _ .unary hl2).then fun u u' l1 l1' hu h1 => SimR.made (str_mk ht2 (by simp only [List.map_cons, List.map_nil, hu]) hp rfl) h1)
  | args ha =>
    have hlen : ∀ {u v : List Nd}, u.map (strN b) = v.map (strN b) → u.length = v.length := fun e => by have := congrArg List.length e; simpa using this
    refine SimR.ite (by rw [hlen ha]) (fun _ => SimR.error) fun _ => ?_
    refine (ih _ _ _ _ _ .expr hl).then fun u u' l1 l1' hu h1 => ?_
    have hacc : ∀ {v v' : List Nd}, v.map (strN b) = v'.map (strN b) → (v ++ [u]).map (strN b) = (v' ++ [u']).map (strN b) := fun e => by rw [List.map_append, List.map_append, e, List.map_cons, List.map_cons, hu]
    refine SimR.ite (bt (h1.peek hx hx' (by decide))) (fun c => ?_) fun _ => SimR.want h1 hq.2.2.1 fun l2 l2' h2 => SimR.ok (str_mk rfl (hacc ha) (fun _ => rfl) rfl) h2
    exact ih _ _ _ _ _ (.args (hacc ha)) (h1.some hx c (by decide)).2.2.2.2
  | atom =>
    rcases hl.cases with ⟨rfl, rfl⟩ | ⟨e1, e2, e3, e4, -, e6⟩
    · have w := hx.word
      have k := hx.kind
      show SimR b d _ _ (if _ then _ else _) _
      rw [if_neg k.1, if_neg k.2.1, if_neg k.2.2.1, if_neg (by rintro (c | c); exact k.2.2.2.1 c; exact k.2.2.2.2 c), if_neg (by rw [w tTrue (by decide)]; decide), if_neg (by rw [w tFalse (by decide)]; decide), if_neg (by rw [w tFeed (by decide)]; decide), if_neg (by rw [w tPick (by decide)]; decide), if_neg (by rw [w tOpen (by decide)]; decide)]
      exact SimR.error
    · have hi : ∀ w, (isT w l = true ↔ isT w l' = true) := fun w => bt (isT_sim e1 e2)
      refine SimR.ite (by rw [e1]) (fun _ => SimR.ok (str_mk rfl rfl e4 e3) e6) fun _ => SimR.ite (by rw [e1]) (fun _ => SimR.ok (str_mk rfl rfl e4 e3) e6) fun _ => SimR.ite (by rw [e1]) (fun _ => SimR.ok (str_mk e2 rfl e4 rfl) e6) fun _ => SimR.ite (by rw [e1]) (fun _ => ?_) fun _ =>
        SimR.ite (hi _) (fun _ => SimR.ok (str_mk rfl rfl e4 rfl) e6) fun _ => SimR.ite (hi _) (fun _ => SimR.ok (str_mk rfl rfl e4 rfl) e6) fun _ => SimR.ite (hi _) (fun _ => SimR.kind e6 hq.2.2.2 fun t t' l1 l1' ht _ _ h1 => SimR.ok (str_mk ht rfl e4 rfl) h1) fun _ =>
        SimR.ite (hi _) (fun _ => ?_) fun _ => SimR.ite (hi _) (fun _ => ?_) fun _ => SimR.error
      · refine SimR.ite (bt (e6.peek hx hx' (by decide))) (fun c => ?_) fun _ => SimR.ok (str_mk e2 rfl e4 rfl) e6
        exact (ih _ _ _ _ _ (.args rfl) (e6.some hx c (by decide)).2.2.2.2).then fun t t' l1 l1' ht h1 => SimR.made (str_mk e2 (kids_str ht) e4 rfl) h1
      · have hc := hx.word tComma (by decide)
        exact SimR.kind e6 hq.2.2.2 fun t t' l1 l1' ht _ _ h1 => SimR.want h1 (hx.word tOpen (by decide)) fun l2 l2' h2 => (ih _ _ _ _ _ .expr h2).then fun u u' l3 l3' hu h3 => SimR.want h3 hc fun l4 l4' h4 => (ih _ _ _ _ _ .expr h4).then fun v v' l5 l5' hv h5 => SimR.want h5 hc fun l6 l6' h6 =>
          (ih _ _ _ _ _ .expr h6).then fun o o' l7 l7' ho h7 => SimR.want h7 hq.2.2.1 fun l8 l8' h8 => SimR.made (str_mk ht (by simp only [List.map_cons, List.map_nil, hu, hv, ho]) e4 rfl) h8
      · exact (ih _ _ _ _ _ .expr e6).then fun u u' l1 l1' hu h1 => SimR.want h1 hq.2.2.1 fun l2 l2' h2 => SimR.ok hu h2

theorem run_sim {b : Bool} {d : Nat} {x x' : List Tk} (hx : Stop x) (hx' : Stop x') (hq : isT tThen x = false ∧ isT tElse x = false ∧ isT tShut x = false ∧ (hd x).kind ≠ 7) : ∀ (f : Nat) (m m' : Md) (n : Nat) (l l' : List Tk), SimM b m m' → SimL b x x' l l' → SimR b d x x' (runF f m n l) (rd m' (n + d) l')
  | 0, _, _, _, _, _, _, _ => SimR.error
  | f + 1, m, m', n, l, l', hm, hl => by
    rw [rd_eq m']
    exact body_sim hx hx' hq (fun m m' n l l' h1 h2 => run_sim hx hx' hq f m m' n l l' h1 h2) m m' hm n l l' hl
/-- what is read ahead of one end is read, but for places, ahead of another -/
theorem rd_sim {b : Bool} {d : Nat} {x x' : List Tk} (hx : Stop x) (hx' : Stop x') (hq : isT tThen x = false ∧ isT tElse x = false ∧ isT tShut x = false ∧ (hd x).kind ≠ 7) {m m' : Md} (n : Nat) {l l' : List Tk} (hm : SimM b m m') (hl : SimL b x x' l l') : SimR b d x x' (rd m n l) (rd m' (n + d) l') :=
  run_sim hx hx' hq _ m m' n l l' hm hl

end Go.Proofs.YtcndknkdhlmdnaaGreatDoor
