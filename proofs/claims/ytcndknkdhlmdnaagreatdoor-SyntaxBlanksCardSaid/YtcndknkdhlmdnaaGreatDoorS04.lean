/-
  Texts that the statements' proofs rest on, one behind another: ShowI, RefA, RefB, ShowG, Syn, NumLaw, ScanLaw, SynA.
-/
import Derived.Test.YtcndknkdhlmdnaaGreatDoorS03
import Derived.Test.YtcndknkdhlmdnaaGreatDoorS02
import Derived.Shelf.Strings.BuilderK
import Derived.WalkKit
import Derived.Shelf.Abstract
import Derived.WalkSpells
import Derived.WalkLawsBesides
import Derived.IntWalk
import Derived.Lib.Hide
import Derived.Test.YtcndknkdhlmdnaaGreatDoorS01

/-
  (*strings.Builder).copyCheck and WriteString, at a builder of the call's own, whatever it holds.
-/
namespace Go.Proofs.YtcndknkdhlmdnaaGreatDoor
open Go.RowKit Go.Shelf
set_option maxRecDepth 100000

end Go.Proofs.YtcndknkdhlmdnaaGreatDoor

/-
  usanceref07: bytes, and how many name's bytes stand at a place; a name.
-/
namespace Go.Proofs.YtcndknkdhlmdnaaGreatDoor
open Go.RowKit
set_option maxRecDepth 100000

def smI (n : Int) : Bool := decide (97 ≤ n) && decide (n ≤ 122)
def dgI (n : Int) : Bool := decide (48 ≤ n) && decide (n ≤ 57)
def inI (n : Int) : Bool := smI n || dgI n || n == 95
def smC (c : UInt8) : Bool := smI c.toNat
def inC (c : UInt8) : Bool := inI c.toNat
/-- how many name's bytes stand at the beginning of a list -/
def spanL (l : List UInt8) : Nat := match l with
  | [] => 0
  | c :: l => if smC c then 1 + (l.takeWhile inC).length else 0
/-- a name's bytes, as the document has it -/
def nameR (l : List UInt8) : Bool := decide (0 < l.length) && decide (l.length ≤ 24) && decide (spanL l = l.length)
theorem spanL_le (l : List UInt8) : spanL l ≤ l.length := by
  cases l with
  | nil => exact Nat.le_refl _
  | cons c l =>
    show (if smC c = true then 1 + (l.takeWhile inC).length else 0) ≤ l.length + 1
    split
    · have := (List.takeWhile_sublist (l := l) inC).length_le; omega
    · exact Nat.zero_le _
theorem rretI {k : IntKind} {a b : Int} (h : a = b) : Ending.returned (.int k a) = .returned (.int k b) := by rw [h]
theorem rretB {a b : Bool} (h : a = b) : Ending.returned (.bool a) = .returned (.bool b) := by rw [h]
theorem drop_at {s : ByteArray} {k : Nat} (h : k < s.size) : s.data.toList.drop k = s[k] :: s.data.toList.drop (k + 1) := by
  have h' : k < s.data.toList.length := by simpa using h
  rw [List.drop_eq_getElem_cons h']
  rfl
theorem drop_end {s : ByteArray} {k : Nat} (h : s.size ≤ k) : s.data.toList.drop k = [] := List.drop_of_length_le (by simpa using h)
end Go.Proofs.YtcndknkdhlmdnaaGreatDoor

/-
  A name and a currency: the document's words for them are the program's.
-/
namespace Go.Proofs.YtcndknkdhlmdnaaGreatDoor
open Go.RowKit
set_option maxRecDepth 100000

theorem u8_all {p : UInt8 → Bool} (h : ∀ n : Fin 256, p (UInt8.ofNat n.val) = true) (c : UInt8) : p c = true := by
  have := h ⟨c.toNat, c.toNat_lt⟩
  simpa using this
theorem inner_eq (c : UInt8) : isInner c = inC c := by
  have := u8_all (p := fun c => isInner c == inC c) (by decide +kernel) c
  simpa using this
theorem great_eq (c : UInt8) : isGreat c = (decide (65 ≤ (c.toNat : Int)) && decide ((c.toNat : Int) ≤ 90)) := by
  have := u8_all (p := fun c => isGreat c == (decide (65 ≤ (c.toNat : Int)) && decide ((c.toNat : Int) ≤ 90))) (by decide +kernel) c
  simpa using this
theorem takeWhile_all {α : Type} (p : α → Bool) : ∀ l : List α, (l.takeWhile p).length = l.length ↔ l.all p = true
  | [] => by simp
  | a :: l => by
    rw [List.takeWhile_cons]
    cases h : p a
    · simp [h]
    · simp [h, takeWhile_all p l]
theorem nameR_eq (l : List UInt8) : nameR l = nameL l := by
  unfold nameR nameL
  cases l with
  | nil => rfl
  | cons c l =>
    have ha : (c :: l).all isInner = (inC c && l.all inC) := by
      rw [List.all_cons, inner_eq]; congr 1
      exact List.all_congr rfl fun a => inner_eq a
    rw [ha, Bool.eq_iff_iff]
    have hsm : smC c = true → inC c = true := fun h => by
      unfold inC inI; rw [show smI (c.toNat : Int) = true from h]; rfl
    have hsm' : smC c = true ↔ 97 ≤ (c.toNat : Int) ∧ (c.toNat : Int) ≤ 122 := by unfold smC smI; simp
    have hsp : spanL (c :: l) = if smC c then 1 + (l.takeWhile inC).length else 0 := rfl
    have htw := takeWhile_all inC l
    simp only [Bool.and_eq_true, decide_eq_true_eq, List.length_cons, List.headD_cons]
    rw [hsp]
    by_cases hc : smC c = true
    · rw [if_pos hc]
      have := hsm hc
      have h2 := hsm'.1 hc
      constructor
      · rintro ⟨⟨-, h24⟩, hs⟩
        exact ⟨⟨h24, decide_eq_true h2.1, decide_eq_true h2.2⟩, this, htw.1 (by omega)⟩
      · rintro ⟨⟨h24, -⟩, -, hi⟩
        have := htw.2 hi
        exact ⟨⟨by omega, h24⟩, by omega⟩
    · rw [if_neg hc]
      constructor
      · rintro ⟨-, hs⟩; omega
      · rintro ⟨⟨-, h2⟩, -⟩; exact absurd (hsm'.2 ⟨of_decide_eq_true h2.1, of_decide_eq_true h2.2⟩) hc
end Go.Proofs.YtcndknkdhlmdnaaGreatDoor

/-
  usanceref01.Show: a number's text.
-/
namespace Go.Proofs.YtcndknkdhlmdnaaGreatDoor
open Go.RowKit
set_option maxRecDepth 100000

end Go.Proofs.YtcndknkdhlmdnaaGreatDoor

/-
  What a text is read as: its tokens, and the tree of them (no program in sight).
-/
namespace Go.Proofs.YtcndknkdhlmdnaaGreatDoor

/-- a token: its kind, its text, its number, its place -/
structure Tk where
  kind : Int
  text : List UInt8
  n : Int
  pos : Int
/-- the bytes of digits ahead -/
def digR (l : List UInt8) : Nat := (l.takeWhile dgC).length
def grC (c : UInt8) : Bool := decide (65 ≤ (c.toNat : Int)) && decide ((c.toNat : Int) ≤ 90)
/-- the name, far name or keyword ahead, and its length -/
def namedS (l : List UInt8) (pos : Int) : Except Int (Tk × Nat) :=
  let n := spanL l
  if (l.drop n).headD 0 = 46 then
    let m := spanL (l.drop (n + 1))
    if 24 < n ∨ m < 1 ∨ 24 < m ∨ wordL (l.take n) = true ∨ wordL ((l.drop (n + 1)).take m) = true then .error 73
    else .ok (⟨3, l.take n ++ 46 :: (l.drop (n + 1)).take m, 0, pos⟩, n + 1 + m)
  else if 24 < n then .error 73 else .ok (⟨if wordL (l.take n) = true then 2 else 1, l.take n, 0, pos⟩, n)
/-- a day's number -/
def dayP (l : List UInt8) : Option Int :=
  if l.length = 10 ∧ (∀ j (hj : j < l.length), Cal.fits j l[j] = true) ∧ Cal.ok (Cal.val (Cal.seg l 0 4)) (Cal.val (Cal.seg l 5 7)) (Cal.val (Cal.seg l 8 10))
  then some (Cal.num (Cal.val (Cal.seg l 0 4)) (Cal.val (Cal.seg l 5 7)) (Cal.val (Cal.seg l 8 10))) else none
/-- what stands behind a number's point: none, or one to six digits -/
def partOk (r : List UInt8) : Bool := match r with
  | [] => true
  | c :: p => c == 46 && (decide (1 ≤ p.length) && decide (p.length ≤ 6) && p.all dgC)
/-- a number that is not below 0: digits, perhaps a point and digits -/
def numU (l : List UInt8) : Option Int :=
  let w := l.takeWhile dgC
  let r := l.drop w.length
  if 1 ≤ w.length ∧ w.length ≤ 10 ∧ (w.length = 1 ∨ l.headD 0 ≠ 48) ∧ partOk r = true then some (Cal.val (w ++ r.tail ++ List.replicate (6 - r.tail.length) 48)) else none
/-- a number -/
def numP (l : List UInt8) : Option Int :=
  if l.headD 0 = 45 then (match numU l.tail with | some n => if 1000000000000000 < n ∨ n = 0 then none else some (-n) | none => none)
  else match numU l with | some n => if 1000000000000000 < n then none else some n | none => none
/-- does a date's form stand ahead? -/
def dateAt (l : List UInt8) : Bool := decide (10 ≤ l.length) && (decide (∀ j (hj : j < (l.take 10).length), Cal.fits j (l.take 10)[j] = true) && !dgC ((l.drop 10).headD 0))
/-- may a byte stand behind a number? -/
def numEnd (c : UInt8) : Bool := !(smC c || grC c || c == 95 || c == 46)
/-- the bytes of a number ahead -/
def numR (l : List UInt8) : Nat := if (l.drop (digR l)).headD 0 = 46 ∧ dgC ((l.drop (digR l + 1)).headD 0) = true then digR l + 1 + digR (l.drop (digR l + 1)) else digR l
/-- the number or date ahead, and its length -/
def numS (l : List UInt8) (pos : Int) : Except Int (Tk × Nat) :=
  if dateAt l = true then
    match dayP (l.take 10) with
    | none => .error 72
    | some v => if numEnd ((l.drop 10).headD 0) = true then .ok (⟨5, [], v, pos⟩, 10) else .error 72
  else
    match numP (l.take (numR l)) with
    | none => .error 72
    | some v => if numEnd ((l.drop (numR l)).headD 0) = true then .ok (⟨6, [], v, pos⟩, numR l) else .error 72
def quoC (c : UInt8) : Bool := c != 34 && c != 10
def quoR (l : List UInt8) : Nat := (l.takeWhile quoC).length
/-- the string ahead (behind its first sign), and its length with both signs -/
def quotS (r : List UInt8) (pos : Int) : Except Int (Tk × Nat) :=
  if (r.drop (quoR r)).headD 0 ≠ 34 then .error 71
  else if nameL (r.take (quoR r)) = true then .ok (⟨7, r.take (quoR r), 0, pos⟩, quoR r + 2) else .error 73
def greR (l : List UInt8) : Nat := (l.takeWhile grC).length
def curS (l : List UInt8) (pos : Int) : Except Int (Tk × Nat) := if greR l = 3 then .ok (⟨4, l.take 3, 0, pos⟩, 3) else .error 73
def markTab : List UInt8 := [40, 41, 44, 59, 61, 60, 43, 45, 42, 47]
def markS (c : UInt8) (r : List UInt8) (pos : Int) : Except Int (Tk × Nat) :=
  if c = 60 ∧ r.headD 0 = 61 then .ok (⟨8, [60, 61], 0, pos⟩, 2)
  else if markTab.contains c = true then .ok (⟨8, [c], 0, pos⟩, 1) else .error 71
/-- the token ahead, and its length -/
def tokS (c : UInt8) (r : List UInt8) (pos : Int) : Except Int (Tk × Nat) :=
  if smC c = true then namedS (c :: r) pos
  else if dgC c = true then numS (c :: r) pos
  else if c = 34 then quotS r pos
  else if grC c = true then curS (c :: r) pos
  else markS c r pos
/-- the bytes of a remark ahead, behind its first -/
def remR (l : List UInt8) : Nat := (l.takeWhile (· != 10)).length
/-- all tokens, the end behind them: so many stand ahead, so many bytes are to be passed over -/
def scanS : List UInt8 → Int → Nat → Nat → Except (Int × Int) (List Tk)
  | [], pos, _, _ => .ok [⟨0, [], 0, pos⟩]
  | _ :: r, pos, k, s + 1 => scanS r (pos + 1) k s
  | c :: r, pos, k, 0 =>
    if c.toNat ≤ 32 then scanS r (pos + 1) k 0
    else if c = 35 then scanS r (pos + 1) k (remR r)
    else match tokS c r pos with
      | .error e => .error (e, pos)
      | .ok (t, n) => if k = 8192 then .error (76, pos) else match scanS r (pos + 1) (k + 1) (n - 1) with
        | .error e => .error e
        | .ok ts => .ok (t :: ts)
/-- a text's tokens, or what is wrong, and where -/
def scanT (l : List UInt8) : Except (Int × Int) (List Tk) := if 16384 < l.length then .error (70, 0) else scanS l 0 0 0
def hd (l : List Tk) : Tk := l.headD ⟨0, [], 0, 0⟩
/-- is it this word or sign? -/
def isT (w : List UInt8) (l : List Tk) : Bool := ((hd l).kind == 2 || (hd l).kind == 8) && (hd l).text == w
def stepL (l : List Tk) : List Tk := if (hd l).kind = 0 then l else l.tail
/-- a tree and the tokens behind it; or what is wrong, and where -/
abbrev Rd := Except (Int × Int) (Nd × List Tk)
mutual
def depthN : Nd → Nat
  | .mk _ _ _ ks _ => depthKs ks + 1
def depthKs : List Nd → Nat
  | [] => 0
  | k :: ks => max (depthN k) (depthKs ks)
end
def mkN (kind : Int) (s : List UInt8) (n : Int) (ks : List Nd) (p : Int) : Nd := .mk kind ⟨s.toArray⟩ n ks p
def made (t : Nd) (r : List Tk) : Rd := if 100 < depthN t then .error (75, t.place) else .ok (t, r)
def Rd.then (x : Rd) (f : Nd → List Tk → Rd) : Rd := match x with
  | .error e => .error e
  | .ok (t, r) => f t r
def wantT (w : List UInt8) (l : List Tk) (f : List Tk → Rd) : Rd := if isT w l = true then f (stepL l) else .error (74, (hd l).pos)
def kindT (k : Int) (l : List Tk) (f : Tk → List Tk → Rd) : Rd := if (hd l).kind = k then f (hd l) (stepL l) else .error (74, (hd l).pos)
/-- what is read -/
inductive Md where
  | expr | chain (lv : Nat) | loop (lv : Nat) (t : Nd) | not | unary | atom | args (acc : List Nd)
def signsT (lv : Nat) : List (List UInt8) := if lv = 0 then [[111, 114]] else if lv = 1 then [[97, 110, 100]] else if lv = 2 then [[43], [45]] else [[42], [47]]
def cmpT : List (List UInt8) := [[60], [60, 61], [61]]
def lower (lv : Nat) : Md := if lv = 0 then .chain 1 else if lv = 1 then .not else if lv = 2 then .chain 3 else .unary
def anyT (ws : List (List UInt8)) (l : List Tk) : Bool := ws.any fun w => isT w l
def tIf : List UInt8 := [105, 102]
def tThen : List UInt8 := [116, 104, 101, 110]
def tElse : List UInt8 := [101, 108, 115, 101]
def tNot : List UInt8 := [110, 111, 116]
def tMinus : List UInt8 := [45]
def tOpen : List UInt8 := [40]
def tShut : List UInt8 := [41]
def tComma : List UInt8 := [44]
def tSemi : List UInt8 := [59]
def tEq : List UInt8 := [61]
def tTrue : List UInt8 := [116, 114, 117, 101]
def tFalse : List UInt8 := [102, 97, 108, 115, 101]
def tFeed : List UInt8 := [102, 101, 101, 100]
def tPick : List UInt8 := [112, 105, 99, 107]
def tLet : List UInt8 := [108, 101, 116]
def tModule : List UInt8 := [109, 111, 100, 117, 108, 101]
def tImport : List UInt8 := [105, 109, 112, 111, 114, 116]
def nestT (nest : Nat) (l : List Tk) (x : Rd) : Rd := if 300 < nest + 1 then .error (75, (hd l).pos) else x
/-- one step of reading, what is within being read by rd -/
def body (rd : Md → Nat → List Tk → Rd) : Md → Nat → List Tk → Rd
  | .expr, nest, l => nestT nest l <|
    if isT tIf l = true then
      (rd .expr (nest + 1) (stepL l)).then fun a r => wantT tThen r fun r => (rd .expr (nest + 1) r).then fun b r => wantT tElse r fun r => (rd .expr (nest + 1) r).then fun c r => made (mkN 14 [] 0 [a, b, c] (hd l).pos) r
    else rd (.chain 0) (nest + 1) l
  | .chain lv, nest, l => (rd (lower lv) nest l).then fun t r => rd (.loop lv t) nest r
  | .loop lv t, nest, l =>
    if anyT (signsT lv) l = true then (rd (lower lv) nest (stepL l)).then fun m r => (made (mkN 13 (hd l).text 0 [t, m] (hd l).pos) r).then fun t r => rd (.loop lv t) nest r
    else .ok (t, l)
  | .not, nest, l =>
    if isT tNot l = true then nestT nest l <| (rd .not (nest + 1) (stepL l)).then fun t r => made (mkN 12 (hd l).text 0 [t] (hd l).pos) r
    else (rd (.chain 2) nest l).then fun a r => if anyT cmpT r = true then (rd (.chain 2) nest (stepL r)).then fun b r' => made (mkN 13 (hd r).text 0 [a, b] (hd r).pos) r' else .ok (a, r)
  | .unary, nest, l =>
    if isT tMinus l = true then nestT nest l <| (rd .unary (nest + 1) (stepL l)).then fun t r => made (mkN 12 (hd l).text 0 [t] (hd l).pos) r
    else rd .atom nest l
  | .atom, nest, l =>
    if (hd l).kind = 6 then .ok (mkN 5 [] (hd l).n [] (hd l).pos, stepL l)
    else if (hd l).kind = 5 then .ok (mkN 6 [] (hd l).n [] (hd l).pos, stepL l)
    else if (hd l).kind = 4 then .ok (mkN 7 (hd l).text 0 [] (hd l).pos, stepL l)
    else if (hd l).kind = 1 ∨ (hd l).kind = 3 then
      if isT tOpen (stepL l) = true then (rd (.args []) nest (stepL (stepL l))).then fun a r => made (mkN 11 (hd l).text 0 a.kids (hd l).pos) r
      else .ok (mkN 10 (hd l).text 0 [] (hd l).pos, stepL l)
    else if isT tTrue l = true then .ok (mkN 8 [] 1 [] (hd l).pos, stepL l)
    else if isT tFalse l = true then .ok (mkN 8 [] 0 [] (hd l).pos, stepL l)
    else if isT tFeed l = true then kindT 7 (stepL l) fun s r => .ok (mkN 9 s.text 0 [] (hd l).pos, r)
    else if isT tPick l = true then kindT 7 (stepL l) fun s r => wantT tOpen r fun r => (rd .expr nest r).then fun a r => wantT tComma r fun r => (rd .expr nest r).then fun b r => wantT tComma r fun r => (rd .expr nest r).then fun c r =>
      wantT tShut r fun r => made (mkN 15 s.text 0 [a, b, c] (hd l).pos) r
    else if isT tOpen l = true then (rd .expr nest (stepL l)).then fun x r => wantT tShut r fun r => .ok (x, r)
    else .error (74, (hd l).pos)
  | .args acc, nest, l =>
    if acc.length = 8 then .error (76, (hd l).pos)
    else (rd .expr nest l).then fun t r => if isT tComma r = true then rd (.args (acc ++ [t])) nest (stepL r) else wantT tShut r fun r => .ok (mkN 0 [] 0 (acc ++ [t]) 0, r)
/-- out of fuel -/
def spent : Rd := .error (-1, -1)
def runF : Nat → Md → Nat → List Tk → Rd
  | 0 => fun _ _ _ => spent
  | f + 1 => body (runF f)
def rank : Md → Nat
  | .args _ => 10 | .expr => 9 | .chain lv => if lv = 0 then 8 else if lv = 1 then 7 else if lv = 2 then 5 else 4
  | .not => 6 | .unary => 3 | .atom => 2 | .loop _ _ => 1
def enough (m : Md) (l : List Tk) : Nat := 11 * l.length + rank m + 1
/-- an expression's parts, as they are read -/
def rd (m : Md) (nest : Nat) (l : List Tk) : Rd := runF (enough m l) m nest l
end Go.Proofs.YtcndknkdhlmdnaaGreatDoor

/-
  Numbers read from texts, byte by byte (no program in sight).
-/
namespace Go.Proofs.YtcndknkdhlmdnaaGreatDoor

theorem dg_isDig (c : UInt8) : dgC c = Cal.isDig c := by
  have := u8_each (p := fun c => dgC c == Cal.isDig c) (by decide +kernel) c
  exact eq_of_beq this
theorem dgC_I (c : UInt8) : dgC c = dgI c.toNat := by
  have := u8_each (p := fun c => dgC c == dgI c.toNat) (by decide +kernel) c
  exact eq_of_beq this
theorem all_isDig (l : List UInt8) : l.all dgC = l.all Cal.isDig := by rw [show dgC = Cal.isDig from funext dg_isDig]
theorem val_le {l : List UInt8} {n : Nat} (h : l.all dgC = true) (hn : l.length ≤ n) : 0 ≤ Cal.val l ∧ Cal.val l < 10 ^ n := by
  have := Cal.val_bd (l := l) (by rw [← all_isDig]; exact h)
  exact ⟨this.1, Int.lt_of_lt_of_le this.2 (by exact_mod_cast Nat.pow_le_pow_right (by decide) hn)⟩
end Go.Proofs.YtcndknkdhlmdnaaGreatDoor

/-
  Scanning, token by token (no program in sight).
-/
namespace Go.Proofs.YtcndknkdhlmdnaaGreatDoor

theorem headD_ne {l : List UInt8} (h : l.headD 0 ≠ 0) : 0 < l.length := by
  cases l with
  | nil => exact absurd rfl h
  | cons a l => simp
theorem drop_ne {l : List UInt8} {n : Nat} (h : (l.drop n).headD 0 ≠ 0) : n < l.length := by
  have := headD_ne h
  rw [List.length_drop] at this; omega
theorem takeWhile_le {α : Type} (p : α → Bool) (l : List α) : (l.takeWhile p).length ≤ l.length := (List.takeWhile_sublist (l := l) p).length_le
theorem namedS_len {l : List UInt8} {pos : Int} {t : Tk} {n : Nat} (h : namedS l pos = .ok (t, n)) (h1 : 1 ≤ spanL l) : 1 ≤ n ∧ n ≤ l.length := by
  have hs := spanL_le l
  unfold namedS at h
  simp only at h
  split at h
  · rename_i hd
    have hd' := drop_ne (l := l) (n := spanL l) (by rw [hd]; decide)
    have hs2 := spanL_le (l.drop (spanL l + 1))
    rw [List.length_drop] at hs2
    split at h
    · cases h
    · simp only [Except.ok.injEq, Prod.mk.injEq] at h
      omega
  · split at h
    · cases h
    · simp only [Except.ok.injEq, Prod.mk.injEq] at h
      omega
theorem digR_pos {c : UInt8} {r : List UInt8} (h : dgC c = true) : 1 ≤ digR (c :: r) := by
  unfold digR
  rw [List.takeWhile_cons, if_pos h]; simp
theorem numR_len {l : List UInt8} (h : 1 ≤ digR l) : 1 ≤ numR l ∧ numR l ≤ l.length := by
  have h1 : digR l ≤ l.length := takeWhile_le dgC l
  unfold numR
  split
  · rename_i hd
    have hd' := drop_ne (l := l) (n := digR l) (by rw [hd.1]; decide)
    have h2 : digR (l.drop (digR l + 1)) ≤ (l.drop (digR l + 1)).length := takeWhile_le dgC _
    rw [List.length_drop] at h2
    omega
  · omega
theorem numS_len {l : List UInt8} {pos : Int} {t : Tk} {n : Nat} (h : numS l pos = .ok (t, n)) (h1 : 1 ≤ digR l) : 1 ≤ n ∧ n ≤ l.length := by
  unfold numS at h
  split at h
  · rename_i hd
    unfold dateAt at hd
    rw [Bool.and_eq_true, decide_eq_true_eq] at hd
    split at h
    · cases h
    · split at h
      · simp only [Except.ok.injEq, Prod.mk.injEq] at h; omega
      · cases h
  · have := numR_len h1
    split at h
    · cases h
    · split at h
      · simp only [Except.ok.injEq, Prod.mk.injEq] at h; omega
      · cases h
theorem quotS_len {r : List UInt8} {pos : Int} {t : Tk} {n : Nat} (h : quotS r pos = .ok (t, n)) : 1 ≤ n ∧ n ≤ r.length + 1 := by
  unfold quotS at h
  split at h
  · cases h
  · rename_i hd
    have := drop_ne (l := r) (n := quoR r) (by rw [Decidable.not_not.1 hd]; decide)
    split at h
    · simp only [Except.ok.injEq, Prod.mk.injEq] at h; omega
    · cases h
theorem tok_len {c : UInt8} {r : List UInt8} {pos : Int} {t : Tk} {n : Nat} (h : tokS c r pos = .ok (t, n)) : 1 ≤ n ∧ n ≤ r.length + 1 := by
  unfold tokS at h
  split at h
  · rename_i hs
    exact namedS_len h (by show 1 ≤ (if smC c = true then 1 + (r.takeWhile inC).length else 0); rw [if_pos hs]; omega)
  split at h
  · rename_i hd
    exact numS_len h (digR_pos hd)
  split at h
  · exact quotS_len h
  split at h
  · unfold curS at h
    split at h
    · rename_i h3
      have : greR (c :: r) ≤ (c :: r).length := takeWhile_le grC _
      simp only [Except.ok.injEq, Prod.mk.injEq] at h
      rw [List.length_cons] at this
      omega
    · cases h
  · unfold markS at h
    split at h
    · rename_i h2
      have := headD_ne (l := r) (by rw [h2.2]; decide)
      simp only [Except.ok.injEq, Prod.mk.injEq] at h; omega
    · split at h
      · simp only [Except.ok.injEq, Prod.mk.injEq] at h; omega
      · cases h
theorem scan_skip : ∀ (l : List UInt8) (pos : Int) (k n : Nat), n ≤ l.length → scanS l pos k n = scanS (l.drop n) (pos + n) k 0
  | l, pos, k, 0, _ => by rw [List.drop_zero]; congr 1; omega
  | [], _, _, n + 1, h => by simp at h
  | c :: r, pos, k, n + 1, h => by
    rw [scanS, scan_skip r (pos + 1) k n (by simpa using h), List.drop_succ_cons]
    congr 1; omega
/-- tokens ahead of a reading -/
def ahead (ts : List Tk) (x : Except (Int × Int) (List Tk)) : Except (Int × Int) (List Tk) := match x with
  | .error e => .error e
  | .ok r => .ok (ts ++ r)
theorem ahead_nil (x : Except (Int × Int) (List Tk)) : ahead [] x = x := by cases x <;> rfl
theorem ahead_app (a b : List Tk) (x : Except (Int × Int) (List Tk)) : ahead a (ahead b x) = ahead (a ++ b) x := by
  cases x with
  | error e => rfl
  | ok r => simp [ahead]
theorem scan_blank {c : UInt8} {r : List UInt8} {pos : Int} {k : Nat} (h : c.toNat ≤ 32) : scanS (c :: r) pos k 0 = scanS r (pos + 1) k 0 := by
  rw [scanS, if_pos h]
theorem scan_rem {c : UInt8} {r : List UInt8} {pos : Int} {k : Nat} (h : c = 35) : scanS (c :: r) pos k 0 = scanS (r.drop (remR r)) (pos + 1 + remR r) k 0 := by
  rw [scanS, if_neg (by rw [h]; decide), if_pos h]
  exact scan_skip _ _ _ _ (takeWhile_le _ r)
theorem scan_err {c : UInt8} {r : List UInt8} {pos : Int} {k : Nat} {e : Int} (h : ¬ c.toNat ≤ 32) (h' : c ≠ 35) (ht : tokS c r pos = .error e) : scanS (c :: r) pos k 0 = .error (e, pos) := by
  rw [scanS, if_neg h, if_neg h', ht]
theorem scan_many {c : UInt8} {r : List UInt8} {pos : Int} {k : Nat} {t : Tk} {n : Nat} (h : ¬ c.toNat ≤ 32) (h' : c ≠ 35) (ht : tokS c r pos = .ok (t, n)) (hk : k = 8192) : scanS (c :: r) pos k 0 = .error (76, pos) := by
  rw [scanS, if_neg h, if_neg h', ht]
  simp only
  rw [if_pos hk]
theorem scan_tok {c : UInt8} {r : List UInt8} {pos : Int} {k : Nat} {t : Tk} {n : Nat} (h : ¬ c.toNat ≤ 32) (h' : c ≠ 35) (ht : tokS c r pos = .ok (t, n)) (hk : k ≠ 8192) : scanS (c :: r) pos k 0 = ahead [t] (scanS ((c :: r).drop n) (pos + n) (k + 1) 0) := by
  have hl := tok_len ht
  obtain ⟨m, rfl⟩ : ∃ m, n = m + 1 := ⟨n - 1, by omega⟩
  rw [scanS, if_neg h, if_neg h', ht]
  simp only
  rw [if_neg hk, Nat.add_sub_cancel, scan_skip r _ _ m (by omega), List.drop_succ_cons, show pos + 1 + (m : Int) = pos + ((m + 1 : Nat) : Int) by omega]
  cases scanS (r.drop m) (pos + ((m + 1 : Nat) : Int)) (k + 1) 0 <;> rfl
end Go.Proofs.YtcndknkdhlmdnaaGreatDoor

/-
  Reading is what one step of reading says, over itself (no program in sight).
-/
namespace Go.Proofs.YtcndknkdhlmdnaaGreatDoor

theorem hd_kind {l : List Tk} {k : Int} (h : (hd l).kind = k) (hk : k ≠ 0) : l ≠ [] := by
  rintro rfl; exact hk h.symm
theorem step_len {l : List Tk} {k : Int} (h : (hd l).kind = k) (hk : k ≠ 0) : (stepL l).length + 1 = l.length := by
  have hne := hd_kind h hk
  unfold stepL
  rw [if_neg (by rw [h]; exact hk)]
  cases l with
  | nil => exact absurd rfl hne
  | cons a l => rfl
theorem isT_kind {w : List UInt8} {l : List Tk} (h : isT w l = true) : ((hd l).kind = 2 ∨ (hd l).kind = 8) ∧ (hd l).text = w := by
  unfold isT at h
  simpa using h
theorem isT_len {w : List UInt8} {l : List Tk} (h : isT w l = true) : (stepL l).length + 1 = l.length := by
  rcases (isT_kind h).1 with g | g
  · exact step_len g (by decide)
  · exact step_len g (by decide)
theorem anyT_len {ws : List (List UInt8)} {l : List Tk} (h : anyT ws l = true) : (stepL l).length + 1 = l.length := by
  unfold anyT at h
  obtain ⟨w, -, hw⟩ := List.any_eq_true.1 h
  exact isT_len hw
theorem stepL_le (l : List Tk) : (stepL l).length ≤ l.length := by
  unfold stepL
  split
  · exact Nat.le_refl _
  · simp
/-- two readings say the same, and leave no more than so many tokens -/
def Agree (n : Nat) (x y : Rd) : Prop := x = y ∧ ∀ t r, x = .ok (t, r) → r.length ≤ n
theorem Agree.error (n : Nat) (e : Int × Int) : Agree n (.error e) (.error e) := ⟨rfl, fun _ _ h => by cases h⟩
theorem Agree.ok {n : Nat} (t : Nd) {r : List Tk} (h : r.length ≤ n) : Agree n (.ok (t, r)) (.ok (t, r)) := ⟨rfl, fun _ _ e => by cases e; exact h⟩
theorem Agree.made {n : Nat} (t : Nd) {r : List Tk} (h : r.length ≤ n) : Agree n (made t r) (made t r) := by
  unfold Proofs.YtcndknkdhlmdnaaGreatDoor.made
  split
  · exact Agree.error n _
  · exact Agree.ok t h
theorem Agree.then {n m : Nat} {x y : Rd} {f g : Nd → List Tk → Rd} (h : Agree n x y) (hf : ∀ t r, r.length ≤ n → Agree m (f t r) (g t r)) : Agree m (x.then f) (y.then g) := by
  obtain ⟨rfl, hl⟩ := h
  cases x with
  | error e => exact Agree.error m e
  | ok p => obtain ⟨t, r⟩ := p; exact hf t r (hl t r rfl)
theorem Agree.want {m : Nat} {w : List UInt8} {l : List Tk} {f g : List Tk → Rd} (h : (stepL l).length + 1 = l.length → Agree m (f (stepL l)) (g (stepL l))) : Agree m (wantT w l f) (wantT w l g) := by
  unfold wantT
  split
  · rename_i c; exact h (isT_len c)
  · exact Agree.error m _
theorem Agree.kind {m : Nat} {k : Int} {l : List Tk} {f g : Tk → List Tk → Rd} (hk : k ≠ 0) (h : (stepL l).length + 1 = l.length → Agree m (f (hd l) (stepL l)) (g (hd l) (stepL l))) : Agree m (kindT k l f) (kindT k l g) := by
  unfold kindT
  split
  · rename_i c; exact h (step_len c hk)
  · exact Agree.error m _
theorem Agree.nest {m nest : Nat} {l : List Tk} {x y : Rd} (h : Agree m x y) : Agree m (nestT nest l x) (nestT nest l y) := by
  unfold nestT
  split
  · exact Agree.error m _
  · exact h
theorem Agree.ite {m : Nat} {c : Prop} [Decidable c] {x x' y y' : Rd} (h : c → Agree m x x') (h' : ¬ c → Agree m y y') : Agree m (if c then x else y) (if c then x' else y') := by
  split
  · rename_i g; exact h g
  · rename_i g; exact h' g
theorem Agree.mono {n m : Nat} {x y : Rd} (h : Agree n x y) (hn : n ≤ m) : Agree m x y := ⟨h.1, fun t r e => Nat.le_trans (h.2 t r e) hn⟩
theorem rank_lower (lv : Nat) : rank (lower lv) + 1 ≤ rank (.chain lv) := by
  unfold lower
  split
  · rename_i h; subst h; decide
  split
  · rename_i h; subst h; decide
  split
  · rename_i h; subst h; decide
  · rename_i h0 h1 h2
    show 3 + 1 ≤ (if lv = 0 then 8 else if lv = 1 then 7 else if lv = 2 then 5 else 4)
    rw [if_neg h0, if_neg h1, if_neg h2]
    exact Nat.le_refl _
theorem rank_chain (lv : Nat) : rank (.chain lv) ≤ 8 ∧ 4 ≤ rank (.chain lv) := by
  show (if lv = 0 then 8 else if lv = 1 then 7 else if lv = 2 then 5 else 4) ≤ 8 ∧ 4 ≤ (if lv = 0 then 8 else if lv = 1 then 7 else if lv = 2 then 5 else 4)
  split
  · omega
  split
  · omega
  split <;> omega
theorem rank_le (m : Md) : rank m ≤ 10 := by
  cases m with
  | chain lv => have := rank_chain lv; omega
  | expr => exact (by decide : (9 : Nat) ≤ 10)
  | loop lv t => exact (by decide : (1 : Nat) ≤ 10)
  | not => exact (by decide : (6 : Nat) ≤ 10)
  | unary => exact (by decide : (3 : Nat) ≤ 10)
  | atom => exact (by decide : (2 : Nat) ≤ 10)
  | args acc => exact Nat.le_refl 10
theorem body_agree {g h : Md → Nat → List Tk → Rd} (m : Md) (nest : Nat) (l : List Tk) (ih : ∀ m' nest' l', enough m' l' < enough m l → Agree l'.length (g m' nest' l') (h m' nest' l')) : Agree l.length (body g m nest l) (body h m nest l) := by
  have rk := rank_le
  unfold enough at ih
  cases m with
  | expr =>
    refine Agree.nest (Agree.ite (fun c => ?_) fun c => ?_)
    · have := isT_len c
      have e : rank .expr = 9 := rfl
      refine (ih _ _ _ (by rw [e]; omega)).then fun t r hr => Agree.want fun h1 => (ih _ _ _ (by rw [e]; omega)).then fun t r hr => Agree.want fun h1 => (ih _ _ _ (by rw [e]; omega)).then fun t r hr => Agree.made _ (by omega)
    · exact ih _ _ _ (by have : rank (.chain 0) = 8 := rfl; have e : rank .expr = 9 := rfl; omega)
  | chain lv =>
    have := rank_lower lv
    have h2 := rank_chain lv
    refine (ih _ _ _ (by omega)).then fun t r hr => (ih _ _ _ ?_).mono hr
    show 11 * r.length + 1 + 1 < _
    omega
  | loop lv t =>
    have e : rank (.loop lv t) = 1 := rfl
    refine Agree.ite (fun c => ?_) fun c => Agree.ok _ (Nat.le_refl _)
    have := anyT_len c
    have := rk (lower lv)
    refine (ih _ _ _ (by rw [e]; omega)).then fun u r hr => (Agree.made _ hr).then fun u r hr => (ih _ _ _ ?_).mono (by omega)
    show 11 * r.length + 1 + 1 < 11 * l.length + 1 + 1
    omega
  | not =>
    have e : rank .not = 6 := rfl
    refine Agree.ite (fun c => ?_) fun c => ?_
    · have := isT_len c
      exact Agree.nest ((ih _ _ _ (by omega)).then fun u r hr => Agree.made _ (by omega))
    · have e2 : rank (.chain 2) = 5 := rfl
      refine (ih _ _ _ (by rw [e, e2]; omega)).then fun a r hr => Agree.ite (fun c => ?_) fun c => Agree.ok _ hr
      have := anyT_len c
      exact (ih _ _ _ (by rw [e, e2]; omega)).then fun u r hr => Agree.made _ (by omega)
  | unary =>
    have e : rank .unary = 3 := rfl
    refine Agree.ite (fun c => ?_) fun c => ?_
    · have := isT_len c
      exact Agree.nest ((ih _ _ _ (by omega)).then fun u r hr => Agree.made _ (by omega))
    · have e2 : rank .atom = 2 := rfl
      exact ih _ _ _ (by omega)
  | atom =>
    have e : rank .atom = 2 := rfl
    have e2 : rank .expr = 9 := rfl
    have hl := stepL_le l
    refine Agree.ite (fun c => Agree.ok _ hl) fun _ => Agree.ite (fun c => Agree.ok _ hl) fun _ => Agree.ite (fun c => Agree.ok _ hl) fun _ => Agree.ite (fun c => ?_) fun _ => Agree.ite (fun c => Agree.ok _ hl) fun _ => Agree.ite (fun c => Agree.ok _ hl) fun _ =>
      Agree.ite (fun c => Agree.kind (by decide) fun h1 => Agree.ok _ (by omega)) fun _ => Agree.ite (fun c => ?_) fun _ => Agree.ite (fun c => ?_) fun _ => Agree.error _ _
    · refine Agree.ite (fun c' => ?_) fun c => Agree.ok _ hl
      have h0 : (stepL l).length + 1 = l.length := by rcases c with c | c <;> exact step_len c (by decide)
      have h1 := isT_len c'
      have e3 : rank (.args []) = 10 := rfl
      exact (ih _ _ _ (by rw [e, e3]; omega)).then fun a r hr => Agree.made _ (by omega)
    · have h0 := isT_len c
      exact Agree.kind (by decide) fun h1 => Agree.want fun h2 => (ih _ _ _ (by rw [e, e2]; omega)).then fun t r hr => Agree.want fun h3 => (ih _ _ _ (by rw [e, e2]; omega)).then fun t r hr => Agree.want fun h3 => (ih _ _ _ (by rw [e, e2]; omega)).then fun t r hr => Agree.want fun h3 => Agree.made _ (by omega)
    · have h0 := isT_len c
      exact (ih _ _ _ (by rw [e, e2]; omega)).then fun t r hr => Agree.want fun h3 => Agree.ok _ (by omega)
  | args acc =>
    have e : rank (.args acc) = 10 := rfl
    have e2 : rank .expr = 9 := rfl
    refine Agree.ite (fun c => Agree.error _ _) fun c => ?_
    refine (ih _ _ _ (by rw [e, e2]; omega)).then fun t r hr => Agree.ite (fun c => ?_) fun c => Agree.want fun h1 => Agree.ok _ (by omega)
    have := isT_len c
    exact (ih _ _ _ (by show 11 * (stepL r).length + 10 + 1 < 11 * l.length + 10 + 1; omega)).mono (by omega)
theorem runF_rd : ∀ (n : Nat) (m : Md) (nest : Nat) (l : List Tk), enough m l ≤ n → ∀ f, enough m l ≤ f → Agree l.length (runF f m nest l) (rd m nest l)
  | 0, m, _, l, h, _, _ => by unfold enough at h; omega
  | n + 1, m, nest, l, h, f, hf => by
    unfold rd
    obtain ⟨f', rfl⟩ : ∃ f', f = f' + 1 := ⟨f - 1, by unfold enough at hf; omega⟩
    obtain ⟨g, hg⟩ : ∃ g, enough m l = g + 1 := ⟨11 * l.length + rank m, rfl⟩
    rw [hg]
    refine body_agree m nest l fun m' nest' l' hl => ?_
    have h1 := runF_rd n m' nest' l' (by omega) f' (by omega)
    have h2 := runF_rd n m' nest' l' (by omega) g (by omega)
    exact ⟨h1.1.trans h2.1.symm, h1.2⟩
/-- the law of reading -/
theorem rd_eq (m : Md) (nest : Nat) (l : List Tk) : rd m nest l = body rd m nest l := by
  have h : rd m nest l = body (runF (11 * l.length + rank m)) m nest l := rfl
  rw [h]
  refine (body_agree m nest l fun m' nest' l' hl => ?_).1
  exact runF_rd _ m' nest' l' (Nat.le_refl _) _ (by unfold enough at hl; unfold enough; omega)
theorem rd_len (m : Md) (nest : Nat) (l : List Tk) {t : Nd} {r : List Tk} (h : rd m nest l = .ok (t, r)) : r.length ≤ l.length := (runF_rd _ m nest l (Nat.le_refl _) _ (Nat.le_refl _)).2 t r h
end Go.Proofs.YtcndknkdhlmdnaaGreatDoor
