/-
  Texts that the statements' proofs rest on, one behind another: Cal, DateLaw, Text, TextLaw, Node, NodeLaw, NodeV, Ord.
-/
import Derived.WalkKit
import Derived.Lib.ItoaNum
import Derived.Test.YtcndknkdhlmdnaaGreatDoorRows
import Derived.Lib.LaidTab
import Derived.Deep.RegionHeld3

/-
  Plain mathematics of the calendar (no program in sight): leap years, lengths of months, the number of a day, and that the number says the day.
-/
namespace Go.Proofs.YtcndknkdhlmdnaaGreatDoor.Cal

def lp (y : Int) : Bool := y % 4 == 0 && (y % 100 != 0 || y % 400 == 0)
def lpI (y : Int) : Int := if lp y then 1 else 0
theorem lpI_01 (y : Int) : lpI y = 0 ∨ lpI y = 1 := by unfold lpI; split <;> simp
theorem lpI_b (y : Int) : 0 ≤ lpI y ∧ lpI y ≤ 1 := by have := lpI_01 y; omega
/-- days ahead of a year, from 1900 on -/
def ahead (y : Int) : Int := 365 * (y - 1 - 1899) + (y - 1) / 4 - (y - 1) / 100 + (y - 1) / 400 - 460
theorem ahead_succ (y : Int) : ahead (y + 1) = ahead y + 365 + lpI y := by
  unfold ahead lpI lp
  by_cases a : y % 4 = 0 <;> by_cases b : y % 100 = 0 <;> by_cases c : y % 400 = 0 <;> simp [a, b, c] <;> omega
theorem ahead_bd {y : Int} (h : 1900 ≤ y) (h' : y ≤ 2100) : 0 ≤ ahead y ∧ ahead y ≤ 73049 := by unfold ahead; omega
/-- how many days a month has -/
def mlen (y m : Int) : Int := if m = 2 then 28 + lpI y else if m = 4 ∨ m = 6 ∨ m = 9 ∨ m = 11 then 30 else 31
theorem mlen_bd (y m : Int) : 28 ≤ mlen y m ∧ mlen y m ≤ 31 := by unfold mlen; have := lpI_b y; split <;> (try split) <;> omega
/-- days of a year ahead of a month -/
def cum (y m : Int) : Int :=
  if m ≤ 1 then 0 else if m ≤ 2 then 31 else lpI y + (if m ≤ 3 then 59 else if m ≤ 4 then 90 else if m ≤ 5 then 120 else if m ≤ 6 then 151 else if m ≤ 7 then 181 else if m ≤ 8 then 212 else if m ≤ 9 then 243 else if m ≤ 10 then 273 else if m ≤ 11 then 304 else if m ≤ 12 then 334 else 365)
theorem months_cases {m : Int} (h : 1 ≤ m) (h' : m ≤ 12) : m = 1 ∨ m = 2 ∨ m = 3 ∨ m = 4 ∨ m = 5 ∨ m = 6 ∨ m = 7 ∨ m = 8 ∨ m = 9 ∨ m = 10 ∨ m = 11 ∨ m = 12 := by omega
theorem cum_1 (y : Int) : cum y 1 = 0 := by simp [cum]
theorem cum_13 (y : Int) : cum y 13 = 365 + lpI y := by simp [cum]; omega
theorem cum_succ (y : Int) {m : Int} (h : 1 ≤ m) (h' : m ≤ 12) : cum y (m + 1) = cum y m + mlen y m := by
  rcases months_cases h h' with e | e | e | e | e | e | e | e | e | e | e | e <;> subst e <;> simp [cum, mlen] <;> omega
theorem cum_add (y : Int) (k : Nat) : ∀ m : Int, 1 ≤ m → m + k ≤ 13 → cum y m ≤ cum y (m + k) := by
  induction k with
  | zero => intro m _ _; have e : m + ((0 : Nat) : Int) = m := by omega
            rw [e]; exact Int.le_refl _
  | succ k ih =>
    intro m h h'
    have a := ih m h (by omega)
    have b := cum_succ y (show 1 ≤ m + k by omega) (by omega)
    have c := mlen_bd y (m + k)
    have e : m + ((k + 1 : Nat) : Int) = m + k + 1 := by omega
    rw [e]; omega
theorem cum_mono (y : Int) {m n : Int} (h0 : 1 ≤ m) (h : m ≤ n) (h1 : n ≤ 13) : cum y m ≤ cum y n := by
  have a := cum_add y (n - m).toNat m h0 (by omega)
  have e : m + ((n - m).toNat : Int) = n := by omega
  rwa [e] at a
theorem cum_bd (y : Int) {m : Int} (h : 1 ≤ m) (h' : m ≤ 13) : 0 ≤ cum y m ∧ cum y m ≤ 366 := by
  have a := cum_mono y (Int.le_refl 1) h h'
  have b := cum_mono y h h' (Int.le_refl 13)
  have c := lpI_b y
  rw [cum_1] at a
  rw [cum_13] at b
  omega
/-- a date that there is -/
def ok (y m d : Int) : Prop := 1900 ≤ y ∧ y ≤ 2099 ∧ 1 ≤ m ∧ m ≤ 12 ∧ 1 ≤ d ∧ d ≤ mlen y m
instance (y m d : Int) : Decidable (ok y m d) := by unfold ok; infer_instance
def num (y m d : Int) : Int := ahead y + cum y m + d - 1
theorem in_year {y m d : Int} (h : ok y m d) : 0 ≤ cum y m + d - 1 ∧ cum y m + d - 1 < 365 + lpI y := by
  obtain ⟨_, _, h3, h4, h5, h6⟩ := h
  have c := cum_succ y h3 h4
  have b := cum_bd y h3 (by omega)
  have e := cum_mono y (show 1 ≤ m + 1 by omega) (show m + 1 ≤ 13 by omega) (Int.le_refl 13)
  rw [cum_13] at e
  omega
theorem num_bd {y m d : Int} (h : ok y m d) : 0 ≤ num y m d ∧ num y m d ≤ 73048 := by
  have i := in_year h
  obtain ⟨h1, h2, -⟩ := h
  have a := ahead_bd h1 (by omega)
  have b := ahead_bd (show 1900 ≤ y + 1 by omega) (by omega)
  have s := ahead_succ y
  unfold num
  omega
end Go.Proofs.YtcndknkdhlmdnaaGreatDoor.Cal

/-
  Plain laws of days that are moved (no program in sight): sums of moves, a year of twelve months, later days stay later.
-/
namespace Go.Proofs.YtcndknkdhlmdnaaGreatDoor.Cal

end Go.Proofs.YtcndknkdhlmdnaaGreatDoor.Cal

/-
  Plain laws of a date's text (no program in sight): two digits, ten bytes, read back.
-/
namespace Go.Proofs.YtcndknkdhlmdnaaGreatDoor.Cal

/-- is a byte a digit? -/
def isDig (c : UInt8) : Bool := decide (48 ≤ (c.toNat : Int)) && decide ((c.toNat : Int) ≤ 57)
/-- the number of digits -/
def val (l : List UInt8) : Int := l.foldl (fun n c => 10 * n + ((c.toNat : Int) - 48)) 0
theorem val_snoc (l : List UInt8) (c : UInt8) : val (l ++ [c]) = 10 * val l + ((c.toNat : Int) - 48) := by unfold val; rw [List.foldl_append]; rfl
theorem val_bd {l : List UInt8} : l.all isDig = true → 0 ≤ val l ∧ val l < 10 ^ l.length := by
  suffices h : ∀ (l : List UInt8) (k : Nat) (n : Int), l.all isDig = true → 0 ≤ n → n < 10 ^ k → 0 ≤ l.foldl (fun n c => 10 * n + ((c.toNat : Int) - 48)) n ∧ l.foldl (fun n c => 10 * n + ((c.toNat : Int) - 48)) n < 10 ^ (k + l.length) by
    intro h0
    have := h l 0 0 h0 (by decide) (by decide)
    simpa [val] using this
  intro l
  induction l with
  | nil => intro k n _ h0 h1; simpa using ⟨h0, h1⟩
  | cons c l ih =>
    intro k n ha h0 h1
    simp only [List.all_cons, Bool.and_eq_true] at ha
    have hc : 48 ≤ (c.toNat : Int) ∧ (c.toNat : Int) ≤ 57 := by have := ha.1; unfold isDig at this; simpa using this
    have := ih (k + 1) (10 * n + ((c.toNat : Int) - 48)) ha.2 (by omega) (by rw [Int.pow_succ]; omega)
    rw [show k + 1 + l.length = k + (c :: l).length by simp; omega] at this
    exact this
/-- a part of a list -/
def seg (l : List UInt8) (lo hi : Nat) : List UInt8 := (l.drop lo).take (hi - lo)
theorem seg_nil (l : List UInt8) {lo hi : Nat} (h : hi ≤ lo) : seg l lo hi = [] := by unfold seg; rw [Nat.sub_eq_zero_of_le h, List.take_zero]
theorem seg_succ (l : List UInt8) {lo k : Nat} (h : lo ≤ k) (hk : k < l.length) : seg l lo (k + 1) = seg l lo k ++ [l[k]] := by
  unfold seg
  rw [show k + 1 - lo = (k - lo) + 1 by omega, List.take_succ_eq_append_getElem (by simp; omega), List.getElem_drop]
  congr 2
  congr 1
  omega
theorem seg_all (l : List UInt8) {lo hi : Nat} (hd : ∀ j (hj : j < l.length), lo ≤ j → j < hi → isDig l[j] = true) : (seg l lo hi).all isDig = true := by
  rw [List.all_eq_true]
  intro x hx
  unfold seg at hx
  obtain ⟨i, hi', rfl⟩ := List.getElem_of_mem hx
  rw [List.getElem_take, List.getElem_drop]
  simp only [List.length_take, List.length_drop] at hi'
  exact hd _ (by omega) (by omega) (by omega)
theorem seg_len (l : List UInt8) (lo hi : Nat) : (seg l lo hi).length ≤ hi - lo := by unfold seg; rw [List.length_take]; omega
theorem seg_bd (l : List UInt8) {lo hi : Nat} (h : hi ≤ lo + 4) (hd : ∀ j (hj : j < l.length), lo ≤ j → j < hi → isDig l[j] = true) : 0 ≤ val (seg l lo hi) ∧ val (seg l lo hi) < 10000 := by
  have a := val_bd (seg_all l hd)
  have b := seg_len l lo hi
  refine ⟨a.1, Int.lt_of_lt_of_le a.2 ?_⟩
  generalize (seg l lo hi).length = n at *
  have c : n = 0 ∨ n = 1 ∨ n = 2 ∨ n = 3 ∨ n = 4 := by omega
  rcases c with e | e | e | e | e <;> subst e <;> decide
/-- is a byte what a date's text has at its place? -/
def fits (k : Nat) (c : UInt8) : Bool := if k = 4 ∨ k = 7 then decide ((c.toNat : Int) = 45) else isDig c
theorem fits_dig {k : Nat} {c : UInt8} (h4 : k ≠ 4) (h7 : k ≠ 7) : fits k c = isDig c := by unfold fits; rw [if_neg (by omega)]
theorem fits_dash {k : Nat} {c : UInt8} (h : k = 4 ∨ k = 7) : fits k c = decide ((c.toNat : Int) = 45) := by unfold fits; rw [if_pos h]
end Go.Proofs.YtcndknkdhlmdnaaGreatDoor.Cal

/-
  Plain laws of dates' texts (no program in sight): a date's text is read as that date; later days have later texts.
-/
namespace Go.Proofs.YtcndknkdhlmdnaaGreatDoor.Cal

end Go.Proofs.YtcndknkdhlmdnaaGreatDoor.Cal

/-
  Trees of the contract language as data, and what it is for memory to hold one.
-/
namespace Go.Proofs.YtcndknkdhlmdnaaGreatDoor
open Go.RowKit

/-- a node of a tree -/
inductive Nd where
  | mk (kind : Int) (text : ByteArray) (n : Int) (kids : List Nd) (place : Int)
def Nd.kind : Nd → Int | .mk k _ _ _ _ => k
def Nd.text : Nd → ByteArray | .mk _ s _ _ _ => s
def Nd.n : Nd → Int | .mk _ _ n _ _ => n
def Nd.kids : Nd → List Nd | .mk _ _ _ ks _ => ks
def Nd.place : Nd → Int | .mk _ _ _ _ p => p
mutual
/-- memory below n₀ holds a tree, whose kids lie at a -/
def Nd.hold (n₀ : Nat) (W : World) : Nd → Option Addr → Nat → Prop
  | .mk kind s n ks p, a, cap => (Lit.int .i64 kind).wf = true ∧ s.size ≤ maxLen ∧ (Lit.int .i64 n).wf = true ∧ (Lit.int .i64 p).wf = true ∧ ks.length ≤ cap ∧ cap ≤ maxLen ∧ Nd.holds n₀ W ks a 0
def Nd.holds (n₀ : Nat) (W : World) : List Nd → Option Addr → Nat → Prop
  | [], _, _ => True
  | .mk kind s n ks p :: r, a, i => (∃ b off a' cap', a = some ⟨b, off, none⟩ ∧ b < n₀ ∧ W.cell? ⟨b, off + i * 5, none⟩ = some (.int .i64 kind) ∧ W.cell? ⟨b, off + i * 5 + 1, none⟩ = some (.string s) ∧
      W.cell? ⟨b, off + i * 5 + 2, none⟩ = some (.int .i64 n) ∧ W.cell? ⟨b, off + i * 5 + 3, none⟩ = some (.slice a' ks.length cap') ∧ W.cell? ⟨b, off + i * 5 + 4, none⟩ = some (.int .i64 p) ∧ Nd.hold n₀ W (.mk kind s n ks p) a' cap') ∧ Nd.holds n₀ W r a (i + 1)
end

mutual
theorem Nd.hold.below {n₀ : Nat} {A B : World} (h : Below n₀ A B) : ∀ (t : Nd) {a : Option Addr} {cap : Nat}, t.hold n₀ A a cap → t.hold n₀ B a cap
  | .mk _ _ _ ks _, _, _, ⟨h1, h2, h3, h4, h5, h6, h7⟩ => ⟨h1, h2, h3, h4, h5, h6, Nd.holds.below h ks h7⟩
theorem Nd.holds.below {n₀ : Nat} {A B : World} (h : Below n₀ A B) : ∀ (ts : List Nd) {a : Option Addr} {i : Nat}, Nd.holds n₀ A ts a i → Nd.holds n₀ B ts a i
  | [], _, _, _ => trivial
  | .mk kind s n ks p :: r, _, i, ⟨⟨b, off, a', cap', ha, hb, c0, c1, c2, c3, c4, hk⟩, hr⟩ =>
    ⟨⟨b, off, a', cap', ha, hb, (h.cell (p := ⟨b, off + i * 5, none⟩) hb).trans c0, (h.cell (p := ⟨b, off + i * 5 + 1, none⟩) hb).trans c1, (h.cell (p := ⟨b, off + i * 5 + 2, none⟩) hb).trans c2, (h.cell (p := ⟨b, off + i * 5 + 3, none⟩) hb).trans c3, (h.cell (p := ⟨b, off + i * 5 + 4, none⟩) hb).trans c4, Nd.hold.below h (.mk kind s n ks p) hk⟩, Nd.holds.below h r hr⟩
end
mutual
theorem Nd.hold.mono {n₀ n₁ : Nat} {W : World} (h : n₀ ≤ n₁) : ∀ (t : Nd) {a : Option Addr} {cap : Nat}, t.hold n₀ W a cap → t.hold n₁ W a cap
  | .mk _ _ _ ks _, _, _, ⟨h1, h2, h3, h4, h5, h6, h7⟩ => ⟨h1, h2, h3, h4, h5, h6, Nd.holds.mono h ks h7⟩
theorem Nd.holds.mono {n₀ n₁ : Nat} {W : World} (h : n₀ ≤ n₁) : ∀ (ts : List Nd) {a : Option Addr} {i : Nat}, Nd.holds n₀ W ts a i → Nd.holds n₁ W ts a i
  | [], _, _, _ => trivial
  | .mk kind s n ks p :: r, _, _, ⟨⟨b, off, a', cap', ha, hb, c0, c1, c2, c3, c4, hk⟩, hr⟩ =>
    ⟨⟨b, off, a', cap', ha, Nat.lt_of_lt_of_le hb h, c0, c1, c2, c3, c4, Nd.hold.mono h (.mk kind s n ks p) hk⟩, Nd.holds.mono h r hr⟩
end
/-- a node, as the program's value -/
def Nd.val (t : Nd) (a : Option Addr) (cap : Nat) : Value := .agg #[.int .i64 t.kind, .string t.text, .int .i64 t.n, .slice a t.kids.length cap, .int .i64 t.place]
/-- what memory holds at a kid's place -/
structure Nd.At (n₀ : Nat) (W : World) (a : Option Addr) (i : Nat) (t : Nd) (b off : Nat) (a' : Option Addr) (cap' : Nat) : Prop where
  addr : a = some ⟨b, off, none⟩
  lt : b < n₀
  c0 : W.cell? ⟨b, off + i * 5, none⟩ = some (.int .i64 t.kind)
  c1 : W.cell? ⟨b, off + i * 5 + 1, none⟩ = some (.string t.text)
  c2 : W.cell? ⟨b, off + i * 5 + 2, none⟩ = some (.int .i64 t.n)
  c3 : W.cell? ⟨b, off + i * 5 + 3, none⟩ = some (.slice a' t.kids.length cap')
  c4 : W.cell? ⟨b, off + i * 5 + 4, none⟩ = some (.int .i64 t.place)
  held : t.hold n₀ W a' cap'
theorem Nd.holds.at {n₀ : Nat} {W : World} {a : Option Addr} : ∀ (ts : List Nd) (i : Nat), Nd.holds n₀ W ts a i → ∀ j (hj : j < ts.length), ∃ b off a' cap', Nd.At n₀ W a (i + j) ts[j] b off a' cap'
  | .mk kind s n ks p :: r, i, ⟨⟨b, off, a', cap', ha, hb, c0, c1, c2, c3, c4, hk⟩, hr⟩, j, hj => by
    cases j with
    | zero => exact ⟨b, off, a', cap', ha, hb, c0, c1, c2, c3, c4, hk⟩
    | succ j =>
      have := Nd.holds.at r (i + 1) hr j (by simpa using hj)
      rw [show i + (j + 1) = i + 1 + j by omega]
      exact this
theorem Nd.hold.kid {n₀ : Nat} {W : World} {t : Nd} {a : Option Addr} {cap : Nat} (h : t.hold n₀ W a cap) (j : Nat) (hj : j < t.kids.length) : ∃ b off a' cap', Nd.At n₀ W a j t.kids[j] b off a' cap' := by
  cases t with
  | mk kind s n ks p =>
    have := Nd.holds.at ks 0 h.2.2.2.2.2.2 j hj
    rw [Nat.zero_add] at this
    exact this
theorem Nd.hold.bounds {n₀ : Nat} {W : World} {t : Nd} {a : Option Addr} {cap : Nat} (h : t.hold n₀ W a cap) : (Lit.int .i64 t.kind).wf = true ∧ t.text.size ≤ maxLen ∧ (Lit.int .i64 t.n).wf = true ∧ (Lit.int .i64 t.place).wf = true ∧ t.kids.length ≤ cap ∧ cap ≤ maxLen := by
  cases t with
  | mk kind s n ks p => exact ⟨h.1, h.2.1, h.2.2.1, h.2.2.2.1, h.2.2.2.2.1, h.2.2.2.2.2.1⟩
end Go.Proofs.YtcndknkdhlmdnaaGreatDoor

/-
  Plain laws of trees: how many nodes, and which are the same.
-/
namespace Go.Proofs.YtcndknkdhlmdnaaGreatDoor

mutual
/-- how many of so many nodes are left behind a tree's; below 0: it has more -/
def leftN : Nd → Int → Int
  | .mk _ _ _ ks _, m => leftKs ks (m - 1)
def leftKs : List Nd → Int → Int
  | [], m => m
  | k :: ks, m => if 0 ≤ m then leftKs ks (leftN k m) else m
end
/-- has a tree at most 8192 nodes? -/
def smallN (t : Nd) : Bool := decide (0 ≤ leftN t 8192)
mutual
/-- how many nodes a tree has -/
def nodesN : Nd → Nat
  | .mk _ _ _ ks _ => nodesKs ks + 1
def nodesKs : List Nd → Nat
  | [] => 0
  | k :: ks => nodesN k + nodesKs ks
end
mutual
/-- the same but for places -/
def sameN : Nd → Nd → Bool
  | .mk k s n ks _, u => k == u.kind && s.toList == u.text.toList && n == u.n && sameKs ks u.kids
def sameKs : List Nd → List Nd → Bool
  | [], l => l.isEmpty
  | _ :: _, [] => false
  | a :: r, b :: l => sameN a b && sameKs r l
end

theorem nkid_size {kind n p : Int} {s : ByteArray} {ks : List Nd} {N k : Nat} (hk : k < ks.length) (h : SizeOf.sizeOf (Nd.mk kind s n ks p) < N + 1) : SizeOf.sizeOf ks[k] < N := by
  have := List.sizeOf_lt_of_mem (List.getElem_mem hk)
  simp only [Nd.mk.sizeOf_spec] at h
  omega
theorem sameKs_length : ∀ (l r : List Nd), sameKs l r = true → l.length = r.length
  | [], l, h => by rw [sameKs, List.isEmpty_iff] at h; rw [h]
  | _ :: _, [], h => by rw [sameKs] at h; cases h
  | a :: r, b :: l, h => by
    rw [sameKs, Bool.and_eq_true] at h
    rw [List.length_cons, List.length_cons, sameKs_length r l h.2]
theorem sameKs_step (l r : List Nd) (k : Nat) (hl : k < l.length) (hr : k < r.length) : sameKs (l.drop k) (r.drop k) = (sameN l[k] r[k] && sameKs (l.drop (k + 1)) (r.drop (k + 1))) := by
  rw [List.drop_eq_getElem_cons hl, List.drop_eq_getElem_cons hr, sameKs]
theorem sameKs_end (l r : List Nd) (k : Nat) (hl : ¬ k < l.length) (hr : ¬ k < r.length) : sameKs (l.drop k) (r.drop k) = true := by
  rw [List.drop_of_length_le (by omega), List.drop_of_length_le (by omega), sameKs]; rfl
theorem sameN_eq (a b : Nd) : sameN a b = (a.kind == b.kind && a.text.toList == b.text.toList && a.n == b.n && sameKs a.kids b.kids) := by
  cases a with
  | mk k s n ks p => rw [sameN]; rfl
end Go.Proofs.YtcndknkdhlmdnaaGreatDoor

/-
  Trees that lie in blocks of some kind.
-/
namespace Go.Proofs.YtcndknkdhlmdnaaGreatDoor
open Go.RowKit

mutual
/-- memory holds a tree in blocks of av, whose kids lie at a -/
def Nd.lies (av : Nat → Prop) (W : World) : Nd → Option Addr → Nat → Prop
  | .mk kind s n ks p, a, cap => (Lit.int .i64 kind).wf = true ∧ s.size ≤ maxLen ∧ (Lit.int .i64 n).wf = true ∧ (Lit.int .i64 p).wf = true ∧ ks.length ≤ cap ∧ cap ≤ maxLen ∧ Nd.lie av W ks a 0
def Nd.lie (av : Nat → Prop) (W : World) : List Nd → Option Addr → Nat → Prop
  | [], _, _ => True
  | .mk kind s n ks p :: r, a, i => (∃ b off a' cap', a = some ⟨b, off, none⟩ ∧ av b ∧ W.cell? ⟨b, off + i * 5, none⟩ = some (.int .i64 kind) ∧ W.cell? ⟨b, off + i * 5 + 1, none⟩ = some (.string s) ∧
      W.cell? ⟨b, off + i * 5 + 2, none⟩ = some (.int .i64 n) ∧ W.cell? ⟨b, off + i * 5 + 3, none⟩ = some (.slice a' ks.length cap') ∧ W.cell? ⟨b, off + i * 5 + 4, none⟩ = some (.int .i64 p) ∧ Nd.lies av W (.mk kind s n ks p) a' cap') ∧ Nd.lie av W r a (i + 1)
end
mutual
theorem Nd.lies.kept {av av' : Nat → Prop} {A B : World} (h : ∀ b, av b → av' b ∧ ∀ o, B.cell? ⟨b, o, none⟩ = A.cell? ⟨b, o, none⟩) : ∀ (t : Nd) {a : Option Addr} {cap : Nat}, t.lies av A a cap → t.lies av' B a cap
  | .mk _ _ _ ks _, _, _, ⟨h1, h2, h3, h4, h5, h6, h7⟩ => ⟨h1, h2, h3, h4, h5, h6, Nd.lie.kept h ks h7⟩
theorem Nd.lie.kept {av av' : Nat → Prop} {A B : World} (h : ∀ b, av b → av' b ∧ ∀ o, B.cell? ⟨b, o, none⟩ = A.cell? ⟨b, o, none⟩) : ∀ (ts : List Nd) {a : Option Addr} {i : Nat}, Nd.lie av A ts a i → Nd.lie av' B ts a i
  | [], _, _, _ => trivial
  | .mk kind s n ks p :: r, _, _, ⟨⟨b, off, a', cap', ha, hb, c0, c1, c2, c3, c4, hk⟩, hr⟩ =>
    ⟨⟨b, off, a', cap', ha, (h b hb).1, ((h b hb).2 _).trans c0, ((h b hb).2 _).trans c1, ((h b hb).2 _).trans c2, ((h b hb).2 _).trans c3, ((h b hb).2 _).trans c4, Nd.lies.kept h (.mk kind s n ks p) hk⟩, Nd.lie.kept h r hr⟩
end
mutual
theorem Nd.lies.hold {n₀ : Nat} {W : World} : ∀ (t : Nd) {a : Option Addr} {cap : Nat}, t.lies (· < n₀) W a cap → t.hold n₀ W a cap
  | .mk _ _ _ ks _, _, _, ⟨h1, h2, h3, h4, h5, h6, h7⟩ => ⟨h1, h2, h3, h4, h5, h6, Nd.lie.holds ks h7⟩
theorem Nd.lie.holds {n₀ : Nat} {W : World} : ∀ (ts : List Nd) {a : Option Addr} {i : Nat}, Nd.lie (· < n₀) W ts a i → Nd.holds n₀ W ts a i
  | [], _, _, _ => trivial
  | .mk kind s n ks p :: r, _, _, ⟨⟨b, off, a', cap', ha, hb, c0, c1, c2, c3, c4, hk⟩, hr⟩ =>
    ⟨⟨b, off, a', cap', ha, hb, c0, c1, c2, c3, c4, Nd.lies.hold (.mk kind s n ks p) hk⟩, Nd.lie.holds r hr⟩
end
/-- what memory holds at a kid's place -/
structure Nd.LieAt (av : Nat → Prop) (W : World) (a : Option Addr) (i : Nat) (t : Nd) (b off : Nat) (a' : Option Addr) (cap' : Nat) : Prop where
  addr : a = some ⟨b, off, none⟩
  ok : av b
  c0 : W.cell? ⟨b, off + i * 5, none⟩ = some (.int .i64 t.kind)
  c1 : W.cell? ⟨b, off + i * 5 + 1, none⟩ = some (.string t.text)
  c2 : W.cell? ⟨b, off + i * 5 + 2, none⟩ = some (.int .i64 t.n)
  c3 : W.cell? ⟨b, off + i * 5 + 3, none⟩ = some (.slice a' t.kids.length cap')
  c4 : W.cell? ⟨b, off + i * 5 + 4, none⟩ = some (.int .i64 t.place)
  held : t.lies av W a' cap'
theorem Nd.lie.at {av : Nat → Prop} {W : World} {a : Option Addr} : ∀ (ts : List Nd) (i : Nat), Nd.lie av W ts a i → ∀ j (hj : j < ts.length), ∃ b off a' cap', Nd.LieAt av W a (i + j) ts[j] b off a' cap'
  | .mk kind s n ks p :: r, i, ⟨⟨b, off, a', cap', ha, hb, c0, c1, c2, c3, c4, hk⟩, hr⟩, j, hj => by
    cases j with
    | zero => exact ⟨b, off, a', cap', ha, hb, c0, c1, c2, c3, c4, hk⟩
    | succ j =>
      have := Nd.lie.at r (i + 1) hr j (by simpa using hj)
      rw [show i + (j + 1) = i + 1 + j by omega]
      exact this
theorem Nd.lie.of {av : Nat → Prop} {W : World} {a : Option Addr} : ∀ (ts : List Nd) (i : Nat), (∀ j (hj : j < ts.length), ∃ b off a' cap', Nd.LieAt av W a (i + j) ts[j] b off a' cap') → Nd.lie av W ts a i
  | [], _, _ => trivial
  | .mk kind s n ks p :: r, i, h => by
    obtain ⟨b, off, a', cap', ha, hb, c0, c1, c2, c3, c4, hk⟩ := h 0 (by simp)
    refine ⟨⟨b, off, a', cap', ha, hb, c0, c1, c2, c3, c4, hk⟩, Nd.lie.of r (i + 1) fun j hj => ?_⟩
    have := h (j + 1) (by simpa using hj)
    rw [show i + (j + 1) = i + 1 + j by omega] at this
    exact this
theorem Nd.lies.kid {av : Nat → Prop} {W : World} {t : Nd} {a : Option Addr} {cap : Nat} (h : t.lies av W a cap) (j : Nat) (hj : j < t.kids.length) : ∃ b off a' cap', Nd.LieAt av W a j t.kids[j] b off a' cap' := by
  cases t with
  | mk kind s n ks p =>
    have := Nd.lie.at ks 0 h.2.2.2.2.2.2 j hj
    rw [Nat.zero_add] at this
    exact this
theorem Nd.lies.bounds {av : Nat → Prop} {W : World} {t : Nd} {a : Option Addr} {cap : Nat} (h : t.lies av W a cap) : (Lit.int .i64 t.kind).wf = true ∧ t.text.size ≤ maxLen ∧ (Lit.int .i64 t.n).wf = true ∧ (Lit.int .i64 t.place).wf = true ∧ t.kids.length ≤ cap ∧ cap ≤ maxLen := by
  cases t with
  | mk kind s n ks p => exact ⟨h.1, h.2.1, h.2.2.1, h.2.2.2.1, h.2.2.2.2.1, h.2.2.2.2.2.1⟩
/-- a node of kids that lie -/
theorem Nd.lies.mk' {av : Nat → Prop} {W : World} {k n p : Int} {s : ByteArray} {ks : List Nd} {a : Option Addr} {cap : Nat} (hk : (Lit.int .i64 k).wf = true) (hs : s.size ≤ maxLen) (hn : (Lit.int .i64 n).wf = true) (hp : (Lit.int .i64 p).wf = true) (hl : ks.length ≤ cap) (hc : cap ≤ maxLen) (h : Nd.lie av W ks a 0) :
    Nd.lies av W (.mk k s n ks p) a cap := ⟨hk, hs, hn, hp, hl, hc, h⟩
end Go.Proofs.YtcndknkdhlmdnaaGreatDoor

/-
  A region that draws its order, whose last operation stores into a cell that the region loads: a load may be taken first under a condition that is held till that store.
-/
namespace Go.Proofs.YtcndknkdhlmdnaaGreatDoor
section
variable {Pr : Program} {ops : Array Oper} {Q : Exit → Act → World → Prop} {md : Region.Mode} {S : World → Prop}
/-- whatever comes up; the condition holds behind each but operation z -/
def AnyTill (Pr : Program) (md : Region.Mode) (ops : Array Oper) (Q : Exit → Act → World → Prop) (S : World → Prop) (z : Nat) : Nat → Array Bool → Act → World → Prop
  | 0, listed, a, w => Region.ready md ops listed = [] ∧ Q .normal a w
  | n + 1, listed, a, w => (Region.ready md ops listed = [] → Q .normal a w) ∧
    ∀ i ∈ Region.ready md ops listed, wpOp Pr ops Q i (fun a' w' => (i ≠ z → S w') ∧ AnyTill Pr md ops Q S z n (listed.setIfInBounds i true) a' w') a w
theorem AnyTill.any {z : Nat} : ∀ (n : Nat) (listed : Array Bool) (a : Act) (w : World), AnyTill Pr md ops Q S z n listed a w → wpAny Pr md ops Q n listed a w
  | 0, _, _, _, h => h
  | n + 1, _, _, _, h => ⟨h.1, fun i hi => wpOp_mono (fun a' w' h' => AnyTill.any n _ a' w' h'.2) (h.2 i hi)⟩
/-- operation z waits for operation i -/
def Waits (md : Region.Mode) (ops : Array Oper) (z i : Nat) : Bool := match ops[z]? with
  | some o => o.after.any fun e => Region.binds md e && e.on == i
  | none => false
theorem Waits.not_ready {z i : Nat} {listed : Array Bool} (h : Waits md ops z i = true) (hi : listed.getD i true = false) : z ∉ Region.ready md ops listed := by
  intro hz
  obtain ⟨-, o, ho, hall⟩ := mem_ready.1 hz
  unfold Waits at h
  rw [ho] at h
  simp only [Array.any_eq_true, Bool.and_eq_true, beq_iff_eq] at h
  obtain ⟨j, hj, hb, he⟩ := h
  have h2 := hall _ (Array.getElem_mem hj) hb
  rw [he] at h2
  rcases Nat.lt_or_ge i listed.size with g | g
  · simp [g] at hi h2
    rw [hi] at h2; cases h2
  · simp [Array.getElem?_eq_none g] at h2
theorem AnyTill.first {i z : Nat} {oi : Oper} {v : Value} (hi : ops[i]? = some oi) (hsel : ∀ (j : Nat) (o : Oper) cs b, ops[j]? = some o → o.op ≠ .select cs b) (hiz : i ≠ z) (hz : Waits md ops z i = true)
    (hQ : ∀ c a w, Q (.panic c) (a.put oi.dst v) w → Q (.panic c) a w) : ∀ (n : Nat) (listed : Array Bool) (a : Act) (w : World),
      (∀ j oj, ops[j]? = some oj → j ≠ i → listed.getD j true = false → (∀ e ∈ oj.after, Region.binds md e = true → e.on ≠ i) → oi.apart ops oj = true) →
      i ∈ Region.ready md ops listed → YieldsIf Pr ops S oi v a → S w →
      AnyTill Pr md ops Q S z n (listed.setIfInBounds i true) (a.put oi.dst v) w → AnyTill Pr md ops Q S z (n + 1) listed a w
  | 0, listed, a, w, _, hr, hy, hS, H => by
    refine ⟨fun h => (by rw [h] at hr; cases hr), fun j hj => ?_⟩
    by_cases hji : j = i
    · subst hji; exact hy.wpOp hi hS ⟨fun _ => hS, H⟩
    · have := ready_mono hj hji
      rw [H.1] at this
      cases this
  | n + 1, listed, a, w, hfree, hr, hy, hS, H => by
    have hun := (mem_ready.1 hr).1
    refine ⟨fun h => (by rw [h] at hr; cases hr), fun j hj => ?_⟩
    by_cases hji : j = i
    · subst hji; exact hy.wpOp hi hS ⟨fun _ => hS, H⟩
    · have hjz : j ≠ z := fun e => Waits.not_ready hz hun (e ▸ hj)
      obtain ⟨hjun, oj, hoj, hall⟩ := mem_ready.1 hj
      have hno : ∀ e ∈ oj.after, Region.binds md e = true → e.on ≠ i := fun e he hb heq => by
        have h1 := hall e he hb
        rw [heq] at h1
        rcases Nat.lt_or_ge i listed.size with g | g
        · simp [g] at hun h1; rw [hun] at h1; cases h1
        · simp [Array.getElem?_eq_none g] at h1
      have h2 := wpOp_putIf hoj (hfree j oj hoj hji hjun hno) (fun cs b => hsel i oi cs b hi) (fun cs b => hsel j oj cs b hoj) hQ hy (H.2 j (ready_mono hj hji))
      refine wpOp_mono (fun a' w' h3 => ⟨h3.2.1, AnyTill.first hi hsel hiz hz hQ n (listed.setIfInBounds j true) a' w' (fun k ok hk hki hku hkn => ?_) (ready_mono hr (Ne.symm hji)) h3.1 (h3.2.1 hjz) ?_⟩) h2
      · refine hfree k ok hk hki ?_ hkn
        by_cases hjk : j = k
        · subst hjk; exact hjun
        · rw [getD_set_ne true hjk] at hku; exact hku
      · rw [Array.setIfInBounds_comm _ _ hji]
        exact h3.2.2
theorem AnyTill.take {i z : Nat} {oi : Oper} {v : Value} {n : Nat} {listed : Array Bool} {a : Act} {w : World} (hi : ops[i]? = some oi) (hs : Region.noSelect ops = true) (hf : Region.free md ops listed i = true) (hr : (Region.ready md ops listed).contains i = true) (hz : (decide (i ≠ z) && Waits md ops z i) = true)
    (hQ : ∀ c a w, Q (.panic c) (a.put oi.dst v) w → Q (.panic c) a w) (hy : YieldsIf Pr ops S oi v a) (hS : S w) (h : AnyTill Pr md ops Q S z n (listed.setIfInBounds i true) (a.put oi.dst v) w) : AnyTill Pr md ops Q S z (n + 1) listed a w := by
  simp only [Bool.and_eq_true, decide_eq_true_eq] at hz
  exact AnyTill.first hi (Region.noSelect_spec hs) hz.1 hz.2 hQ n listed a w (Region.free_spec hi hf) (by simpa using hr) hy hS h
/-- the one that comes up next -/
theorem AnyTill.next {i z : Nat} {o : Oper} {n : Nat} {listed : Array Bool} {a : Act} {w : World} (hr : Region.ready md ops listed = [i]) (ho : ops[i]? = some o) (hiz : i ≠ z)
    (h : ∀ K' : Act → World → Prop, Shut (∀ a w, S w → (S w → AnyTill Pr md ops Q S z n (listed.setIfInBounds i true) a w) → K' a w) → if Region.wanted o (yielded ops a.tmps) = true then Oper.wp Pr o a w K' Q else K' (a.put o.dst undef) w) : AnyTill Pr md ops Q S z (n + 1) listed a w :=
  ⟨fun h0 => (by rw [h0] at hr; cases hr), fun j hj => by
    rw [hr] at hj
    obtain rfl := List.mem_singleton.1 hj
    exact wpOp_step ho fun K' hK => h K' fun a w hS hW => hK a w ⟨fun _ => hS, hW hS⟩⟩
/-- either of two that may come up next -/
theorem AnyTill.two {i j z : Nat} {oi oj : Oper} {n : Nat} {listed : Array Bool} {a : Act} {w : World} (hr : Region.ready md ops listed = [i, j]) (hoi : ops[i]? = some oi) (hoj : ops[j]? = some oj) (hiz : i ≠ z) (hjz : j ≠ z)
    (hi : ∀ K' : Act → World → Prop, Shut (∀ a w, S w → (S w → AnyTill Pr md ops Q S z n (listed.setIfInBounds i true) a w) → K' a w) → if Region.wanted oi (yielded ops a.tmps) = true then Oper.wp Pr oi a w K' Q else K' (a.put oi.dst undef) w)
    (hj : ∀ K' : Act → World → Prop, Shut (∀ a w, S w → (S w → AnyTill Pr md ops Q S z n (listed.setIfInBounds j true) a w) → K' a w) → if Region.wanted oj (yielded ops a.tmps) = true then Oper.wp Pr oj a w K' Q else K' (a.put oj.dst undef) w) : AnyTill Pr md ops Q S z (n + 1) listed a w :=
  ⟨fun h0 => (by rw [h0] at hr; cases hr), fun k hk => by
    rw [hr] at hk
    rcases List.mem_cons.1 hk with rfl | hk
    · exact wpOp_step hoi fun K' hK => hi K' fun a w hS hW => hK a w ⟨fun _ => hS, hW hS⟩
    · obtain rfl := List.mem_singleton.1 hk
      exact wpOp_step hoj fun K' hK => hj K' fun a w hS hW => hK a w ⟨fun _ => hS, hW hS⟩⟩
/-- the last one -/
theorem AnyTill.last {z : Nat} {o : Oper} {n : Nat} {listed : Array Bool} {a : Act} {w : World} (hr : Region.ready md ops listed = [z]) (ho : ops[z]? = some o) (he : Region.ready md ops (listed.setIfInBounds z true) = [])
    (h : ∀ K' : Act → World → Prop, Shut (∀ a w, Q .normal a w → K' a w) → if Region.wanted o (yielded ops a.tmps) = true then Oper.wp Pr o a w K' Q else K' (a.put o.dst undef) w) : AnyTill Pr md ops Q S z (n + 1) listed a w :=
  ⟨fun h0 => (by rw [h0] at hr; cases hr), fun j hj => by
    rw [hr] at hj
    obtain rfl := List.mem_singleton.1 hj
    refine wpOp_step ho fun K' hK => h K' fun a w hq => hK a w ⟨fun e => absurd rfl e, ?_⟩
    cases n with
    | zero => exact ⟨he, hq⟩
    | succ n => exact ⟨fun _ => hq, by rw [he]; simp⟩⟩
theorem wp_region_till {id z : Nat} {a : Act} {w : World} (hm : Pr.follows .mixedOrders = true) (hS : S w.drew) (h : S w.drew → AnyTill Pr .any ops Q S z ops.size (Array.replicate ops.size false) a w.drew) : (Code.region id ops true).wp Pr Q a w :=
  wp_region_any hm (AnyTill.any _ _ _ _ (h hS))
end

end Go.Proofs.YtcndknkdhlmdnaaGreatDoor
