/-
  Texts that the statements' proofs rest on, one behind another: Node, NodeLaw, NodeV, Names, Nums.
-/
import Derived.Test.YtcndknkdhlmdnaaGreatDoorRows
import Derived.WalkKit
import Derived.Lib.LaidTab
import Derived.Lib.SlTrimSet
import Derived.Lib.Strings

/-
  Trees of the contract language as data, and what it is for memory to hold one.
-/
namespace Go.Proofs.YtcndknkdhlmdnaaGreatDoor
open Go.RowKit

/-- a node of a tree -/
inductive Nd where
  | mk (kind : Int) (text : ByteArray) (n : Int) (kids : List Nd) (place : Int)
def Nd.kind : Nd → Int | .mk k _ _ _ _ => k
def Nd.text : Nd → ByteArray | .mk _ s _ _ _ => s
def Nd.n : Nd → Int | .mk _ _ n _ _ => n
def Nd.kids : Nd → List Nd | .mk _ _ _ ks _ => ks
def Nd.place : Nd → Int | .mk _ _ _ _ p => p

mutual
/-- memory below n₀ holds a tree, whose kids lie at a -/
def Nd.hold (n₀ : Nat) (W : World) : Nd → Option Addr → Nat → Prop
  | .mk kind s n ks p, a, cap => (Lit.int .i64 kind).wf = true ∧ s.size ≤ maxLen ∧ (Lit.int .i64 n).wf = true ∧ (Lit.int .i64 p).wf = true ∧ ks.length ≤ cap ∧ cap ≤ maxLen ∧ Nd.holds n₀ W ks a 0
def Nd.holds (n₀ : Nat) (W : World) : List Nd → Option Addr → Nat → Prop
  | [], _, _ => True
  | .mk kind s n ks p :: r, a, i => (∃ b off a' cap', a = some ⟨b, off, none⟩ ∧ b < n₀ ∧ W.cell? ⟨b, off + i * 5, none⟩ = some (.int .i64 kind) ∧ W.cell? ⟨b, off + i * 5 + 1, none⟩ = some (.string s) ∧
      W.cell? ⟨b, off + i * 5 + 2, none⟩ = some (.int .i64 n) ∧ W.cell? ⟨b, off + i * 5 + 3, none⟩ = some (.slice a' ks.length cap') ∧ W.cell? ⟨b, off + i * 5 + 4, none⟩ = some (.int .i64 p) ∧ Nd.hold n₀ W (.mk kind s n ks p) a' cap') ∧ Nd.holds n₀ W r a (i + 1)
end

mutual
theorem Nd.hold.below {n₀ : Nat} {A B : World} (h : Below n₀ A B) : ∀ (t : Nd) {a : Option Addr} {cap : Nat}, t.hold n₀ A a cap → t.hold n₀ B a cap
  | .mk _ _ _ ks _, _, _, ⟨h1, h2, h3, h4, h5, h6, h7⟩ => ⟨h1, h2, h3, h4, h5, h6, Nd.holds.below h ks h7⟩
theorem Nd.holds.below {n₀ : Nat} {A B : World} (h : Below n₀ A B) : ∀ (ts : List Nd) {a : Option Addr} {i : Nat}, Nd.holds n₀ A ts a i → Nd.holds n₀ B ts a i
  | [], _, _, _ => trivial
  | .mk kind s n ks p :: r, _, i, ⟨⟨b, off, a', cap', ha, hb, c0, c1, c2, c3, c4, hk⟩, hr⟩ =>
    ⟨⟨b, off, a', cap', ha, hb, (h.cell (p := ⟨b, off + i * 5, none⟩) hb).trans c0, (h.cell (p := ⟨b, off + i * 5 + 1, none⟩) hb).trans c1, (h.cell (p := ⟨b, off + i * 5 + 2, none⟩) hb).trans c2, (h.cell (p := ⟨b, off + i * 5 + 3, none⟩) hb).trans c3, (h.cell (p := ⟨b, off + i * 5 + 4, none⟩) hb).trans c4, Nd.hold.below h (.mk kind s n ks p) hk⟩, Nd.holds.below h r hr⟩
end
mutual
theorem Nd.hold.mono {n₀ n₁ : Nat} {W : World} (h : n₀ ≤ n₁) : ∀ (t : Nd) {a : Option Addr} {cap : Nat}, t.hold n₀ W a cap → t.hold n₁ W a cap
  | .mk _ _ _ ks _, _, _, ⟨h1, h2, h3, h4, h5, h6, h7⟩ => ⟨h1, h2, h3, h4, h5, h6, Nd.holds.mono h ks h7⟩
theorem Nd.holds.mono {n₀ n₁ : Nat} {W : World} (h : n₀ ≤ n₁) : ∀ (ts : List Nd) {a : Option Addr} {i : Nat}, Nd.holds n₀ W ts a i → Nd.holds n₁ W ts a i
  | [], _, _, _ => trivial
  | .mk kind s n ks p :: r, _, _, ⟨⟨b, off, a', cap', ha, hb, c0, c1, c2, c3, c4, hk⟩, hr⟩ =>
    ⟨⟨b, off, a', cap', ha, Nat.lt_of_lt_of_le hb h, c0, c1, c2, c3, c4, Nd.hold.mono h (.mk kind s n ks p) hk⟩, Nd.holds.mono h r hr⟩
end
theorem Nd.hold.later {n₀ : Nat} {A B : World} {t : Nd} {a : Option Addr} {cap : Nat} (h : t.hold n₀ A a cap) (hn : n₀ ≤ A.heap.size) (hb : Below A.heap.size A B) : t.hold B.heap.size B a cap :=
  (Nd.hold.below (hb.mono hn) t h).mono (Nat.le_trans hn hb.size)

/-- a node, as the program's value -/
def Nd.val (t : Nd) (a : Option Addr) (cap : Nat) : Value := .agg #[.int .i64 t.kind, .string t.text, .int .i64 t.n, .slice a t.kids.length cap, .int .i64 t.place]
/-- what memory holds at a kid's place -/
structure Nd.At (n₀ : Nat) (W : World) (a : Option Addr) (i : Nat) (t : Nd) (b off : Nat) (a' : Option Addr) (cap' : Nat) : Prop where
  addr : a = some ⟨b, off, none⟩
  lt : b < n₀
  c0 : W.cell? ⟨b, off + i * 5, none⟩ = some (.int .i64 t.kind)
  c1 : W.cell? ⟨b, off + i * 5 + 1, none⟩ = some (.string t.text)
  c2 : W.cell? ⟨b, off + i * 5 + 2, none⟩ = some (.int .i64 t.n)
  c3 : W.cell? ⟨b, off + i * 5 + 3, none⟩ = some (.slice a' t.kids.length cap')
  c4 : W.cell? ⟨b, off + i * 5 + 4, none⟩ = some (.int .i64 t.place)
  held : t.hold n₀ W a' cap'
theorem Nd.holds.at {n₀ : Nat} {W : World} {a : Option Addr} : ∀ (ts : List Nd) (i : Nat), Nd.holds n₀ W ts a i → ∀ j (hj : j < ts.length), ∃ b off a' cap', Nd.At n₀ W a (i + j) ts[j] b off a' cap'
  | .mk kind s n ks p :: r, i, ⟨⟨b, off, a', cap', ha, hb, c0, c1, c2, c3, c4, hk⟩, hr⟩, j, hj => by
    cases j with
    | zero => exact ⟨b, off, a', cap', ha, hb, c0, c1, c2, c3, c4, hk⟩
    | succ j =>
      have := Nd.holds.at r (i + 1) hr j (by simpa using hj)
      rw [show i + (j + 1) = i + 1 + j by omega]
      exact this
theorem Nd.holds.of {n₀ : Nat} {W : World} {a : Option Addr} : ∀ (ts : List Nd) (i : Nat), (∀ j (hj : j < ts.length), ∃ b off a' cap', Nd.At n₀ W a (i + j) ts[j] b off a' cap') → Nd.holds n₀ W ts a i
  | [], _, _ => trivial
  | .mk kind s n ks p :: r, i, h => by
    obtain ⟨b, off, a', cap', ha, hb, c0, c1, c2, c3, c4, hk⟩ := h 0 (by simp)
    refine ⟨⟨b, off, a', cap', ha, hb, c0, c1, c2, c3, c4, hk⟩, Nd.holds.of r (i + 1) fun j hj => ?_⟩
    have := h (j + 1) (by simpa using hj)
    rw [show i + (j + 1) = i + 1 + j by omega] at this
    exact this
theorem Nd.hold.kid {n₀ : Nat} {W : World} {t : Nd} {a : Option Addr} {cap : Nat} (h : t.hold n₀ W a cap) (j : Nat) (hj : j < t.kids.length) : ∃ b off a' cap', Nd.At n₀ W a j t.kids[j] b off a' cap' := by
  cases t with
  | mk kind s n ks p =>
    have := Nd.holds.at ks 0 h.2.2.2.2.2.2 j hj
    rw [Nat.zero_add] at this
    exact this
theorem Nd.hold.bounds {n₀ : Nat} {W : World} {t : Nd} {a : Option Addr} {cap : Nat} (h : t.hold n₀ W a cap) : (Lit.int .i64 t.kind).wf = true ∧ t.text.size ≤ maxLen ∧ (Lit.int .i64 t.n).wf = true ∧ (Lit.int .i64 t.place).wf = true ∧ t.kids.length ≤ cap ∧ cap ≤ maxLen := by
  cases t with
  | mk kind s n ks p => exact ⟨h.1, h.2.1, h.2.2.1, h.2.2.2.1, h.2.2.2.2.1, h.2.2.2.2.2.1⟩
theorem nlist_of {α : Type} {R : Nat → α → Prop} : ∀ (n : Nat), (∀ i, i < n → ∃ t, R i t) → ∃ l : List α, l.length = n ∧ ∀ i (h : i < l.length), R i l[i]
  | 0, _ => ⟨[], rfl, fun i h => absurd h (by simp)⟩
  | n + 1, h => by
    obtain ⟨l, hl, hr⟩ := nlist_of n fun i hi => h i (by omega)
    obtain ⟨t, ht⟩ := h n (by omega)
    refine ⟨l ++ [t], by simp [hl], fun i hi => ?_⟩
    by_cases c : i < l.length
    · rw [List.getElem_append_left c]; exact hr i c
    · have : i = l.length := by simp at hi; omega
      subst this
      rw [List.getElem_append_right (by omega)]
      simp only [Nat.sub_self, List.getElem_cons_zero]
      rw [hl]; exact ht

theorem nodeC : Tryz.prog.cellsOf 24 = 5 := by kernel_rfl
theorem nintC : Tryz.prog.cellsOf 3 = 1 := by kernel_rfl
theorem nint64C : Tryz.prog.cellsOf 2 = 1 := by kernel_rfl
theorem nstringC : Tryz.prog.cellsOf 9 = 1 := by kernel_rfl
theorem nkidsC : Tryz.prog.cellsOf 22 = 1 := by kernel_rfl

theorem list5 {α : Type} {l : List α} (h : l.length = 5) : ∃ a b c d e, l = [a, b, c, d, e] := by
  match l, h with
  | [a, b, c, d, e], _ => exact ⟨a, b, c, d, e, rfl⟩

/-- what reads as a node is one -/
theorem node_of {H : Type} {enc : TypeId × Value → H} {W : World} {sp : Nat → Bool} {held : Bool} : ∀ (fuel : Nat) (cs : List Value) (x : DataW H × List MemPlace),
    DataW.trod enc Tryz.prog W 0 sp held fuel 24 cs = some x → ∃ (t : Nd) (a : Option Addr) (cap : Nat), cs = [.int .i64 t.kind, .string t.text, .int .i64 t.n, .slice a t.kids.length cap, .int .i64 t.place] ∧ t.hold W.heap.size W a cap := by
  intro fuel
  induction fuel using Nat.strongRecOn with
  | ind fuel ih =>
    intro cs x h
    obtain ⟨xs, m, rfl, -, hlen, hxs, hf⟩ := DataW.trod_struct Tryz.underlying24 h
    rw [nodeC] at hlen
    obtain ⟨v0, v1, v2, v3, v4, rfl⟩ := list5 hlen
    obtain ⟨x0, x1, x2, x3, x4, rfl⟩ := list5 (show xs.length = 5 from hxs)
    have f0 := hf 0 ⟨"Kind", 3, 0, false, "", "", 0⟩ rfl
    have f1 := hf 1 ⟨"Text", 9, 1, false, "", "", 8⟩ rfl
    have f2 := hf 2 ⟨"N", 2, 2, false, "", "", 24⟩ rfl
    have f3 := hf 3 ⟨"Kids", 22, 3, false, "", "", 32⟩ rfl
    have f4 := hf 4 ⟨"At", 3, 4, false, "", "", 56⟩ rfl
    simp only [nintC, nint64C, nstringC, nkidsC, List.drop_zero, List.drop_succ_cons, List.take_succ_cons, List.take_zero, List.getElem?_cons_zero, List.getElem?_cons_succ] at f0 f1 f2 f3 f4
    obtain ⟨kind, e0, -, w0⟩ := DataW.trod_int Tryz.underlying3 f0
    obtain ⟨s, e1, -, w1⟩ := DataW.trod_string Tryz.underlying9 f1
    obtain ⟨n, e2, -, w2⟩ := DataW.trod_int Tryz.underlying2 f2
    obtain ⟨p, e4, -, w4⟩ := DataW.trod_int Tryz.underlying3 f4
    obtain rfl : v0 = .int .i64 kind := by simpa using e0
    obtain rfl : v1 = .string s := by simpa using e1
    obtain rfl : v2 = .int .i64 n := by simpa using e2
    obtain rfl : v4 = .int .i64 p := by simpa using e4
    rcases DataW.trod_slice Tryz.underlying22 f3 with ⟨e3, -⟩ | ⟨a, len, cap, elems, rest, k, rfl, e3, -, -, hlc, hcm, hel, hat, -, -⟩
    · obtain rfl : v3 = .slice none 0 0 := by simpa using e3
      exact ⟨.mk kind s n [] p, none, 0, rfl, w0, w1, w2, w4, Nat.le_refl _, Nat.zero_le _, trivial⟩
    · obtain rfl : v3 = .slice (some a) len cap := by simpa using e3
      have hk : ∀ i, i < len → ∃ (t : Nd) (a' : Option Addr) (cap' : Nat), W.cell? ((a.add (i * 5)).add 0) = some (.int .i64 t.kind) ∧ W.cell? ((a.add (i * 5)).add 1) = some (.string t.text) ∧ W.cell? ((a.add (i * 5)).add 2) = some (.int .i64 t.n) ∧
          W.cell? ((a.add (i * 5)).add 3) = some (.slice a' t.kids.length cap') ∧ W.cell? ((a.add (i * 5)).add 4) = some (.int .i64 t.place) ∧ t.hold W.heap.size W a' cap' := fun i hi => by
        have he := hat i hi
        rw [List.getElem?_eq_getElem (show i < elems.length by omega), nodeC] at he
        obtain ⟨cs', hc, ht⟩ := Option.bind_eq_some_iff.1 he
        obtain ⟨t, a', cap', rfl, hh⟩ := ih k (by omega) cs' _ ht
        obtain ⟨-, -, hcell⟩ := World.cells?_some hc
        exact ⟨t, a', cap', hcell 0 (by omega), hcell 1 (by omega), hcell 2 (by omega), hcell 3 (by omega), hcell 4 (by omega), hh⟩
      by_cases hz : len = 0
      · subst hz
        exact ⟨.mk kind s n [] p, some a, cap, rfl, w0, w1, w2, w4, Nat.zero_le _, hcm, trivial⟩
      obtain ⟨b, off, spot⟩ := a
      have hspot : spot = none := by
        obtain ⟨t, a', cap', q0, -⟩ := hk 0 (by omega)
        rw [Nat.zero_mul] at q0
        simpa [Addr.add] using World.cell?_spot q0
      subst hspot
      have hk' : ∀ i, i < len → ∃ t : Nd, ∃ b' off' a' cap', Nd.At W.heap.size W (some ⟨b, off, none⟩) i t b' off' a' cap' := fun i hi => by
        obtain ⟨t, a', cap', q0, q1, q2, q3, q4, hh⟩ := hk i hi
        rw [Go.WideShapes.add_plain, Go.WideShapes.add_plain] at q0 q1 q2 q3 q4
        rw [Nat.add_zero] at q0
        have lt : b < W.heap.size := by
          rcases Nat.lt_or_ge b W.heap.size with g | g
          · exact g
          · have : W.heap[b]? = none := Array.getElem?_eq_none g
            simp [World.cell?, this] at q0
        exact ⟨t, b, off, a', cap', rfl, lt, q0, q1, q2, q3, q4, hh⟩
      obtain ⟨l, hl, hr⟩ := nlist_of len hk'
      subst hl
      refine ⟨.mk kind s n l p, some ⟨b, off, none⟩, cap, rfl, w0, w1, w2, w4, hlc, hcm, Nd.holds.of l 0 fun j hj => ?_⟩
      rw [Nat.zero_add]
      exact hr j hj

end Go.Proofs.YtcndknkdhlmdnaaGreatDoor

/-
  Plain laws of trees: how many nodes, and which are the same.
-/
namespace Go.Proofs.YtcndknkdhlmdnaaGreatDoor

mutual
/-- how many of so many nodes are left behind a tree's; below 0: it has more -/
def leftN : Nd → Int → Int
  | .mk _ _ _ ks _, m => leftKs ks (m - 1)
def leftKs : List Nd → Int → Int
  | [], m => m
  | k :: ks, m => if 0 ≤ m then leftKs ks (leftN k m) else m
end
/-- has a tree at most 8192 nodes? -/
def smallN (t : Nd) : Bool := decide (0 ≤ leftN t 8192)
mutual
/-- how many nodes a tree has -/
def nodesN : Nd → Nat
  | .mk _ _ _ ks _ => nodesKs ks + 1
def nodesKs : List Nd → Nat
  | [] => 0
  | k :: ks => nodesN k + nodesKs ks
end
mutual
/-- the same but for places -/
def sameN : Nd → Nd → Bool
  | .mk k s n ks _, u => k == u.kind && s.toList == u.text.toList && n == u.n && sameKs ks u.kids
def sameKs : List Nd → List Nd → Bool
  | [], l => l.isEmpty
  | _ :: _, [] => false
  | a :: r, b :: l => sameN a b && sameKs r l
end

theorem leftKs_neg (ks : List Nd) {m : Int} (h : ¬ 0 ≤ m) : leftKs ks m = m := by
  cases ks with
  | nil => rw [leftKs]
  | cons k ks => rw [leftKs, if_neg h]
theorem leftKs_step (ks : List Nd) (k : Nat) (hk : k < ks.length) (m : Int) : leftKs (ks.drop k) m = if 0 ≤ m then leftKs (ks.drop (k + 1)) (leftN ks[k] m) else m := by
  rw [List.drop_eq_getElem_cons hk, leftKs]
theorem leftKs_end (ks : List Nd) (k : Nat) (hk : ¬ k < ks.length) (m : Int) : leftKs (ks.drop k) m = m := by
  rw [List.drop_of_length_le (by omega), leftKs]
theorem nkid_size {kind n p : Int} {s : ByteArray} {ks : List Nd} {N k : Nat} (hk : k < ks.length) (h : SizeOf.sizeOf (Nd.mk kind s n ks p) < N + 1) : SizeOf.sizeOf ks[k] < N := by
  have := List.sizeOf_lt_of_mem (List.getElem_mem hk)
  simp only [Nd.mk.sizeOf_spec] at h
  omega
mutual
theorem leftN_eq : ∀ (t : Nd) (m : Int), 0 ≤ m → leftN t m = if (nodesN t : Int) ≤ m then m - nodesN t else -1
  | .mk _ _ _ ks _, m, h => by
    rw [leftN, leftKs_eq ks (m - 1) (by omega), nodesN]
    split <;> split <;> omega
theorem leftKs_eq : ∀ (ks : List Nd) (m : Int), -1 ≤ m → leftKs ks m = if (nodesKs ks : Int) ≤ m then m - nodesKs ks else -1
  | [], m, h => by
    rw [leftKs, nodesKs]
    split <;> omega
  | k :: ks, m, h => by
    rw [leftKs, nodesKs]
    by_cases h0 : 0 ≤ m
    · rw [if_pos h0, leftN_eq k m h0]
      by_cases hk : (nodesN k : Int) ≤ m
      · rw [if_pos hk, leftKs_eq ks _ (by omega)]
        split <;> split <;> omega
      · rw [if_neg hk, leftKs_neg _ (by decide), if_neg (by omega)]
    · rw [if_neg h0, if_neg (by omega)]
      omega
end
theorem leftN_range (t : Nd) (m : Int) (h : 0 ≤ m) : -1 ≤ leftN t m ∧ leftN t m ≤ m := by
  rw [leftN_eq t m h]
  split <;> omega
theorem smallN_eq (t : Nd) : smallN t = decide (nodesN t ≤ 8192) := by
  unfold smallN
  rw [leftN_eq t 8192 (by decide), Bool.eq_iff_iff]
  simp only [decide_eq_true_eq]
  split <;> omega
theorem sameKs_length : ∀ (l r : List Nd), sameKs l r = true → l.length = r.length
  | [], l, h => by rw [sameKs, List.isEmpty_iff] at h; rw [h]
  | _ :: _, [], h => by rw [sameKs] at h; cases h
  | a :: r, b :: l, h => by
    rw [sameKs, Bool.and_eq_true] at h
    rw [List.length_cons, List.length_cons, sameKs_length r l h.2]
theorem sameKs_step (l r : List Nd) (k : Nat) (hl : k < l.length) (hr : k < r.length) : sameKs (l.drop k) (r.drop k) = (sameN l[k] r[k] && sameKs (l.drop (k + 1)) (r.drop (k + 1))) := by
  rw [List.drop_eq_getElem_cons hl, List.drop_eq_getElem_cons hr, sameKs]
theorem sameKs_end (l r : List Nd) (k : Nat) (hl : ¬ k < l.length) (hr : ¬ k < r.length) : sameKs (l.drop k) (r.drop k) = true := by
  rw [List.drop_of_length_le (by omega), List.drop_of_length_le (by omega), sameKs]; rfl
theorem sameN_eq (a b : Nd) : sameN a b = (a.kind == b.kind && a.text.toList == b.text.toList && a.n == b.n && sameKs a.kids b.kids) := by
  cases a with
  | mk k s n ks p => rw [sameN]; rfl
mutual
theorem sameN_refl : ∀ t : Nd, sameN t t = true
  | .mk k s n ks p => by
    rw [sameN]
    simp only [Nd.kind, Nd.text, Nd.n, Nd.kids, beq_self_eq_true, Bool.true_and]
    exact sameKs_refl ks
theorem sameKs_refl : ∀ l : List Nd, sameKs l l = true
  | [] => rfl
  | a :: r => by rw [sameKs, sameN_refl a, sameKs_refl r]; rfl
end
end Go.Proofs.YtcndknkdhlmdnaaGreatDoor

/-
  Trees that lie in blocks of some kind.
-/
namespace Go.Proofs.YtcndknkdhlmdnaaGreatDoor
open Go.RowKit

mutual
/-- memory holds a tree in blocks of av, whose kids lie at a -/
def Nd.lies (av : Nat → Prop) (W : World) : Nd → Option Addr → Nat → Prop
  | .mk kind s n ks p, a, cap => (Lit.int .i64 kind).wf = true ∧ s.size ≤ maxLen ∧ (Lit.int .i64 n).wf = true ∧ (Lit.int .i64 p).wf = true ∧ ks.length ≤ cap ∧ cap ≤ maxLen ∧ Nd.lie av W ks a 0
def Nd.lie (av : Nat → Prop) (W : World) : List Nd → Option Addr → Nat → Prop
  | [], _, _ => True
  | .mk kind s n ks p :: r, a, i => (∃ b off a' cap', a = some ⟨b, off, none⟩ ∧ av b ∧ W.cell? ⟨b, off + i * 5, none⟩ = some (.int .i64 kind) ∧ W.cell? ⟨b, off + i * 5 + 1, none⟩ = some (.string s) ∧
      W.cell? ⟨b, off + i * 5 + 2, none⟩ = some (.int .i64 n) ∧ W.cell? ⟨b, off + i * 5 + 3, none⟩ = some (.slice a' ks.length cap') ∧ W.cell? ⟨b, off + i * 5 + 4, none⟩ = some (.int .i64 p) ∧ Nd.lies av W (.mk kind s n ks p) a' cap') ∧ Nd.lie av W r a (i + 1)
end
mutual
theorem Nd.lies.kept {av av' : Nat → Prop} {A B : World} (h : ∀ b, av b → av' b ∧ ∀ o, B.cell? ⟨b, o, none⟩ = A.cell? ⟨b, o, none⟩) : ∀ (t : Nd) {a : Option Addr} {cap : Nat}, t.lies av A a cap → t.lies av' B a cap
  | .mk _ _ _ ks _, _, _, ⟨h1, h2, h3, h4, h5, h6, h7⟩ => ⟨h1, h2, h3, h4, h5, h6, Nd.lie.kept h ks h7⟩
theorem Nd.lie.kept {av av' : Nat → Prop} {A B : World} (h : ∀ b, av b → av' b ∧ ∀ o, B.cell? ⟨b, o, none⟩ = A.cell? ⟨b, o, none⟩) : ∀ (ts : List Nd) {a : Option Addr} {i : Nat}, Nd.lie av A ts a i → Nd.lie av' B ts a i
  | [], _, _, _ => trivial
  | .mk kind s n ks p :: r, _, _, ⟨⟨b, off, a', cap', ha, hb, c0, c1, c2, c3, c4, hk⟩, hr⟩ =>
    ⟨⟨b, off, a', cap', ha, (h b hb).1, ((h b hb).2 _).trans c0, ((h b hb).2 _).trans c1, ((h b hb).2 _).trans c2, ((h b hb).2 _).trans c3, ((h b hb).2 _).trans c4, Nd.lies.kept h (.mk kind s n ks p) hk⟩, Nd.lie.kept h r hr⟩
end
mutual
theorem Nd.lies.hold {n₀ : Nat} {W : World} : ∀ (t : Nd) {a : Option Addr} {cap : Nat}, t.lies (· < n₀) W a cap → t.hold n₀ W a cap
  | .mk _ _ _ ks _, _, _, ⟨h1, h2, h3, h4, h5, h6, h7⟩ => ⟨h1, h2, h3, h4, h5, h6, Nd.lie.holds ks h7⟩
theorem Nd.lie.holds {n₀ : Nat} {W : World} : ∀ (ts : List Nd) {a : Option Addr} {i : Nat}, Nd.lie (· < n₀) W ts a i → Nd.holds n₀ W ts a i
  | [], _, _, _ => trivial
  | .mk kind s n ks p :: r, _, _, ⟨⟨b, off, a', cap', ha, hb, c0, c1, c2, c3, c4, hk⟩, hr⟩ =>
    ⟨⟨b, off, a', cap', ha, hb, c0, c1, c2, c3, c4, Nd.lies.hold (.mk kind s n ks p) hk⟩, Nd.lie.holds r hr⟩
end
/-- what memory holds at a kid's place -/
structure Nd.LieAt (av : Nat → Prop) (W : World) (a : Option Addr) (i : Nat) (t : Nd) (b off : Nat) (a' : Option Addr) (cap' : Nat) : Prop where
  addr : a = some ⟨b, off, none⟩
  ok : av b
  c0 : W.cell? ⟨b, off + i * 5, none⟩ = some (.int .i64 t.kind)
  c1 : W.cell? ⟨b, off + i * 5 + 1, none⟩ = some (.string t.text)
  c2 : W.cell? ⟨b, off + i * 5 + 2, none⟩ = some (.int .i64 t.n)
  c3 : W.cell? ⟨b, off + i * 5 + 3, none⟩ = some (.slice a' t.kids.length cap')
  c4 : W.cell? ⟨b, off + i * 5 + 4, none⟩ = some (.int .i64 t.place)
  held : t.lies av W a' cap'
theorem Nd.lie.at {av : Nat → Prop} {W : World} {a : Option Addr} : ∀ (ts : List Nd) (i : Nat), Nd.lie av W ts a i → ∀ j (hj : j < ts.length), ∃ b off a' cap', Nd.LieAt av W a (i + j) ts[j] b off a' cap'
  | .mk kind s n ks p :: r, i, ⟨⟨b, off, a', cap', ha, hb, c0, c1, c2, c3, c4, hk⟩, hr⟩, j, hj => by
    cases j with
    | zero => exact ⟨b, off, a', cap', ha, hb, c0, c1, c2, c3, c4, hk⟩
    | succ j =>
      have := Nd.lie.at r (i + 1) hr j (by simpa using hj)
      rw [show i + (j + 1) = i + 1 + j by omega]
      exact this
theorem Nd.lie.of {av : Nat → Prop} {W : World} {a : Option Addr} : ∀ (ts : List Nd) (i : Nat), (∀ j (hj : j < ts.length), ∃ b off a' cap', Nd.LieAt av W a (i + j) ts[j] b off a' cap') → Nd.lie av W ts a i
  | [], _, _ => trivial
  | .mk kind s n ks p :: r, i, h => by
    obtain ⟨b, off, a', cap', ha, hb, c0, c1, c2, c3, c4, hk⟩ := h 0 (by simp)
    refine ⟨⟨b, off, a', cap', ha, hb, c0, c1, c2, c3, c4, hk⟩, Nd.lie.of r (i + 1) fun j hj => ?_⟩
    have := h (j + 1) (by simpa using hj)
    rw [show i + (j + 1) = i + 1 + j by omega] at this
    exact this
theorem Nd.lies.kid {av : Nat → Prop} {W : World} {t : Nd} {a : Option Addr} {cap : Nat} (h : t.lies av W a cap) (j : Nat) (hj : j < t.kids.length) : ∃ b off a' cap', Nd.LieAt av W a j t.kids[j] b off a' cap' := by
  cases t with
  | mk kind s n ks p =>
    have := Nd.lie.at ks 0 h.2.2.2.2.2.2 j hj
    rw [Nat.zero_add] at this
    exact this
theorem Nd.lies.bounds {av : Nat → Prop} {W : World} {t : Nd} {a : Option Addr} {cap : Nat} (h : t.lies av W a cap) : (Lit.int .i64 t.kind).wf = true ∧ t.text.size ≤ maxLen ∧ (Lit.int .i64 t.n).wf = true ∧ (Lit.int .i64 t.place).wf = true ∧ t.kids.length ≤ cap ∧ cap ≤ maxLen := by
  cases t with
  | mk kind s n ks p => exact ⟨h.1, h.2.1, h.2.2.1, h.2.2.2.1, h.2.2.2.2.1, h.2.2.2.2.2.1⟩
/-- a node of kids that lie -/
theorem Nd.lies.mk' {av : Nat → Prop} {W : World} {k n p : Int} {s : ByteArray} {ks : List Nd} {a : Option Addr} {cap : Nat} (hk : (Lit.int .i64 k).wf = true) (hs : s.size ≤ maxLen) (hn : (Lit.int .i64 n).wf = true) (hp : (Lit.int .i64 p).wf = true) (hl : ks.length ≤ cap) (hc : cap ≤ maxLen) (h : Nd.lie av W ks a 0) :
    Nd.lies av W (.mk k s n ks p) a cap := ⟨hk, hs, hn, hp, hl, hc, h⟩

end Go.Proofs.YtcndknkdhlmdnaaGreatDoor

/-
  Plain laws of names' bytes (no program in sight).
-/
namespace Go.Proofs.YtcndknkdhlmdnaaGreatDoor

/-- the bytes that a name may have behind its first one; a currency's letters -/
def innerS : ByteArray := ⟨#[97, 98, 99, 100, 101, 102, 103, 104, 105, 106, 107, 108, 109, 110, 111, 112, 113, 114, 115, 116, 117, 118, 119, 120, 121, 122, 48, 49, 50, 51, 52, 53, 54, 55, 56, 57, 95]⟩
def greatS : ByteArray := ⟨#[65, 66, 67, 68, 69, 70, 71, 72, 73, 74, 75, 76, 77, 78, 79, 80, 81, 82, 83, 84, 85, 86, 87, 88, 89, 90]⟩
def isInner (c : UInt8) : Bool := innerS.data.toList.contains c
def isGreat (c : UInt8) : Bool := greatS.data.toList.contains c

/-- a name's bytes -/
def nameL (l : List UInt8) : Bool := decide (l.length ≤ 24) && (decide (97 ≤ ((l.headD 0).toNat : Int)) && decide (((l.headD 0).toNat : Int) ≤ 122)) && l.all isInner
/-- a currency's -/
def curL (l : List UInt8) : Bool := decide (l.length = 3) && l.all isGreat

theorem dropWhile_nil {α : Type} (p : α → Bool) : ∀ l : List α, l.dropWhile p = [] ↔ l.all p = true
  | [] => by simp
  | a :: l => by
    rw [List.dropWhile_cons]
    cases h : p a
    · simp [h]
    · simp [h, dropWhile_nil p l]
theorem trim_nil (l cs : List UInt8) : Lib.trimS l cs = [] ↔ l.all (cs.contains ·) = true := by
  unfold Lib.trimS Lib.trimLeftS Lib.trimRightS
  rw [dropWhile_nil]
  constructor
  · intro h
    by_cases e : l.reverse.dropWhile (cs.contains ·) = []
    · rw [dropWhile_nil, List.all_reverse] at e; exact e
    · exfalso
      have k := List.head_dropWhile_not (p := (cs.contains ·)) e
      rw [List.all_reverse, List.all_eq_true] at h
      have := h _ (List.head_mem e)
      rw [this] at k
      cases k
  · intro h
    have e : l.reverse.dropWhile (cs.contains ·) = [] := by rw [dropWhile_nil, List.all_reverse]; exact h
    rw [e]; rfl
theorem trim_empty (l cs : List UInt8) : (Lib.trimS l cs).isEmpty = l.all (cs.contains ·) := by
  rw [Bool.eq_iff_iff, List.isEmpty_iff, trim_nil]
theorem size_list (s : ByteArray) : s.data.toList.length = s.size := by cases s; rfl
theorem head_list {s : ByteArray} (h : 0 < s.size) : s.data.toList.headD 0 = s[0] := by
  have : s.data.toList ≠ [] := fun e => by have := size_list s; rw [e] at this; simp at this; omega
  cases hl : s.data.toList with
  | nil => exact absurd hl this
  | cons a l =>
    have : s[0] = s.data.toList[0]'(by rw [size_list]; exact h) := rfl
    rw [this]; simp [hl]

/-- what an operation's kids are, and what it is, by letters -/
def sortTab : List (List UInt8) := [[], [62, 110], [62, 98], [62, 100], [62, 110], [62, 100], [110, 62, 110], [110, 110, 62, 110], [110, 110, 62, 110], [110, 110, 62, 110], [110, 110, 62, 110], [110, 110, 62, 98], [110, 110, 62, 98], [110, 110, 62, 98], [98, 62, 98], [98, 98, 62, 98], [98, 98, 62, 98], [100, 100, 62, 98], [100, 110, 62, 100], [100, 110, 62, 100], [100, 100, 62, 110], [100, 100, 62, 110], [98, 120, 120, 62, 120], [62, 99], [62, 99], [99, 62, 99], [110, 99, 62, 99], [99, 99, 62, 99], [98, 99, 99, 62, 99], [99, 62, 99], [98, 99, 62, 99], [99, 99, 62, 99]]
def sortL (op : Int) : List UInt8 := if op < 0 ∨ 32 ≤ op then [] else sortTab.getD op.toNat []

/-- between two bounds -/
def inB (n lo hi : Int) : Bool := decide (lo ≤ n) && decide (n ≤ hi)
/-- are N and S what an operation asks? -/
def fieldsB (op n : Int) (s : List UInt8) : Bool :=
  if op = 4 then nameL s && inB n (-3660) 3660
  else if op = 31 then nameL s && inB n 0 73048
  else if op = 24 then curL s && n == 0
  else if op = 1 then s.isEmpty && inB n (-1000000000000000) 1000000000000000
  else if op = 2 then s.isEmpty && inB n 0 1
  else if op = 3 ∨ op = 29 ∨ op = 30 then s.isEmpty && inB n 0 73048
  else if op = 5 then s.isEmpty && inB n (-3660) 3660
  else s.isEmpty && n == 0

end Go.Proofs.YtcndknkdhlmdnaaGreatDoor

/-
  Plain laws of numbers' texts (no program in sight).
-/
namespace Go.Proofs.YtcndknkdhlmdnaaGreatDoor

/-- a digit's byte -/
def dig (n : Nat) : UInt8 := UInt8.ofNat (48 + n % 10)
/-- a number's digits, ahead of a text: none of 0 -/
def decF : Nat → Nat → List UInt8 → List UInt8
  | 0, _, l => l
  | f + 1, n, l => if n = 0 then l else decF f (n / 10) (dig n :: l)
/-- a number's digits -/
def decL (n : Nat) : List UInt8 := decF 20 (n / 10) [dig n]
/-- a number's lowest digits, so many -/
def lowF : Nat → Nat → List UInt8 → List UInt8
  | 0, _, l => l
  | k + 1, n, l => lowF k (n / 10) (dig n :: l)
/-- without zeros at the end -/
def trimZ (l : List UInt8) : List UInt8 := (l.reverse.dropWhile (· == 48)).reverse
/-- a number's text, by its size -/
def showU (x : Nat) : List UInt8 := decL (x / 1000000) ++ (if trimZ (lowF 6 x []) = [] then [] else 46 :: trimZ (lowF 6 x []))
/-- a number's text -/
def clampI (a : Int) : Int := if a > 1000000000000000 then 1000000000000000 else if a < -1000000000000000 then -1000000000000000 else a
def showI (a : Int) : List UInt8 := (if clampI a < 0 then [45] else []) ++ showU (clampI a).natAbs

theorem lowF_app : ∀ (k n : Nat) (l : List UInt8), lowF k n l = lowF k n [] ++ l
  | 0, _, _ => rfl
  | k + 1, n, l => by
    rw [lowF, lowF, lowF_app k _ (dig n :: l), lowF_app k _ [dig n], List.append_assoc]; rfl
theorem lowF_length : ∀ (k n : Nat) (l : List UInt8), (lowF k n l).length = k + l.length
  | 0, _, _ => by rw [lowF]; omega
  | k + 1, n, l => by rw [lowF, lowF_length k]; simp; omega
theorem dig_mod (n d : Nat) : dig (n % (10 * d)) = dig n := by
  unfold dig
  rw [Nat.mod_mod_of_dvd _ (Nat.dvd_mul_right 10 d)]
theorem lowF_mod : ∀ (k n : Nat) (l : List UInt8), lowF k (n % 10 ^ k) l = lowF k n l
  | 0, _, _ => rfl
  | k + 1, n, l => by
    have e : (10 : Nat) ^ (k + 1) = 10 * 10 ^ k := by rw [Nat.pow_succ, Nat.mul_comm]
    rw [lowF, lowF, e, dig_mod, Nat.mod_mul_right_div_self, lowF_mod k]
theorem decF_more : ∀ (f g n : Nat) (l : List UInt8), n < 10 ^ f → f ≤ g → decF g n l = decF f n l
  | 0, g, n, l, h, _ => by
    have : n = 0 := by simpa using h
    subst this
    cases g with
    | zero => rfl
    | succ g => show (if (0 : Nat) = 0 then l else _) = _; rw [if_pos rfl]; rfl
  | f + 1, 0, n, l, _, h => absurd h (by omega)
  | f + 1, g + 1, n, l, h, hg => by
    rw [decF, decF]
    split
    · rfl
    · exact decF_more f g _ _ (by rw [Nat.pow_succ] at h; omega) (by omega)
theorem decF_step (n : Nat) (l : List UInt8) (h0 : n ≠ 0) (h : n < 10 ^ 20) : decF 20 n l = decF 20 (n / 10) (dig n :: l) := by
  rw [show decF 20 n l = decF (19 + 1) n l from rfl, decF, if_neg h0]
  exact (decF_more 19 20 _ _ (by omega) (by omega)).symm
theorem decF_zero (l : List UInt8) : decF 20 0 l = l := rfl
theorem decL_eq (n : Nat) (h0 : n ≠ 0) (h : n < 10 ^ 20) : decL n = decF 20 n [] := (decF_step n [] h0 h).symm
theorem decF_pos : ∀ (f n : Nat) (l : List UInt8), l ≠ [] → decF f n l ≠ []
  | 0, _, _, h => h
  | f + 1, n, l, h => by
    rw [decF]
    split
    · exact h
    · exact decF_pos f _ _ (by simp)
theorem decL_pos (n : Nat) : decL n ≠ [] := decF_pos _ _ _ (by simp)
theorem dig_zero (n : Nat) : dig n = 48 ↔ n % 10 = 0 := by
  unfold dig
  have h : n % 10 < 10 := Nat.mod_lt _ (by decide)
  have : ∀ k : Fin 10, (UInt8.ofNat (48 + k.val) = 48 ↔ k.val = 0) := by decide
  exact this ⟨n % 10, h⟩
theorem dig_nat (n : Nat) : (dig n).toNat = 48 + n % 10 := by
  have h : n % 10 < 10 := Nat.mod_lt _ (by decide)
  have : ∀ k : Fin 10, (UInt8.ofNat (48 + k.val)).toNat = 48 + k.val := by decide
  exact this ⟨n % 10, h⟩
theorem trimZ_nil (l : List UInt8) : trimZ l = [] ↔ ∀ c ∈ l, c = 48 := by
  unfold trimZ
  rw [List.reverse_eq_nil_iff]
  have : ∀ l : List UInt8, l.dropWhile (· == 48) = [] ↔ ∀ c ∈ l, c = 48 := by
    intro l
    induction l with
    | nil => simp
    | cons a l ih =>
      rw [List.dropWhile_cons]
      by_cases h : a = 48
      · subst h; simp [ih]
      · simp [h]
  rw [this]
  simp
theorem low_zero : ∀ (k n : Nat), (∀ c ∈ lowF k n [], c = 48) ↔ n % 10 ^ k = 0
  | 0, n => by simp [lowF, Nat.mod_one]
  | k + 1, n => by
    have e : (10 : Nat) ^ (k + 1) = 10 * 10 ^ k := by rw [Nat.pow_succ, Nat.mul_comm]
    have m := Nat.mod_mul (x := n) (a := 10) (b := 10 ^ k)
    rw [lowF, lowF_app, e, m]
    simp only [List.mem_append, List.mem_singleton]
    have i := low_zero k (n / 10)
    constructor
    · intro h
      have h1 := i.1 fun c hc => h c (.inl hc)
      have h2 := (dig_zero n).1 (h _ (.inr rfl))
      rw [h1, h2]
    · intro h c hc
      have h1 : n % 10 = 0 := by omega
      have h2 : (n / 10) % 10 ^ k = 0 := by omega
      rcases hc with hc | rfl
      · exact i.2 h2 c hc
      · exact (dig_zero n).2 h1
/-- the digits behind the point: none just of a whole number -/
theorem tail_nil (x : Nat) : trimZ (lowF 6 x []) = [] ↔ x % 1000000 = 0 := by
  rw [trimZ_nil, low_zero]
theorem decF_low : ∀ (k f n : Nat) (l : List UInt8), 10 ^ k ≤ n → decF (f + k) n l = decF f (n / 10 ^ k) (lowF k n l)
  | 0, f, n, l, _ => by rw [Nat.pow_zero, Nat.div_one]; rfl
  | k + 1, f, n, l, h => by
    have hp : 0 < (10 : Nat) ^ k := Nat.pos_of_ne_zero (by simp)
    rw [Nat.pow_succ] at h
    rw [show f + (k + 1) = (f + k) + 1 from rfl, decF, if_neg (by omega), decF_low k f _ _ (by omega), Nat.div_div_eq_div_mul, Nat.pow_succ, Nat.mul_comm 10, lowF]
/-- the document's way: a one ahead, which is cut off -/
theorem dec_one (p : Nat) (h : p < 1000000) : decL (1000000 + p) = 49 :: lowF 6 p [] := by
  rw [decL_eq _ (by omega) (by omega), show (20 : Nat) = 14 + 6 from rfl, decF_low 6 14 _ _ (by omega)]
  have e : (1000000 + p) / 10 ^ 6 = 1 := by omega
  have e2 : lowF 6 (1000000 + p) [] = lowF 6 p [] := by
    rw [← lowF_mod 6 (1000000 + p), ← lowF_mod 6 p]
    congr 1
    omega
  rw [e, e2]
  rfl

end Go.Proofs.YtcndknkdhlmdnaaGreatDoor
