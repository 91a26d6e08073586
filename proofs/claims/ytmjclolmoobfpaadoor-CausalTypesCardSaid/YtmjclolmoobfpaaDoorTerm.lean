/-
  Core terms as data, and what it is for memory to hold one.
-/
import Derived.Test.YtmjclolmoobfpaaDoorRows
import Derived.WalkKit
import Derived.Lib.LaidTab
namespace Go.Proofs.YtmjclolmoobfpaaDoor
open Go.RowKit

/-- a core term -/
inductive Tm where
  | mk (op n : Int) (s : ByteArray) (kids : List Tm)
def Tm.op : Tm → Int | .mk op _ _ _ => op
def Tm.n : Tm → Int | .mk _ n _ _ => n
def Tm.s : Tm → ByteArray | .mk _ _ s _ => s
def Tm.kids : Tm → List Tm | .mk _ _ _ ks => ks

mutual
/-- memory below n₀ holds a term, whose kids lie at a -/
def Tm.hold (n₀ : Nat) (W : World) : Tm → Option Addr → Nat → Prop
  | .mk op n s ks, a, cap => (Lit.int .i64 op).wf = true ∧ (Lit.int .i64 n).wf = true ∧ s.size ≤ maxLen ∧ ks.length ≤ cap ∧ cap ≤ maxLen ∧ Tm.holds n₀ W ks a 0
def Tm.holds (n₀ : Nat) (W : World) : List Tm → Option Addr → Nat → Prop
  | [], _, _ => True
  | .mk op n s ks :: r, a, i => (∃ b off a' cap', a = some ⟨b, off, none⟩ ∧ b < n₀ ∧ W.cell? ⟨b, off + i * 4, none⟩ = some (.int .i64 op) ∧ W.cell? ⟨b, off + i * 4 + 1, none⟩ = some (.int .i64 n) ∧
      W.cell? ⟨b, off + i * 4 + 2, none⟩ = some (.string s) ∧ W.cell? ⟨b, off + i * 4 + 3, none⟩ = some (.slice a' ks.length cap') ∧ Tm.hold n₀ W (.mk op n s ks) a' cap') ∧ Tm.holds n₀ W r a (i + 1)
end

mutual
theorem Tm.hold.below {n₀ : Nat} {A B : World} (h : Below n₀ A B) : ∀ (t : Tm) {a : Option Addr} {cap : Nat}, t.hold n₀ A a cap → t.hold n₀ B a cap
  | .mk _ _ _ ks, _, _, ⟨h1, h2, h3, h4, h5, h6⟩ => ⟨h1, h2, h3, h4, h5, Tm.holds.below h ks h6⟩
theorem Tm.holds.below {n₀ : Nat} {A B : World} (h : Below n₀ A B) : ∀ (ts : List Tm) {a : Option Addr} {i : Nat}, Tm.holds n₀ A ts a i → Tm.holds n₀ B ts a i
  | [], _, _, _ => trivial
  | .mk op n s ks :: r, _, i, ⟨⟨b, off, a', cap', ha, hb, c0, c1, c2, c3, hk⟩, hr⟩ =>
    ⟨⟨b, off, a', cap', ha, hb, (h.cell (p := ⟨b, off + i * 4, none⟩) hb).trans c0, (h.cell (p := ⟨b, off + i * 4 + 1, none⟩) hb).trans c1, (h.cell (p := ⟨b, off + i * 4 + 2, none⟩) hb).trans c2, (h.cell (p := ⟨b, off + i * 4 + 3, none⟩) hb).trans c3, Tm.hold.below h (.mk op n s ks) hk⟩, Tm.holds.below h r hr⟩
end
mutual
theorem Tm.hold.mono {n₀ n₁ : Nat} {W : World} (h : n₀ ≤ n₁) : ∀ (t : Tm) {a : Option Addr} {cap : Nat}, t.hold n₀ W a cap → t.hold n₁ W a cap
  | .mk _ _ _ ks, _, _, ⟨h1, h2, h3, h4, h5, h6⟩ => ⟨h1, h2, h3, h4, h5, Tm.holds.mono h ks h6⟩
theorem Tm.holds.mono {n₀ n₁ : Nat} {W : World} (h : n₀ ≤ n₁) : ∀ (ts : List Tm) {a : Option Addr} {i : Nat}, Tm.holds n₀ W ts a i → Tm.holds n₁ W ts a i
  | [], _, _, _ => trivial
  | .mk op n s ks :: r, _, _, ⟨⟨b, off, a', cap', ha, hb, c0, c1, c2, c3, hk⟩, hr⟩ =>
    ⟨⟨b, off, a', cap', ha, Nat.lt_of_lt_of_le hb h, c0, c1, c2, c3, Tm.hold.mono h (.mk op n s ks) hk⟩, Tm.holds.mono h r hr⟩
end

/-- a term, as the program's value -/
def Tm.val (t : Tm) (a : Option Addr) (cap : Nat) : Value := .agg #[.int .i64 t.op, .int .i64 t.n, .string t.s, .slice a t.kids.length cap]
/-- what memory holds at a kid's place -/
structure Tm.At (n₀ : Nat) (W : World) (a : Option Addr) (i : Nat) (t : Tm) (b off : Nat) (a' : Option Addr) (cap' : Nat) : Prop where
  addr : a = some ⟨b, off, none⟩
  lt : b < n₀
  c0 : W.cell? ⟨b, off + i * 4, none⟩ = some (.int .i64 t.op)
  c1 : W.cell? ⟨b, off + i * 4 + 1, none⟩ = some (.int .i64 t.n)
  c2 : W.cell? ⟨b, off + i * 4 + 2, none⟩ = some (.string t.s)
  c3 : W.cell? ⟨b, off + i * 4 + 3, none⟩ = some (.slice a' t.kids.length cap')
  held : t.hold n₀ W a' cap'
theorem Tm.holds.at {n₀ : Nat} {W : World} {a : Option Addr} : ∀ (ts : List Tm) (i : Nat), Tm.holds n₀ W ts a i → ∀ j (hj : j < ts.length), ∃ b off a' cap', Tm.At n₀ W a (i + j) ts[j] b off a' cap'
  | .mk op n s ks :: r, i, ⟨⟨b, off, a', cap', ha, hb, c0, c1, c2, c3, hk⟩, hr⟩, j, hj => by
    cases j with
    | zero => exact ⟨b, off, a', cap', ha, hb, c0, c1, c2, c3, hk⟩
    | succ j =>
      have := Tm.holds.at r (i + 1) hr j (by simpa using hj)
      rw [show i + (j + 1) = i + 1 + j by omega]
      exact this
theorem Tm.holds.of {n₀ : Nat} {W : World} {a : Option Addr} : ∀ (ts : List Tm) (i : Nat), (∀ j (hj : j < ts.length), ∃ b off a' cap', Tm.At n₀ W a (i + j) ts[j] b off a' cap') → Tm.holds n₀ W ts a i
  | [], _, _ => trivial
  | .mk op n s ks :: r, i, h => by
    obtain ⟨b, off, a', cap', ha, hb, c0, c1, c2, c3, hk⟩ := h 0 (by simp)
    refine ⟨⟨b, off, a', cap', ha, hb, c0, c1, c2, c3, hk⟩, Tm.holds.of r (i + 1) fun j hj => ?_⟩
    have := h (j + 1) (by simpa using hj)
    rw [show i + (j + 1) = i + 1 + j by omega] at this
    exact this
theorem Tm.hold.kid {n₀ : Nat} {W : World} {t : Tm} {a : Option Addr} {cap : Nat} (h : t.hold n₀ W a cap) (j : Nat) (hj : j < t.kids.length) : ∃ b off a' cap', Tm.At n₀ W a j t.kids[j] b off a' cap' := by
  cases t with
  | mk op n s ks =>
    have := Tm.holds.at ks 0 h.2.2.2.2.2 j hj
    rw [Nat.zero_add] at this
    exact this
theorem Tm.hold.bounds {n₀ : Nat} {W : World} {t : Tm} {a : Option Addr} {cap : Nat} (h : t.hold n₀ W a cap) : (Lit.int .i64 t.op).wf = true ∧ (Lit.int .i64 t.n).wf = true ∧ t.s.size ≤ maxLen ∧ t.kids.length ≤ cap ∧ cap ≤ maxLen := by
  cases t with
  | mk op n s ks => exact ⟨h.1, h.2.1, h.2.2.1, h.2.2.2.1, h.2.2.2.2.1⟩
theorem list_of {α : Type} {R : Nat → α → Prop} : ∀ (n : Nat), (∀ i, i < n → ∃ t, R i t) → ∃ l : List α, l.length = n ∧ ∀ i (h : i < l.length), R i l[i]
  | 0, _ => ⟨[], rfl, fun i h => absurd h (by simp)⟩
  | n + 1, h => by
    obtain ⟨l, hl, hr⟩ := list_of n fun i hi => h i (by omega)
    obtain ⟨t, ht⟩ := h n (by omega)
    refine ⟨l ++ [t], by simp [hl], fun i hi => ?_⟩
    by_cases c : i < l.length
    · rw [List.getElem_append_left c]; exact hr i c
    · have : i = l.length := by simp at hi; omega
      subst this
      rw [List.getElem_append_right (by omega)]
      simp only [Nat.sub_self, List.getElem_cons_zero]
      rw [hl]; exact ht

theorem coreC : Tryd.prog.cellsOf 24 = 4 := by kernel_rfl
theorem intC : Tryd.prog.cellsOf 3 = 1 := by kernel_rfl
theorem int64C : Tryd.prog.cellsOf 2 = 1 := by kernel_rfl
theorem stringC : Tryd.prog.cellsOf 9 = 1 := by kernel_rfl
theorem kidsC : Tryd.prog.cellsOf 22 = 1 := by kernel_rfl

theorem list4 {α : Type} {l : List α} (h : l.length = 4) : ∃ a b c d, l = [a, b, c, d] := by
  match l, h with
  | [a, b, c, d], _ => exact ⟨a, b, c, d, rfl⟩

/-- what reads as a core term is one -/
theorem core_of {H : Type} {enc : TypeId × Value → H} {W : World} {sp : Nat → Bool} {held : Bool} : ∀ (fuel : Nat) (cs : List Value) (x : DataW H × List MemPlace),
    DataW.trod enc Tryd.prog W 0 sp held fuel 24 cs = some x → ∃ (t : Tm) (a : Option Addr) (cap : Nat), cs = [.int .i64 t.op, .int .i64 t.n, .string t.s, .slice a t.kids.length cap] ∧ t.hold W.heap.size W a cap := by
  intro fuel
  induction fuel using Nat.strongRecOn with
  | ind fuel ih =>
    intro cs x h
    obtain ⟨xs, m, rfl, -, hlen, hxs, hf⟩ := DataW.trod_struct Tryd.underlying24 h
    rw [coreC] at hlen
    obtain ⟨v0, v1, v2, v3, rfl⟩ := list4 hlen
    obtain ⟨x0, x1, x2, x3, rfl⟩ := list4 (show xs.length = 4 from hxs)
    have f0 := hf 0 ⟨"Op", 3, 0, false, "", "", 0⟩ rfl
    have f1 := hf 1 ⟨"N", 2, 1, false, "", "", 8⟩ rfl
    have f2 := hf 2 ⟨"S", 9, 2, false, "", "", 16⟩ rfl
    have f3 := hf 3 ⟨"Kids", 22, 3, false, "", "", 32⟩ rfl
    simp only [intC, int64C, stringC, kidsC, List.drop_zero, List.drop_succ_cons, List.take_succ_cons, List.take_zero, List.getElem?_cons_zero, List.getElem?_cons_succ] at f0 f1 f2 f3
    obtain ⟨op, e0, -, w0⟩ := DataW.trod_int Tryd.underlying3 f0
    obtain ⟨n, e1, -, w1⟩ := DataW.trod_int Tryd.underlying2 f1
    obtain ⟨s, e2, -, w2⟩ := DataW.trod_string Tryd.underlying9 f2
    obtain rfl : v0 = .int .i64 op := by simpa using e0
    obtain rfl : v1 = .int .i64 n := by simpa using e1
    obtain rfl : v2 = .string s := by simpa using e2
    rcases DataW.trod_slice Tryd.underlying22 f3 with ⟨e3, -⟩ | ⟨a, len, cap, elems, rest, k, rfl, e3, -, -, hlc, hcm, hel, hat, -, -⟩
    · obtain rfl : v3 = .slice none 0 0 := by simpa using e3
      exact ⟨.mk op n s [], none, 0, rfl, w0, w1, w2, Nat.le_refl _, Nat.zero_le _, trivial⟩
    · obtain rfl : v3 = .slice (some a) len cap := by simpa using e3
      have hk : ∀ i, i < len → ∃ (t : Tm) (a' : Option Addr) (cap' : Nat), W.cell? ((a.add (i * 4)).add 0) = some (.int .i64 t.op) ∧ W.cell? ((a.add (i * 4)).add 1) = some (.int .i64 t.n) ∧ W.cell? ((a.add (i * 4)).add 2) = some (.string t.s) ∧
          W.cell? ((a.add (i * 4)).add 3) = some (.slice a' t.kids.length cap') ∧ t.hold W.heap.size W a' cap' := fun i hi => by
        have he := hat i hi
        rw [List.getElem?_eq_getElem (show i < elems.length by omega), coreC] at he
        obtain ⟨cs', hc, ht⟩ := Option.bind_eq_some_iff.1 he
        obtain ⟨t, a', cap', rfl, hh⟩ := ih k (by omega) cs' _ ht
        obtain ⟨-, -, hcell⟩ := World.cells?_some hc
        exact ⟨t, a', cap', hcell 0 (by omega), hcell 1 (by omega), hcell 2 (by omega), hcell 3 (by omega), hh⟩
      by_cases hz : len = 0
      · subst hz
        exact ⟨.mk op n s [], some a, cap, rfl, w0, w1, w2, Nat.zero_le _, hcm, trivial⟩
      obtain ⟨b, off, spot⟩ := a
      have hspot : spot = none := by
        obtain ⟨t, a', cap', q0, -⟩ := hk 0 (by omega)
        rw [Nat.zero_mul] at q0
        simpa [Addr.add] using World.cell?_spot q0
      subst hspot
      have hk' : ∀ i, i < len → ∃ t : Tm, ∃ b' off' a' cap', Tm.At W.heap.size W (some ⟨b, off, none⟩) i t b' off' a' cap' := fun i hi => by
        obtain ⟨t, a', cap', q0, q1, q2, q3, hh⟩ := hk i hi
        rw [Go.WideShapes.add_plain, Go.WideShapes.add_plain] at q0 q1 q2 q3
        rw [Nat.add_zero] at q0
        have lt : b < W.heap.size := by
          rcases Nat.lt_or_ge b W.heap.size with g | g
          · exact g
          · have : W.heap[b]? = none := Array.getElem?_eq_none g
            simp [World.cell?, this] at q0
        exact ⟨t, b, off, a', cap', rfl, lt, q0, q1, q2, q3, hh⟩
      obtain ⟨l, hl, hr⟩ := list_of len hk'
      subst hl
      refine ⟨.mk op n s l, some ⟨b, off, none⟩, cap, rfl, w0, w1, w2, hlc, hcm, Tm.holds.of l 0 fun j hj => ?_⟩
      rw [Nat.zero_add]
      exact hr j hj

end Go.Proofs.YtmjclolmoobfpaaDoor
