/-
  causal.all: a term's terms, ahead of their kids, with their depths: the iterator's contract.
-/
import Derived.Test.YtmjclolmoobfpaaDoorCausL
import Derived.RangeFuncNested
import Derived.RangeFuncBound
import Derived.RangeFuncCalls
import Derived.RangeFuncLeaves
import Derived.Shelf.Abstract
import Derived.Shelf.RegionOpen
import Derived.OwnWalkIn
import Derived.TacticsInMore
import Derived.LoopNIn
import Derived.LoopIn
namespace Go.Proofs.YtmjclolmoobfpaaDoor
open Go.RowKit Go.Shelf
set_option maxRecDepth 100000
attribute [local go_sem] Oper.semAt_some

/-- where a kid's kids lie -/
def kidA (W : World) (a : Option Addr) (i : Nat) : Option Addr × Nat :=
  match a with
  | some p => match W.cell? ⟨p.block, p.off + i * 4 + 3, none⟩ with
    | some (.slice a' _ cap') => (a', cap')
    | _ => (none, 0)
  | none => (none, 0)
theorem Tm.At.kidA {n₀ : Nat} {W : World} {a : Option Addr} {i : Nat} {t : Tm} {b off : Nat} {a' : Option Addr} {cap' : Nat} (h : Tm.At n₀ W a i t b off a' cap') : kidA W a i = (a', cap') := by
  rw [h.addr]
  show (match W.cell? ⟨b, off + i * 4 + 3, none⟩ with | some (.slice a' _ cap') => (a', cap') | _ => (none, 0)) = _
  rw [h.c3]
theorem Tm.holds.head {n₀ : Nat} {W : World} {k : Tm} {ks : List Tm} {a : Option Addr} {i : Nat} (h : Tm.holds n₀ W (k :: ks) a i) : k.hold n₀ W (kidA W a i).1 (kidA W a i).2 := by
  obtain ⟨b, off, a', cap', A⟩ := Tm.holds.at (k :: ks) i h 0 (by simp)
  have e := A.kidA
  rw [Nat.add_zero] at e
  rw [e]
  exact A.held
theorem Tm.holds.tail {n₀ : Nat} {W : World} {k : Tm} {ks : List Tm} {a : Option Addr} {i : Nat} (h : Tm.holds n₀ W (k :: ks) a i) : Tm.holds n₀ W ks a (i + 1) := by
  cases k
  exact h.2
theorem Tm.hold.kids' {n₀ : Nat} {W : World} {t : Tm} {a : Option Addr} {cap : Nat} (h : t.hold n₀ W a cap) : Tm.holds n₀ W t.kids a 0 := by
  cases t
  exact h.2.2.2.2.2
theorem Tm.hold.kidAt {n₀ : Nat} {W : World} {t : Tm} {a : Option Addr} {cap : Nat} (h : t.hold n₀ W a cap) (j : Nat) (hj : j < t.kids.length) : ∃ b off, Tm.At n₀ W a j t.kids[j] b off (kidA W a j).1 (kidA W a j).2 := by
  obtain ⟨b, off, a', cap', A⟩ := h.kid j hj
  rw [A.kidA]
  exact ⟨b, off, A⟩

/-- one term of a term, and how deep it stands -/
structure El (n₀ : Nat) (W : World) where
  d : Int
  t : Tm
  a : Option Addr
  cap : Nat
  held : t.hold n₀ W a cap
def El.enc {n₀ : Nat} {W : World} (x : El n₀ W) : Array Value := #[.int .i64 x.d, .agg #[.int .i64 x.t.op, .int .i64 x.t.n, .string x.t.s, .slice x.a x.t.kids.length x.cap]]

mutual
/-- a term's terms, it ahead of its kids' -/
def pre (n₀ : Nat) (W : World) (d : Int) : (t : Tm) → (a : Option Addr) → (cap : Nat) → t.hold n₀ W a cap → List (El n₀ W)
  | .mk op n s ks, a, cap, h => ⟨d, .mk op n s ks, a, cap, h⟩ :: pres n₀ W (wrap64 (d + 1)) ks a 0 h.2.2.2.2.2
def pres (n₀ : Nat) (W : World) (d : Int) : (ks : List Tm) → (a : Option Addr) → (i : Nat) → Tm.holds n₀ W ks a i → List (El n₀ W)
  | [], _, _, _ => []
  | k :: ks, a, i, h => pre n₀ W d k (kidA W a i).1 (kidA W a i).2 h.head ++ pres n₀ W d ks a (i + 1) h.tail
end
theorem pres_cons {n₀ : Nat} {W : World} {d : Int} {k : Tm} {ks : List Tm} {a : Option Addr} {i : Nat} : ∀ {l : List Tm} (e : l = k :: ks) (h : Tm.holds n₀ W l a i),
    pres n₀ W d l a i h = pre n₀ W d k (kidA W a i).1 (kidA W a i).2 (Tm.holds.head (e ▸ h)) ++ pres n₀ W d ks a (i + 1) (Tm.holds.tail (e ▸ h)) := by
  intro l e h
  subst e
  rw [pres]
theorem pres_nil {n₀ : Nat} {W : World} {d : Int} {a : Option Addr} {i : Nat} : ∀ {l : List Tm} (_ : l = []) (h : Tm.holds n₀ W l a i), pres n₀ W d l a i h = [] := by
  intro l e h
  subst e
  rw [pres]

/-- all cells are kept but those of some blocks -/
structure Keeps (S : Nat → Obj → Prop) (A B : World) : Prop where
  size : A.heap.size ≤ B.heap.size
  cells : ∀ (k : Nat) (o : Obj), A.heap[k]? = some o → o.isCells = true → ¬ S k o → B.heap[k]? = some o
theorem Keeps.refl (S : Nat → Obj → Prop) (A : World) : Keeps S A A := ⟨Nat.le_refl _, fun _ _ h _ _ => h⟩
theorem Keeps.trans {S : Nat → Obj → Prop} {A B C : World} (h : Keeps S A B) (k : Keeps S B C) : Keeps S A C :=
  ⟨Nat.le_trans h.size k.size, fun i o ho hc hs => k.cells i o (h.cells i o ho hc hs) hc hs⟩
theorem Keeps.cell {S : Nat → Obj → Prop} {A B : World} (h : Keeps S A B) {p : Addr} {v : Value} (hs : ∀ o, ¬ S p.block o) (hv : A.cell? p = some v) : B.cell? p = some v := by
  unfold World.cell? at hv ⊢
  cases hb : A.heap[p.block]? with
  | none => rw [hb] at hv; cases hv
  | some o =>
    rw [hb] at hv
    have hc : o.isCells = true := by
      cases o <;> first | rfl | (exfalso; simp at hv)
    rw [h.cells _ _ hb hc (hs o)]
    exact hv
/-- a row of texts: a block whose first cell is a text -/
def strRow (o : Obj) : Prop := ∃ cs t fz s, o = .cells cs t fz ∧ cs[0]? = some (.string s)
theorem Keeps.cellN {S : Nat → Obj → Prop} {A B : World} (h : Keeps S A B) {n k j : Nat} {u v : Value} (hSB : ∀ k o, S k o → k < n ∨ strRow o) (hk : n ≤ k) (h0 : A.cell? ⟨k, 0, none⟩ = some u) (hu : ∀ s, u ≠ .string s) (hv : A.cell? ⟨k, j, none⟩ = some v) : B.cell? ⟨k, j, none⟩ = some v := by
  unfold World.cell? at h0 hv ⊢
  simp only at h0 hv ⊢
  cases hb : A.heap[k]? with
  | none => rw [hb] at hv; cases hv
  | some o =>
    rw [hb] at hv h0
    have hc : o.isCells = true := by
      cases o <;> first | rfl | (exfalso; simp at hv)
    have hn : ¬ S k o := fun hs => by
      rcases hSB k o hs with h1 | ⟨cs, t, fz, s, rfl, h1⟩
      · omega
      · simp [h1] at h0
        exact hu s h0.symm
    rw [h.cells _ _ hb hc hn]
    exact hv
theorem Keeps.of_below {S : Nat → Obj → Prop} {A B : World} (h : Below A.heap.size A B) : Keeps S A B :=
  ⟨h.size, fun k _ ho _ _ => (h.block k (Array.getElem?_eq_some_iff.1 ho).1).trans ho⟩
theorem Keeps.alloc {S : Nat → Obj → Prop} {A B : World} (h : Keeps S A B) (o : Obj) : Keeps S A (B.alloc o) := h.trans (Keeps.of_below (below1 _ _))
mutual
theorem Tm.hold.keeps {n₀ : Nat} {S : Nat → Obj → Prop} (hS : ∀ k, k < n₀ → ∀ o, ¬ S k o) {A B : World} (h : Keeps S A B) : ∀ (t : Tm) {a : Option Addr} {cap : Nat}, t.hold n₀ A a cap → t.hold n₀ B a cap
  | .mk _ _ _ ks, _, _, ⟨h1, h2, h3, h4, h5, h6⟩ => ⟨h1, h2, h3, h4, h5, Tm.holds.keeps hS h ks h6⟩
theorem Tm.holds.keeps {n₀ : Nat} {S : Nat → Obj → Prop} (hS : ∀ k, k < n₀ → ∀ o, ¬ S k o) {A B : World} (h : Keeps S A B) : ∀ (ts : List Tm) {a : Option Addr} {i : Nat}, Tm.holds n₀ A ts a i → Tm.holds n₀ B ts a i
  | [], _, _, _ => trivial
  | .mk op n s ks :: r, _, _, ⟨⟨b, off, a', cap', ha, hb, c0, c1, c2, c3, hk⟩, hr⟩ =>
    ⟨⟨b, off, a', cap', ha, hb, h.cell (hS b hb) c0, h.cell (hS b hb) c1, h.cell (hS b hb) c2, h.cell (hS b hb) c3, Tm.hold.keeps hS h (.mk op n s ks) hk⟩, Tm.holds.keeps hS h r hr⟩
end
theorem Tm.At.keeps {n₀ : Nat} {S : Nat → Obj → Prop} (hS : ∀ k, k < n₀ → ∀ o, ¬ S k o) {A B : World} (h : Keeps S A B) {t : Tm} {a : Option Addr} {i b off : Nat} {a' : Option Addr} {cap' : Nat} (g : Tm.At n₀ A a i t b off a' cap') : Tm.At n₀ B a i t b off a' cap' :=
  ⟨g.addr, g.lt, h.cell (hS b g.lt) g.c0, h.cell (hS b g.lt) g.c1, h.cell (hS b g.lt) g.c2, h.cell (hS b g.lt) g.c3, g.held.keeps hS h⟩

theorem room_of_none {F : Fence} (hd : F.depth = none) (k : Nat) : F.room k := fun d h => by rw [hd] at h; cases h
theorem YieldAt.anyDepth' {F : Fence} (hd : F.depth = none) {m : Nat} (m' : Nat) {P : Program} {l : Nat} {args : Array Value} {W : World} {R : Ending → World → Prop} (h : YieldAt F m P l args W R) : YieldAt F m' P l args W R := by
  obtain ⟨fn, tmps, assign, body, hy, hR⟩ := h
  exact ⟨fn, tmps, assign, body, hy, hR.1, fun c cs _ => hR.2 c cs (room_of_none hd _)⟩

end Go.Proofs.YtmjclolmoobfpaaDoor
