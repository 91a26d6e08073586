/-
  causal.small, Type, right: what they tell.
-/
import Derived.Test.YtmjclolmoobfpaaDoorCausM
namespace Go.Proofs.YtmjclolmoobfpaaDoor
open Go.RowKit Go.Shelf
set_option maxRecDepth 100000

mutual
/-- how many terms a term has -/
def Tm.count : Tm → Nat
  | .mk _ _ _ ks => 1 + counts ks
def counts : List Tm → Nat
  | [] => 0
  | k :: ks => k.count + counts ks
end
mutual
/-- how deep a term is -/
def Tm.tall : Tm → Nat
  | .mk _ _ _ ks => 1 + talls ks
def talls : List Tm → Nat
  | [] => 0
  | k :: ks => max k.tall (talls ks)
end
mutual
theorem tall_count : ∀ t : Tm, t.tall ≤ t.count
  | .mk _ _ _ ks => by have := talls_counts ks; rw [Tm.tall, Tm.count]; omega
theorem talls_counts : ∀ ks : List Tm, talls ks ≤ counts ks
  | [] => by rw [talls, counts]; exact Nat.le_refl _
  | k :: ks => by have := tall_count k; have := talls_counts ks; rw [talls, counts]; omega
end
theorem tall_pos (t : Tm) : 1 ≤ t.tall := by cases t; rw [Tm.tall]; omega
mutual
theorem pre_length {n₀ : Nat} {W : World} : ∀ (d : Int) (t : Tm) (a : Option Addr) (cap : Nat) (h : t.hold n₀ W a cap), (pre n₀ W d t a cap h).length = t.count
  | d, .mk op n s ks, a, cap, h => by rw [pre, List.length_cons, pres_length _ ks, Tm.count]; omega
theorem pres_length {n₀ : Nat} {W : World} : ∀ (d : Int) (ks : List Tm) (a : Option Addr) (i : Nat) (h : Tm.holds n₀ W ks a i), (pres n₀ W d ks a i h).length = counts ks
  | d, [], a, i, h => by rw [pres, counts]; rfl
  | d, k :: ks, a, i, h => by rw [pres, List.length_append, pre_length d k, pres_length d ks, counts]
end
mutual
theorem pre_deep {n₀ : Nat} {W : World} : ∀ (d : Int) (t : Tm) (a : Option Addr) (cap : Nat) (h : t.hold n₀ W a cap), 1 ≤ d → d + t.tall < 4611686018427387904 → ((∀ x ∈ pre n₀ W d t a cap h, x.d ≤ 200) ↔ d + t.tall ≤ 201)
  | d, .mk op n s ks, a, cap, h, h1, h2 => by
    rw [Tm.tall] at h2 ⊢
    have e : wrap64 (d + 1) = d + 1 := by unfold wrap64; omega
    have := pres_deep (n₀ := n₀) (W := W) (d + 1) ks a 0 h.2.2.2.2.2 (by omega) (by omega)
    rw [pre]
    simp only [List.forall_mem_cons]
    rw [e, this]
    omega
theorem pres_deep {n₀ : Nat} {W : World} : ∀ (d : Int) (ks : List Tm) (a : Option Addr) (i : Nat) (h : Tm.holds n₀ W ks a i), 1 ≤ d → d + talls ks < 4611686018427387904 → ((∀ x ∈ pres n₀ W d ks a i h, x.d ≤ 200) ↔ (talls ks = 0 ∨ d + talls ks ≤ 201))
  | d, [], a, i, h, h1, h2 => by rw [pres, talls]; simp
  | d, k :: ks, a, i, h, h1, h2 => by
    rw [talls] at h2 ⊢
    have := tall_pos k
    rw [pres, List.forall_mem_append, pre_deep d k _ _ _ h1 (by omega), pres_deep d ks _ _ _ h1 (by omega)]
    omega
end
/-- a term is not too great, nor too deep -/
def smallB (t : Tm) : Bool := decide (t.count ≤ 2000 ∧ t.tall ≤ 200)
theorem few_small {n₀ : Nat} {W : World} (t : Tm) (a : Option Addr) (cap : Nat) (h : t.hold n₀ W a cap) : decide (few (pre n₀ W 1 t a cap h)) = smallB t := by
  unfold smallB
  refine decide_eq_decide.2 ?_
  show _ ∧ _ ↔ _
  rw [pre_length]
  have := tall_count t
  by_cases g : t.count ≤ 2000
  · rw [pre_deep 1 t a cap h (by omega) (by omega)]
    omega
  · omega

theorem small_any (t : Tm) (a : Option Addr) (cap : Nat) (w : World) (h : t.hold w.heap.size w a cap) :
    Calls Tryd.prog 19 #[.agg #[.int .i64 t.op, .int .i64 t.n, .string t.s, .slice a t.kids.length cap]] w fun e W' => e = .returned (.bool (smallB t)) ∧ Below w.heap.size w W' := by
  refine Calls.mono (callsIn_wide.1 (small_in Fence.wide rfl trivial trivial trivial trivial rfl 3 (Nat.le_refl _) t a cap w h)) ?_
  rintro e W' ⟨n₀, w', -, h', rfl, hb⟩
  exact ⟨by rw [few_small], hb⟩

/-- a term's type, by its number; and whether it is right -/
def rightB (t : Tm) : Bool := smallB t && decide (letterB t ≠ 0)
def typeB (t : Tm) : Int := if rightB t then Lib.indexByte [110, 98, 100, 63, 99] (letterB t).toNat.toUInt8 else 0

theorem ret_pair {k : IntKind} {a b : Int} {c d : Bool} (h : a = b) (g : c = d) : Ending.returned (.tuple #[.int k a, .bool c]) = .returned (.tuple #[.int k b, .bool d]) := by rw [h, g]

set_option maxHeartbeats 1000000 in
theorem Type_any (t : Tm) (a : Option Addr) (cap : Nat) (w : World) (h : t.hold w.heap.size w a cap) (he : Env w) :
    Calls Tryd.prog 7 #[.agg #[.int .i64 t.op, .int .i64 t.n, .string t.s, .slice a t.kids.length cap]] w fun e W' => e = .returned (.tuple #[.int .i64 (typeB t), .bool (rightB t)]) ∧ Below w.heap.size w W' := by
  have kk := h.bounds
  have wk1 := kk.1
  have wk2 := kk.2.1
  have kk3 := kk.2.2.2
  obtain ⟨x0, x1, x2, x3⟩ := cell_box w (.int .i64 t.op) (.int .i64 t.n) (.string t.s) (.slice a t.kids.length cap)
  have hb1 := below1 w (.cells #[.int .i64 t.op, .int .i64 t.n, .string t.s, .slice a t.kids.length cap] 24)
  have hsz : (w.alloc (.cells #[.int .i64 t.op, .int .i64 t.n, .string t.s, .slice a t.kids.length cap] 24)).heap.size = w.heap.size + 1 := by simp
  have hS := small_any t a cap (w.alloc (.cells #[.int .i64 t.op, .int .i64 t.n, .string t.s, .slice a t.kids.length cap] 24)) ((h.below hb1).mono (by simp))
  have HH := Lib.hid h
  have HE := Lib.hid he
  clear h he kk
  go_enter Tryd.func7, Tryd.ntmps7
  go_wp2_with (first
    | (go_at_call 19; refine hS.mono ?_; clear hS; rintro e w' ⟨rfl, hb⟩; have HB := Lib.hid (hb1.trans (hb.mono hb1.size)); rw [hsz] at hb; have y0 := (hb.cell (p := ⟨w.heap.size, 0, none⟩) (by simp)).trans x0; have y1 := (hb.cell (p := ⟨w.heap.size, 1, none⟩) (by simp)).trans x1; have y2 := (hb.cell (p := ⟨w.heap.size, 2, none⟩) (by simp)).trans x2; have y3 := (hb.cell (p := ⟨w.heap.size, 3, none⟩) (by simp)).trans x3; clear hb)
    | (go_at_call 20; refine (letter_any t a cap w.heap.size _ (HH.out.below HB.out) HB.out.size (HE.out.below HB.out HE.out.size)).mono ?_; rintro e w'' ⟨rfl, hb⟩; replace HB := Lib.hid (HB.out.trans (hb.mono HB.out.size)); clear hb)
    | (go_at_call 21; refine (Tryd.strings_IndexByte _ _ _).mono ?_; rintro e w''' ⟨rfl, rfl⟩))
  all_goals go_ret2
  · rename_i hx
    have hx : smallB t = false := by simpa using hx
    have e1 : rightB t = false := by unfold rightB; rw [hx]; rfl
    exact ⟨ret_pair (by unfold typeB; rw [e1]; rfl) e1.symm, HB.out⟩
  · rename_i hx hy
    have hy : letterB t = 0 := by simpa using hy
    have e1 : rightB t = false := by unfold rightB; rw [hy]; simp
    exact ⟨ret_pair (by unfold typeB; rw [e1]; rfl) e1.symm, HB.out⟩
  · rename_i hx hy
    have hx : smallB t = true := by simpa using hx
    have hy : letterB t ≠ 0 := by simpa using hy
    have e1 : rightB t = true := by unfold rightB; rw [hx, decide_eq_true hy]; rfl
    exact ⟨ret_pair (by unfold typeB; rw [e1]; rfl) e1.symm, HB.out⟩

set_option maxHeartbeats 1000000 in
theorem right_any (t : Tm) (a : Option Addr) (cap : Nat) (w : World) (h : t.hold w.heap.size w a cap) (he : Env w) :
    Calls Tryd.prog 39 #[.agg #[.int .i64 t.op, .int .i64 t.n, .string t.s, .slice a t.kids.length cap]] w fun e W' => e = .returned (.bool (rightB t)) ∧ Below w.heap.size w W' := by
  have kk := h.bounds
  have wk1 := kk.1
  have wk2 := kk.2.1
  have kk3 := kk.2.2.2
  have hb1 := below1 w (.cells #[.int .i64 t.op, .int .i64 t.n, .string t.s, .slice a t.kids.length cap] 24)
  have hT := Type_any t a cap (w.alloc (.cells #[.int .i64 t.op, .int .i64 t.n, .string t.s, .slice a t.kids.length cap] 24)) ((h.below hb1).mono (by simp)) (he.below hb1 he.size)
  go_enter Tryd.func39, Tryd.ntmps39
  go_wp2_with (go_at_call 7; refine hT.mono ?_; clear hT; rintro e w' ⟨rfl, hb⟩)
  go_ret
  exact ⟨rfl, hb1.trans (hb.mono hb1.size)⟩

end Go.Proofs.YtmjclolmoobfpaaDoor
