/-
  causal.small: a term is not too great, nor too deep.
-/
import Derived.Test.YtmjclolmoobfpaaDoorCausK
import Derived.RangeFuncFrom
namespace Go.Proofs.YtmjclolmoobfpaaDoor
open Go.RowKit Go.Shelf
set_option maxRecDepth 100000
attribute [local go_sem] Oper.semAt_some

theorem cell_of_box {W : World} {B : Nat} {v : Value} {t : TypeId} (h : W.heap[B]? = some (.cells #[v] t (0, 0))) : W.cell? ⟨B, 0, none⟩ = some v ∧ W.frozen? ⟨B, 0, none⟩ = false := by
  constructor <;> simp [World.cell?, World.frozen?, h]
theorem cell_new (W : World) (v : Value) (t : TypeId) : (W.alloc (.cells #[v] t)).cell? ⟨W.heap.size, 0, none⟩ = some v ∧ (W.alloc (.cells #[v] t)).frozen? ⟨W.heap.size, 0, none⟩ = false :=
  cell_of_box (World.alloc_heap_new W _)
theorem cell_alloc' {W : World} {a : Addr} {v : Value} (o : Obj) (h : W.cell? a = some v) : (W.alloc o).cell? a = some v := cell_kept h (World.grownBy_alloc W o none) (fun r e => by cases e)
theorem frozen_alloc' {W : World} {a : Addr} {v : Value} (o : Obj) (h : W.cell? a = some v) (hf : W.frozen? a = false) : (W.alloc o).frozen? a = false := (frozen_kept h (World.grownBy_alloc W o none) (fun r e => by cases e)).trans hf
theorem Keeps.setCell {S : Nat → Obj → Prop} {A B : World} (h : Keeps S A B) {p : Addr} (hp : ∀ o, S p.block o) (v : Value) : Keeps S A (B.setCell p v) := by
  refine h.trans ⟨by simp [World.setCell], fun k o ho hc hs => ?_⟩
  rw [← ho]
  exact Below.heap_setCell B p v k (fun e => hs (e ▸ hp o))
theorem keeps_b {S : Nat → Obj → Prop} (W : World) (l : Nat) (o o' : Obj) (h : W.heap[l]? = some o) (hc : o.isCells = false) : Keeps S W (W.putObj l o') := by
  refine ⟨by simp, fun k q hq hqc _ => ?_⟩
  rw [← hq]
  refine World.putObj_heap_other (fun e => ?_)
  subst e
  rw [h] at hq
  cases hq
  rw [hc] at hqc
  cases hqc

/-- so many terms, so deep, are taken -/
def few {n₀ : Nat} {W : World} (xs : List (El n₀ W)) : Prop := xs.length ≤ 2000 ∧ ∀ x ∈ xs, x.d ≤ 200
instance {n₀ : Nat} {W : World} (xs : List (El n₀ W)) : Decidable (few xs) := inferInstanceAs (Decidable (_ ∧ _))
theorem few.pref {n₀ : Nat} {W : World} {xs ys : List (El n₀ W)} (h : few ys) (hp : xs <+: ys) : few xs := ⟨Nat.le_trans hp.length_le h.1, fun x hx => h.2 x (hp.subset hx)⟩

set_option maxHeartbeats 4000000 in
theorem small_in (F : Fence) (hd : F.depth = none) (h19 : F.fn 19) (h25 : F.fn 25) (h40 : F.fn 40) (h41 : F.fn 41) (hro : F.round = none) (n : Nat) (hn : 3 ≤ n)
    (t : Tm) (a : Option Addr) (cap : Nat) (w : World) (h : t.hold w.heap.size w a cap) :
    CallsIn F n Tryd.prog 19 #[.agg #[.int .i64 t.op, .int .i64 t.n, .string t.s, .slice a t.kids.length cap]] w fun e W' => ∃ n₀ w', Below w.heap.size w w' ∧ ∃ h', e = .returned (.bool (decide (few (pre n₀ w' 1 t a cap h')))) ∧ Below w.heap.size w W' := by
  have h1 : 1 ≤ n := by omega
  have hdd : ∀ k : Nat, (F.depth.isSome = true → 1 ≤ k) := fun k h => by rw [hd] at h; cases h
  have kk := h.bounds
  have wk1 := kk.1
  have wk2 := kk.2.1
  have kk3 := kk.2.2.2
  refine callsIn_of_wp_marks Tryd.func19 rfl h19 ?_ hro
  simp only [Tryd.ntmps19, List.size_toArray, List.length_cons, List.length_nil, Nat.reduceAdd, Nat.reduceSub, Array.replicate_succ, Array.replicate_zero, List.push_toArray, List.append_toArray, List.nil_append, List.cons_append]
  gi_wp2_with (gi_at_call 25; refine (all_in F (n - 1) h25 hro _ _ _ _ _).mono ?_; rintro e w' ⟨rfl, rfl⟩)
  obtain ⟨W0, hW0⟩ : ∃ W0, W0 = (((w.alloc (.cells #[.int .i64 t.op, .int .i64 t.n, .string t.s, .slice a t.kids.length cap] 24)).alloc (.cells #[.bool false] 4)).alloc (.cells #[.int .i64 0] 3)).alloc (.cells #[.int .i64 t.op, .int .i64 t.n, .string t.s, .slice a t.kids.length cap] 24) := ⟨_, rfl⟩
  have hB0 : Below w.heap.size w W0 := hW0 ▸ ((((Below.refl _ w).alloc (Nat.le_refl _) _).alloc (by simp) _).alloc (by simp; omega) _).alloc (by simp; omega) _
  have hsz : W0.heap.size = w.heap.size + 4 := by rw [hW0]; simp
  have e1 : W0.cell? ⟨w.heap.size + 1, 0, none⟩ = some (.bool false) ∧ W0.frozen? ⟨w.heap.size + 1, 0, none⟩ = false := by
    have c := cell_new (w.alloc (.cells #[.int .i64 t.op, .int .i64 t.n, .string t.s, .slice a t.kids.length cap] 24)) (.bool false) 4
    simp only [World.size_alloc] at c
    rw [hW0]
    exact ⟨cell_alloc' _ (cell_alloc' _ c.1), frozen_alloc' _ (cell_alloc' _ c.1) (frozen_alloc' _ c.1 c.2)⟩
  have e2 : W0.cell? ⟨w.heap.size + 1 + 1, 0, none⟩ = some (.int .i64 0) ∧ W0.frozen? ⟨w.heap.size + 1 + 1, 0, none⟩ = false := by
    have c := cell_new ((w.alloc (.cells #[.int .i64 t.op, .int .i64 t.n, .string t.s, .slice a t.kids.length cap] 24)).alloc (.cells #[.bool false] 4)) (.int .i64 0) 3
    simp only [World.size_alloc] at c
    rw [hW0]
    exact ⟨cell_alloc' _ c.1, frozen_alloc' _ c.1 c.2⟩
  obtain ⟨b0, b1, b2, b3⟩ : W0.cell? ⟨w.heap.size + 1 + 1 + 1, 0, none⟩ = some (.int .i64 t.op) ∧ W0.cell? ⟨w.heap.size + 1 + 1 + 1, 1, none⟩ = some (.int .i64 t.n) ∧ W0.cell? ⟨w.heap.size + 1 + 1 + 1, 2, none⟩ = some (.string t.s) ∧
      W0.cell? ⟨w.heap.size + 1 + 1 + 1, 3, none⟩ = some (.slice a t.kids.length cap) := by
    have c := cell_box (((w.alloc (.cells #[.int .i64 t.op, .int .i64 t.n, .string t.s, .slice a t.kids.length cap] 24)).alloc (.cells #[.bool false] 4)).alloc (.cells #[.int .i64 0] 3)) (.int .i64 t.op) (.int .i64 t.n) (.string t.s) (.slice a t.kids.length cap)
    simp only [World.size_alloc] at c
    rw [hW0]
    exact c
  rw [← hW0]
  clear hW0
  have h' : t.hold w.heap.size W0 a cap := h.below hB0
  obtain ⟨S, hSd⟩ : ∃ S : Nat → Obj → Prop, S = fun k _ => k = w.heap.size + 1 ∨ k = w.heap.size + 1 + 1 := ⟨_, rfl⟩
  have hs1 : ∀ o, S (w.heap.size + 1) o := by rw [hSd]; intro o; exact .inl rfl
  have hs2 : ∀ o, S (w.heap.size + 1 + 1) o := by rw [hSd]; intro o; exact .inr rfl
  have hsA : ∀ k, k < w.heap.size → ∀ o, ¬ S k o := by rw [hSd]; intro k hk o; omega
  have hsB : ∀ k o, S k o → k < W0.heap.size ∨ strRow o := by rw [hSd]; intro k o hk; exact .inl (by omega)
  clear hSd
  refine wpIn_rangeFunc_ownF hro h1 (gf := 40) (lb := #[.pointer (some ⟨w.heap.size + 1 + 1 + 1, 0, none⟩)]) rfl h40 (enters_of Tryd.func40 (by kernel_rfl) rfl)
    (all1_stops F hd h40 h41 hro (n - 1) w.heap.size W0 S hsA hsB (w.heap.size + 1 + 1 + 1) (by omega) t a cap h' b0 b1 b2 b3)
    Keeps.trans (fun W l o o' _ ho hc _ => keeps_b W l o o' ho hc) (Below.refl _ _) (fun _ => rfl)
    (fun xs W => (few xs ∧ (W.cell? ⟨w.heap.size + 1 + 1, 0, none⟩ = some (.int .i64 xs.length) ∧ W.frozen? ⟨w.heap.size + 1 + 1, 0, none⟩ = false) ∧ W.cell? ⟨w.heap.size + 1, 0, none⟩ = some (.bool false) ∧ W.frozen? ⟨w.heap.size + 1, 0, none⟩ = false) ∧ Below w.heap.size w W)
    (fun c xs W => (c = .ret ∧ ¬ few xs ∧ W.cell? ⟨w.heap.size + 1, 0, none⟩ = some (.bool false)) ∧ Below w.heap.size w W)
    (OwnFrom.and (Own.from (fun s A B row hs hg hr => ⟨hs.1, ⟨cell_kept hs.2.1.1 hg hr, (frozen_kept hs.2.1.1 hg hr).trans hs.2.1.2⟩, cell_kept hs.2.2.1 hg hr, (frozen_kept hs.2.2.1 hg hr).trans hs.2.2.2⟩) _) (ownFrom_below (Nat.le_refl _) (by omega)))
    (fun c => OwnFrom.and (Own.from (fun s A B row hs hg hr => ⟨hs.1, hs.2.1, cell_kept hs.2.2 hg hr⟩) _) (ownFrom_below (Nat.le_refl _) (by omega)))
    ⟨⟨⟨by simp, by simp⟩, e2, e1⟩, hB0⟩
    (fun x => { tmps := #[.agg #[.int .i64 t.op, .int .i64 t.n, .string t.s, .slice a t.kids.length cap], .pointer (some ⟨w.heap.size, 0, none⟩), .pointer (some ⟨w.heap.size + 1, 0, none⟩), .pointer (some ⟨w.heap.size + 1 + 1, 0, none⟩), .int .i64 x.d,
      .agg #[.int .i64 t.op, .int .i64 t.n, .string t.s, .slice a t.kids.length cap], .func (.func 40) #[] #[.pointer (some ⟨w.heap.size + 1 + 1 + 1, 0, none⟩)], .int .i64 x.d, .agg #[.int .i64 x.t.op, .int .i64 x.t.n, .string x.t.s, .slice x.a x.t.kids.length x.cap], undef, undef, undef, undef, undef, undef, undef, undef], defers := [] }) ?assign ?body ?done ?stop
  case assign =>
    intro l x W K hK
    simp only [El.enc]
    gi_wp2
    exact hK
  case body =>
    rintro l xs x W ⟨⟨hf, ⟨c2, z2⟩, c1, z1⟩, hB⟩ _
    have hl := hf.1
    have HF := Lib.hid hf
    have HB := Lib.hid hB
    clear hf hB
    gi_wp2
    all_goals first
      | (have hnf : ¬ few (xs ++ [x]) := by
           rintro ⟨g1, g2⟩
           have g3 := g2 x (by simp)
           simp only [List.length_append, List.length_singleton] at g1
           omega
         exact ⟨(KeepsOthers.setCell _ _ _).trans (KeepsOthers.setCell _ _ _), ⟨rfl, hnf, World.cell?_setCell_same' _ _ _ (by rw [World.cell?_setCell_other _ _ _ _ (by simp)]; rw [c1]; rfl)⟩, (HB.out.setCell (p := ⟨w.heap.size + 1 + 1, 0, none⟩) (by simp; omega) _).setCell (p := ⟨w.heap.size + 1, 0, none⟩) (by simp) _⟩)
      | (have hyf : few (xs ++ [x]) := by
           refine ⟨by simp only [List.length_append, List.length_singleton]; omega, fun y hy => ?_⟩
           rcases List.mem_append.1 hy with g | g
           · exact HF.out.2 y g
           · simp at g; subst g; omega
         exact ⟨KeepsOthers.setCell _ _ _, (Keeps.refl S W).setCell (p := ⟨w.heap.size + 1 + 1, 0, none⟩) hs2 _, ⟨hyf, ⟨by simp only [List.length_append, List.length_singleton]; exact World.cell?_setCell_same' _ _ _ (by rw [c2]; rfl), by rw [World.frozen?_setCell]; exact z2⟩, by rw [World.cell?_setCell_other _ _ _ _ (by simp)]; exact c1, by rw [World.frozen?_setCell]; exact z1⟩,
           HB.out.setCell (p := ⟨w.heap.size + 1 + 1, 0, none⟩) (by simp; omega) _⟩)
  case done =>
    rintro D ys W hD rfl ⟨⟨hf, ⟨c2, z2⟩, c1, z1⟩, hB⟩ hK
    gi_wp2
    have hK' := (KeepsOthers.setCell W ⟨w.heap.size + 1, 0, none⟩ (.bool true)).same D _ hK rfl
    refine ⟨by simp, .inl ⟨_, _, rfl, run_takeDeferred hK', ?_⟩⟩
    have hc5 := cell_kept (World.cell?_setCell_same' W ⟨w.heap.size + 1, 0, none⟩ (.bool true) (by rw [c1]; rfl)) (grownBy_putObj' _ D (.deferred none)) (fun r e => by cases e; exact ⟨_, hK', rfl⟩)
    refine ⟨.bool true, ?_, _, W0, hB0, h', by rw [decide_eq_true hf], (hB.setCell (p := ⟨w.heap.size + 1, 0, none⟩) (by simp) _).trans (belowK_b (w := w) (Nat.le_refl _) _ D _ _ (by omega) hK' rfl rfl)⟩
    simp [results, Tryd.f19, go_sem, hc5]
  case stop =>
    rintro D c xs W hD hpre ⟨⟨rfl, hnf, hcr⟩, hB⟩ hK
    gi_wp2
    refine ⟨by simp, .inl ⟨_, _, rfl, run_takeDeferred hK, ?_⟩⟩
    have hc5 := cell_kept hcr (grownBy_putObj' _ D (.deferred none)) (fun r e => by cases e; exact ⟨_, hK, rfl⟩)
    refine ⟨.bool false, ?_, _, W0, hB0, h', by rw [decide_eq_false (fun hh => hnf (hh.pref hpre))], hB.trans (belowK_b (w := w) (Nat.le_refl _) W D _ _ (by omega) hK rfl rfl)⟩
    simp [results, Tryd.f19, go_sem, hc5]

end Go.Proofs.YtmjclolmoobfpaaDoor
