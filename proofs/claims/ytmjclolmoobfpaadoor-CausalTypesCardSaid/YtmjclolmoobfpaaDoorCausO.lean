/-
  causal.Check: a contract, none of whose payments hangs on what comes later.
-/
import Derived.Test.YtmjclolmoobfpaaDoorCausN
namespace Go.Proofs.YtmjclolmoobfpaaDoor
open Go.RowKit Go.Shelf
set_option maxRecDepth 100000
attribute [local go_sem] Oper.semAt_some

/-- a box of four cells -/
def Box4 (W : World) (B : Nat) (t : TypeId) (v0 v1 v2 v3 : Value) : Prop := W.heap[B]? = some (.cells #[v0, v1, v2, v3] t (0, 0))
theorem Box4.new (W : World) (t : TypeId) (v0 v1 v2 v3 : Value) : Box4 (W.alloc (.cells #[v0, v1, v2, v3] t)) W.heap.size t v0 v1 v2 v3 := World.alloc_heap_new W _
theorem Box4.cells {W : World} {B : Nat} {t : TypeId} {v0 v1 v2 v3 : Value} (h : Box4 W B t v0 v1 v2 v3) : W.cell? ⟨B, 0, none⟩ = some v0 ∧ W.cell? ⟨B, 1, none⟩ = some v1 ∧ W.cell? ⟨B, 2, none⟩ = some v2 ∧ W.cell? ⟨B, 3, none⟩ = some v3 := by
  refine ⟨?_, ?_, ?_, ?_⟩ <;> simp [World.cell?, show W.heap[B]? = _ from h]
theorem Box4.own {W W' : World} {row : Option Nat} {B : Nat} {t : TypeId} {v0 v1 v2 v3 : Value} (h : Box4 W B t v0 v1 v2 v3) (hg : W.grownBy W' row) (hr : ∀ r, row = some r → ∃ o : Obj, W.heap[r]? = some o ∧ o.isCells = false) : Box4 W' B t v0 v1 v2 v3 := by
  refine (hg.block B (Array.getElem?_eq_some_iff.1 h).1 (fun e => ?_)).trans h
  obtain ⟨o, ho, hc⟩ := hr B e.symm
  have h' : W.heap[B]? = some (.cells #[v0, v1, v2, v3] t (0, 0)) := h
  rw [h'] at ho
  cases ho
  cases hc

/-- a term that asks for what comes later -/
def aheadT (t : Tm) : Bool := (decide (t.op = 4) || decide (t.op = 5)) && decide (t.n < 0)
def noneAhead {n₀ : Nat} {W : World} (xs : List (El n₀ W)) : Prop := ∀ x ∈ xs, aheadT x.t = false

theorem cell_lt {W : World} {p : Addr} {v : Value} (h : W.cell? p = some v) : p.block < W.heap.size := by
  rcases Nat.lt_or_ge p.block W.heap.size with g | g
  · exact g
  · have : W.heap[p.block]? = none := Array.getElem?_eq_none g
    simp [World.cell?, this] at h
theorem noneAhead.snoc {n₀ : Nat} {W : World} {xs : List (El n₀ W)} {x : El n₀ W} (h : noneAhead xs) (hx : aheadT x.t = false) : noneAhead (xs ++ [x]) := fun y hy => by
  rcases List.mem_append.1 hy with g | g
  · exact h y g
  · simp at g; subst g; exact hx
theorem noneAhead.last {n₀ : Nat} {W : World} {xs : List (El n₀ W)} {x : El n₀ W} (h : noneAhead (xs ++ [x])) : aheadT x.t = false := h x (by simp)

set_option maxHeartbeats 4000000 in
theorem Check_in (t : Tm) (a : Option Addr) (cap : Nat) (w : World) (h : t.hold w.heap.size w a cap) (he : Env w) :
    Calls Tryd.prog 10 #[.agg #[.int .i64 t.op, .int .i64 t.n, .string t.s, .slice a t.kids.length cap]] w fun e W' => ∃ n₀ w', ∃ h' : t.hold n₀ w' a cap,
      ((¬ (rightB t = true ∧ typeB t = 4) ∧ e = .returned (.int .i64 140)) ∨ ((rightB t = true ∧ typeB t = 4) ∧ (noneAhead (pre n₀ w' 1 t a cap h') ∧ e = .returned (.int .i64 0) ∨ ¬ noneAhead (pre n₀ w' 1 t a cap h') ∧ e = .returned (.int .i64 141)))) ∧ Below w.heap.size w W' := by
  have kk := h.bounds
  have wk1 := kk.1
  have wk2 := kk.2.1
  have kk3 := kk.2.2.2
  obtain ⟨W1, hW1⟩ : ∃ W1, W1 = (w.alloc (.cells #[.int .i64 t.op, .int .i64 t.n, .string t.s, .slice a t.kids.length cap] 24)).alloc (.cells #[.int .i64 0] 30) := ⟨_, rfl⟩
  have hB1 : Below w.heap.size w W1 := hW1 ▸ ((Below.refl _ w).alloc (Nat.le_refl _) _).alloc (by simp) _
  have hsz : W1.heap.size = w.heap.size + 2 := by rw [hW1]; simp
  have hT := Type_any t a cap W1 ((h.below hB1).mono hB1.size) (he.below hB1 he.size)
  obtain ⟨x0, x1, x2, x3⟩ : W1.cell? ⟨w.heap.size, 0, none⟩ = some (.int .i64 t.op) ∧ W1.cell? ⟨w.heap.size, 1, none⟩ = some (.int .i64 t.n) ∧ W1.cell? ⟨w.heap.size, 2, none⟩ = some (.string t.s) ∧ W1.cell? ⟨w.heap.size, 3, none⟩ = some (.slice a t.kids.length cap) := by
    have c := cell_box w (.int .i64 t.op) (.int .i64 t.n) (.string t.s) (.slice a t.kids.length cap)
    rw [hW1]
    exact ⟨cell_alloc' _ c.1, cell_alloc' _ c.2.1, cell_alloc' _ c.2.2.1, cell_alloc' _ c.2.2.2⟩
  have e1 : W1.cell? ⟨w.heap.size + 1, 0, none⟩ = some (.int .i64 0) ∧ W1.frozen? ⟨w.heap.size + 1, 0, none⟩ = false := by
    have c := cell_new (w.alloc (.cells #[.int .i64 t.op, .int .i64 t.n, .string t.s, .slice a t.kids.length cap] 24)) (.int .i64 0) 30
    simp only [World.size_alloc] at c
    rw [hW1]
    exact c
  rw [hW1] at x0 x1 x2 x3
  have HH := Lib.hid h
  clear h he kk
  by_cases hr : rightB t = true
  · by_cases ht : typeB t = 4
    · refine (callsIn_wide (n := 3)).1 ?_
      refine callsIn_of_wp_marks Tryd.func10 rfl trivial ?_ rfl
      simp only [Tryd.ntmps10, List.size_toArray, List.length_cons, List.length_nil, Nat.reduceAdd, Nat.reduceSub, Array.replicate_succ, Array.replicate_zero, List.push_toArray, List.append_toArray, List.nil_append, List.cons_append]
      gi_wp2_with (first
        | ((try refine ⟨trivial, ?_⟩); gi_at_call 7; rw [← hW1]; refine (callsIn_wide.2 hT).mono ?_; clear hT; rintro e w' ⟨rfl, hb⟩; have y0 := (hb.cell (p := ⟨w.heap.size, 0, none⟩) (show w.heap.size < W1.heap.size by omega)).trans (hW1.symm ▸ x0); have y1 := (hb.cell (p := ⟨w.heap.size, 1, none⟩) (show w.heap.size < W1.heap.size by omega)).trans (hW1.symm ▸ x1); have y2 := (hb.cell (p := ⟨w.heap.size, 2, none⟩) (show w.heap.size < W1.heap.size by omega)).trans (hW1.symm ▸ x2); have y3 := (hb.cell (p := ⟨w.heap.size, 3, none⟩) (show w.heap.size < W1.heap.size by omega)).trans (hW1.symm ▸ x3))
        | (refine ⟨trivial, ?_⟩; gi_at_call 25; refine (all_in _ _ trivial rfl _ _ _ _ _).mono ?_; rintro e w'' ⟨rfl, rfl⟩))
      have hbw : Below w.heap.size w w' := hB1.trans (hb.mono hB1.size)
      have f1 := (hb.cell (p := ⟨w.heap.size + 1, 0, none⟩) (show w.heap.size + 1 < W1.heap.size by omega)).trans e1.1
      have f2 : w'.frozen? ⟨w.heap.size + 1, 0, none⟩ = false := (hb.frozen (p := ⟨w.heap.size + 1, 0, none⟩) (show w.heap.size + 1 < W1.heap.size by omega)).trans e1.2
      have hwsz := hb.size
      obtain ⟨W0, hW0⟩ : ∃ W0, W0 = w'.alloc (.cells #[.int .i64 t.op, .int .i64 t.n, .string t.s, .slice a t.kids.length cap] 24) := ⟨_, rfl⟩
      obtain ⟨b0, b1, b2, b3⟩ := (hW0 ▸ Box4.new w' 24 (.int .i64 t.op) (.int .i64 t.n) (.string t.s) (.slice a t.kids.length cap) : Box4 W0 w'.heap.size 24 (.int .i64 t.op) (.int .i64 t.n) (.string t.s) (.slice a t.kids.length cap)).cells
      have hB0 : Below w.heap.size w W0 := hW0 ▸ hbw.alloc hbw.size _
      have g1 : W0.cell? ⟨w.heap.size + 1, 0, none⟩ = some (.int .i64 0) := hW0 ▸ cell_alloc' _ f1
      have g2 : W0.frozen? ⟨w.heap.size + 1, 0, none⟩ = false := hW0 ▸ frozen_alloc' _ f1 f2
      have hs0 : W0.heap.size = w'.heap.size + 1 := by rw [hW0]; simp
      rw [← hW0]
      have h' : t.hold w.heap.size W0 a cap := HH.out.below hB0
      obtain ⟨S, hSd⟩ : ∃ S : Nat → Obj → Prop, S = fun k _ => k = w.heap.size + 1 := ⟨_, rfl⟩
      have hs1 : ∀ o, S (w.heap.size + 1) o := by rw [hSd]; intro o; rfl
      have hsA : ∀ k, k < w.heap.size → ∀ o, ¬ S k o := by rw [hSd]; intro k hk o; omega
      have hsB : ∀ k o, S k o → k < W0.heap.size ∨ strRow o := by rw [hSd]; intro k o hk; exact .inl (by omega)
      clear hSd hW0
      refine wpIn_rangeFunc_ownH rfl (by decide) (gf := 40) (lb := #[.pointer (some ⟨w'.heap.size, 0, none⟩)]) rfl trivial (enters_of Tryd.func40 (by kernel_rfl) rfl)
        (all1_stops Fence.wide rfl trivial trivial rfl (3 - 1) w.heap.size W0 S hsA hsB w'.heap.size (by omega) t a cap h' b0 b1 b2 b3)
        Keeps.trans (fun W l o o' _ ho hc _ => keeps_b W l o o' ho hc) (Below.refl _ _) (fun _ => rfl)
        (fun xs W => (noneAhead xs ∧ W.cell? ⟨w.heap.size + 1, 0, none⟩ = some (.int .i64 0) ∧ W.frozen? ⟨w.heap.size + 1, 0, none⟩ = false) ∧ Below w.heap.size w W)
        (fun c xs W => (c = .ret ∧ ¬ noneAhead xs ∧ W.cell? ⟨w.heap.size + 1, 0, none⟩ = some (.int .i64 141)) ∧ Below w.heap.size w W)
        (OwnFrom.and (Own.from (fun s A B row hs hg hr => ⟨hs.1, cell_kept hs.2.1 hg hr, (frozen_kept hs.2.1 hg hr).trans hs.2.2⟩) _) (ownFrom_below (Nat.le_refl _) (by omega)))
        (fun c => OwnFrom.and (Own.from (fun s A B row hs hg hr => ⟨hs.1, hs.2.1, cell_kept hs.2.2 hg hr⟩) _) (ownFrom_below (Nat.le_refl _) (by omega)))
        ⟨⟨fun x hx => (by simp at hx), g1, g2⟩, hB0⟩
        (fun x a' W => ∃ Bx, w.heap.size + 1 < Bx ∧ Box4 W Bx 24 (.int .i64 x.t.op) (.int .i64 x.t.n) (.string x.t.s) (.slice x.a x.t.kids.length x.cap) ∧ a' = { tmps := #[.agg #[.int .i64 t.op, .int .i64 t.n, .string t.s, .slice a t.kids.length cap], .pointer (some ⟨w.heap.size, 0, none⟩), .pointer (some ⟨w.heap.size + 1, 0, none⟩), .int .i64 4, .bool true, undef, .pointer (some ⟨Bx, 0, none⟩), .tuple #[.int .i64 4, .bool true],
          .agg #[.int .i64 t.op, .int .i64 t.n, .string t.s, .slice a t.kids.length cap], .tuple #[.int .i64 4, .bool true], .int .i64 4, .bool true, .bool true, .bool false, .bool false, .int .i64 4, .bool false, .bool false, .agg #[.int .i64 t.op, .int .i64 t.n, .string t.s, .slice a t.kids.length cap], .func (.func 40) #[] #[.pointer (some ⟨w'.heap.size, 0, none⟩)], .int .i64 x.d, .agg #[.int .i64 x.t.op, .int .i64 x.t.n, .string x.t.s, .slice x.a x.t.kids.length x.cap], undef, undef, undef, undef, undef, undef, undef, undef, undef, undef, undef, undef, undef], defers := [] })
        (fun x a' _ X Y row hs hg hr => by obtain ⟨Bx, h1, h2, h3⟩ := hs; exact ⟨Bx, h1, h2.own hg (fun r e => (hr r e).2), h3⟩)
        ?assign ?body ?done ?stop
      case assign =>
        rintro l xs x W K ⟨⟨hn, c1, z1⟩, hB⟩ hK
        have kx := x.held.bounds
        have wx1 := kx.1
        have wx2 := kx.2.1
        have kx3 := kx.2.2.2
        clear kx
        simp only [El.enc]
        gi_wp2
        exact hK _ _ ((KeepsOthers.alloc _ _).from _) ((Keeps.refl _ _).alloc _) ⟨⟨hn, cell_alloc' _ c1, frozen_alloc' _ c1 z1⟩, hB.alloc hB.size _⟩ ⟨W.heap.size, cell_lt c1, Box4.new W _ _ _ _ _, rfl⟩
      case body =>
        rintro l xs x a' W hl ⟨r, hr⟩ ⟨⟨hn, c1, z1⟩, hB⟩ ⟨Bx, hBx, bX, rfl⟩ hlt
        obtain ⟨d0, d1, d2, d3⟩ := bX.cells
        have HN := Lib.hid hn
        have HB := Lib.hid hB
        clear hn hB
        gi_wp2
        all_goals first
          | (have ha : aheadT x.t = true := by unfold aheadT; simp only [Bool.and_eq_true, Bool.or_eq_true, decide_eq_true_eq]; omega
             exact ⟨(KeepsOthers.setCell _ _ _).from _, ⟨rfl, fun g => absurd (ha.symm.trans g.last) (by decide), World.cell?_setCell_same' _ _ _ (by rw [c1]; rfl)⟩, HB.out.setCell (p := ⟨w.heap.size + 1, 0, none⟩) (by simp) _⟩)
          | (have ha : aheadT x.t = false := by unfold aheadT; rw [← Bool.not_eq_true]; simp only [Bool.and_eq_true, Bool.or_eq_true, decide_eq_true_eq]; omega
             exact ⟨KeepsFrom.refl _ _, Keeps.refl _ _, ⟨HN.out.snoc ha, c1, z1⟩, HB.out⟩)
      case done =>
        rintro D ys W hD rfl ⟨⟨hf, c1, z1⟩, hB⟩ hK
        gi_wp2
        have hK' := (KeepsOthers.setCell W ⟨w.heap.size + 1, 0, none⟩ (.int .i64 0)).same D _ hK rfl
        refine ⟨by simp, .inl ⟨_, _, rfl, run_takeDeferred hK', ?_⟩⟩
        have hc5 := cell_kept (World.cell?_setCell_same' W ⟨w.heap.size + 1, 0, none⟩ (.int .i64 0) (by rw [c1]; rfl)) (grownBy_putObj' _ D (.deferred none)) (fun r e => by cases e; exact ⟨_, hK', rfl⟩)
        refine ⟨.int .i64 0, ?_, _, W0, h', .inr ⟨⟨hr, ht⟩, .inl ⟨hf, rfl⟩⟩, (hB.setCell (p := ⟨w.heap.size + 1, 0, none⟩) (by simp) _).trans (belowK_b (w := w) (Nat.le_refl _) _ D _ _ (by omega) hK' rfl rfl)⟩
        simp [results, Tryd.f10, go_sem, hc5]
      case stop =>
        rintro D c xs W hD hpre ⟨⟨rfl, hnf, hcr⟩, hB⟩ hK
        gi_wp2
        refine ⟨by simp, .inl ⟨_, _, rfl, run_takeDeferred hK, ?_⟩⟩
        have hc5 := cell_kept hcr (grownBy_putObj' _ D (.deferred none)) (fun r e => by cases e; exact ⟨_, hK, rfl⟩)
        refine ⟨.int .i64 141, ?_, _, W0, h', .inr ⟨⟨hr, ht⟩, .inr ⟨fun hh => hnf (fun x hx => hh x (hpre.subset hx)), rfl⟩⟩, hB.trans (belowK_b (w := w) (Nat.le_refl _) W D _ _ (by omega) hK rfl rfl)⟩
        simp [results, Tryd.f10, go_sem, hc5]
    · have hno : ¬ (rightB t = true ∧ typeB t = 4) := fun g => ht g.2
      have hq : (typeB t == 4) = false := by simpa using ht
      go_enter Tryd.func10, Tryd.ntmps10
      go_wp2_with (go_at_call 7; rw [← hW1]; refine hT.mono ?_; clear hT; rintro e w' ⟨rfl, hb⟩; have f1 := (hb.cell (p := ⟨w.heap.size + 1, 0, none⟩) (show w.heap.size + 1 < W1.heap.size by omega)).trans e1.1; have f2 : w'.frozen? ⟨w.heap.size + 1, 0, none⟩ = false := (hb.frozen (p := ⟨w.heap.size + 1, 0, none⟩) (show w.heap.size + 1 < W1.heap.size by omega)).trans e1.2)
      have hc5 : (w'.setCell ⟨w.heap.size + 1, 0, none⟩ (.int .i64 140)).cell? ⟨w.heap.size + 1, 0, none⟩ = some (.int .i64 140) := World.cell?_setCell_same' _ _ _ (by rw [f1]; rfl)
      refine bodyPost_ret (v := .int .i64 140) ?_ rfl ⟨w.heap.size, w, HH.out, .inl ⟨hno, rfl⟩, (hB1.trans (hb.mono hB1.size)).setCell (p := ⟨w.heap.size + 1, 0, none⟩) (by simp) _⟩
      simp [results, Tryd.f10, go_sem, hc5]
  · have hno : ¬ (rightB t = true ∧ typeB t = 4) := fun g => hr g.1
    have hq : rightB t = false := by simpa using hr
    have hq2 : typeB t = 0 := by unfold typeB; rw [hq]; rfl
    go_enter Tryd.func10, Tryd.ntmps10
    go_wp2_with (go_at_call 7; rw [← hW1]; refine hT.mono ?_; clear hT; rintro e w' ⟨rfl, hb⟩; have f1 := (hb.cell (p := ⟨w.heap.size + 1, 0, none⟩) (show w.heap.size + 1 < W1.heap.size by omega)).trans e1.1; have f2 : w'.frozen? ⟨w.heap.size + 1, 0, none⟩ = false := (hb.frozen (p := ⟨w.heap.size + 1, 0, none⟩) (show w.heap.size + 1 < W1.heap.size by omega)).trans e1.2)
    have hc5 : (w'.setCell ⟨w.heap.size + 1, 0, none⟩ (.int .i64 140)).cell? ⟨w.heap.size + 1, 0, none⟩ = some (.int .i64 140) := World.cell?_setCell_same' _ _ _ (by rw [f1]; rfl)
    refine bodyPost_ret (v := .int .i64 140) ?_ rfl ⟨w.heap.size, w, HH.out, .inl ⟨hno, rfl⟩, (hB1.trans (hb.mono hB1.size)).setCell (p := ⟨w.heap.size + 1, 0, none⟩) (by simp) _⟩
    simp [results, Tryd.f10, go_sem, hc5]

end Go.Proofs.YtmjclolmoobfpaaDoor
