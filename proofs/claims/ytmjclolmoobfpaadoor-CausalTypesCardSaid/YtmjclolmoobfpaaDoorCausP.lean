/-
  causal.each: something is asked of all terms of a right one.
-/
import Derived.Test.YtmjclolmoobfpaaDoorCausO
namespace Go.Proofs.YtmjclolmoobfpaaDoor
open Go.RowKit Go.Shelf
set_option maxRecDepth 100000
attribute [local go_sem] Oper.semAt_some

mutual
/-- a term's terms -/
def Tm.terms : Tm → List Tm
  | .mk op n s ks => .mk op n s ks :: termss ks
def termss : List Tm → List Tm
  | [] => []
  | k :: ks => k.terms ++ termss ks
end
mutual
theorem pre_terms {n₀ : Nat} {W : World} : ∀ (d : Int) (t : Tm) (a : Option Addr) (cap : Nat) (h : t.hold n₀ W a cap), (pre n₀ W d t a cap h).map El.t = t.terms
  | d, .mk op n s ks, a, cap, h => by rw [pre, List.map_cons, pres_terms _ ks, Tm.terms]
theorem pres_terms {n₀ : Nat} {W : World} : ∀ (d : Int) (ks : List Tm) (a : Option Addr) (i : Nat) (h : Tm.holds n₀ W ks a i), (pres n₀ W d ks a i h).map El.t = termss ks
  | d, [], a, i, h => by rw [pres, termss]; rfl
  | d, k :: ks, a, i, h => by rw [pres, List.map_append, pre_terms d k, pres_terms d ks, termss]
end
/-- whether a term is a contract that does not look ahead -/
def checkB (t : Tm) : Int := if rightB t = true ∧ typeB t = 4 then (if t.terms.any aheadT then 141 else 0) else 140
theorem noneAhead_iff {n₀ : Nat} {W : World} (t : Tm) (a : Option Addr) (cap : Nat) (h : t.hold n₀ W a cap) : noneAhead (pre n₀ W 1 t a cap h) ↔ t.terms.any aheadT = false := by
  rw [← pre_terms 1 t a cap h]
  unfold noneAhead
  simp

theorem Check_any (t : Tm) (a : Option Addr) (cap : Nat) (w : World) (h : t.hold w.heap.size w a cap) (he : Env w) :
    Calls Tryd.prog 10 #[.agg #[.int .i64 t.op, .int .i64 t.n, .string t.s, .slice a t.kids.length cap]] w fun e W' => e = .returned (.int .i64 (checkB t)) ∧ Below w.heap.size w W' := by
  refine (Check_in t a cap w h he).mono ?_
  rintro e W' ⟨n₀, w', h', hc, hb⟩
  refine ⟨?_, hb⟩
  unfold checkB
  rcases hc with ⟨hc, rfl⟩ | ⟨hc, ⟨hf, rfl⟩ | ⟨hf, rfl⟩⟩
  · rw [if_neg hc]
  · rw [if_pos hc, if_neg (by rw [(noneAhead_iff t a cap h').1 hf]; decide)]
  · rw [if_pos hc, if_pos (by rw [noneAhead_iff] at hf; simpa using hf)]

set_option maxHeartbeats 4000000 in
theorem each_in (g : FuncId) (lb : Array Value) (I : List Tm → World → Prop) (S : Nat → Obj → Prop) (hg : ∀ args w, (callFunc g args).run Tryd.prog w = .ok (.enter g args) w) (n₀ : Nat) (t : Tm) (a : Option Addr) (cap : Nat) (w : World) (h : t.hold n₀ w a cap) (hn : n₀ ≤ w.heap.size) (he : Env w)
    (hSn : ∀ k, k < n₀ → ∀ o, ¬ S k o) (hSB : ∀ k o, S k o → k < w.heap.size ∨ strRow o)
    (hI1 : ∀ ts A A', I ts A → Below A.heap.size A A' → I ts A') (hI2 : OwnFrom w.heap.size I)
    (hask : ∀ (ts : List Tm) (x : Tm) (b : Option Addr) (c : Nat) (A : World), I ts A → ts.length < 2000 → (x.s.size ≤ maxLen) → (Lit.int .i64 x.op).wf = true → (Lit.int .i64 x.n).wf = true → x.kids.length ≤ c ∧ c ≤ maxLen →
      Calls Tryd.prog g (#[.agg #[.int .i64 x.op, .int .i64 x.n, .string x.s, .slice b x.kids.length c]] ++ lb) A fun e A' => (∃ v, e = .returned v) ∧ I (ts ++ [x]) A' ∧ Keeps S A A' ∧ KeepsOthers A A')
    (h0 : I [] w) :
    Calls Tryd.prog 22 #[.agg #[.int .i64 t.op, .int .i64 t.n, .string t.s, .slice a t.kids.length cap], .func (.func g) #[] lb] w fun e W' => (∃ v, e = .returned v) ∧ I (if rightB t then t.terms else []) W' := by
  have kk := h.bounds
  have wk1 := kk.1
  have wk2 := kk.2.1
  have kk3 := kk.2.2.2
  obtain ⟨W1, hW1⟩ : ∃ W1, W1 = (w.alloc (.cells #[.int .i64 t.op, .int .i64 t.n, .string t.s, .slice a t.kids.length cap] 24)).alloc (.cells #[.func (.func g) #[] lb] 40) := ⟨_, rfl⟩
  have hB1 : Below w.heap.size w W1 := hW1 ▸ ((Below.refl _ w).alloc (Nat.le_refl _) _).alloc (by simp) _
  have hsz : W1.heap.size = w.heap.size + 2 := by rw [hW1]; simp
  have hT := right_any t a cap W1 ((h.below (hB1.mono hn)).mono (Nat.le_trans hn hB1.size)) (he.below hB1 he.size)
  obtain ⟨x0, x1, x2, x3⟩ : W1.cell? ⟨w.heap.size, 0, none⟩ = some (.int .i64 t.op) ∧ W1.cell? ⟨w.heap.size, 1, none⟩ = some (.int .i64 t.n) ∧ W1.cell? ⟨w.heap.size, 2, none⟩ = some (.string t.s) ∧ W1.cell? ⟨w.heap.size, 3, none⟩ = some (.slice a t.kids.length cap) := by
    have c := cell_box w (.int .i64 t.op) (.int .i64 t.n) (.string t.s) (.slice a t.kids.length cap)
    rw [hW1]
    exact ⟨cell_alloc' _ c.1, cell_alloc' _ c.2.1, cell_alloc' _ c.2.2.1, cell_alloc' _ c.2.2.2⟩
  have e1 : W1.cell? ⟨w.heap.size + 1, 0, none⟩ = some (.func (.func g) #[] lb) := by
    have c := cell_new (w.alloc (.cells #[.int .i64 t.op, .int .i64 t.n, .string t.s, .slice a t.kids.length cap] 24)) (.func (.func g) #[] lb) 40
    simp only [World.size_alloc] at c
    rw [hW1]
    exact c.1
  rw [hW1] at x0 x1 x2 x3
  have HH := Lib.hid h
  have H0 := Lib.hid h0
  have HA := Lib.hid hask
  clear h he kk h0 hask
  by_cases hr : rightB t = true
  · have hr0 := Lib.hid hr
    refine (callsIn_wide (n := 3)).1 ?_
    refine callsIn_of_wp_marks Tryd.func22 rfl trivial ?_ rfl
    simp only [Tryd.ntmps22, List.size_toArray, List.length_cons, List.length_nil, Nat.reduceAdd, Nat.reduceSub, Array.replicate_succ, Array.replicate_zero, List.push_toArray, List.append_toArray, List.nil_append, List.cons_append]
    gi_wp2_with (first
      | (refine ⟨trivial, ?_⟩; gi_at_call 39; rw [← hW1]; refine (callsIn_wide.2 hT).mono ?_; clear hT; rintro e w' ⟨rfl, hb⟩; have y0 := (hb.cell (p := ⟨w.heap.size, 0, none⟩) (show w.heap.size < W1.heap.size by omega)).trans (hW1.symm ▸ x0); have y1 := (hb.cell (p := ⟨w.heap.size, 1, none⟩) (show w.heap.size < W1.heap.size by omega)).trans (hW1.symm ▸ x1); have y2 := (hb.cell (p := ⟨w.heap.size, 2, none⟩) (show w.heap.size < W1.heap.size by omega)).trans (hW1.symm ▸ x2); have y3 := (hb.cell (p := ⟨w.heap.size, 3, none⟩) (show w.heap.size < W1.heap.size by omega)).trans (hW1.symm ▸ x3))
      | (refine ⟨trivial, ?_⟩; gi_at_call 25; refine (all_in _ _ trivial rfl _ _ _ _ _).mono ?_; rintro e w'' ⟨rfl, rfl⟩))
    have hbw : Below w.heap.size w w' := hB1.trans (hb.mono hB1.size)
    have f1 := (hb.cell (p := ⟨w.heap.size + 1, 0, none⟩) (show w.heap.size + 1 < W1.heap.size by omega)).trans e1
    have hwsz := hb.size
    obtain ⟨W0, hW0⟩ : ∃ W0, W0 = w'.alloc (.cells #[.int .i64 t.op, .int .i64 t.n, .string t.s, .slice a t.kids.length cap] 24) := ⟨_, rfl⟩
    obtain ⟨b0, b1, b2, b3⟩ := (hW0 ▸ Box4.new w' 24 (.int .i64 t.op) (.int .i64 t.n) (.string t.s) (.slice a t.kids.length cap) : Box4 W0 w'.heap.size 24 (.int .i64 t.op) (.int .i64 t.n) (.string t.s) (.slice a t.kids.length cap)).cells
    have hB0 : Below w.heap.size w W0 := hW0 ▸ hbw.alloc hbw.size _
    have g1 : W0.cell? ⟨w.heap.size + 1, 0, none⟩ = some (.func (.func g) #[] lb) := hW0 ▸ cell_alloc' _ f1
    have hs0 : W0.heap.size = w'.heap.size + 1 := by rw [hW0]; simp
    rw [← hW0]
    have h' : t.hold n₀ W0 a cap := HH.out.below (hB0.mono hn)
    have hsB : ∀ k o, S k o → k < W0.heap.size ∨ strRow o := fun k o hk => (hSB k o hk).imp (fun h => by omega) id
    clear hW0
    refine wpIn_rangeFunc_ownH rfl (by decide) (gf := 40) (lb := #[.pointer (some ⟨w'.heap.size, 0, none⟩)]) rfl trivial (enters_of Tryd.func40 (by kernel_rfl) rfl)
      (all1_stops Fence.wide rfl trivial trivial rfl (3 - 1) n₀ W0 S hSn hsB w'.heap.size (by omega) t a cap h' b0 b1 b2 b3)
      Keeps.trans (fun W l o o' _ ho hc _ => keeps_b W l o o' ho hc) (Below.refl _ _) (fun _ => rfl)
      (fun xs W => I (xs.map El.t) W ∧ W.cell? ⟨w.heap.size + 1, 0, none⟩ = some (.func (.func g) #[] lb))
      (fun _ _ _ => False)
      (fun s A B row hs hg hr => ⟨hI2 _ A B row hs.1 hg (fun r e => ⟨Nat.le_trans hB0.size (hr r e).1, (hr r e).2⟩), cell_kept hs.2 hg (fun r e => (hr r e).2)⟩)
      (fun _ _ _ _ _ hs _ _ => hs)
      ⟨hI1 _ _ _ H0.out hB0, g1⟩
      (fun x a' W => ∃ Bx, w.heap.size + 1 < Bx ∧ Box4 W Bx 24 (.int .i64 x.t.op) (.int .i64 x.t.n) (.string x.t.s) (.slice x.a x.t.kids.length x.cap) ∧ a' = { tmps := #[.agg #[.int .i64 t.op, .int .i64 t.n, .string t.s, .slice a t.kids.length cap], .func (.func g) #[] lb, .pointer (some ⟨w.heap.size, 0, none⟩), .pointer (some ⟨w.heap.size + 1, 0, none⟩), undef, .pointer (some ⟨Bx, 0, none⟩),
        .agg #[.int .i64 t.op, .int .i64 t.n, .string t.s, .slice a t.kids.length cap], .bool true, .bool false, .agg #[.int .i64 t.op, .int .i64 t.n, .string t.s, .slice a t.kids.length cap], .func (.func 40) #[] #[.pointer (some ⟨w'.heap.size, 0, none⟩)], .int .i64 x.d, .agg #[.int .i64 x.t.op, .int .i64 x.t.n, .string x.t.s, .slice x.a x.t.kids.length x.cap], undef, undef, undef], defers := [] })
      (fun x a' _ X Y row hs hg hr => by obtain ⟨Bx, h1, h2, h3⟩ := hs; exact ⟨Bx, h1, h2.own hg (fun r e => (hr r e).2), h3⟩)
      ?assign ?body ?done ?stop
    case assign =>
      rintro l xs x W K ⟨hi, c1⟩ hK
      have kx := x.held.bounds
      have wx1 := kx.1
      have wx2 := kx.2.1
      have kx3 := kx.2.2.2
      have HI := Lib.hid hi
      clear kx hi
      simp only [El.enc]
      gi_wp2
      exact hK _ _ ((KeepsOthers.alloc _ _).from _) ((Keeps.refl _ _).alloc _) ⟨hI1 _ _ _ HI.out (below1 _ _), cell_alloc' _ c1⟩ ⟨W.heap.size, cell_lt c1, Box4.new W _ _ _ _ _, rfl⟩
    case body =>
      rintro l xs x a' W hl ⟨r, hr⟩ ⟨hi, c1⟩ ⟨Bx, hBx, bX, rfl⟩ hlt
      obtain ⟨d0, d1, d2, d3⟩ := bX.cells
      have kx := x.held.bounds
      have hA := HA.out (xs.map El.t) x.t x.a x.cap W hi (by have hct : t.count ≤ 2000 := by { have h1 := hr0.out; unfold rightB at h1; rw [Bool.and_eq_true] at h1; exact (of_decide_eq_true h1.1).1 }
                                                             rw [pre_length] at hlt; rw [List.length_map]; omega) kx.2.2.1 kx.1 kx.2.1 kx.2.2.2
      have wx1 := kx.1
      have wx2 := kx.2.1
      have kx3 := kx.2.2.2
      clear kx hi
      gi_wp2_with (refine ⟨trivial, ?_⟩; refine (CallsIn.inRound l (callsIn_wide.2 hA)).mono ?_; clear hA; rintro e w'' ⟨⟨v, rfl⟩, hi, hk, ho⟩)
      exact ⟨ho.from _, hk, ⟨by rw [List.map_append]; exact hi, hk.cellN hSB (Nat.le_succ _) c1 (fun _ e => by cases e) c1⟩⟩
    case done =>
      rintro D ys W hD rfl ⟨hi, c1⟩ hK
      gi_wp2
      refine ⟨by simp, .inl ⟨_, _, rfl, run_takeDeferred hK, ?_⟩⟩
      refine ⟨_, results_none rfl _ _ _, ⟨_, rfl⟩, ?_⟩
      rw [← pre_terms 1 t a cap h']
      exact hI2.putObj _ hi (Nat.le_trans hB0.size hD) hK rfl
    case stop =>
      rintro D c xs W _ _ h _
      exact h.elim
  · have hq : rightB t = false := by simpa using hr
    go_enter Tryd.func22, Tryd.ntmps22
    go_wp2_with (go_at_call 39; rw [← hW1]; refine hT.mono ?_; clear hT; rintro e w' ⟨rfl, hb⟩)
    refine bodyPost_ret (results_none rfl _ _ _) rfl ⟨⟨_, rfl⟩, ?_⟩
    exact hI1 _ _ _ H0.out (hB1.trans (hb.mono hB1.size))

end Go.Proofs.YtmjclolmoobfpaaDoor
