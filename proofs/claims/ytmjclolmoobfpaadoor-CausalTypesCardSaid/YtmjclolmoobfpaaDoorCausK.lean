/-
  causal.all: what it hands back goes through a term's terms.
-/
import Derived.Test.YtmjclolmoobfpaaDoorCausJ
import Derived.Laws.EntriesVeiled
namespace Go.Proofs.YtmjclolmoobfpaaDoor
open Go.RowKit Go.Shelf
set_option maxRecDepth 100000
attribute [local go_sem] Oper.semAt_some

theorem grown_of_below {A B : World} (h : Below A.heap.size A B) : A.grownBy B none :=
  ⟨h.os, h.tape, h.output, h.size, fun k hk _ => h.block k hk⟩

set_option maxHeartbeats 4000000 in
theorem all1_stops (F : Fence) (hd : F.depth = none) (h40 : F.fn 40) (h41 : F.fn 41) (hro : F.round = none) (n : Nat) (n₀ : Nat) (w : World) (S : Nat → Obj → Prop)
    (hS : ∀ k, k < n₀ → ∀ o, ¬ S k o) (hSB : ∀ k o, S k o → k < w.heap.size ∨ strRow o) (Bt : Nat) (hBt : Bt < w.heap.size) (t : Tm) (a : Option Addr) (cap : Nat) (h : t.hold n₀ w a cap)
    (c0 : w.cell? ⟨Bt, 0, none⟩ = some (.int .i64 t.op)) (c1 : w.cell? ⟨Bt, 1, none⟩ = some (.int .i64 t.n)) (c2 : w.cell? ⟨Bt, 2, none⟩ = some (.string t.s)) (c3 : w.cell? ⟨Bt, 3, none⟩ = some (.slice a t.kids.length cap)) :
    SeqStopsK F n Tryd.prog 40 #[.pointer (some ⟨Bt, 0, none⟩)] (El.enc (n₀ := n₀) (W := w)) (Keeps S) (fun ys => ys = pre n₀ w 1 t a cap h) (fun q => q <+: pre n₀ w 1 t a cap h) (pre n₀ w 1 t a cap h).length w := by
  intro l J Jx W hW hJ hJx hY h0
  have hdd : ∀ k : Nat, (F.depth.isSome = true → 1 ≤ k) := fun k h => by rw [hd] at h; cases h
  have d0 := (hW.cell (p := ⟨Bt, 0, none⟩) hBt).trans c0
  have d1 := (hW.cell (p := ⟨Bt, 1, none⟩) hBt).trans c1
  have d2 := (hW.cell (p := ⟨Bt, 2, none⟩) hBt).trans c2
  have d3 := (hW.cell (p := ⟨Bt, 3, none⟩) hBt).trans c3
  have kk := h.bounds
  have wk1 := kk.1
  have wk2 := kk.2.1
  have kk3 := kk.2.2.2
  obtain ⟨W2, hW2⟩ : ∃ W2, W2 = (W.alloc (.cells #[.func (.yield l) #[] #[]] 51)).alloc (.cells #[.func (.func 41) #[] #[.pointer (some ⟨W.heap.size, 0, none⟩), .pointer (some ⟨W.heap.size + 1, 0, none⟩)]] 29) := ⟨_, rfl⟩
  have hb2 : Below W.heap.size W W2 := hW2 ▸ (below1 _ _).trans ((below1 _ _).mono (by simp))
  have hB : Bt < W.heap.size := Nat.lt_of_lt_of_le hBt hW.size
  have g0 := (hb2.cell (p := ⟨Bt, 0, none⟩) hB).trans d0
  have g1 := (hb2.cell (p := ⟨Bt, 1, none⟩) hB).trans d1
  have g2 := (hb2.cell (p := ⟨Bt, 2, none⟩) hB).trans d2
  have g3 := (hb2.cell (p := ⟨Bt, 3, none⟩) hB).trans d3
  have hsz : w.heap.size ≤ W.heap.size := hW.size
  have q0 : W2.cell? ⟨W.heap.size, 0, none⟩ = some (.func (.yield l) #[] #[]) := by rw [hW2]; simp
  have q1 : W2.cell? ⟨W.heap.size + 1, 0, none⟩ = some (.func (.func 41) #[] #[.pointer (some ⟨W.heap.size, 0, none⟩), .pointer (some ⟨W.heap.size + 1, 0, none⟩)]) := by rw [hW2]; simp
  have hp := walkIn F hd h41 hro l n₀ (pre n₀ w 1 t a cap h).length w S W.heap.size (W.heap.size + 1) hS hSB hW.size (Nat.le_succ_of_le hW.size)
    J Jx (fun xs A B hj hg => hJ xs A B none hj hg (fun r e => by cases e)) (fun m xs x A hj hl => YieldAt.anyDepth' hd m (hY xs x A hj hl)) (SizeOf.sizeOf t + 1) t (Nat.lt_succ_self _) (n - 1) 1 a cap h [] W2
    (Keeps.of_below (hW.trans (hb2.mono hsz))) (hJ [] W _ none h0 (grown_of_below hb2) (fun r e => by cases e)) q0 q1 (by simp)
  rw [hW2] at g0 g1 g2 g3 hp q1
  clear hY
  refine callsIn_of_wp Tryd.func40 rfl h40 ?_ hro
  simp only [Tryd.ntmps40, List.size_toArray, List.length_cons, List.length_nil, Nat.reduceAdd, Nat.reduceSub, Array.replicate_succ, Array.replicate_zero, List.push_toArray, List.append_toArray, List.nil_append, List.cons_append]
  gi_wp2_with ((try refine ⟨hdd _, ?_⟩); gi_at_call 41; refine hp.mono ?_; clear hp; rintro e W3 (⟨rfl, hJ3, hK3⟩ | ⟨rfl, q, hq, hx3⟩))
  · go_end0
    exact ⟨⟨_, rfl⟩, .inl ⟨_, rfl, by simpa using hJ3⟩⟩
  · go_end0
    exact ⟨⟨_, rfl⟩, .inr ⟨q, hq, by simpa using hx3⟩⟩

set_option maxHeartbeats 1000000 in
/-- the term is boxed; the function value captures the box -/
theorem all_in (F : Fence) (n : Nat) (h25 : F.fn 25) (hro : F.round = none) (v0 v1 v2 v3 : Value) (w : World) :
    CallsIn F n Tryd.prog 25 #[.agg #[v0, v1, v2, v3]] w fun e w' => e = .returned (.func (.func 40) #[] #[.pointer (some ⟨w.heap.size, 0, none⟩)]) ∧ w' = w.alloc (.cells #[v0, v1, v2, v3] 24) := by
  refine callsIn_of_wp Tryd.func25 rfl h25 ?_ hro
  simp only [Tryd.ntmps25, List.size_toArray, List.length_cons, List.length_nil, Nat.reduceAdd, Nat.reduceSub, Array.replicate_succ, Array.replicate_zero, List.push_toArray, List.append_toArray, List.nil_append, List.cons_append]
  gi_wp2
  go_ret
  exact ⟨rfl, rfl⟩

end Go.Proofs.YtmjclolmoobfpaaDoor
