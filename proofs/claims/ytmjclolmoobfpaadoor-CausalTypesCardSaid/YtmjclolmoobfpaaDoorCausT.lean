/-
  causal.Feeds: sorted, each once.
-/
import Derived.Test.YtmjclolmoobfpaaDoorCausS
namespace Go.Proofs.YtmjclolmoobfpaaDoor
open Go.RowKit Go.Shelf Go.Sort
set_option maxRecDepth 100000
attribute [local go_sem] Oper.semAt_some

theorem below_grow {B : Nat} {a w : World} (h : Below B a w) (os : Array Obj) (hB : B ≤ w.heap.size) : Below B a (grow w os) :=
  ⟨h.os, h.tape, h.output, by have := h.size; simp [grow]; omega, fun k hk => by
    rw [← h.block k hk]
    simp [grow, Array.getElem?_append_left (show k < w.heap.size by omega)]⟩
theorem enc_eq (l : List Nm) : l.map encN = l.map encStr := rfl
theorem sort_row {B : Nat} (W : World) (g cap : Nat) (zs : List Nm) (hg : B ≤ g) (hlt : g < W.heap.size) (hB : B ≤ W.heap.size) (hn : zs.length < 4000) (hH : Holds encStr W g 0 zs.toArray) :
    Calls Tryd.prog 31 #[.slice (some ⟨g, 0, none⟩) zs.length cap] W fun e w' => e = .returned (.tuple #[]) ∧ Holds encStr w' g 0 (zs.mergeSort fun x y => decide (x ≤ y)).toArray ∧ g < w'.heap.size ∧ Below B W w' := by
  refine (Tryd.slices_Sort_string g 0 cap zs W hH hlt (by omega)).mono ?_
  rintro e w' ⟨rfl, n, os, rfl⟩
  have hs : (putRow encStr (Sort.ahead W n) g 0 (zs.mergeSort fun x y => decide (x ≤ y)).toArray).heap.size = W.heap.size := by rw [size_putRow]; rfl
  refine ⟨rfl, ?_, by simp [grow, hs]; omega, below_grow (Lib.below_putRow (Below.refl B W) hg) os (by rw [hs]; exact hB)⟩
  refine holds_grow _ _ _ _ _ _ (by rw [hs]; exact hlt) ?_
  exact holds_putRow encStr _ g 0 zs.toArray _ (holds_ahead encStr W n g 0 zs.toArray hH) (by simp)
theorem compact_row {B : Nat} (W : World) (g cap : Nat) (ys : List Nm) (hg : B ≤ g) (hlt : g < W.heap.size) (hcap : ys.length ≤ cap) (hcm : cap ≤ maxLen) (h0 : 0 < (Lib.compact ys).length) (hn : ys.length < 4000) (hH : Holds encStr W g 0 ys.toArray) :
    Calls Tryd.prog 32 #[.slice (some ⟨g, 0, none⟩) ys.length cap] W fun e w' => (∃ v, e = .returned v ∧ StrVal w' v (Lib.compact ys)) ∧ Below B W w' := by
  refine (Tryd.slices_Compact_string g 0 cap ys W hH (by omega) hcap).mono ?_
  rintro e w' ⟨rfl, q, rfl⟩
  have hle := Lib.compact_length_le ys
  refine ⟨⟨_, rfl, .inr ⟨g, cap, rfl, h0, by omega, hcm, by rw [size_putRow]; exact hlt, fun j hj => ?_⟩⟩, Lib.below_putRow (Below.refl B W) hg⟩
  have := holds_putRow encStr _ g 0 ys.toArray (Lib.compact ys ++ List.replicate (ys.length - (Lib.compact ys).length) []).toArray (holds_ahead encStr W q g 0 ys.toArray hH) (by simp; omega) j (by simp; omega)
  rw [Nat.zero_add] at this
  rw [this.1]
  rw [getElem!_pos _ j (by simp; omega)]
  simp only [List.getElem_toArray]
  rw [List.getElem_append_left hj]
theorem sort_none (cap : Nat) (w : World) : Calls Tryd.prog 31 #[.slice none 0 cap] w fun e w' => e = .returned (.tuple #[]) ∧ w = w' :=
  (Tryd.slices_Sort_string_none none cap w).mono fun _ _ ⟨h1, h2⟩ => ⟨h1, h2.symm⟩
theorem compact_none (cap : Nat) (w : World) : Calls Tryd.prog 32 #[.slice none 0 cap] w fun e w' => e = .returned (.slice none 0 cap) ∧ w = w' :=
  (Tryd.slices_Compact_string_empty none cap w).mono fun _ _ ⟨h1, h2⟩ => ⟨h1, h2.symm⟩

theorem row_some {W : World} {base : Nat} {e : TypeId} {v : Value} {n : Nat} {xs : List Value} (h : W.ownsRow base e 1 v n xs) (hn : 0 < n) : v ≠ .slice none 0 0 := by
  rintro rfl
  obtain ⟨-, ⟨-, h0⟩ | ⟨g, c, cur, hv, -⟩⟩ := h
  · omega
  · cases hv
theorem feedsB_terms (t : Tm) : feedsB t = tidy (fedL (if rightB t then t.terms else [])) := by
  unfold feedsB
  by_cases h : rightB t = true
  · rw [if_pos h, if_pos h]
  · rw [if_neg h, if_neg h]
    exact (fold_tidy []).symm ▸ rfl

set_option maxHeartbeats 4000000 in
theorem Feeds_any (t : Tm) (a : Option Addr) (cap : Nat) (w : World) (h : t.hold w.heap.size w a cap) (he : Env w) :
    Calls Tryd.prog 16 #[.agg #[.int .i64 t.op, .int .i64 t.n, .string t.s, .slice a t.kids.length cap]] w fun e W' => (∃ v, e = .returned v ∧ StrVal W' v (feedsB t)) ∧ Below w.heap.size w W' := by
  have kk := h.bounds
  have wk1 := kk.1
  have wk2 := kk.2.1
  have kk3 := kk.2.2.2
  obtain ⟨W1, hW1⟩ : ∃ W1, W1 = (w.alloc (.cells #[.int .i64 t.op, .int .i64 t.n, .string t.s, .slice a t.kids.length cap] 24)).alloc (.cells #[.slice none 0 0] 34) := ⟨_, rfl⟩
  have hB1 : Below w.heap.size w W1 := hW1 ▸ ((Below.refl _ w).alloc (Nat.le_refl _) _).alloc (by simp) _
  have hsz : W1.heap.size = w.heap.size + 2 := by rw [hW1]; simp
  obtain ⟨x0, x1, x2, x3⟩ : W1.cell? ⟨w.heap.size, 0, none⟩ = some (.int .i64 t.op) ∧ W1.cell? ⟨w.heap.size, 1, none⟩ = some (.int .i64 t.n) ∧ W1.cell? ⟨w.heap.size, 2, none⟩ = some (.string t.s) ∧ W1.cell? ⟨w.heap.size, 3, none⟩ = some (.slice a t.kids.length cap) := by
    have c := cell_box w (.int .i64 t.op) (.int .i64 t.n) (.string t.s) (.slice a t.kids.length cap)
    rw [hW1]
    exact ⟨cell_alloc' _ c.1, cell_alloc' _ c.2.1, cell_alloc' _ c.2.2.1, cell_alloc' _ c.2.2.2⟩
  have e1 : FAcc (w.heap.size + 1) w [] W1 := by
    have c := Boxed.new (w.alloc (.cells #[.int .i64 t.op, .int .i64 t.n, .string t.s, .slice a t.kids.length cap] 24)) 34 (.slice none 0 0)
    rw [World.size_alloc, ← hW1] at c
    exact ⟨⟨_, c, World.ownsRow_nil _ _ _ _, fun _ => rfl⟩, hB1⟩
  have hE := each_in 30 #[.pointer (some ⟨w.heap.size + 1, 0, none⟩)] (FAcc (w.heap.size + 1) w) (fedS (w.heap.size + 1)) (enters_of Tryd.func30 (by kernel_rfl) rfl) w.heap.size t a cap W1 (h.below hB1) hB1.size (he.below hB1 he.size)
    (fun k hk o e => by rcases e with e | e <;> omega) (fun k o e => e.imp (fun e => by omega) (fun e => e.2)) FAcc.grow (FAcc.own hB1.size) (Feeds1_any (w.heap.size + 1) w (by omega)) e1
  have hFB := feedsB_terms t
  have hlen : (fedL (if rightB t then t.terms else [])).length ≤ 2000 := by
    refine Nat.le_trans (fedL_len _) ?_
    by_cases hr : rightB t = true
    · rw [if_pos hr, terms_length]; exact (small_of_right hr).1
    · rw [if_neg hr]; simp
  obtain ⟨zs, hzs⟩ : ∃ zs, zs = fedL (if rightB t then t.terms else []) := ⟨_, rfl⟩
  rw [← hzs] at hFB hlen
  have hE' : Calls Tryd.prog 22 #[.agg #[.int .i64 t.op, .int .i64 t.n, .string t.s, .slice a t.kids.length cap], .func (.func 30) #[] #[.pointer (some ⟨w.heap.size + 1, 0, none⟩)]] W1 fun e W' => (∃ v, e = .returned v) ∧
      (∃ v, Boxed W' (w.heap.size + 1) 34 v ∧ W'.ownsRow (w.heap.size + 1 + 1) 9 1 v zs.length (zs.map encN) ∧ (zs = [] → v = .slice none 0 0)) ∧ Below w.heap.size w W' := hE.mono (by
    rintro e W' ⟨hv, h1⟩
    unfold FAcc at h1
    rw [← hzs] at h1
    exact ⟨hv, h1⟩)
  rw [hW1] at x0 x1 x2 x3
  have HFB := Lib.hid hFB
  clear h he kk hE e1 hFB hzs
  by_cases hz : zs = []
  · subst hz
    go_enter Tryd.func16, Tryd.ntmps16
    go_wp2_with (first
      | (go_at_call 22; rw [← hW1]; refine hE'.mono ?_; clear hE'; rintro e w' ⟨⟨v, rfl⟩, ⟨u, hbx, -, hnil⟩, hb⟩; obtain rfl := hnil rfl; have hcx := hbx.cell; have HB := Lib.hid hb; clear hnil hbx hb)
      | (go_at_call 31; refine (sort_none 0 _).mono ?_; rintro e w' ⟨rfl, rfl⟩)
      | (go_at_call 32; refine (compact_none 0 _).mono ?_; rintro e w' ⟨rfl, rfl⟩))
    go_ret
    exact ⟨⟨_, rfl, .inl ⟨by rw [HFB.out]; exact (fold_tidy []).symm, rfl⟩⟩, HB.out⟩
  · have hne : 0 < zs.length := List.length_pos_iff.2 hz
    have ht0 : 0 < (tidy zs).length := by
      cases zs with
      | nil => exact absurd rfl hz
      | cons z zs => exact List.length_pos_of_mem (((tidy_spec (z :: zs)).2 z).2 (by simp))
    go_enter Tryd.func16, Tryd.ntmps16
    go_wp2_with (first
      | (go_at_call 22; rw [← hW1]; refine hE'.mono ?_; clear hE'; rintro e w' ⟨⟨v, rfl⟩, ⟨u, hbx, hrow, -⟩, hb⟩;
          (obtain ⟨g, gc, rfl, hg1, hg2, hg3, hg4, -, hg5⟩ := Lib.holds_of_ownsRow (enc := encStr) hrow (row_some hrow hne)); have hcx := hbx.cell; have hblt := hbx.lt; have HB := Lib.hid hb; have HX := Lib.hid (show _ ∧ _ ∧ _ ∧ _ ∧ _ from ⟨hg1, hg2, hg3, hg4, hg5⟩); clear hrow hbx hb hg1 hg2 hg3 hg4 hg5)
      | (go_at_call 31; refine (sort_row (B := w.heap.size + 1 + 1) _ g gc zs HX.out.1 HX.out.2.1 (by have := HX.out.1; have := HX.out.2.1; omega) (by omega) HX.out.2.2.2.2).mono ?_; rintro e w2 ⟨rfl, hH2, hlt2, hb2⟩; have hcx2 := (hb2.cell (p := ⟨w.heap.size + 1, 0, none⟩) (Nat.lt_succ_self _)).trans hcx; have HH2 := Lib.hid hH2; have HL2 := Lib.hid hlt2; have HB2 := Lib.hid hb2; clear hH2 hlt2 hb2)
      | (go_at_call 32; refine Calls.mono (have hc := compact_row (B := w.heap.size + 1 + 1) w2 g gc (zs.mergeSort fun x y => decide (x ≤ y)) HX.out.1 HL2.out (by rw [List.length_mergeSort]; exact HX.out.2.2.1) HX.out.2.2.2.1 ht0 (by rw [List.length_mergeSort]; omega) HH2.out; by rw [List.length_mergeSort] at hc; exact hc) ?_; rintro e w3 ⟨⟨v, rfl, hv⟩, hb3⟩))
    go_ret
    exact ⟨⟨_, rfl, by rw [HFB.out]; exact hv⟩, HB.out.trans ((HB2.out.trans hb3).mono (by omega))⟩

end Go.Proofs.YtmjclolmoobfpaaDoor
