/-
  The document's Check, Horizon, Size tell what the program's tell.
-/
import Derived.Test.YtmjclolmoobfpaaDoorRefZ
namespace Go.Proofs.YtmjclolmoobfpaaDoor
open Go.RowKit
set_option maxRecDepth 100000

set_option maxHeartbeats 2000000 in
theorem rSizeOf_any (t : Tm) (a : Option Addr) (cap : Nat) (w : World) (h : t.hold w.heap.size w a cap) :
    Calls Tryd.prog 18 #[.agg #[.int .i64 t.op, .int .i64 t.n, .string t.s, .slice a t.kids.length cap]] w fun e W' => e = .returned (.int .i64 (sizeB t)) ∧ Below w.heap.size w W' := by
  have kk := h.bounds
  have wk1 := kk.1
  have wk2 := kk.2.1
  have kk3 := kk.2.2.2
  obtain ⟨W1, hW1⟩ : ∃ W1, W1 = w.alloc (.cells #[.int .i64 t.op, .int .i64 t.n, .string t.s, .slice a t.kids.length cap] 24) := ⟨_, rfl⟩
  have hB1 : Below w.heap.size w W1 := hW1 ▸ below1 _ _
  have hsz : W1.heap.size = w.heap.size + 1 := by rw [hW1]; simp
  have hc := (hW1 ▸ Box4.new w 24 (.int .i64 t.op) (.int .i64 t.n) (.string t.s) (.slice a t.kids.length cap) : Box4 W1 w.heap.size 24 (.int .i64 t.op) (.int .i64 t.n) (.string t.s) (.slice a t.kids.length cap)).cells
  have HC := Lib.hid (show ∀ cur, Below W1.heap.size W1 cur → _ ∧ _ ∧ _ ∧ _ from fun cur (hb : Below W1.heap.size W1 cur) => ⟨(hb.cell (p := ⟨w.heap.size, 0, none⟩) (show w.heap.size < W1.heap.size by omega)).trans hc.1, (hb.cell (p := ⟨w.heap.size, 1, none⟩) (show w.heap.size < W1.heap.size by omega)).trans hc.2.1, (hb.cell (p := ⟨w.heap.size, 2, none⟩) (show w.heap.size < W1.heap.size by omega)).trans hc.2.2.1, (hb.cell (p := ⟨w.heap.size, 3, none⟩) (show w.heap.size < W1.heap.size by omega)).trans hc.2.2.2⟩)
  have HH := Lib.hid (show ∀ cur, Below W1.heap.size W1 cur → t.hold cur.heap.size cur a cap from fun cur hb => ((h.below hB1).below (hb.mono hB1.size)).mono (Nat.le_trans hB1.size hb.size))
  have HB1 := Lib.hid hB1
  have CS := Lib.hid (rType_any t a cap W1 (HH.out W1 (Below.refl _ _)))
  obtain ⟨x0, x1, x2, x3⟩ := hc
  clear kk h hB1 hsz
  cases hR : rightB t
  · have e := Lib.hid (show sizeB t = 0 by unfold sizeB; rw [if_neg (by rw [hR]; decide)])
    go_enter Tryd.func18, Tryd.ntmps18
    go_wp2_with (go_at_call 12; rw [← hW1]; refine CS.out.mono ?_; rintro e w1 ⟨rfl, hb1⟩; rw [hR]; clear x0 x1 x2 x3; obtain ⟨x0, x1, x2, x3⟩ := HC.out _ hb1)
    go_ret
    exact ⟨ret_int e.out.symm, HB1.out.trans (hb1.mono HB1.out.size)⟩
  · have e := Lib.hid (show sizeB t = (t.count : Nat) from by unfold sizeB; rw [if_pos hR])
    have CT := Lib.hid (show ∀ cur, Below W1.heap.size W1 cur → Calls Tryd.prog 34 #[.agg #[.int .i64 t.op, .int .i64 t.n, .string t.s, .slice a t.kids.length cap]] cur fun e w' => e = .returned (.int .i64 (t.count : Nat)) ∧ Below cur.heap.size cur w' from fun cur hb => rSize_any _ t (Nat.lt_succ_self _) a cap _ cur (small_of_right hR).1 (HH.out cur hb) (Nat.le_refl _))
    go_enter Tryd.func18, Tryd.ntmps18
    go_wp2_with (first
      | (go_at_call 12; rw [← hW1]; refine CS.out.mono ?_; rintro e w1 ⟨rfl, hb1⟩; rw [hR]; clear x0 x1 x2 x3; obtain ⟨x0, x1, x2, x3⟩ := HC.out _ hb1)
      | (go_at_call 34; refine (CT.out _ hb1).mono ?_; rintro e w2 ⟨rfl, hb2⟩))
    go_ret
    exact ⟨ret_int e.out.symm, HB1.out.trans ((hb1.trans (hb2.mono hb1.size)).mono HB1.out.size)⟩

set_option maxHeartbeats 2000000 in
theorem rHorizonOf_any (t : Tm) (a : Option Addr) (cap : Nat) (w : World) (h : t.hold w.heap.size w a cap) :
    Calls Tryd.prog 14 #[.agg #[.int .i64 t.op, .int .i64 t.n, .string t.s, .slice a t.kids.length cap]] w fun e W' => e = .returned (.int .i64 (horizonB t)) ∧ Below w.heap.size w W' := by
  have kk := h.bounds
  have wk1 := kk.1
  have wk2 := kk.2.1
  have kk3 := kk.2.2.2
  obtain ⟨W1, hW1⟩ : ∃ W1, W1 = w.alloc (.cells #[.int .i64 t.op, .int .i64 t.n, .string t.s, .slice a t.kids.length cap] 24) := ⟨_, rfl⟩
  have hB1 : Below w.heap.size w W1 := hW1 ▸ below1 _ _
  have hsz : W1.heap.size = w.heap.size + 1 := by rw [hW1]; simp
  have hc := (hW1 ▸ Box4.new w 24 (.int .i64 t.op) (.int .i64 t.n) (.string t.s) (.slice a t.kids.length cap) : Box4 W1 w.heap.size 24 (.int .i64 t.op) (.int .i64 t.n) (.string t.s) (.slice a t.kids.length cap)).cells
  have HC := Lib.hid (show ∀ cur, Below W1.heap.size W1 cur → _ ∧ _ ∧ _ ∧ _ from fun cur (hb : Below W1.heap.size W1 cur) => ⟨(hb.cell (p := ⟨w.heap.size, 0, none⟩) (show w.heap.size < W1.heap.size by omega)).trans hc.1, (hb.cell (p := ⟨w.heap.size, 1, none⟩) (show w.heap.size < W1.heap.size by omega)).trans hc.2.1, (hb.cell (p := ⟨w.heap.size, 2, none⟩) (show w.heap.size < W1.heap.size by omega)).trans hc.2.2.1, (hb.cell (p := ⟨w.heap.size, 3, none⟩) (show w.heap.size < W1.heap.size by omega)).trans hc.2.2.2⟩)
  have HH := Lib.hid (show ∀ cur, Below W1.heap.size W1 cur → t.hold cur.heap.size cur a cap from fun cur hb => ((h.below hB1).below (hb.mono hB1.size)).mono (Nat.le_trans hB1.size hb.size))
  have HB1 := Lib.hid hB1
  have CS := Lib.hid (rType_any t a cap W1 (HH.out W1 (Below.refl _ _)))
  obtain ⟨x0, x1, x2, x3⟩ := hc
  clear kk h hB1 hsz
  cases hR : rightB t
  · have e := Lib.hid (show horizonB t = 0 by unfold horizonB; rw [if_neg (by rw [hR]; decide)])
    go_enter Tryd.func14, Tryd.ntmps14
    go_wp2_with (go_at_call 12; rw [← hW1]; refine CS.out.mono ?_; rintro e w1 ⟨rfl, hb1⟩; rw [hR]; clear x0 x1 x2 x3; obtain ⟨x0, x1, x2, x3⟩ := HC.out _ hb1)
    go_ret
    exact ⟨ret_int e.out.symm, HB1.out.trans (hb1.mono HB1.out.size)⟩
  · have e := Lib.hid (show horizonB t = (hB t) from (horizon_right hR).symm)
    have CT := Lib.hid (show ∀ cur, Below W1.heap.size W1 cur → Calls Tryd.prog 29 #[.agg #[.int .i64 t.op, .int .i64 t.n, .string t.s, .slice a t.kids.length cap]] cur fun e w' => e = .returned (.int .i64 (hB t)) ∧ Below cur.heap.size cur w' from fun cur hb => rhorizon_any _ t (Nat.lt_succ_self _) a cap _ cur (HH.out cur hb) (Nat.le_refl _))
    go_enter Tryd.func14, Tryd.ntmps14
    go_wp2_with (first
      | (go_at_call 12; rw [← hW1]; refine CS.out.mono ?_; rintro e w1 ⟨rfl, hb1⟩; rw [hR]; clear x0 x1 x2 x3; obtain ⟨x0, x1, x2, x3⟩ := HC.out _ hb1)
      | (go_at_call 29; refine (CT.out _ hb1).mono ?_; rintro e w2 ⟨rfl, hb2⟩))
    go_ret
    exact ⟨ret_int e.out.symm, HB1.out.trans ((hb1.trans (hb2.mono hb1.size)).mono HB1.out.size)⟩

set_option maxHeartbeats 2000000 in
theorem rCheckOf_any (t : Tm) (a : Option Addr) (cap : Nat) (w : World) (h : t.hold w.heap.size w a cap) :
    Calls Tryd.prog 13 #[.agg #[.int .i64 t.op, .int .i64 t.n, .string t.s, .slice a t.kids.length cap]] w fun e W' => e = .returned (.int .i64 (checkB t)) ∧ Below w.heap.size w W' := by
  have kk := h.bounds
  have wk1 := kk.1
  have wk2 := kk.2.1
  have kk3 := kk.2.2.2
  obtain ⟨W1, hW1⟩ : ∃ W1, W1 = w.alloc (.cells #[.int .i64 t.op, .int .i64 t.n, .string t.s, .slice a t.kids.length cap] 24) := ⟨_, rfl⟩
  have hB1 : Below w.heap.size w W1 := hW1 ▸ below1 _ _
  have hsz : W1.heap.size = w.heap.size + 1 := by rw [hW1]; simp
  have hc := (hW1 ▸ Box4.new w 24 (.int .i64 t.op) (.int .i64 t.n) (.string t.s) (.slice a t.kids.length cap) : Box4 W1 w.heap.size 24 (.int .i64 t.op) (.int .i64 t.n) (.string t.s) (.slice a t.kids.length cap)).cells
  have HC := Lib.hid (show ∀ cur, Below W1.heap.size W1 cur → _ ∧ _ ∧ _ ∧ _ from fun cur (hb : Below W1.heap.size W1 cur) => ⟨(hb.cell (p := ⟨w.heap.size, 0, none⟩) (show w.heap.size < W1.heap.size by omega)).trans hc.1, (hb.cell (p := ⟨w.heap.size, 1, none⟩) (show w.heap.size < W1.heap.size by omega)).trans hc.2.1, (hb.cell (p := ⟨w.heap.size, 2, none⟩) (show w.heap.size < W1.heap.size by omega)).trans hc.2.2.1, (hb.cell (p := ⟨w.heap.size, 3, none⟩) (show w.heap.size < W1.heap.size by omega)).trans hc.2.2.2⟩)
  have HH := Lib.hid (show ∀ cur, Below W1.heap.size W1 cur → t.hold cur.heap.size cur a cap from fun cur hb => ((h.below hB1).below (hb.mono hB1.size)).mono (Nat.le_trans hB1.size hb.size))
  have HB1 := Lib.hid hB1
  have CS := Lib.hid (rType_any t a cap W1 (HH.out W1 (Below.refl _ _)))
  obtain ⟨x0, x1, x2, x3⟩ := hc
  clear kk h hB1 hsz
  cases hR : rightB t
  · have e := Lib.hid (show checkB t = 140 by unfold checkB; rw [if_neg (fun h => by rw [hR] at h; cases h.1)])
    go_enter Tryd.func13, Tryd.ntmps13
    go_wp2_with (go_at_call 12; rw [← hW1]; refine CS.out.mono ?_; rintro e w1 ⟨rfl, hb1⟩; rw [hR]; clear x0 x1 x2 x3; obtain ⟨x0, x1, x2, x3⟩ := HC.out _ hb1)
    go_ret
    exact ⟨ret_int e.out.symm, HB1.out.trans (hb1.mono HB1.out.size)⟩
  cases h4 : (typeB t == 4)
  · have h4' : (typeB t != 4) = true := by rw [bne, h4]; rfl
    have e := Lib.hid (show checkB t = 140 by unfold checkB; rw [if_neg (fun h => by rw [h.2] at h4; cases h4)])
    go_enter Tryd.func13, Tryd.ntmps13
    go_wp2_with (go_at_call 12; rw [← hW1]; refine CS.out.mono ?_; rintro e w1 ⟨rfl, hb1⟩; rw [hR]; clear x0 x1 x2 x3; obtain ⟨x0, x1, x2, x3⟩ := HC.out _ hb1)
    go_ret
    exact ⟨ret_int e.out.symm, HB1.out.trans (hb1.mono HB1.out.size)⟩
  · have h4' : (typeB t != 4) = false := by rw [bne, h4]; rfl
    have e := Lib.hid (show checkB t = if aheadB t then 141 else 0 by unfold checkB; rw [if_pos ⟨hR, beq_iff_eq.1 h4⟩]; rfl)
    have CT := Lib.hid (show ∀ cur, Below W1.heap.size W1 cur → Calls Tryd.prog 28 #[.agg #[.int .i64 t.op, .int .i64 t.n, .string t.s, .slice a t.kids.length cap]] cur fun e w' => e = .returned (.bool (aheadB t)) ∧ Below cur.heap.size cur w' from fun cur hb => rahead_any _ t (Nat.lt_succ_self _) a cap _ cur (HH.out cur hb) (Nat.le_refl _))
    cases ha : aheadB t
    all_goals
      go_enter Tryd.func13, Tryd.ntmps13
      go_wp2_with (first
        | (go_at_call 12; rw [← hW1]; refine CS.out.mono ?_; rintro e w1 ⟨rfl, hb1⟩; rw [hR]; clear x0 x1 x2 x3; obtain ⟨x0, x1, x2, x3⟩ := HC.out _ hb1)
        | (go_at_call 28; refine (CT.out _ hb1).mono ?_; rintro e w2 ⟨rfl, hb2⟩; rw [ha]))
      go_ret
      exact ⟨ret_int (by rw [e.out, ha]; rfl), HB1.out.trans ((hb1.trans (hb2.mono hb1.size)).mono HB1.out.size)⟩

end Go.Proofs.YtmjclolmoobfpaaDoor
