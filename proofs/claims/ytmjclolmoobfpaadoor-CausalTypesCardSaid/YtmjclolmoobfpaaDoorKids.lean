/-
  CausalKids, walked.
-/
import Derived.Test.YtmjclolmoobfpaaDoorKidsLaw
import Derived.Deep.RegionWith
import Derived.Deep.RegionHeld3
namespace Go.Proofs.YtmjclolmoobfpaaDoor
open Go.RowKit
set_option maxRecDepth 100000

set_option maxHeartbeats 4000000 in
theorem kids_true (t : Tm) (a : Option Addr) (cap : Nat) (which : Int) (w : World) (h : t.hold w.heap.size w a cap) (he : Env w) (hwf : (Lit.int .i64 which).wf = true) :
    Calls Tryd.prog 3 #[.agg #[.int .i64 t.op, .int .i64 t.n, .string t.s, .slice a t.kids.length cap], .int .i64 which] w fun e W' => e = .returned (.bool true) ∧ Below w.heap.size w W' := by
  have kk := h.bounds
  have wk1 := kk.1
  have wk2 := kk.2.1
  have kk3 := kk.2.2.2
  have hm := kk3
  unfold maxLen at hm
  obtain ⟨W1, hW1⟩ : ∃ W1, W1 = w.alloc (.cells #[.int .i64 t.op, .int .i64 t.n, .string t.s, .slice a t.kids.length cap] 24) := ⟨_, rfl⟩
  have hB1 : Below w.heap.size w W1 := hW1 ▸ below1 _ _
  have hsz : W1.heap.size = w.heap.size + 1 := by rw [hW1]; simp
  have hb4 : Box4 W1 w.heap.size 24 (.int .i64 t.op) (.int .i64 t.n) (.string t.s) (.slice a t.kids.length cap) := hW1 ▸ Box4.new _ _ _ _ _ _
  have HH := Lib.hid (show t.hold w.heap.size W1 a cap from h.below hB1)
  have HE := Lib.hid (he.below hB1 he.size)
  have HB := Lib.hid (Below.refl W1.heap.size W1)
  have HB1 := Lib.hid hB1
  obtain ⟨x0, x1, x2, x3⟩ := hb4.cells
  have HC := Lib.hid (show ∀ cur, Below W1.heap.size W1 cur → _ ∧ _ ∧ _ ∧ _ from fun cur (hb : Below W1.heap.size W1 cur) => ⟨(hb.cell (p := ⟨w.heap.size, 0, none⟩) (show w.heap.size < W1.heap.size by omega)).trans x0, (hb.cell (p := ⟨w.heap.size, 1, none⟩) (show w.heap.size < W1.heap.size by omega)).trans x1, (hb.cell (p := ⟨w.heap.size, 2, none⟩) (show w.heap.size < W1.heap.size by omega)).trans x2, (hb.cell (p := ⟨w.heap.size, 3, none⟩) (show w.heap.size < W1.heap.size by omega)).trans x3⟩)
  clear x0 x1 x2 x3 hb4 h he kk hB1
  by_cases hr : rightB t = true
  · by_cases h0 : which < 0
    · skip
      go_enter Tryd.func3, Tryd.ntmps3
      go_wp2_with (first
        | (go_at_call 6; rw [← hW1]; refine (shown_any _ HE.out).mono ?_; rintro e w' ⟨rfl, hb⟩; replace HB := Lib.hid hb; obtain ⟨y0, y1, y2, y3⟩ := HC.out _ HB.out; clear hb)
        | (go_at_call 7; refine (Type_any t a cap _ ((HH.out.below (HB.out.mono HB1.out.size)).mono (Nat.le_trans HB1.out.size HB.out.size)) (HE.out.below HB.out HE.out.size)).mono ?_; rintro e w' ⟨rfl, hb⟩; replace HB := Lib.hid (HB.out.trans (hb.mono HB.out.size)); clear y0 y1 y2 y3; obtain ⟨y0, y1, y2, y3⟩ := HC.out _ HB.out; clear hb))
      go_ret
      exact ⟨rfl, HB1.out.trans (HB.out.mono HB1.out.size)⟩
    by_cases h1 : (t.kids.length : Int) ≤ which
    · skip
      go_enter Tryd.func3, Tryd.ntmps3
      go_wp2_with (first
        | (go_at_call 6; rw [← hW1]; refine (shown_any _ HE.out).mono ?_; rintro e w' ⟨rfl, hb⟩; replace HB := Lib.hid hb; obtain ⟨y0, y1, y2, y3⟩ := HC.out _ HB.out; clear hb)
        | (go_at_call 7; refine (Type_any t a cap _ ((HH.out.below (HB.out.mono HB1.out.size)).mono (Nat.le_trans HB1.out.size HB.out.size)) (HE.out.below HB.out HE.out.size)).mono ?_; rintro e w' ⟨rfl, hb⟩; replace HB := Lib.hid (HB.out.trans (hb.mono HB.out.size)); clear y0 y1 y2 y3; obtain ⟨y0, y1, y2, y3⟩ := HC.out _ HB.out; clear hb))
      go_ret
      exact ⟨rfl, HB1.out.trans (HB.out.mono HB1.out.size)⟩
    obtain ⟨k, rfl⟩ : ∃ k : Nat, which = k := ⟨which.toNat, by omega⟩
    have hk : k < t.kids.length := by omega
    obtain ⟨b, off, A⟩ := HH.out.kidAt k hk
    have hmem := List.getElem_mem hk
    obtain ⟨q, hq⟩ : ∃ q, q = t.kids[k] := ⟨_, rfl⟩
    rw [← hq] at A hmem
    obtain ⟨qa, qc, hqa⟩ : ∃ qa qc, (qa, qc) = kidA W1 a k := ⟨_, _, rfl⟩
    rw [← hqa] at A
    obtain ⟨rfl, hb, c0, c1, c2, c3, hh⟩ := A
    have HQ := Lib.hid (show ∀ cur, Below W1.heap.size W1 cur → _ ∧ _ ∧ _ ∧ _ from fun cur (hc : Below W1.heap.size W1 cur) => ⟨(hc.cell (p := ⟨b, off + k * 4, none⟩) (show b < W1.heap.size by omega)).trans c0, (hc.cell (p := ⟨b, off + k * 4 + 1, none⟩) (show b < W1.heap.size by omega)).trans c1, (hc.cell (p := ⟨b, off + k * 4 + 2, none⟩) (show b < W1.heap.size by omega)).trans c2, (hc.cell (p := ⟨b, off + k * 4 + 3, none⟩) (show b < W1.heap.size by omega)).trans c3⟩)
    have qb := hh.bounds
    have qk1 := qb.1
    have qk2 := qb.2.1
    have qk3 := qb.2.2.2
    have HQH := Lib.hid hh
    have r1 := right_kid hr hmem
    have r2 : (decide (sizeB q < sizeB t)) = true := decide_eq_true (size_kid hr hmem)
    have r3 : (decide (horizonB q ≤ horizonB t)) = true := decide_eq_true (horizon_kid hr hmem)
    clear c0 c1 c2 c3 hh qb hqa hq
    go_enter Tryd.func3, Tryd.ntmps3
    go_wp2_with (first
      | (go_at_call 6; rw [← hW1]; refine (shown_any _ HE.out).mono ?_; rintro e w' ⟨rfl, hb⟩; replace HB := Lib.hid hb; obtain ⟨y0, y1, y2, y3⟩ := HC.out _ HB.out; clear hb)
      | (go_at_call_of 7 (Tm.op t); refine (Type_any t _ cap _ ((HH.out.below (HB.out.mono HB1.out.size)).mono (Nat.le_trans HB1.out.size HB.out.size)) (HE.out.below HB.out HE.out.size)).mono ?_; rintro e w' ⟨rfl, hb⟩; replace HB := Lib.hid (HB.out.trans (hb.mono HB.out.size)); clear y0 y1 y2 y3; obtain ⟨y0, y1, y2, y3⟩ := HC.out _ HB.out; obtain ⟨z0, z1, z2, z3⟩ := HQ.out _ HB.out; clear hb)
      | (go_at_call_of 7 (Tm.op q); refine (Type_any q qa qc _ ((HQH.out.below (HB.out.mono HB1.out.size)).mono (Nat.le_trans HB1.out.size HB.out.size)) (HE.out.below HB.out HE.out.size)).mono ?_; rintro e w' ⟨rfl, hb⟩; replace HB := Lib.hid (HB.out.trans (hb.mono HB.out.size)); clear y0 y1 y2 y3 z0 z1 z2 z3; obtain ⟨y0, y1, y2, y3⟩ := HC.out _ HB.out; obtain ⟨z0, z1, z2, z3⟩ := HQ.out _ HB.out; clear hb))
    have S1 := Lib.hid (show ∀ cur, Below W1.heap.size W1 cur → Calls Tryd.prog 8 #[.agg #[.int .i64 q.op, .int .i64 q.n, .string q.s, .slice qa q.kids.length qc]] cur fun e W' => e = .returned (.int .i64 (sizeB q)) ∧ Below W1.heap.size W1 W' from fun cur hc =>
      (Size_any q _ _ cur ((HQH.out.below (hc.mono HB1.out.size)).mono (Nat.le_trans HB1.out.size hc.size)) (HE.out.below hc HE.out.size)).mono (by rintro e W' ⟨rfl, hb⟩; exact ⟨rfl, hc.trans (hb.mono hc.size)⟩))
    have S2 := Lib.hid (show ∀ cur, Below W1.heap.size W1 cur → Calls Tryd.prog 8 #[.agg #[.int .i64 t.op, .int .i64 t.n, .string t.s, .slice (some ⟨b, off, none⟩) t.kids.length cap]] cur fun e W' => e = .returned (.int .i64 (sizeB t)) ∧ Below W1.heap.size W1 W' from fun cur hc =>
      (Size_any t _ _ cur ((HH.out.below (hc.mono HB1.out.size)).mono (Nat.le_trans HB1.out.size hc.size)) (HE.out.below hc HE.out.size)).mono (by rintro e W' ⟨rfl, hb⟩; exact ⟨rfl, hc.trans (hb.mono hc.size)⟩))
    have N1 := Lib.hid (show ∀ cur, Below W1.heap.size W1 cur → Calls Tryd.prog 9 #[.agg #[.int .i64 q.op, .int .i64 q.n, .string q.s, .slice qa q.kids.length qc]] cur fun e W' => e = .returned (.int .i64 (horizonB q)) ∧ Below W1.heap.size W1 W' from fun cur hc =>
      (Horizon_any q _ _ cur ((HQH.out.below (hc.mono HB1.out.size)).mono (Nat.le_trans HB1.out.size hc.size)) (HE.out.below hc HE.out.size)).mono (by rintro e W' ⟨rfl, hb⟩; exact ⟨rfl, hc.trans (hb.mono hc.size)⟩))
    have N2 := Lib.hid (show ∀ cur, Below W1.heap.size W1 cur → Calls Tryd.prog 9 #[.agg #[.int .i64 t.op, .int .i64 t.n, .string t.s, .slice (some ⟨b, off, none⟩) t.kids.length cap]] cur fun e W' => e = .returned (.int .i64 (horizonB t)) ∧ Below W1.heap.size W1 W' from fun cur hc =>
      (Horizon_any t _ _ cur ((HH.out.below (hc.mono HB1.out.size)).mono (Nat.le_trans HB1.out.size hc.size)) (HE.out.below hc HE.out.size)).mono (by rintro e W' ⟨rfl, hb⟩; exact ⟨rfl, hc.trans (hb.mono hc.size)⟩))
    have HS := Lib.hid (show ∀ cur, Below W1.heap.size W1 cur → Below W1.heap.size W1 cur ∧ cur.cell? ⟨w.heap.size, 0, none⟩ = some (.int .i64 t.op) ∧ cur.cell? ⟨w.heap.size, 1, none⟩ = some (.int .i64 t.n) ∧ cur.cell? ⟨w.heap.size, 2, none⟩ = some (.string t.s) ∧ cur.cell? ⟨w.heap.size, 3, none⟩ = some (.slice (some ⟨b, off, none⟩) t.kids.length cap) ∧
      cur.cell? ⟨b, off + k * 4, none⟩ = some (.int .i64 q.op) ∧ cur.cell? ⟨b, off + k * 4 + 1, none⟩ = some (.int .i64 q.n) ∧ cur.cell? ⟨b, off + k * 4 + 2, none⟩ = some (.string q.s) ∧ cur.cell? ⟨b, off + k * 4 + 3, none⟩ = some (.slice qa q.kids.length qc) from fun cur hc => ⟨hc, (HC.out cur hc).1, (HC.out cur hc).2.1, (HC.out cur hc).2.2.1, (HC.out cur hc).2.2.2, HQ.out cur hc⟩)
    clear y0 y1 y2 y3 z0 z1 z2 z3
    go_region_held3 (fun cur => Below W1.heap.size W1 cur ∧ cur.cell? ⟨w.heap.size, 0, none⟩ = some (.int .i64 t.op) ∧ cur.cell? ⟨w.heap.size, 1, none⟩ = some (.int .i64 t.n) ∧ cur.cell? ⟨w.heap.size, 2, none⟩ = some (.string t.s) ∧ cur.cell? ⟨w.heap.size, 3, none⟩ = some (.slice (some ⟨b, off, none⟩) t.kids.length cap) ∧
        cur.cell? ⟨b, off + k * 4, none⟩ = some (.int .i64 q.op) ∧ cur.cell? ⟨b, off + k * 4 + 1, none⟩ = some (.int .i64 q.n) ∧ cur.cell? ⟨b, off + k * 4 + 2, none⟩ = some (.string q.s) ∧ cur.cell? ⟨b, off + k * 4 + 3, none⟩ = some (.slice qa q.kids.length qc))
      (first | exact HS.out _ hb | exact HS.out _ HB.out | exact HS.out _ HB.out.drew)
      (first
        | (go_at_call_of 8 (Tm.op q); refine (S1.out _ ?_).mono ?_; (go_split_ands; assumption); rintro e w' ⟨rfl, hb⟩)
        | (go_at_call_of 8 (Tm.op t); refine (S2.out _ ?_).mono ?_; (go_split_ands; assumption); rintro e w' ⟨rfl, hb⟩)
        | (go_at_call_of 9 (Tm.op q); refine (N1.out _ ?_).mono ?_; (go_split_ands; assumption); rintro e w' ⟨rfl, hb⟩)
        | (go_at_call_of 9 (Tm.op t); refine (N2.out _ ?_).mono ?_; (go_split_ands; assumption); rintro e w' ⟨rfl, hb⟩))
    go_wp2
    go_ret
    exact ⟨ret_bool (by first | rfl | (rw [r1, r2, r3]; rfl) | (rw [r2, r3]; rfl) | simp [r2, r3]), HB1.out.trans (hb.mono HB1.out.size)⟩
  · have hq : rightB t = false := by simpa using hr
    go_enter Tryd.func3, Tryd.ntmps3
    go_wp2_with (first
      | (go_at_call 6; rw [← hW1]; refine (shown_any _ HE.out).mono ?_; rintro e w' ⟨rfl, hb⟩; replace HB := Lib.hid hb; obtain ⟨y0, y1, y2, y3⟩ := HC.out _ HB.out; clear hb)
      | (go_at_call 7; refine (Type_any t a cap _ ((HH.out.below (HB.out.mono HB1.out.size)).mono (Nat.le_trans HB1.out.size HB.out.size)) (HE.out.below HB.out HE.out.size)).mono ?_; rintro e w' ⟨rfl, hb⟩; replace HB := Lib.hid (HB.out.trans (hb.mono HB.out.size)); clear y0 y1 y2 y3; obtain ⟨y0, y1, y2, y3⟩ := HC.out _ HB.out; clear hb))
    go_ret
    exact ⟨rfl, HB1.out.trans (HB.out.mono HB1.out.size)⟩

end Go.Proofs.YtmjclolmoobfpaaDoor
