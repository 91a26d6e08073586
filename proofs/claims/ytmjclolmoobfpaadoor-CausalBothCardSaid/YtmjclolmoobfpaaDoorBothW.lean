/-
  The walk of usancelaw14.CausalBoth.
-/
import Derived.Test.YtmjclolmoobfpaaDoorBoth
import Derived.Test.YtmjclolmoobfpaaDoorReg
namespace Go.Proofs.YtmjclolmoobfpaaDoor
open Go.RowKit
set_option maxRecDepth 100000

/-- a term of both was made, and something has happened since -/
def Made (a b : Tm) (V W' : World) : Prop := ∃ V2 : World, Below V.heap.size V V2 ∧ V2.heap.size = V.heap.size + 2 ∧ Box4 V2 (V.heap.size + 1) 24 (.int .i64 27) (.int .i64 0) (.string ⟨#[]⟩) (.slice (some ⟨V.heap.size, 0, none⟩) 2 2) ∧
  (bothT a b).hold V2.heap.size V2 (some ⟨V.heap.size, 0, none⟩) 2 ∧ Below V2.heap.size V2 W'
theorem Made.below {a b : Tm} {V W' : World} (h : Made a b V W') : Below V.heap.size V W' := by
  obtain ⟨V2, h1, h2, -, -, h3⟩ := h
  exact h1.trans (h3.mono (by omega))

set_option maxHeartbeats 8000000 in
theorem both_true (a : Tm) (aa : Option Addr) (ac : Nat) (b : Tm) (ba : Option Addr) (bc : Nat) (w : World) (ha : a.hold w.heap.size w aa ac) (hb : b.hold w.heap.size w ba bc) (he : Env w) :
    Calls Tryd.prog 4 #[.agg #[.int .i64 a.op, .int .i64 a.n, .string a.s, .slice aa a.kids.length ac], .agg #[.int .i64 b.op, .int .i64 b.n, .string b.s, .slice ba b.kids.length bc]] w fun e W' => e = .returned (.bool true) ∧ Below w.heap.size w W' := by
  have ka := ha.bounds
  have kb := hb.bounds
  have wa1 := ka.1
  have wa2 := ka.2.1
  have ka3 := ka.2.2.2
  have wb1 := kb.1
  have wb2 := kb.2.1
  have kb3 := kb.2.2.2
  obtain ⟨W1, hW1⟩ : ∃ W1, W1 = (w.alloc (.cells #[.int .i64 a.op, .int .i64 a.n, .string a.s, .slice aa a.kids.length ac] 24)).alloc (.cells #[.int .i64 b.op, .int .i64 b.n, .string b.s, .slice ba b.kids.length bc] 24) := ⟨_, rfl⟩
  have hB1 : Below w.heap.size w W1 := hW1 ▸ (below1 _ _).trans ((below1 _ _).mono (by simp))
  have hsz : W1.heap.size = w.heap.size + 2 := by rw [hW1]; simp
  have hL : Lies w.heap.size (w.heap.size + 1) a aa ac b ba bc W1 := by
    have p1 := (Box4.new w 24 (.int .i64 a.op) (.int .i64 a.n) (.string a.s) (.slice aa a.kids.length ac)).cells
    have p2 := (Box4.new (w.alloc (.cells #[.int .i64 a.op, .int .i64 a.n, .string a.s, .slice aa a.kids.length ac] 24)) 24 (.int .i64 b.op) (.int .i64 b.n) (.string b.s) (.slice ba b.kids.length bc)).cells
    simp only [World.size_alloc] at p2
    rw [hW1]
    exact ⟨⟨cell_alloc' _ p1.1, cell_alloc' _ p1.2.1, cell_alloc' _ p1.2.2.1, cell_alloc' _ p1.2.2.2⟩, p2⟩
  have HA := Lib.hid (show ∀ cur, Below W1.heap.size W1 cur → a.hold cur.heap.size cur aa ac from fun cur hc => ((ha.below hB1).below (hc.mono hB1.size)).mono (Nat.le_trans hB1.size hc.size))
  have HBb := Lib.hid (show ∀ cur, Below W1.heap.size W1 cur → b.hold cur.heap.size cur ba bc from fun cur hc => ((hb.below hB1).below (hc.mono hB1.size)).mono (Nat.le_trans hB1.size hc.size))
  have HE := Lib.hid (show ∀ cur, Below W1.heap.size W1 cur → Env cur from fun cur hc => (he.below hB1 he.size).below hc (Nat.lt_of_lt_of_le he.size hB1.size))
  have HL := Lib.hid (show ∀ cur, Below W1.heap.size W1 cur → Lies w.heap.size (w.heap.size + 1) a aa ac b ba bc cur from fun cur hc => hL.below hc (by omega) (by omega))
  have HB1 := Lib.hid hB1
  have HB := Lib.hid (Below.refl W1.heap.size W1)
  have CA := Lib.hid (show ∀ cur, Below W1.heap.size W1 cur → Calls Tryd.prog 10 #[.agg #[.int .i64 a.op, .int .i64 a.n, .string a.s, .slice aa a.kids.length ac]] cur fun e W' => e = .returned (.int .i64 (checkB a)) ∧ Below W1.heap.size W1 W' from fun cur hc =>
    (Check_any a aa ac cur (HA.out cur hc) (HE.out cur hc)).mono (by rintro e W' ⟨rfl, h⟩; exact ⟨rfl, hc.trans (h.mono hc.size)⟩))
  have CB := Lib.hid (show ∀ cur, Below W1.heap.size W1 cur → Calls Tryd.prog 10 #[.agg #[.int .i64 b.op, .int .i64 b.n, .string b.s, .slice ba b.kids.length bc]] cur fun e W' => e = .returned (.int .i64 (checkB b)) ∧ Below W1.heap.size W1 W' from fun cur hc =>
    (Check_any b ba bc cur (HBb.out cur hc) (HE.out cur hc)).mono (by rintro e W' ⟨rfl, h⟩; exact ⟨rfl, hc.trans (h.mono hc.size)⟩))
  have CS := Lib.hid (show Calls Tryd.prog 6 #[] W1 fun e W' => e = .returned (.bool true) ∧ Below W1.heap.size W1 W' from shown_any W1 (HE.out W1 (Below.refl _ _)))
  have CC := Lib.hid (show ∀ cur, Below W1.heap.size W1 cur → Calls Tryd.prog 10 #[.agg #[.int .i64 27, .int .i64 0, .string ⟨#[]⟩, .slice (some ⟨cur.heap.size, 0, none⟩) 2 2]] ((cur.alloc (pairO a aa ac b ba bc)).alloc (bothO cur.heap.size)) fun e W' => e = .returned (.int .i64 (checkB (bothT a b))) ∧ Made a b cur W' from fun cur hc => by
    have hB0 : Below cur.heap.size cur ((cur.alloc (pairO a aa ac b ba bc)).alloc (bothO cur.heap.size)) := (below1 _ _).trans ((below1 _ _).mono (by simp))
    have hB : Below W1.heap.size W1 ((cur.alloc (pairO a aa ac b ba bc)).alloc (bothO cur.heap.size)) := hc.trans (hB0.mono hc.size)
    have hh := both_hold (Nat.le_refl _) (HA.out cur hc) (HBb.out cur hc)
    refine (Check_any (bothT a b) (some ⟨cur.heap.size, 0, none⟩) 2 _ hh (HE.out _ hB)).mono ?_
    rintro e W' ⟨rfl, h⟩
    have hx := (Box4.new (cur.alloc (pairO a aa ac b ba bc)) 24 (.int .i64 27) (.int .i64 0) (.string ⟨#[]⟩) (.slice (some ⟨cur.heap.size, 0, none⟩) 2 2))
    rw [World.size_alloc] at hx
    exact ⟨rfl, _, hB0, by simp, hx, hh, h⟩)
  have SA := Lib.hid (show ∀ cur, Below W1.heap.size W1 cur → Calls Tryd.prog 8 #[.agg #[.int .i64 a.op, .int .i64 a.n, .string a.s, .slice aa a.kids.length ac]] cur fun e W' => e = .returned (.int .i64 (sizeB a)) ∧ Below W1.heap.size W1 W' from fun cur hc =>
    (Size_any a aa ac cur (HA.out cur hc) (HE.out cur hc)).mono (by rintro e W' ⟨rfl, h⟩; exact ⟨rfl, hc.trans (h.mono hc.size)⟩))
  have SB := Lib.hid (show ∀ cur, Below W1.heap.size W1 cur → Calls Tryd.prog 8 #[.agg #[.int .i64 b.op, .int .i64 b.n, .string b.s, .slice ba b.kids.length bc]] cur fun e W' => e = .returned (.int .i64 (sizeB b)) ∧ Below W1.heap.size W1 W' from fun cur hc =>
    (Size_any b ba bc cur (HBb.out cur hc) (HE.out cur hc)).mono (by rintro e W' ⟨rfl, h⟩; exact ⟨rfl, hc.trans (h.mono hc.size)⟩))
  have NA := Lib.hid (show ∀ cur, Below W1.heap.size W1 cur → Calls Tryd.prog 9 #[.agg #[.int .i64 a.op, .int .i64 a.n, .string a.s, .slice aa a.kids.length ac]] cur fun e W' => e = .returned (.int .i64 (horizonB a)) ∧ Below W1.heap.size W1 W' from fun cur hc =>
    (Horizon_any a aa ac cur (HA.out cur hc) (HE.out cur hc)).mono (by rintro e W' ⟨rfl, h⟩; exact ⟨rfl, hc.trans (h.mono hc.size)⟩))
  have NB := Lib.hid (show ∀ cur, Below W1.heap.size W1 cur → Calls Tryd.prog 9 #[.agg #[.int .i64 b.op, .int .i64 b.n, .string b.s, .slice ba b.kids.length bc]] cur fun e W' => e = .returned (.int .i64 (horizonB b)) ∧ Below W1.heap.size W1 W' from fun cur hc =>
    (Horizon_any b ba bc cur (HBb.out cur hc) (HE.out cur hc)).mono (by rintro e W' ⟨rfl, h⟩; exact ⟨rfl, hc.trans (h.mono hc.size)⟩))
  have DA := Lib.hid (show ∀ cur, Below W1.heap.size W1 cur → Calls Tryd.prog 11 #[.agg #[.int .i64 a.op, .int .i64 a.n, .string a.s, .slice aa a.kids.length ac], .int .i64 200] cur fun e W' => e = .returned (.bool (deepB a 200)) ∧ Below W1.heap.size W1 W' from fun cur hc =>
    (deep_any _ a (Nat.lt_succ_self _) 200 aa ac _ cur (Nat.le_refl _) (HA.out cur hc) (Nat.le_refl _)).mono (by rintro e W' ⟨rfl, h⟩; exact ⟨rfl, hc.trans (h.mono hc.size)⟩))
  have DB := Lib.hid (show ∀ cur, Below W1.heap.size W1 cur → Calls Tryd.prog 11 #[.agg #[.int .i64 b.op, .int .i64 b.n, .string b.s, .slice ba b.kids.length bc], .int .i64 200] cur fun e W' => e = .returned (.bool (deepB b 200)) ∧ Below W1.heap.size W1 W' from fun cur hc =>
    (deep_any _ b (Nat.lt_succ_self _) 200 ba bc _ cur (Nat.le_refl _) (HBb.out cur hc) (Nat.le_refl _)).mono (by rintro e W' ⟨rfl, h⟩; exact ⟨rfl, hc.trans (h.mono hc.size)⟩))
  clear ha hb he hL hB1 ka kb
  obtain ⟨⟨x0, x1, x2, x3⟩, ⟨y0, y1, y2, y3⟩⟩ := HL.out _ HB.out
  by_cases c1 : checkB a = 140
  · have c2 : (checkB (bothT a b) == 140) = true := by rw [both_bad (.inl c1)]; rfl
    have c3 : (checkB a == 140) = true := by rw [c1]; rfl
    clear c1
    go_enter Tryd.func4, Tryd.ntmps4
    go_wp2_with (first
      | (go_at_call 6; rw [← hW1]; refine CS.out.mono ?_; rintro e w1 ⟨rfl, hb⟩; replace HB := Lib.hid hb; clear x0 x1 x2 x3 y0 y1 y2 y3; obtain ⟨⟨x0, x1, x2, x3⟩, ⟨y0, y1, y2, y3⟩⟩ := HL.out _ HB.out; clear hb)
      | (go_at_call_of 10 (Tm.op a); refine (CA.out _ HB.out).mono ?_; rintro e w2 ⟨rfl, hb⟩; replace HB := Lib.hid hb; clear x0 x1 x2 x3 y0 y1 y2 y3; obtain ⟨⟨x0, x1, x2, x3⟩, ⟨y0, y1, y2, y3⟩⟩ := HL.out _ HB.out; clear hb)
      | (go_at_call_of 10 (Tm.op b); refine (CB.out _ HB.out).mono ?_; rintro e w3 ⟨rfl, hb⟩; replace HB := Lib.hid hb; clear x0 x1 x2 x3 y0 y1 y2 y3; obtain ⟨⟨x0, x1, x2, x3⟩, ⟨y0, y1, y2, y3⟩⟩ := HL.out _ HB.out; clear hb)
      | (go_at_call 10; refine (CC.out _ HB.out).mono ?_; rintro e w4 ⟨rfl, hb⟩; have HX := Lib.hid hb; clear hb))
    go_ret
    exact ⟨rfl, HB1.out.trans ((HB.out.trans (HX.out.below.mono HB.out.size)).mono HB1.out.size)⟩
  have c3 : (checkB a == 140) = false := by rw [beq_eq_false_iff_ne]; exact c1
  by_cases c2 : checkB b = 140
  · have c2' : (checkB (bothT a b) == 140) = true := by rw [both_bad (.inr c2)]; rfl
    have c4 : (checkB b == 140) = true := by rw [c2]; rfl
    clear c1 c2
    go_enter Tryd.func4, Tryd.ntmps4
    go_wp2_with (first
      | (go_at_call 6; rw [← hW1]; refine CS.out.mono ?_; rintro e w1 ⟨rfl, hb⟩; replace HB := Lib.hid hb; clear x0 x1 x2 x3 y0 y1 y2 y3; obtain ⟨⟨x0, x1, x2, x3⟩, ⟨y0, y1, y2, y3⟩⟩ := HL.out _ HB.out; clear hb)
      | (go_at_call_of 10 (Tm.op a); refine (CA.out _ HB.out).mono ?_; rintro e w2 ⟨rfl, hb⟩; replace HB := Lib.hid hb; clear x0 x1 x2 x3 y0 y1 y2 y3; obtain ⟨⟨x0, x1, x2, x3⟩, ⟨y0, y1, y2, y3⟩⟩ := HL.out _ HB.out; clear hb)
      | (go_at_call_of 10 (Tm.op b); refine (CB.out _ HB.out).mono ?_; rintro e w3 ⟨rfl, hb⟩; replace HB := Lib.hid hb; clear x0 x1 x2 x3 y0 y1 y2 y3; obtain ⟨⟨x0, x1, x2, x3⟩, ⟨y0, y1, y2, y3⟩⟩ := HL.out _ HB.out; clear hb)
      | (go_at_call 10; refine (CC.out _ HB.out).mono ?_; rintro e w4 ⟨rfl, hb⟩; have HX := Lib.hid hb; clear hb))
    go_ret
    exact ⟨rfl, HB1.out.trans ((HB.out.trans (HX.out.below.mono HB.out.size)).mono HB1.out.size)⟩
  have c4 : (checkB b == 140) = false := by rw [beq_eq_false_iff_ne]; exact c2
  obtain ⟨ra, sa, -⟩ := right_of c1
  obtain ⟨rb, sb, -⟩ := right_of c2
  have za : 0 ≤ sizeB a ∧ sizeB a ≤ 2000 := by rw [smallB_iff] at sa; unfold sizeB; rw [if_pos ra]; omega
  have zb : 0 ≤ sizeB b ∧ sizeB b ≤ 2000 := by rw [smallB_iff] at sb; unfold sizeB; rw [if_pos rb]; omega
  clear ra sa rb sb
  have q1 : IntKind.i64.wrap (sizeB a + sizeB b) = sizeB a + sizeB b := IntWalk.i64_in _ (by omega)
  have q2 : IntKind.i64.wrap (sizeB a + sizeB b + 1) = sizeB a + sizeB b + 1 := IntWalk.i64_in _ (by omega)
  have q3 : IntKind.i64.wrap (1 + sizeB a) = 1 + sizeB a := IntWalk.i64_in _ (by omega)
  have q4 : IntKind.i64.wrap (1 + sizeB a + sizeB b) = 1 + sizeB a + sizeB b := IntWalk.i64_in _ (by omega)
  have HQ := Lib.hid (show _ ∧ _ ∧ _ ∧ _ from ⟨q1, q2, q3, q4⟩)
  clear q1 q2 q3 q4
  by_cases c5 : checkB (bothT a b) = 140
  · have c6 : (checkB (bothT a b) == 140) = true := by rw [c5]; rfl
    have HG := Lib.hid (both_great c1 c2 c5)
    clear c1 c2 c5
    go_enter Tryd.func4, Tryd.ntmps4
    go_wp2_with (first
      | (go_at_call 6; rw [← hW1]; refine CS.out.mono ?_; rintro e w1 ⟨rfl, hb⟩; replace HB := Lib.hid hb; clear x0 x1 x2 x3 y0 y1 y2 y3; obtain ⟨⟨x0, x1, x2, x3⟩, ⟨y0, y1, y2, y3⟩⟩ := HL.out _ HB.out; clear hb)
      | (go_at_call_of 10 (Tm.op a); refine (CA.out _ HB.out).mono ?_; rintro e w2 ⟨rfl, hb⟩; replace HB := Lib.hid hb; clear x0 x1 x2 x3 y0 y1 y2 y3; obtain ⟨⟨x0, x1, x2, x3⟩, ⟨y0, y1, y2, y3⟩⟩ := HL.out _ HB.out; clear hb)
      | (go_at_call_of 10 (Tm.op b); refine (CB.out _ HB.out).mono ?_; rintro e w3 ⟨rfl, hb⟩; replace HB := Lib.hid hb; clear x0 x1 x2 x3 y0 y1 y2 y3; obtain ⟨⟨x0, x1, x2, x3⟩, ⟨y0, y1, y2, y3⟩⟩ := HL.out _ HB.out; clear hb)
      | (go_at_call 10; refine (CC.out _ HB.out).mono ?_; rintro e w4 ⟨rfl, hb⟩; have HX := Lib.hid hb; clear hb))
    have HB4 := Lib.hid (show Below W1.heap.size W1 w4 from HB.out.trans (HX.out.below.mono HB.out.size))
    clear x0 x1 x2 x3 y0 y1 y2 y3
    have HS := Lib.hid (show ∀ cur, Below W1.heap.size W1 cur → Below W1.heap.size W1 cur ∧ cur.cell? ⟨w.heap.size, 0, none⟩ = some (.int .i64 a.op) ∧ cur.cell? ⟨w.heap.size, 1, none⟩ = some (.int .i64 a.n) ∧ cur.cell? ⟨w.heap.size, 2, none⟩ = some (.string a.s) ∧ cur.cell? ⟨w.heap.size, 3, none⟩ = some (.slice aa a.kids.length ac) ∧ cur.cell? ⟨w.heap.size + 1, 0, none⟩ = some (.int .i64 b.op) ∧ cur.cell? ⟨w.heap.size + 1, 1, none⟩ = some (.int .i64 b.n) ∧ cur.cell? ⟨w.heap.size + 1, 2, none⟩ = some (.string b.s) ∧ cur.cell? ⟨w.heap.size + 1, 3, none⟩ = some (.slice ba b.kids.length bc) from fun cur hc => ⟨hc, (HL.out cur hc).1.1, (HL.out cur hc).1.2.1, (HL.out cur hc).1.2.2.1, (HL.out cur hc).1.2.2.2, (HL.out cur hc).2.1, (HL.out cur hc).2.2.1, (HL.out cur hc).2.2.2.1, (HL.out cur hc).2.2.2.2⟩)
    by_cases d1 : 2000 < sizeB a + sizeB b + 1
    · have e1 : decide (2000 < sizeB a + sizeB b + 1) = true := decide_eq_true d1
      obtain ⟨q1, q2, q3, q4⟩ := HQ.out
      refine wp_region_held_drew (S := fun cur => Below W1.heap.size W1 cur ∧ cur.cell? ⟨w.heap.size, 0, none⟩ = some (.int .i64 a.op) ∧ cur.cell? ⟨w.heap.size, 1, none⟩ = some (.int .i64 a.n) ∧ cur.cell? ⟨w.heap.size, 2, none⟩ = some (.string a.s) ∧ cur.cell? ⟨w.heap.size, 3, none⟩ = some (.slice aa a.kids.length ac) ∧ cur.cell? ⟨w.heap.size + 1, 0, none⟩ = some (.int .i64 b.op) ∧ cur.cell? ⟨w.heap.size + 1, 1, none⟩ = some (.int .i64 b.n) ∧ cur.cell? ⟨w.heap.size + 1, 2, none⟩ = some (.string b.s) ∧ cur.cell? ⟨w.heap.size + 1, 3, none⟩ = some (.slice ba b.kids.length bc)) (by kernel_rfl) ?_ (fun hHeld => ?_)
      · first | exact HS.out _ hb | exact HS.out _ HB4.out | exact HS.out _ HB4.out.drew
      refine wpAnyH_take (i := 0) (v := ?_) (op_at rfl) (by kernel_rfl) (by kernel_rfl) (by kernel_rfl) (fun _ _ _ h => h) (Or.inl ⟨by rfl, ?_⟩) (by assumption) ?_
      rotate_left
      · (intro w hSw; (try dsimp only at hSw); go_simp; try with_reducible rfl)
      try simp only [Act.put, List.setIfInBounds_toArray, List.set_cons_zero, List.set_cons_succ]
      refine wpAnyH_take (i := 1) (v := ?_) (op_at rfl) (by kernel_rfl) (by kernel_rfl) (by kernel_rfl) (fun _ _ _ h => h) (Or.inl ⟨by rfl, ?_⟩) (by assumption) ?_
      rotate_left
      · (intro w hSw; (try dsimp only at hSw); go_simp; try with_reducible rfl)
      try simp only [Act.put, List.setIfInBounds_toArray, List.set_cons_zero, List.set_cons_succ]
      refine wpAnyH_take (i := 2) (v := ?_) (op_at rfl) (by kernel_rfl) (by kernel_rfl) (by kernel_rfl) (fun _ _ _ h => h) (Or.inl ⟨by rfl, ?_⟩) (by assumption) ?_
      rotate_left
      · (intro w hSw; (try dsimp only at hSw); go_simp; try with_reducible rfl)
      try simp only [Act.put, List.setIfInBounds_toArray, List.set_cons_zero, List.set_cons_succ]
      refine wpAnyH_take (i := 4) (v := ?_) (op_at rfl) (by kernel_rfl) (by kernel_rfl) (by kernel_rfl) (fun _ _ _ h => h) (Or.inl ⟨by rfl, ?_⟩) (by assumption) ?_
      rotate_left
      · (intro w hSw; (try dsimp only at hSw); go_simp; try with_reducible rfl)
      try simp only [Act.put, List.setIfInBounds_toArray, List.set_cons_zero, List.set_cons_succ]
      refine wpAnyH_ready (rs := [3]) (by kernel_rfl) (by simp) ?_
      refine AllReadyH.cons (op_at rfl) (fun K hK => ?_) AllReadyH.nil
      go_simp
      first | (go_at_call_of 8 (Tm.op a); refine (SA.out _ ?_).mono ?_; (go_split_ands; assumption); rintro e w' ⟨rfl, hb⟩) | (go_at_call_of 8 (Tm.op b); refine (SB.out _ ?_).mono ?_; (go_split_ands; assumption); rintro e w' ⟨rfl, hb⟩) | (go_at_call_of 11 (Tm.op a); refine (DA.out _ ?_).mono ?_; (go_split_ands; assumption); rintro e w' ⟨rfl, hb⟩) | (go_at_call_of 11 (Tm.op b); refine (DB.out _ ?_).mono ?_; (go_split_ands; assumption); rintro e w' ⟨rfl, hb⟩)
      go_wp2_with fail
      refine hK.out _ _ ?_ (fun hHeld => ?_)
      · first | exact HS.out _ hb | exact HS.out _ HB4.out | exact HS.out _ HB4.out.drew
      clear hK K
      try simp only [Act.put, List.setIfInBounds_toArray, List.set_cons_zero, List.set_cons_succ]
      refine wpAnyH_ready (rs := [5]) (by kernel_rfl) (by simp) ?_
      refine AllReadyH.cons (op_at rfl) (fun K hK => ?_) AllReadyH.nil
      go_simp
      first | (go_at_call_of 8 (Tm.op a); refine (SA.out _ ?_).mono ?_; (go_split_ands; assumption); rintro e w' ⟨rfl, hb⟩) | (go_at_call_of 8 (Tm.op b); refine (SB.out _ ?_).mono ?_; (go_split_ands; assumption); rintro e w' ⟨rfl, hb⟩) | (go_at_call_of 11 (Tm.op a); refine (DA.out _ ?_).mono ?_; (go_split_ands; assumption); rintro e w' ⟨rfl, hb⟩) | (go_at_call_of 11 (Tm.op b); refine (DB.out _ ?_).mono ?_; (go_split_ands; assumption); rintro e w' ⟨rfl, hb⟩)
      go_wp2_with fail
      refine hK.out _ _ ?_ (fun hHeld => ?_)
      · first | exact HS.out _ hb | exact HS.out _ HB4.out | exact HS.out _ HB4.out.drew
      clear hK K
      try simp only [Act.put, List.setIfInBounds_toArray, List.set_cons_zero, List.set_cons_succ]
      refine wpAnyH_take (i := 6) (v := ?_) (op_at rfl) (by kernel_rfl) (by kernel_rfl) (by kernel_rfl) (fun _ _ _ h => h) (Or.inl ⟨by rfl, ?_⟩) (by assumption) ?_
      rotate_left
      · (intro w hSw; (try dsimp only at hSw); go_simp; try with_reducible rfl)
      try simp only [Act.put, List.setIfInBounds_toArray, List.set_cons_zero, List.set_cons_succ]
      refine wpAnyH_take (i := 7) (v := ?_) (op_at rfl) (by kernel_rfl) (by kernel_rfl) (by kernel_rfl) (fun _ _ _ h => h) (Or.inl ⟨by rfl, ?_⟩) (by assumption) ?_
      rotate_left
      · (intro w hSw; (try dsimp only at hSw); go_simp; try with_reducible rfl)
      try simp only [Act.put, List.setIfInBounds_toArray, List.set_cons_zero, List.set_cons_succ]
      refine wpAnyH_take (i := 8) (v := ?_) (op_at rfl) (by kernel_rfl) (by kernel_rfl) (by kernel_rfl) (fun _ _ _ h => h) (Or.inl ⟨by rfl, ?_⟩) (by assumption) ?_
      rotate_left
      · (intro w hSw; (try dsimp only at hSw); go_simp; try with_reducible rfl)
      try simp only [Act.put, List.setIfInBounds_toArray, List.set_cons_zero, List.set_cons_succ]
      refine wpAnyH_take (i := 9) (v := ?_) (op_at rfl) (by kernel_rfl) (by kernel_rfl) (by kernel_rfl) (fun _ _ _ h => h) (Or.inl ⟨by rfl, ?_⟩) (by assumption) ?_
      rotate_left
      · (intro w hSw; (try dsimp only at hSw); go_simp; try with_reducible rfl)
      try simp only [Act.put, List.setIfInBounds_toArray, List.set_cons_zero, List.set_cons_succ]
      refine wpAnyH_take (i := 10) (op_at rfl) (by kernel_rfl) (by kernel_rfl) (by kernel_rfl) (fun _ _ _ h => h) (Or.inr ⟨by rfl, rfl⟩) (by assumption) ?_
      try simp only [Act.put, List.setIfInBounds_toArray, List.set_cons_zero, List.set_cons_succ]
      refine wpAnyH_take (i := 11) (op_at rfl) (by kernel_rfl) (by kernel_rfl) (by kernel_rfl) (fun _ _ _ h => h) (Or.inr ⟨by rfl, rfl⟩) (by assumption) ?_
      try simp only [Act.put, List.setIfInBounds_toArray, List.set_cons_zero, List.set_cons_succ]
      refine wpAnyH_take (i := 12) (v := ?_) (op_at rfl) (by kernel_rfl) (by kernel_rfl) (by kernel_rfl) (fun _ _ _ h => h) (Or.inl ⟨by rfl, ?_⟩) (by assumption) ?_
      rotate_left
      · (intro w hSw; (try dsimp only at hSw); go_simp; try with_reducible rfl)
      try simp only [Act.put, List.setIfInBounds_toArray, List.set_cons_zero, List.set_cons_succ]
      refine wpAnyH_take (i := 13) (v := ?_) (op_at rfl) (by kernel_rfl) (by kernel_rfl) (by kernel_rfl) (fun _ _ _ h => h) (Or.inl ⟨by rfl, ?_⟩) (by assumption) ?_
      rotate_left
      · (intro w hSw; (try dsimp only at hSw); go_simp; try with_reducible rfl)
      try simp only [Act.put, List.setIfInBounds_toArray, List.set_cons_zero, List.set_cons_succ]
      refine wpAnyH_take (i := 14) (op_at rfl) (by kernel_rfl) (by kernel_rfl) (by kernel_rfl) (fun _ _ _ h => h) (Or.inr ⟨by rfl, rfl⟩) (by assumption) ?_
      try simp only [Act.put, List.setIfInBounds_toArray, List.set_cons_zero, List.set_cons_succ]
      refine wpAnyH_take (i := 15) (op_at rfl) (by kernel_rfl) (by kernel_rfl) (by kernel_rfl) (fun _ _ _ h => h) (Or.inr ⟨by rfl, rfl⟩) (by assumption) ?_
      try simp only [Act.put, List.setIfInBounds_toArray, List.set_cons_zero, List.set_cons_succ]
      refine wpAnyH_take (i := 16) (v := ?_) (op_at rfl) (by kernel_rfl) (by kernel_rfl) (by kernel_rfl) (fun _ _ _ h => h) (Or.inl ⟨by rfl, ?_⟩) (by assumption) ?_
      rotate_left
      · (intro w hSw; (try dsimp only at hSw); go_simp; try with_reducible rfl)
      try simp only [Act.put, List.setIfInBounds_toArray, List.set_cons_zero, List.set_cons_succ]
      refine wpAnyH_take (i := 17) (v := ?_) (op_at rfl) (by kernel_rfl) (by kernel_rfl) (by kernel_rfl) (fun _ _ _ h => h) (Or.inl ⟨by rfl, ?_⟩) (by assumption) ?_
      rotate_left
      · (intro w hSw; (try dsimp only at hSw); go_simp; try with_reducible rfl)
      try simp only [Act.put, List.setIfInBounds_toArray, List.set_cons_zero, List.set_cons_succ]
      refine wpAnyH_take (i := 18) (v := ?_) (op_at rfl) (by kernel_rfl) (by kernel_rfl) (by kernel_rfl) (fun _ _ _ h => h) (Or.inl ⟨by rfl, ?_⟩) (by assumption) ?_
      rotate_left
      · (intro w hSw; (try dsimp only at hSw); go_simp; try with_reducible rfl)
      try simp only [Act.put, List.setIfInBounds_toArray, List.set_cons_zero, List.set_cons_succ]
      refine wpAnyH_done (by kernel_rfl) ?_ _
      clear q1 q2 q3 q4
      go_wp2
      go_ret
      exact ⟨rfl, HB1.out.trans (hb.mono HB1.out.size)⟩
    · have e1 : decide (2000 < sizeB a + sizeB b + 1) = false := decide_eq_false d1
      cases e2 : deepB a 200
      · have e3 : deepB b 200 = true := by
          rcases HG.out with h | h | h
          · exact absurd h d1
          · rw [e2] at h; cases h
          · exact h
        obtain ⟨q1, q2, q3, q4⟩ := HQ.out
        refine wp_region_held_drew (S := fun cur => Below W1.heap.size W1 cur ∧ cur.cell? ⟨w.heap.size, 0, none⟩ = some (.int .i64 a.op) ∧ cur.cell? ⟨w.heap.size, 1, none⟩ = some (.int .i64 a.n) ∧ cur.cell? ⟨w.heap.size, 2, none⟩ = some (.string a.s) ∧ cur.cell? ⟨w.heap.size, 3, none⟩ = some (.slice aa a.kids.length ac) ∧ cur.cell? ⟨w.heap.size + 1, 0, none⟩ = some (.int .i64 b.op) ∧ cur.cell? ⟨w.heap.size + 1, 1, none⟩ = some (.int .i64 b.n) ∧ cur.cell? ⟨w.heap.size + 1, 2, none⟩ = some (.string b.s) ∧ cur.cell? ⟨w.heap.size + 1, 3, none⟩ = some (.slice ba b.kids.length bc)) (by kernel_rfl) ?_ (fun hHeld => ?_)
        · first | exact HS.out _ hb | exact HS.out _ HB4.out | exact HS.out _ HB4.out.drew
        refine wpAnyH_take (i := 0) (v := ?_) (op_at rfl) (by kernel_rfl) (by kernel_rfl) (by kernel_rfl) (fun _ _ _ h => h) (Or.inl ⟨by rfl, ?_⟩) (by assumption) ?_
        rotate_left
        · (intro w hSw; (try dsimp only at hSw); go_simp; try with_reducible rfl)
        try simp only [Act.put, List.setIfInBounds_toArray, List.set_cons_zero, List.set_cons_succ]
        refine wpAnyH_take (i := 1) (v := ?_) (op_at rfl) (by kernel_rfl) (by kernel_rfl) (by kernel_rfl) (fun _ _ _ h => h) (Or.inl ⟨by rfl, ?_⟩) (by assumption) ?_
        rotate_left
        · (intro w hSw; (try dsimp only at hSw); go_simp; try with_reducible rfl)
        try simp only [Act.put, List.setIfInBounds_toArray, List.set_cons_zero, List.set_cons_succ]
        refine wpAnyH_take (i := 2) (v := ?_) (op_at rfl) (by kernel_rfl) (by kernel_rfl) (by kernel_rfl) (fun _ _ _ h => h) (Or.inl ⟨by rfl, ?_⟩) (by assumption) ?_
        rotate_left
        · (intro w hSw; (try dsimp only at hSw); go_simp; try with_reducible rfl)
        try simp only [Act.put, List.setIfInBounds_toArray, List.set_cons_zero, List.set_cons_succ]
        refine wpAnyH_take (i := 4) (v := ?_) (op_at rfl) (by kernel_rfl) (by kernel_rfl) (by kernel_rfl) (fun _ _ _ h => h) (Or.inl ⟨by rfl, ?_⟩) (by assumption) ?_
        rotate_left
        · (intro w hSw; (try dsimp only at hSw); go_simp; try with_reducible rfl)
        try simp only [Act.put, List.setIfInBounds_toArray, List.set_cons_zero, List.set_cons_succ]
        refine wpAnyH_ready (rs := [3]) (by kernel_rfl) (by simp) ?_
        refine AllReadyH.cons (op_at rfl) (fun K hK => ?_) AllReadyH.nil
        go_simp
        first | (go_at_call_of 8 (Tm.op a); refine (SA.out _ ?_).mono ?_; (go_split_ands; assumption); rintro e w' ⟨rfl, hb⟩) | (go_at_call_of 8 (Tm.op b); refine (SB.out _ ?_).mono ?_; (go_split_ands; assumption); rintro e w' ⟨rfl, hb⟩) | (go_at_call_of 11 (Tm.op a); refine (DA.out _ ?_).mono ?_; (go_split_ands; assumption); rintro e w' ⟨rfl, hb⟩) | (go_at_call_of 11 (Tm.op b); refine (DB.out _ ?_).mono ?_; (go_split_ands; assumption); rintro e w' ⟨rfl, hb⟩)
        go_wp2_with fail
        refine hK.out _ _ ?_ (fun hHeld => ?_)
        · first | exact HS.out _ hb | exact HS.out _ HB4.out | exact HS.out _ HB4.out.drew
        clear hK K
        try simp only [Act.put, List.setIfInBounds_toArray, List.set_cons_zero, List.set_cons_succ]
        refine wpAnyH_ready (rs := [5]) (by kernel_rfl) (by simp) ?_
        refine AllReadyH.cons (op_at rfl) (fun K hK => ?_) AllReadyH.nil
        go_simp
        first | (go_at_call_of 8 (Tm.op a); refine (SA.out _ ?_).mono ?_; (go_split_ands; assumption); rintro e w' ⟨rfl, hb⟩) | (go_at_call_of 8 (Tm.op b); refine (SB.out _ ?_).mono ?_; (go_split_ands; assumption); rintro e w' ⟨rfl, hb⟩) | (go_at_call_of 11 (Tm.op a); refine (DA.out _ ?_).mono ?_; (go_split_ands; assumption); rintro e w' ⟨rfl, hb⟩) | (go_at_call_of 11 (Tm.op b); refine (DB.out _ ?_).mono ?_; (go_split_ands; assumption); rintro e w' ⟨rfl, hb⟩)
        go_wp2_with fail
        refine hK.out _ _ ?_ (fun hHeld => ?_)
        · first | exact HS.out _ hb | exact HS.out _ HB4.out | exact HS.out _ HB4.out.drew
        clear hK K
        try simp only [Act.put, List.setIfInBounds_toArray, List.set_cons_zero, List.set_cons_succ]
        refine wpAnyH_take (i := 6) (v := ?_) (op_at rfl) (by kernel_rfl) (by kernel_rfl) (by kernel_rfl) (fun _ _ _ h => h) (Or.inl ⟨by rfl, ?_⟩) (by assumption) ?_
        rotate_left
        · (intro w hSw; (try dsimp only at hSw); go_simp; try with_reducible rfl)
        try simp only [Act.put, List.setIfInBounds_toArray, List.set_cons_zero, List.set_cons_succ]
        refine wpAnyH_take (i := 7) (v := ?_) (op_at rfl) (by kernel_rfl) (by kernel_rfl) (by kernel_rfl) (fun _ _ _ h => h) (Or.inl ⟨by rfl, ?_⟩) (by assumption) ?_
        rotate_left
        · (intro w hSw; (try dsimp only at hSw); go_simp; try with_reducible rfl)
        try simp only [Act.put, List.setIfInBounds_toArray, List.set_cons_zero, List.set_cons_succ]
        refine wpAnyH_take (i := 8) (v := ?_) (op_at rfl) (by kernel_rfl) (by kernel_rfl) (by kernel_rfl) (fun _ _ _ h => h) (Or.inl ⟨by rfl, ?_⟩) (by assumption) ?_
        rotate_left
        · (intro w hSw; (try dsimp only at hSw); go_simp; try with_reducible rfl)
        try simp only [Act.put, List.setIfInBounds_toArray, List.set_cons_zero, List.set_cons_succ]
        refine wpAnyH_take (i := 9) (v := ?_) (op_at rfl) (by kernel_rfl) (by kernel_rfl) (by kernel_rfl) (fun _ _ _ h => h) (Or.inl ⟨by rfl, ?_⟩) (by assumption) ?_
        rotate_left
        · (intro w hSw; (try dsimp only at hSw); go_simp; try with_reducible rfl)
        try simp only [Act.put, List.setIfInBounds_toArray, List.set_cons_zero, List.set_cons_succ]
        refine wpAnyH_take (i := 10) (v := ?_) (op_at rfl) (by kernel_rfl) (by kernel_rfl) (by kernel_rfl) (fun _ _ _ h => h) (Or.inl ⟨by rfl, ?_⟩) (by assumption) ?_
        rotate_left
        · (intro w hSw; (try dsimp only at hSw); go_simp; try with_reducible rfl)
        try simp only [Act.put, List.setIfInBounds_toArray, List.set_cons_zero, List.set_cons_succ]
        refine wpAnyH_ready (rs := [11]) (by kernel_rfl) (by simp) ?_
        refine AllReadyH.cons (op_at rfl) (fun K hK => ?_) AllReadyH.nil
        go_simp
        first | (go_at_call_of 8 (Tm.op a); refine (SA.out _ ?_).mono ?_; (go_split_ands; assumption); rintro e w' ⟨rfl, hb⟩) | (go_at_call_of 8 (Tm.op b); refine (SB.out _ ?_).mono ?_; (go_split_ands; assumption); rintro e w' ⟨rfl, hb⟩) | (go_at_call_of 11 (Tm.op a); refine (DA.out _ ?_).mono ?_; (go_split_ands; assumption); rintro e w' ⟨rfl, hb⟩) | (go_at_call_of 11 (Tm.op b); refine (DB.out _ ?_).mono ?_; (go_split_ands; assumption); rintro e w' ⟨rfl, hb⟩)
        go_wp2_with fail
        refine hK.out _ _ ?_ (fun hHeld => ?_)
        · first | exact HS.out _ hb | exact HS.out _ HB4.out | exact HS.out _ HB4.out.drew
        clear hK K
        try simp only [Act.put, List.setIfInBounds_toArray, List.set_cons_zero, List.set_cons_succ]
        refine wpAnyH_take (i := 12) (v := ?_) (op_at rfl) (by kernel_rfl) (by kernel_rfl) (by kernel_rfl) (fun _ _ _ h => h) (Or.inl ⟨by rfl, ?_⟩) (by assumption) ?_
        rotate_left
        · (intro w hSw; (try dsimp only at hSw); go_simp; try with_reducible rfl)
        try simp only [Act.put, List.setIfInBounds_toArray, List.set_cons_zero, List.set_cons_succ]
        refine wpAnyH_take (i := 13) (v := ?_) (op_at rfl) (by kernel_rfl) (by kernel_rfl) (by kernel_rfl) (fun _ _ _ h => h) (Or.inl ⟨by rfl, ?_⟩) (by assumption) ?_
        rotate_left
        · (intro w hSw; (try dsimp only at hSw); go_simp; try with_reducible rfl)
        try simp only [Act.put, List.setIfInBounds_toArray, List.set_cons_zero, List.set_cons_succ]
        refine wpAnyH_take (i := 14) (v := ?_) (op_at rfl) (by kernel_rfl) (by kernel_rfl) (by kernel_rfl) (fun _ _ _ h => h) (Or.inl ⟨by rfl, ?_⟩) (by assumption) ?_
        rotate_left
        · (intro w hSw; (try dsimp only at hSw); go_simp; try with_reducible rfl)
        try simp only [Act.put, List.setIfInBounds_toArray, List.set_cons_zero, List.set_cons_succ]
        refine wpAnyH_ready (rs := [15]) (by kernel_rfl) (by simp) ?_
        refine AllReadyH.cons (op_at rfl) (fun K hK => ?_) AllReadyH.nil
        go_simp
        first | (go_at_call_of 8 (Tm.op a); refine (SA.out _ ?_).mono ?_; (go_split_ands; assumption); rintro e w' ⟨rfl, hb⟩) | (go_at_call_of 8 (Tm.op b); refine (SB.out _ ?_).mono ?_; (go_split_ands; assumption); rintro e w' ⟨rfl, hb⟩) | (go_at_call_of 11 (Tm.op a); refine (DA.out _ ?_).mono ?_; (go_split_ands; assumption); rintro e w' ⟨rfl, hb⟩) | (go_at_call_of 11 (Tm.op b); refine (DB.out _ ?_).mono ?_; (go_split_ands; assumption); rintro e w' ⟨rfl, hb⟩)
        go_wp2_with fail
        refine hK.out _ _ ?_ (fun hHeld => ?_)
        · first | exact HS.out _ hb | exact HS.out _ HB4.out | exact HS.out _ HB4.out.drew
        clear hK K
        try simp only [Act.put, List.setIfInBounds_toArray, List.set_cons_zero, List.set_cons_succ]
        refine wpAnyH_take (i := 16) (v := ?_) (op_at rfl) (by kernel_rfl) (by kernel_rfl) (by kernel_rfl) (fun _ _ _ h => h) (Or.inl ⟨by rfl, ?_⟩) (by assumption) ?_
        rotate_left
        · (intro w hSw; (try dsimp only at hSw); go_simp; try with_reducible rfl)
        try simp only [Act.put, List.setIfInBounds_toArray, List.set_cons_zero, List.set_cons_succ]
        refine wpAnyH_take (i := 17) (v := ?_) (op_at rfl) (by kernel_rfl) (by kernel_rfl) (by kernel_rfl) (fun _ _ _ h => h) (Or.inl ⟨by rfl, ?_⟩) (by assumption) ?_
        rotate_left
        · (intro w hSw; (try dsimp only at hSw); go_simp; try with_reducible rfl)
        try simp only [Act.put, List.setIfInBounds_toArray, List.set_cons_zero, List.set_cons_succ]
        refine wpAnyH_take (i := 18) (v := ?_) (op_at rfl) (by kernel_rfl) (by kernel_rfl) (by kernel_rfl) (fun _ _ _ h => h) (Or.inl ⟨by rfl, ?_⟩) (by assumption) ?_
        rotate_left
        · (intro w hSw; (try dsimp only at hSw); go_simp; try with_reducible rfl)
        try simp only [Act.put, List.setIfInBounds_toArray, List.set_cons_zero, List.set_cons_succ]
        refine wpAnyH_done (by kernel_rfl) ?_ _
        clear q1 q2 q3 q4
        go_wp2
        go_ret
        exact ⟨rfl, HB1.out.trans (hb.mono HB1.out.size)⟩
      · skip
        obtain ⟨q1, q2, q3, q4⟩ := HQ.out
        refine wp_region_held_drew (S := fun cur => Below W1.heap.size W1 cur ∧ cur.cell? ⟨w.heap.size, 0, none⟩ = some (.int .i64 a.op) ∧ cur.cell? ⟨w.heap.size, 1, none⟩ = some (.int .i64 a.n) ∧ cur.cell? ⟨w.heap.size, 2, none⟩ = some (.string a.s) ∧ cur.cell? ⟨w.heap.size, 3, none⟩ = some (.slice aa a.kids.length ac) ∧ cur.cell? ⟨w.heap.size + 1, 0, none⟩ = some (.int .i64 b.op) ∧ cur.cell? ⟨w.heap.size + 1, 1, none⟩ = some (.int .i64 b.n) ∧ cur.cell? ⟨w.heap.size + 1, 2, none⟩ = some (.string b.s) ∧ cur.cell? ⟨w.heap.size + 1, 3, none⟩ = some (.slice ba b.kids.length bc)) (by kernel_rfl) ?_ (fun hHeld => ?_)
        · first | exact HS.out _ hb | exact HS.out _ HB4.out | exact HS.out _ HB4.out.drew
        refine wpAnyH_take (i := 0) (v := ?_) (op_at rfl) (by kernel_rfl) (by kernel_rfl) (by kernel_rfl) (fun _ _ _ h => h) (Or.inl ⟨by rfl, ?_⟩) (by assumption) ?_
        rotate_left
        · (intro w hSw; (try dsimp only at hSw); go_simp; try with_reducible rfl)
        try simp only [Act.put, List.setIfInBounds_toArray, List.set_cons_zero, List.set_cons_succ]
        refine wpAnyH_take (i := 1) (v := ?_) (op_at rfl) (by kernel_rfl) (by kernel_rfl) (by kernel_rfl) (fun _ _ _ h => h) (Or.inl ⟨by rfl, ?_⟩) (by assumption) ?_
        rotate_left
        · (intro w hSw; (try dsimp only at hSw); go_simp; try with_reducible rfl)
        try simp only [Act.put, List.setIfInBounds_toArray, List.set_cons_zero, List.set_cons_succ]
        refine wpAnyH_take (i := 2) (v := ?_) (op_at rfl) (by kernel_rfl) (by kernel_rfl) (by kernel_rfl) (fun _ _ _ h => h) (Or.inl ⟨by rfl, ?_⟩) (by assumption) ?_
        rotate_left
        · (intro w hSw; (try dsimp only at hSw); go_simp; try with_reducible rfl)
        try simp only [Act.put, List.setIfInBounds_toArray, List.set_cons_zero, List.set_cons_succ]
        refine wpAnyH_take (i := 4) (v := ?_) (op_at rfl) (by kernel_rfl) (by kernel_rfl) (by kernel_rfl) (fun _ _ _ h => h) (Or.inl ⟨by rfl, ?_⟩) (by assumption) ?_
        rotate_left
        · (intro w hSw; (try dsimp only at hSw); go_simp; try with_reducible rfl)
        try simp only [Act.put, List.setIfInBounds_toArray, List.set_cons_zero, List.set_cons_succ]
        refine wpAnyH_ready (rs := [3]) (by kernel_rfl) (by simp) ?_
        refine AllReadyH.cons (op_at rfl) (fun K hK => ?_) AllReadyH.nil
        go_simp
        first | (go_at_call_of 8 (Tm.op a); refine (SA.out _ ?_).mono ?_; (go_split_ands; assumption); rintro e w' ⟨rfl, hb⟩) | (go_at_call_of 8 (Tm.op b); refine (SB.out _ ?_).mono ?_; (go_split_ands; assumption); rintro e w' ⟨rfl, hb⟩) | (go_at_call_of 11 (Tm.op a); refine (DA.out _ ?_).mono ?_; (go_split_ands; assumption); rintro e w' ⟨rfl, hb⟩) | (go_at_call_of 11 (Tm.op b); refine (DB.out _ ?_).mono ?_; (go_split_ands; assumption); rintro e w' ⟨rfl, hb⟩)
        go_wp2_with fail
        refine hK.out _ _ ?_ (fun hHeld => ?_)
        · first | exact HS.out _ hb | exact HS.out _ HB4.out | exact HS.out _ HB4.out.drew
        clear hK K
        try simp only [Act.put, List.setIfInBounds_toArray, List.set_cons_zero, List.set_cons_succ]
        refine wpAnyH_ready (rs := [5]) (by kernel_rfl) (by simp) ?_
        refine AllReadyH.cons (op_at rfl) (fun K hK => ?_) AllReadyH.nil
        go_simp
        first | (go_at_call_of 8 (Tm.op a); refine (SA.out _ ?_).mono ?_; (go_split_ands; assumption); rintro e w' ⟨rfl, hb⟩) | (go_at_call_of 8 (Tm.op b); refine (SB.out _ ?_).mono ?_; (go_split_ands; assumption); rintro e w' ⟨rfl, hb⟩) | (go_at_call_of 11 (Tm.op a); refine (DA.out _ ?_).mono ?_; (go_split_ands; assumption); rintro e w' ⟨rfl, hb⟩) | (go_at_call_of 11 (Tm.op b); refine (DB.out _ ?_).mono ?_; (go_split_ands; assumption); rintro e w' ⟨rfl, hb⟩)
        go_wp2_with fail
        refine hK.out _ _ ?_ (fun hHeld => ?_)
        · first | exact HS.out _ hb | exact HS.out _ HB4.out | exact HS.out _ HB4.out.drew
        clear hK K
        try simp only [Act.put, List.setIfInBounds_toArray, List.set_cons_zero, List.set_cons_succ]
        refine wpAnyH_take (i := 6) (v := ?_) (op_at rfl) (by kernel_rfl) (by kernel_rfl) (by kernel_rfl) (fun _ _ _ h => h) (Or.inl ⟨by rfl, ?_⟩) (by assumption) ?_
        rotate_left
        · (intro w hSw; (try dsimp only at hSw); go_simp; try with_reducible rfl)
        try simp only [Act.put, List.setIfInBounds_toArray, List.set_cons_zero, List.set_cons_succ]
        refine wpAnyH_take (i := 7) (v := ?_) (op_at rfl) (by kernel_rfl) (by kernel_rfl) (by kernel_rfl) (fun _ _ _ h => h) (Or.inl ⟨by rfl, ?_⟩) (by assumption) ?_
        rotate_left
        · (intro w hSw; (try dsimp only at hSw); go_simp; try with_reducible rfl)
        try simp only [Act.put, List.setIfInBounds_toArray, List.set_cons_zero, List.set_cons_succ]
        refine wpAnyH_take (i := 8) (v := ?_) (op_at rfl) (by kernel_rfl) (by kernel_rfl) (by kernel_rfl) (fun _ _ _ h => h) (Or.inl ⟨by rfl, ?_⟩) (by assumption) ?_
        rotate_left
        · (intro w hSw; (try dsimp only at hSw); go_simp; try with_reducible rfl)
        try simp only [Act.put, List.setIfInBounds_toArray, List.set_cons_zero, List.set_cons_succ]
        refine wpAnyH_take (i := 9) (v := ?_) (op_at rfl) (by kernel_rfl) (by kernel_rfl) (by kernel_rfl) (fun _ _ _ h => h) (Or.inl ⟨by rfl, ?_⟩) (by assumption) ?_
        rotate_left
        · (intro w hSw; (try dsimp only at hSw); go_simp; try with_reducible rfl)
        try simp only [Act.put, List.setIfInBounds_toArray, List.set_cons_zero, List.set_cons_succ]
        refine wpAnyH_take (i := 10) (v := ?_) (op_at rfl) (by kernel_rfl) (by kernel_rfl) (by kernel_rfl) (fun _ _ _ h => h) (Or.inl ⟨by rfl, ?_⟩) (by assumption) ?_
        rotate_left
        · (intro w hSw; (try dsimp only at hSw); go_simp; try with_reducible rfl)
        try simp only [Act.put, List.setIfInBounds_toArray, List.set_cons_zero, List.set_cons_succ]
        refine wpAnyH_ready (rs := [11]) (by kernel_rfl) (by simp) ?_
        refine AllReadyH.cons (op_at rfl) (fun K hK => ?_) AllReadyH.nil
        go_simp
        first | (go_at_call_of 8 (Tm.op a); refine (SA.out _ ?_).mono ?_; (go_split_ands; assumption); rintro e w' ⟨rfl, hb⟩) | (go_at_call_of 8 (Tm.op b); refine (SB.out _ ?_).mono ?_; (go_split_ands; assumption); rintro e w' ⟨rfl, hb⟩) | (go_at_call_of 11 (Tm.op a); refine (DA.out _ ?_).mono ?_; (go_split_ands; assumption); rintro e w' ⟨rfl, hb⟩) | (go_at_call_of 11 (Tm.op b); refine (DB.out _ ?_).mono ?_; (go_split_ands; assumption); rintro e w' ⟨rfl, hb⟩)
        go_wp2_with fail
        refine hK.out _ _ ?_ (fun hHeld => ?_)
        · first | exact HS.out _ hb | exact HS.out _ HB4.out | exact HS.out _ HB4.out.drew
        clear hK K
        try simp only [Act.put, List.setIfInBounds_toArray, List.set_cons_zero, List.set_cons_succ]
        refine wpAnyH_take (i := 12) (v := ?_) (op_at rfl) (by kernel_rfl) (by kernel_rfl) (by kernel_rfl) (fun _ _ _ h => h) (Or.inl ⟨by rfl, ?_⟩) (by assumption) ?_
        rotate_left
        · (intro w hSw; (try dsimp only at hSw); go_simp; try with_reducible rfl)
        try simp only [Act.put, List.setIfInBounds_toArray, List.set_cons_zero, List.set_cons_succ]
        refine wpAnyH_take (i := 13) (v := ?_) (op_at rfl) (by kernel_rfl) (by kernel_rfl) (by kernel_rfl) (fun _ _ _ h => h) (Or.inl ⟨by rfl, ?_⟩) (by assumption) ?_
        rotate_left
        · (intro w hSw; (try dsimp only at hSw); go_simp; try with_reducible rfl)
        try simp only [Act.put, List.setIfInBounds_toArray, List.set_cons_zero, List.set_cons_succ]
        refine wpAnyH_take (i := 14) (op_at rfl) (by kernel_rfl) (by kernel_rfl) (by kernel_rfl) (fun _ _ _ h => h) (Or.inr ⟨by rfl, rfl⟩) (by assumption) ?_
        try simp only [Act.put, List.setIfInBounds_toArray, List.set_cons_zero, List.set_cons_succ]
        refine wpAnyH_take (i := 15) (op_at rfl) (by kernel_rfl) (by kernel_rfl) (by kernel_rfl) (fun _ _ _ h => h) (Or.inr ⟨by rfl, rfl⟩) (by assumption) ?_
        try simp only [Act.put, List.setIfInBounds_toArray, List.set_cons_zero, List.set_cons_succ]
        refine wpAnyH_take (i := 16) (v := ?_) (op_at rfl) (by kernel_rfl) (by kernel_rfl) (by kernel_rfl) (fun _ _ _ h => h) (Or.inl ⟨by rfl, ?_⟩) (by assumption) ?_
        rotate_left
        · (intro w hSw; (try dsimp only at hSw); go_simp; try with_reducible rfl)
        try simp only [Act.put, List.setIfInBounds_toArray, List.set_cons_zero, List.set_cons_succ]
        refine wpAnyH_take (i := 17) (v := ?_) (op_at rfl) (by kernel_rfl) (by kernel_rfl) (by kernel_rfl) (fun _ _ _ h => h) (Or.inl ⟨by rfl, ?_⟩) (by assumption) ?_
        rotate_left
        · (intro w hSw; (try dsimp only at hSw); go_simp; try with_reducible rfl)
        try simp only [Act.put, List.setIfInBounds_toArray, List.set_cons_zero, List.set_cons_succ]
        refine wpAnyH_take (i := 18) (v := ?_) (op_at rfl) (by kernel_rfl) (by kernel_rfl) (by kernel_rfl) (fun _ _ _ h => h) (Or.inl ⟨by rfl, ?_⟩) (by assumption) ?_
        rotate_left
        · (intro w hSw; (try dsimp only at hSw); go_simp; try with_reducible rfl)
        try simp only [Act.put, List.setIfInBounds_toArray, List.set_cons_zero, List.set_cons_succ]
        refine wpAnyH_done (by kernel_rfl) ?_ _
        clear q1 q2 q3 q4
        go_wp2
        go_ret
        exact ⟨rfl, HB1.out.trans (hb.mono HB1.out.size)⟩
  · obtain ⟨f1, f2, f3⟩ := both_fine c1 c2 c5
    have c6 : (checkB (bothT a b) == 140) = false := by rw [beq_eq_false_iff_ne]; exact c5
    have g1 : (horizonB (bothT a b) == max (horizonB a) (horizonB b)) = true := by rw [f2, beq_self_eq_true]
    have g2 : (sizeB (bothT a b) == 1 + sizeB a + sizeB b) = true := by rw [f3, beq_self_eq_true]
    have g3 : (checkB (bothT a b) == 0) = ((checkB a == 0) && (checkB b == 0)) := f1
    have HF := Lib.hid (show _ ∧ _ ∧ _ from ⟨g1, g2, g3⟩)
    clear f1 f2 f3 g1 g2 g3 c1 c2 c5
    go_enter Tryd.func4, Tryd.ntmps4
    go_wp2_with (first
      | (go_at_call 6; rw [← hW1]; refine CS.out.mono ?_; rintro e w1 ⟨rfl, hb⟩; replace HB := Lib.hid hb; clear x0 x1 x2 x3 y0 y1 y2 y3; obtain ⟨⟨x0, x1, x2, x3⟩, ⟨y0, y1, y2, y3⟩⟩ := HL.out _ HB.out; clear hb)
      | (go_at_call_of 10 (Tm.op a); refine (CA.out _ HB.out).mono ?_; rintro e w2 ⟨rfl, hb⟩; replace HB := Lib.hid hb; clear x0 x1 x2 x3 y0 y1 y2 y3; obtain ⟨⟨x0, x1, x2, x3⟩, ⟨y0, y1, y2, y3⟩⟩ := HL.out _ HB.out; clear hb)
      | (go_at_call_of 10 (Tm.op b); refine (CB.out _ HB.out).mono ?_; rintro e w3 ⟨rfl, hb⟩; replace HB := Lib.hid hb; clear x0 x1 x2 x3 y0 y1 y2 y3; obtain ⟨⟨x0, x1, x2, x3⟩, ⟨y0, y1, y2, y3⟩⟩ := HL.out _ HB.out; clear hb)
      | (go_at_call 10; refine (CC.out _ HB.out).mono ?_; rintro e w4 ⟨rfl, hb⟩; have HX := Lib.hid hb; clear hb))
    obtain ⟨V2, B0, Z0, X0, hold, BV⟩ := HX.out
    have B2 : Below W1.heap.size W1 V2 := HB.out.trans (B0.mono HB.out.size)
    have X0' := X0.cells
    have hlt : w3.heap.size + 1 < V2.heap.size := by omega
    have HS := Lib.hid (show ∀ cur, Below V2.heap.size V2 cur → Below V2.heap.size V2 cur ∧ cur.cell? ⟨w.heap.size, 0, none⟩ = some (.int .i64 a.op) ∧ cur.cell? ⟨w.heap.size, 1, none⟩ = some (.int .i64 a.n) ∧ cur.cell? ⟨w.heap.size, 2, none⟩ = some (.string a.s) ∧ cur.cell? ⟨w.heap.size, 3, none⟩ = some (.slice aa a.kids.length ac) ∧ cur.cell? ⟨w.heap.size + 1, 0, none⟩ = some (.int .i64 b.op) ∧ cur.cell? ⟨w.heap.size + 1, 1, none⟩ = some (.int .i64 b.n) ∧ cur.cell? ⟨w.heap.size + 1, 2, none⟩ = some (.string b.s) ∧ cur.cell? ⟨w.heap.size + 1, 3, none⟩ = some (.slice ba b.kids.length bc) ∧ cur.cell? ⟨w3.heap.size + 1, 0, none⟩ = some (.int .i64 27) ∧ cur.cell? ⟨w3.heap.size + 1, 1, none⟩ = some (.int .i64 0) ∧ cur.cell? ⟨w3.heap.size + 1, 2, none⟩ = some (.string ⟨#[]⟩) ∧ cur.cell? ⟨w3.heap.size + 1, 3, none⟩ = some (.slice (some ⟨w3.heap.size, 0, none⟩) 2 2) from fun cur hc =>
      have L := HL.out cur (B2.trans (hc.mono B2.size))
      ⟨hc, L.1.1, L.1.2.1, L.1.2.2.1, L.1.2.2.2, L.2.1, L.2.2.1, L.2.2.2.1, L.2.2.2.2, (hc.cell (p := ⟨w3.heap.size + 1, 0, none⟩) hlt).trans X0'.1, (hc.cell (p := ⟨w3.heap.size + 1, 1, none⟩) hlt).trans X0'.2.1, (hc.cell (p := ⟨w3.heap.size + 1, 2, none⟩) hlt).trans X0'.2.2.1, (hc.cell (p := ⟨w3.heap.size + 1, 3, none⟩) hlt).trans X0'.2.2.2⟩)
    have B2' := Lib.hid B2
    have BV' := Lib.hid BV
    have SC := Lib.hid (show ∀ cur, Below V2.heap.size V2 cur → Calls Tryd.prog 8 #[.agg #[.int .i64 27, .int .i64 0, .string ⟨#[]⟩, .slice (some ⟨w3.heap.size, 0, none⟩) 2 2]] cur fun e W' => e = .returned (.int .i64 (sizeB (bothT a b))) ∧ Below V2.heap.size V2 W' from fun cur hc =>
      (Size_any (bothT a b) (some ⟨w3.heap.size, 0, none⟩) 2 cur ((hold.below hc).mono hc.size) (HE.out cur (B2'.out.trans (hc.mono B2'.out.size)))).mono (by rintro e W' ⟨rfl, h⟩; exact ⟨rfl, hc.trans (h.mono hc.size)⟩))
    have NC := Lib.hid (show ∀ cur, Below V2.heap.size V2 cur → Calls Tryd.prog 9 #[.agg #[.int .i64 27, .int .i64 0, .string ⟨#[]⟩, .slice (some ⟨w3.heap.size, 0, none⟩) 2 2]] cur fun e W' => e = .returned (.int .i64 (horizonB (bothT a b))) ∧ Below V2.heap.size V2 W' from fun cur hc =>
      (Horizon_any (bothT a b) (some ⟨w3.heap.size, 0, none⟩) 2 cur ((hold.below hc).mono hc.size) (HE.out cur (B2'.out.trans (hc.mono B2'.out.size)))).mono (by rintro e W' ⟨rfl, h⟩; exact ⟨rfl, hc.trans (h.mono hc.size)⟩))
    have SA' := Lib.hid (show ∀ cur, Below V2.heap.size V2 cur → Calls Tryd.prog 8 #[.agg #[.int .i64 a.op, .int .i64 a.n, .string a.s, .slice aa a.kids.length ac]] cur fun e W' => e = .returned (.int .i64 (sizeB a)) ∧ Below V2.heap.size V2 W' from fun cur hc =>
      (Size_any a aa ac cur (HA.out cur (B2'.out.trans (hc.mono B2'.out.size))) (HE.out cur (B2'.out.trans (hc.mono B2'.out.size)))).mono (by rintro e W' ⟨rfl, h⟩; exact ⟨rfl, hc.trans (h.mono hc.size)⟩))
    have SB' := Lib.hid (show ∀ cur, Below V2.heap.size V2 cur → Calls Tryd.prog 8 #[.agg #[.int .i64 b.op, .int .i64 b.n, .string b.s, .slice ba b.kids.length bc]] cur fun e W' => e = .returned (.int .i64 (sizeB b)) ∧ Below V2.heap.size V2 W' from fun cur hc =>
      (Size_any b ba bc cur (HBb.out cur (B2'.out.trans (hc.mono B2'.out.size))) (HE.out cur (B2'.out.trans (hc.mono B2'.out.size)))).mono (by rintro e W' ⟨rfl, h⟩; exact ⟨rfl, hc.trans (h.mono hc.size)⟩))
    have NA' := Lib.hid (show ∀ cur, Below V2.heap.size V2 cur → Calls Tryd.prog 9 #[.agg #[.int .i64 a.op, .int .i64 a.n, .string a.s, .slice aa a.kids.length ac]] cur fun e W' => e = .returned (.int .i64 (horizonB a)) ∧ Below V2.heap.size V2 W' from fun cur hc =>
      (Horizon_any a aa ac cur (HA.out cur (B2'.out.trans (hc.mono B2'.out.size))) (HE.out cur (B2'.out.trans (hc.mono B2'.out.size)))).mono (by rintro e W' ⟨rfl, h⟩; exact ⟨rfl, hc.trans (h.mono hc.size)⟩))
    have NB' := Lib.hid (show ∀ cur, Below V2.heap.size V2 cur → Calls Tryd.prog 9 #[.agg #[.int .i64 b.op, .int .i64 b.n, .string b.s, .slice ba b.kids.length bc]] cur fun e W' => e = .returned (.int .i64 (horizonB b)) ∧ Below V2.heap.size V2 W' from fun cur hc =>
      (Horizon_any b ba bc cur (HBb.out cur (B2'.out.trans (hc.mono B2'.out.size))) (HE.out cur (B2'.out.trans (hc.mono B2'.out.size)))).mono (by rintro e W' ⟨rfl, h⟩; exact ⟨rfl, hc.trans (h.mono hc.size)⟩))
    clear B0 Z0 X0 X0' hold B2 BV hlt x0 x1 x2 x3 y0 y1 y2 y3
    obtain ⟨g1, g2, g3⟩ := HF.out
    cases e1 : (checkB a == 0)
    · rw [e1, Bool.false_and] at g3
      obtain ⟨q1, q2, q3, q4⟩ := HQ.out
      refine wp_region_held_drew (S := fun cur => Below V2.heap.size V2 cur ∧ cur.cell? ⟨w.heap.size, 0, none⟩ = some (.int .i64 a.op) ∧ cur.cell? ⟨w.heap.size, 1, none⟩ = some (.int .i64 a.n) ∧ cur.cell? ⟨w.heap.size, 2, none⟩ = some (.string a.s) ∧ cur.cell? ⟨w.heap.size, 3, none⟩ = some (.slice aa a.kids.length ac) ∧ cur.cell? ⟨w.heap.size + 1, 0, none⟩ = some (.int .i64 b.op) ∧ cur.cell? ⟨w.heap.size + 1, 1, none⟩ = some (.int .i64 b.n) ∧ cur.cell? ⟨w.heap.size + 1, 2, none⟩ = some (.string b.s) ∧ cur.cell? ⟨w.heap.size + 1, 3, none⟩ = some (.slice ba b.kids.length bc) ∧ cur.cell? ⟨w3.heap.size + 1, 0, none⟩ = some (.int .i64 27) ∧ cur.cell? ⟨w3.heap.size + 1, 1, none⟩ = some (.int .i64 0) ∧ cur.cell? ⟨w3.heap.size + 1, 2, none⟩ = some (.string ⟨#[]⟩) ∧ cur.cell? ⟨w3.heap.size + 1, 3, none⟩ = some (.slice (some ⟨w3.heap.size, 0, none⟩) 2 2)) (by kernel_rfl) ?_ (fun hHeld => ?_)
      · first | exact HS.out _ hb | exact HS.out _ BV'.out | exact HS.out _ BV'.out.drew
      refine wpAnyH_take (i := 0) (v := ?_) (op_at rfl) (by kernel_rfl) (by kernel_rfl) (by kernel_rfl) (fun _ _ _ h => h) (Or.inl ⟨by rfl, ?_⟩) (by assumption) ?_
      rotate_left
      · (intro w hSw; (try dsimp only at hSw); go_simp; try with_reducible rfl)
      try simp only [Act.put, List.setIfInBounds_toArray, List.set_cons_zero, List.set_cons_succ]
      refine wpAnyH_take (i := 1) (v := ?_) (op_at rfl) (by kernel_rfl) (by kernel_rfl) (by kernel_rfl) (fun _ _ _ h => h) (Or.inl ⟨by rfl, ?_⟩) (by assumption) ?_
      rotate_left
      · (intro w hSw; (try dsimp only at hSw); go_simp; try with_reducible rfl)
      try simp only [Act.put, List.setIfInBounds_toArray, List.set_cons_zero, List.set_cons_succ]
      refine wpAnyH_take (i := 2) (v := ?_) (op_at rfl) (by kernel_rfl) (by kernel_rfl) (by kernel_rfl) (fun _ _ _ h => h) (Or.inl ⟨by rfl, ?_⟩) (by assumption) ?_
      rotate_left
      · (intro w hSw; (try dsimp only at hSw); go_simp; try with_reducible rfl)
      try simp only [Act.put, List.setIfInBounds_toArray, List.set_cons_zero, List.set_cons_succ]
      refine wpAnyH_take (i := 3) (v := ?_) (op_at rfl) (by kernel_rfl) (by kernel_rfl) (by kernel_rfl) (fun _ _ _ h => h) (Or.inl ⟨by rfl, ?_⟩) (by assumption) ?_
      rotate_left
      · (intro w hSw; (try dsimp only at hSw); go_simp; try with_reducible rfl)
      try simp only [Act.put, List.setIfInBounds_toArray, List.set_cons_zero, List.set_cons_succ]
      refine wpAnyH_take (i := 4) (v := ?_) (op_at rfl) (by kernel_rfl) (by kernel_rfl) (by kernel_rfl) (fun _ _ _ h => h) (Or.inl ⟨by rfl, ?_⟩) (by assumption) ?_
      rotate_left
      · (intro w hSw; (try dsimp only at hSw); go_simp; try with_reducible rfl)
      try simp only [Act.put, List.setIfInBounds_toArray, List.set_cons_zero, List.set_cons_succ]
      refine wpAnyH_take (i := 5) (v := ?_) (op_at rfl) (by kernel_rfl) (by kernel_rfl) (by kernel_rfl) (fun _ _ _ h => h) (Or.inl ⟨by rfl, ?_⟩) (by assumption) ?_
      rotate_left
      · (intro w hSw; (try dsimp only at hSw); go_simp; try with_reducible rfl)
      try simp only [Act.put, List.setIfInBounds_toArray, List.set_cons_zero, List.set_cons_succ]
      refine wpAnyH_take (i := 6) (v := ?_) (op_at rfl) (by kernel_rfl) (by kernel_rfl) (by kernel_rfl) (fun _ _ _ h => h) (Or.inl ⟨by rfl, ?_⟩) (by assumption) ?_
      rotate_left
      · (intro w hSw; (try dsimp only at hSw); go_simp; try with_reducible rfl)
      try simp only [Act.put, List.setIfInBounds_toArray, List.set_cons_zero, List.set_cons_succ]
      refine wpAnyH_take (i := 7) (op_at rfl) (by kernel_rfl) (by kernel_rfl) (by kernel_rfl) (fun _ _ _ h => h) (Or.inr ⟨by rfl, rfl⟩) (by assumption) ?_
      try simp only [Act.put, List.setIfInBounds_toArray, List.set_cons_zero, List.set_cons_succ]
      refine wpAnyH_take (i := 8) (op_at rfl) (by kernel_rfl) (by kernel_rfl) (by kernel_rfl) (fun _ _ _ h => h) (Or.inr ⟨by rfl, rfl⟩) (by assumption) ?_
      try simp only [Act.put, List.setIfInBounds_toArray, List.set_cons_zero, List.set_cons_succ]
      refine wpAnyH_take (i := 9) (v := ?_) (op_at rfl) (by kernel_rfl) (by kernel_rfl) (by kernel_rfl) (fun _ _ _ h => h) (Or.inl ⟨by rfl, ?_⟩) (by assumption) ?_
      rotate_left
      · (intro w hSw; (try dsimp only at hSw); go_simp; try with_reducible rfl)
      try simp only [Act.put, List.setIfInBounds_toArray, List.set_cons_zero, List.set_cons_succ]
      refine wpAnyH_take (i := 10) (v := ?_) (op_at rfl) (by kernel_rfl) (by kernel_rfl) (by kernel_rfl) (fun _ _ _ h => h) (Or.inl ⟨by rfl, ?_⟩) (by assumption) ?_
      rotate_left
      · (intro w hSw; (try dsimp only at hSw); go_simp; try with_reducible rfl)
      try simp only [Act.put, List.setIfInBounds_toArray, List.set_cons_zero, List.set_cons_succ]
      refine wpAnyH_take (i := 11) (v := ?_) (op_at rfl) (by kernel_rfl) (by kernel_rfl) (by kernel_rfl) (fun _ _ _ h => h) (Or.inl ⟨by rfl, ?_⟩) (by assumption) ?_
      rotate_left
      · (intro w hSw; (try dsimp only at hSw); go_simp; try with_reducible rfl)
      try simp only [Act.put, List.setIfInBounds_toArray, List.set_cons_zero, List.set_cons_succ]
      refine wpAnyH_take (i := 12) (v := ?_) (op_at rfl) (by kernel_rfl) (by kernel_rfl) (by kernel_rfl) (fun _ _ _ h => h) (Or.inl ⟨by rfl, ?_⟩) (by assumption) ?_
      rotate_left
      · (intro w hSw; (try dsimp only at hSw); go_simp; try with_reducible rfl)
      try simp only [Act.put, List.setIfInBounds_toArray, List.set_cons_zero, List.set_cons_succ]
      refine wpAnyH_take (i := 13) (v := ?_) (op_at rfl) (by kernel_rfl) (by kernel_rfl) (by kernel_rfl) (fun _ _ _ h => h) (Or.inl ⟨by rfl, ?_⟩) (by assumption) ?_
      rotate_left
      · (intro w hSw; (try dsimp only at hSw); go_simp; try with_reducible rfl)
      try simp only [Act.put, List.setIfInBounds_toArray, List.set_cons_zero, List.set_cons_succ]
      refine wpAnyH_take (i := 15) (v := ?_) (op_at rfl) (by kernel_rfl) (by kernel_rfl) (by kernel_rfl) (fun _ _ _ h => h) (Or.inl ⟨by rfl, ?_⟩) (by assumption) ?_
      rotate_left
      · (intro w hSw; (try dsimp only at hSw); go_simp; try with_reducible rfl)
      try simp only [Act.put, List.setIfInBounds_toArray, List.set_cons_zero, List.set_cons_succ]
      refine wpAnyH_take (i := 17) (v := ?_) (op_at rfl) (by kernel_rfl) (by kernel_rfl) (by kernel_rfl) (fun _ _ _ h => h) (Or.inl ⟨by rfl, ?_⟩) (by assumption) ?_
      rotate_left
      · (intro w hSw; (try dsimp only at hSw); go_simp; try with_reducible rfl)
      try simp only [Act.put, List.setIfInBounds_toArray, List.set_cons_zero, List.set_cons_succ]
      refine wpAnyH_ready (rs := [14]) (by kernel_rfl) (by simp) ?_
      refine AllReadyH.cons (op_at rfl) (fun K hK => ?_) AllReadyH.nil
      go_simp
      first | (go_at_call_of 9 (Tm.op a); refine (NA'.out _ ?_).mono ?_; (go_split_ands; assumption); rintro e w' ⟨rfl, hb⟩) | (go_at_call_of 9 (Tm.op b); refine (NB'.out _ ?_).mono ?_; (go_split_ands; assumption); rintro e w' ⟨rfl, hb⟩) | (go_at_call 9; refine (NC.out _ ?_).mono ?_; (go_split_ands; assumption); rintro e w' ⟨rfl, hb⟩) | (go_at_call_of 8 (Tm.op a); refine (SA'.out _ ?_).mono ?_; (go_split_ands; assumption); rintro e w' ⟨rfl, hb⟩) | (go_at_call_of 8 (Tm.op b); refine (SB'.out _ ?_).mono ?_; (go_split_ands; assumption); rintro e w' ⟨rfl, hb⟩) | (go_at_call 8; refine (SC.out _ ?_).mono ?_; (go_split_ands; assumption); rintro e w' ⟨rfl, hb⟩)
      go_wp2_with fail
      refine hK.out _ _ ?_ (fun hHeld => ?_)
      · first | exact HS.out _ hb | exact HS.out _ BV'.out | exact HS.out _ BV'.out.drew
      clear hK K
      try simp only [Act.put, List.setIfInBounds_toArray, List.set_cons_zero, List.set_cons_succ]
      refine wpAnyH_ready (rs := [16]) (by kernel_rfl) (by simp) ?_
      refine AllReadyH.cons (op_at rfl) (fun K hK => ?_) AllReadyH.nil
      go_simp
      first | (go_at_call_of 9 (Tm.op a); refine (NA'.out _ ?_).mono ?_; (go_split_ands; assumption); rintro e w' ⟨rfl, hb⟩) | (go_at_call_of 9 (Tm.op b); refine (NB'.out _ ?_).mono ?_; (go_split_ands; assumption); rintro e w' ⟨rfl, hb⟩) | (go_at_call 9; refine (NC.out _ ?_).mono ?_; (go_split_ands; assumption); rintro e w' ⟨rfl, hb⟩) | (go_at_call_of 8 (Tm.op a); refine (SA'.out _ ?_).mono ?_; (go_split_ands; assumption); rintro e w' ⟨rfl, hb⟩) | (go_at_call_of 8 (Tm.op b); refine (SB'.out _ ?_).mono ?_; (go_split_ands; assumption); rintro e w' ⟨rfl, hb⟩) | (go_at_call 8; refine (SC.out _ ?_).mono ?_; (go_split_ands; assumption); rintro e w' ⟨rfl, hb⟩)
      go_wp2_with fail
      refine hK.out _ _ ?_ (fun hHeld => ?_)
      · first | exact HS.out _ hb | exact HS.out _ BV'.out | exact HS.out _ BV'.out.drew
      clear hK K
      try simp only [Act.put, List.setIfInBounds_toArray, List.set_cons_zero, List.set_cons_succ]
      refine wpAnyH_ready (rs := [18]) (by kernel_rfl) (by simp) ?_
      refine AllReadyH.cons (op_at rfl) (fun K hK => ?_) AllReadyH.nil
      go_simp
      first | (go_at_call_of 9 (Tm.op a); refine (NA'.out _ ?_).mono ?_; (go_split_ands; assumption); rintro e w' ⟨rfl, hb⟩) | (go_at_call_of 9 (Tm.op b); refine (NB'.out _ ?_).mono ?_; (go_split_ands; assumption); rintro e w' ⟨rfl, hb⟩) | (go_at_call 9; refine (NC.out _ ?_).mono ?_; (go_split_ands; assumption); rintro e w' ⟨rfl, hb⟩) | (go_at_call_of 8 (Tm.op a); refine (SA'.out _ ?_).mono ?_; (go_split_ands; assumption); rintro e w' ⟨rfl, hb⟩) | (go_at_call_of 8 (Tm.op b); refine (SB'.out _ ?_).mono ?_; (go_split_ands; assumption); rintro e w' ⟨rfl, hb⟩) | (go_at_call 8; refine (SC.out _ ?_).mono ?_; (go_split_ands; assumption); rintro e w' ⟨rfl, hb⟩)
      go_wp2_with fail
      refine hK.out _ _ ?_ (fun hHeld => ?_)
      · first | exact HS.out _ hb | exact HS.out _ BV'.out | exact HS.out _ BV'.out.drew
      clear hK K
      try simp only [Act.put, List.setIfInBounds_toArray, List.set_cons_zero, List.set_cons_succ]
      refine wpAnyH_take (i := 19) (v := ?_) (op_at rfl) (by kernel_rfl) (by kernel_rfl) (by kernel_rfl) (fun _ _ _ h => h) (Or.inl ⟨by rfl, ?_⟩) (by assumption) ?_
      rotate_left
      · (intro w hSw; (try dsimp only at hSw); go_simp; try with_reducible rfl)
      try simp only [Act.put, List.setIfInBounds_toArray, List.set_cons_zero, List.set_cons_succ]
      refine wpAnyH_take (i := 20) (v := ?_) (op_at rfl) (by kernel_rfl) (by kernel_rfl) (by kernel_rfl) (fun _ _ _ h => h) (Or.inl ⟨by rfl, ?_⟩) (by assumption) ?_
      rotate_left
      · (intro w hSw; (try dsimp only at hSw); go_simp; try with_reducible rfl)
      try simp only [Act.put, List.setIfInBounds_toArray, List.set_cons_zero, List.set_cons_succ]
      refine wpAnyH_take (i := 21) (v := ?_) (op_at rfl) (by kernel_rfl) (by kernel_rfl) (by kernel_rfl) (fun _ _ _ h => h) (Or.inl ⟨by rfl, ?_⟩) (by assumption) ?_
      rotate_left
      · (intro w hSw; (try dsimp only at hSw); go_simp; try with_reducible rfl)
      try simp only [Act.put, List.setIfInBounds_toArray, List.set_cons_zero, List.set_cons_succ]
      refine wpAnyH_take (i := 22) (v := ?_) (op_at rfl) (by kernel_rfl) (by kernel_rfl) (by kernel_rfl) (fun _ _ _ h => h) (Or.inl ⟨by rfl, ?_⟩) (by assumption) ?_
      rotate_left
      · (intro w hSw; (try dsimp only at hSw); go_simp; try with_reducible rfl)
      try simp only [Act.put, List.setIfInBounds_toArray, List.set_cons_zero, List.set_cons_succ]
      refine wpAnyH_take (i := 23) (v := ?_) (op_at rfl) (by kernel_rfl) (by kernel_rfl) (by kernel_rfl) (fun _ _ _ h => h) (Or.inl ⟨by rfl, ?_⟩) (by assumption) ?_
      rotate_left
      · (intro w hSw; (try dsimp only at hSw); go_simp; try with_reducible rfl)
      try simp only [Act.put, List.setIfInBounds_toArray, List.set_cons_zero, List.set_cons_succ]
      refine wpAnyH_take (i := 25) (v := ?_) (op_at rfl) (by kernel_rfl) (by kernel_rfl) (by kernel_rfl) (fun _ _ _ h => h) (Or.inl ⟨by rfl, ?_⟩) (by assumption) ?_
      rotate_left
      · (intro w hSw; (try dsimp only at hSw); go_simp; try with_reducible rfl)
      try simp only [Act.put, List.setIfInBounds_toArray, List.set_cons_zero, List.set_cons_succ]
      refine wpAnyH_take (i := 28) (v := ?_) (op_at rfl) (by kernel_rfl) (by kernel_rfl) (by kernel_rfl) (fun _ _ _ h => h) (Or.inl ⟨by rfl, ?_⟩) (by assumption) ?_
      rotate_left
      · (intro w hSw; (try dsimp only at hSw); go_simp; try with_reducible rfl)
      try simp only [Act.put, List.setIfInBounds_toArray, List.set_cons_zero, List.set_cons_succ]
      refine wpAnyH_ready (rs := [24]) (by kernel_rfl) (by simp) ?_
      refine AllReadyH.cons (op_at rfl) (fun K hK => ?_) AllReadyH.nil
      go_simp
      first | (go_at_call_of 9 (Tm.op a); refine (NA'.out _ ?_).mono ?_; (go_split_ands; assumption); rintro e w' ⟨rfl, hb⟩) | (go_at_call_of 9 (Tm.op b); refine (NB'.out _ ?_).mono ?_; (go_split_ands; assumption); rintro e w' ⟨rfl, hb⟩) | (go_at_call 9; refine (NC.out _ ?_).mono ?_; (go_split_ands; assumption); rintro e w' ⟨rfl, hb⟩) | (go_at_call_of 8 (Tm.op a); refine (SA'.out _ ?_).mono ?_; (go_split_ands; assumption); rintro e w' ⟨rfl, hb⟩) | (go_at_call_of 8 (Tm.op b); refine (SB'.out _ ?_).mono ?_; (go_split_ands; assumption); rintro e w' ⟨rfl, hb⟩) | (go_at_call 8; refine (SC.out _ ?_).mono ?_; (go_split_ands; assumption); rintro e w' ⟨rfl, hb⟩)
      go_wp2_with fail
      refine hK.out _ _ ?_ (fun hHeld => ?_)
      · first | exact HS.out _ hb | exact HS.out _ BV'.out | exact HS.out _ BV'.out.drew
      clear hK K
      try simp only [Act.put, List.setIfInBounds_toArray, List.set_cons_zero, List.set_cons_succ]
      refine wpAnyH_ready (rs := [26]) (by kernel_rfl) (by simp) ?_
      refine AllReadyH.cons (op_at rfl) (fun K hK => ?_) AllReadyH.nil
      go_simp
      first | (go_at_call_of 9 (Tm.op a); refine (NA'.out _ ?_).mono ?_; (go_split_ands; assumption); rintro e w' ⟨rfl, hb⟩) | (go_at_call_of 9 (Tm.op b); refine (NB'.out _ ?_).mono ?_; (go_split_ands; assumption); rintro e w' ⟨rfl, hb⟩) | (go_at_call 9; refine (NC.out _ ?_).mono ?_; (go_split_ands; assumption); rintro e w' ⟨rfl, hb⟩) | (go_at_call_of 8 (Tm.op a); refine (SA'.out _ ?_).mono ?_; (go_split_ands; assumption); rintro e w' ⟨rfl, hb⟩) | (go_at_call_of 8 (Tm.op b); refine (SB'.out _ ?_).mono ?_; (go_split_ands; assumption); rintro e w' ⟨rfl, hb⟩) | (go_at_call 8; refine (SC.out _ ?_).mono ?_; (go_split_ands; assumption); rintro e w' ⟨rfl, hb⟩)
      go_wp2_with fail
      refine hK.out _ _ ?_ (fun hHeld => ?_)
      · first | exact HS.out _ hb | exact HS.out _ BV'.out | exact HS.out _ BV'.out.drew
      clear hK K
      try simp only [Act.put, List.setIfInBounds_toArray, List.set_cons_zero, List.set_cons_succ]
      refine wpAnyH_take (i := 27) (v := ?_) (op_at rfl) (by kernel_rfl) (by kernel_rfl) (by kernel_rfl) (fun _ _ _ h => h) (Or.inl ⟨by rfl, ?_⟩) (by assumption) ?_
      rotate_left
      · (intro w hSw; (try dsimp only at hSw); go_simp; try with_reducible rfl)
      try simp only [Act.put, List.setIfInBounds_toArray, List.set_cons_zero, List.set_cons_succ]
      refine wpAnyH_ready (rs := [29]) (by kernel_rfl) (by simp) ?_
      refine AllReadyH.cons (op_at rfl) (fun K hK => ?_) AllReadyH.nil
      go_simp
      first | (go_at_call_of 9 (Tm.op a); refine (NA'.out _ ?_).mono ?_; (go_split_ands; assumption); rintro e w' ⟨rfl, hb⟩) | (go_at_call_of 9 (Tm.op b); refine (NB'.out _ ?_).mono ?_; (go_split_ands; assumption); rintro e w' ⟨rfl, hb⟩) | (go_at_call 9; refine (NC.out _ ?_).mono ?_; (go_split_ands; assumption); rintro e w' ⟨rfl, hb⟩) | (go_at_call_of 8 (Tm.op a); refine (SA'.out _ ?_).mono ?_; (go_split_ands; assumption); rintro e w' ⟨rfl, hb⟩) | (go_at_call_of 8 (Tm.op b); refine (SB'.out _ ?_).mono ?_; (go_split_ands; assumption); rintro e w' ⟨rfl, hb⟩) | (go_at_call 8; refine (SC.out _ ?_).mono ?_; (go_split_ands; assumption); rintro e w' ⟨rfl, hb⟩)
      go_wp2_with fail
      refine hK.out _ _ ?_ (fun hHeld => ?_)
      · first | exact HS.out _ hb | exact HS.out _ BV'.out | exact HS.out _ BV'.out.drew
      clear hK K
      try simp only [Act.put, List.setIfInBounds_toArray, List.set_cons_zero, List.set_cons_succ]
      refine wpAnyH_take (i := 30) (v := ?_) (op_at rfl) (by kernel_rfl) (by kernel_rfl) (by kernel_rfl) (fun _ _ _ h => h) (Or.inl ⟨by rfl, ?_⟩) (by assumption) ?_
      rotate_left
      · (intro w hSw; (try dsimp only at hSw); go_simp; try with_reducible rfl)
      try simp only [Act.put, List.setIfInBounds_toArray, List.set_cons_zero, List.set_cons_succ]
      refine wpAnyH_take (i := 31) (v := ?_) (op_at rfl) (by kernel_rfl) (by kernel_rfl) (by kernel_rfl) (fun _ _ _ h => h) (Or.inl ⟨by rfl, ?_⟩) (by assumption) ?_
      rotate_left
      · (intro w hSw; (try dsimp only at hSw); go_simp; try with_reducible rfl)
      try simp only [Act.put, List.setIfInBounds_toArray, List.set_cons_zero, List.set_cons_succ]
      refine wpAnyH_take (i := 32) (v := ?_) (op_at rfl) (by kernel_rfl) (by kernel_rfl) (by kernel_rfl) (fun _ _ _ h => h) (Or.inl ⟨by rfl, ?_⟩) (by assumption) ?_
      rotate_left
      · (intro w hSw; (try dsimp only at hSw); go_simp; try with_reducible rfl)
      try simp only [Act.put, List.setIfInBounds_toArray, List.set_cons_zero, List.set_cons_succ]
      refine wpAnyH_take (i := 33) (v := ?_) (op_at rfl) (by kernel_rfl) (by kernel_rfl) (by kernel_rfl) (fun _ _ _ h => h) (Or.inl ⟨by rfl, ?_⟩) (by assumption) ?_
      rotate_left
      · (intro w hSw; (try dsimp only at hSw); go_simp; try with_reducible rfl)
      try simp only [Act.put, List.setIfInBounds_toArray, List.set_cons_zero, List.set_cons_succ]
      refine wpAnyH_done (by kernel_rfl) ?_ _
      clear q1 q2 q3 q4
      go_wp2
      go_ret
      exact ⟨rfl, HB1.out.trans ((B2'.out.trans (hb.mono B2'.out.size)).mono HB1.out.size)⟩
    cases e2 : (checkB b == 0)
    all_goals
      rw [e1, e2] at g3
      simp only [Bool.and_self, Bool.and_false] at g3
      obtain ⟨q1, q2, q3, q4⟩ := HQ.out
      refine wp_region_held_drew (S := fun cur => Below V2.heap.size V2 cur ∧ cur.cell? ⟨w.heap.size, 0, none⟩ = some (.int .i64 a.op) ∧ cur.cell? ⟨w.heap.size, 1, none⟩ = some (.int .i64 a.n) ∧ cur.cell? ⟨w.heap.size, 2, none⟩ = some (.string a.s) ∧ cur.cell? ⟨w.heap.size, 3, none⟩ = some (.slice aa a.kids.length ac) ∧ cur.cell? ⟨w.heap.size + 1, 0, none⟩ = some (.int .i64 b.op) ∧ cur.cell? ⟨w.heap.size + 1, 1, none⟩ = some (.int .i64 b.n) ∧ cur.cell? ⟨w.heap.size + 1, 2, none⟩ = some (.string b.s) ∧ cur.cell? ⟨w.heap.size + 1, 3, none⟩ = some (.slice ba b.kids.length bc) ∧ cur.cell? ⟨w3.heap.size + 1, 0, none⟩ = some (.int .i64 27) ∧ cur.cell? ⟨w3.heap.size + 1, 1, none⟩ = some (.int .i64 0) ∧ cur.cell? ⟨w3.heap.size + 1, 2, none⟩ = some (.string ⟨#[]⟩) ∧ cur.cell? ⟨w3.heap.size + 1, 3, none⟩ = some (.slice (some ⟨w3.heap.size, 0, none⟩) 2 2)) (by kernel_rfl) ?_ (fun hHeld => ?_)
      · first | exact HS.out _ hb | exact HS.out _ BV'.out | exact HS.out _ BV'.out.drew
      refine wpAnyH_take (i := 0) (v := ?_) (op_at rfl) (by kernel_rfl) (by kernel_rfl) (by kernel_rfl) (fun _ _ _ h => h) (Or.inl ⟨by rfl, ?_⟩) (by assumption) ?_
      rotate_left
      · (intro w hSw; (try dsimp only at hSw); go_simp; try with_reducible rfl)
      try simp only [Act.put, List.setIfInBounds_toArray, List.set_cons_zero, List.set_cons_succ]
      refine wpAnyH_take (i := 1) (v := ?_) (op_at rfl) (by kernel_rfl) (by kernel_rfl) (by kernel_rfl) (fun _ _ _ h => h) (Or.inl ⟨by rfl, ?_⟩) (by assumption) ?_
      rotate_left
      · (intro w hSw; (try dsimp only at hSw); go_simp; try with_reducible rfl)
      try simp only [Act.put, List.setIfInBounds_toArray, List.set_cons_zero, List.set_cons_succ]
      refine wpAnyH_take (i := 2) (v := ?_) (op_at rfl) (by kernel_rfl) (by kernel_rfl) (by kernel_rfl) (fun _ _ _ h => h) (Or.inl ⟨by rfl, ?_⟩) (by assumption) ?_
      rotate_left
      · (intro w hSw; (try dsimp only at hSw); go_simp; try with_reducible rfl)
      try simp only [Act.put, List.setIfInBounds_toArray, List.set_cons_zero, List.set_cons_succ]
      refine wpAnyH_take (i := 3) (v := ?_) (op_at rfl) (by kernel_rfl) (by kernel_rfl) (by kernel_rfl) (fun _ _ _ h => h) (Or.inl ⟨by rfl, ?_⟩) (by assumption) ?_
      rotate_left
      · (intro w hSw; (try dsimp only at hSw); go_simp; try with_reducible rfl)
      try simp only [Act.put, List.setIfInBounds_toArray, List.set_cons_zero, List.set_cons_succ]
      refine wpAnyH_take (i := 4) (v := ?_) (op_at rfl) (by kernel_rfl) (by kernel_rfl) (by kernel_rfl) (fun _ _ _ h => h) (Or.inl ⟨by rfl, ?_⟩) (by assumption) ?_
      rotate_left
      · (intro w hSw; (try dsimp only at hSw); go_simp; try with_reducible rfl)
      try simp only [Act.put, List.setIfInBounds_toArray, List.set_cons_zero, List.set_cons_succ]
      refine wpAnyH_take (i := 5) (v := ?_) (op_at rfl) (by kernel_rfl) (by kernel_rfl) (by kernel_rfl) (fun _ _ _ h => h) (Or.inl ⟨by rfl, ?_⟩) (by assumption) ?_
      rotate_left
      · (intro w hSw; (try dsimp only at hSw); go_simp; try with_reducible rfl)
      try simp only [Act.put, List.setIfInBounds_toArray, List.set_cons_zero, List.set_cons_succ]
      refine wpAnyH_take (i := 6) (v := ?_) (op_at rfl) (by kernel_rfl) (by kernel_rfl) (by kernel_rfl) (fun _ _ _ h => h) (Or.inl ⟨by rfl, ?_⟩) (by assumption) ?_
      rotate_left
      · (intro w hSw; (try dsimp only at hSw); go_simp; try with_reducible rfl)
      try simp only [Act.put, List.setIfInBounds_toArray, List.set_cons_zero, List.set_cons_succ]
      refine wpAnyH_take (i := 7) (v := ?_) (op_at rfl) (by kernel_rfl) (by kernel_rfl) (by kernel_rfl) (fun _ _ _ h => h) (Or.inl ⟨by rfl, ?_⟩) (by assumption) ?_
      rotate_left
      · (intro w hSw; (try dsimp only at hSw); go_simp; try with_reducible rfl)
      try simp only [Act.put, List.setIfInBounds_toArray, List.set_cons_zero, List.set_cons_succ]
      refine wpAnyH_take (i := 8) (v := ?_) (op_at rfl) (by kernel_rfl) (by kernel_rfl) (by kernel_rfl) (fun _ _ _ h => h) (Or.inl ⟨by rfl, ?_⟩) (by assumption) ?_
      rotate_left
      · (intro w hSw; (try dsimp only at hSw); go_simp; try with_reducible rfl)
      try simp only [Act.put, List.setIfInBounds_toArray, List.set_cons_zero, List.set_cons_succ]
      refine wpAnyH_take (i := 9) (v := ?_) (op_at rfl) (by kernel_rfl) (by kernel_rfl) (by kernel_rfl) (fun _ _ _ h => h) (Or.inl ⟨by rfl, ?_⟩) (by assumption) ?_
      rotate_left
      · (intro w hSw; (try dsimp only at hSw); go_simp; try with_reducible rfl)
      try simp only [Act.put, List.setIfInBounds_toArray, List.set_cons_zero, List.set_cons_succ]
      refine wpAnyH_take (i := 10) (v := ?_) (op_at rfl) (by kernel_rfl) (by kernel_rfl) (by kernel_rfl) (fun _ _ _ h => h) (Or.inl ⟨by rfl, ?_⟩) (by assumption) ?_
      rotate_left
      · (intro w hSw; (try dsimp only at hSw); go_simp; try with_reducible rfl)
      try simp only [Act.put, List.setIfInBounds_toArray, List.set_cons_zero, List.set_cons_succ]
      refine wpAnyH_take (i := 11) (v := ?_) (op_at rfl) (by kernel_rfl) (by kernel_rfl) (by kernel_rfl) (fun _ _ _ h => h) (Or.inl ⟨by rfl, ?_⟩) (by assumption) ?_
      rotate_left
      · (intro w hSw; (try dsimp only at hSw); go_simp; try with_reducible rfl)
      try simp only [Act.put, List.setIfInBounds_toArray, List.set_cons_zero, List.set_cons_succ]
      refine wpAnyH_take (i := 12) (v := ?_) (op_at rfl) (by kernel_rfl) (by kernel_rfl) (by kernel_rfl) (fun _ _ _ h => h) (Or.inl ⟨by rfl, ?_⟩) (by assumption) ?_
      rotate_left
      · (intro w hSw; (try dsimp only at hSw); go_simp; try with_reducible rfl)
      try simp only [Act.put, List.setIfInBounds_toArray, List.set_cons_zero, List.set_cons_succ]
      refine wpAnyH_take (i := 13) (v := ?_) (op_at rfl) (by kernel_rfl) (by kernel_rfl) (by kernel_rfl) (fun _ _ _ h => h) (Or.inl ⟨by rfl, ?_⟩) (by assumption) ?_
      rotate_left
      · (intro w hSw; (try dsimp only at hSw); go_simp; try with_reducible rfl)
      try simp only [Act.put, List.setIfInBounds_toArray, List.set_cons_zero, List.set_cons_succ]
      refine wpAnyH_take (i := 15) (v := ?_) (op_at rfl) (by kernel_rfl) (by kernel_rfl) (by kernel_rfl) (fun _ _ _ h => h) (Or.inl ⟨by rfl, ?_⟩) (by assumption) ?_
      rotate_left
      · (intro w hSw; (try dsimp only at hSw); go_simp; try with_reducible rfl)
      try simp only [Act.put, List.setIfInBounds_toArray, List.set_cons_zero, List.set_cons_succ]
      refine wpAnyH_take (i := 17) (v := ?_) (op_at rfl) (by kernel_rfl) (by kernel_rfl) (by kernel_rfl) (fun _ _ _ h => h) (Or.inl ⟨by rfl, ?_⟩) (by assumption) ?_
      rotate_left
      · (intro w hSw; (try dsimp only at hSw); go_simp; try with_reducible rfl)
      try simp only [Act.put, List.setIfInBounds_toArray, List.set_cons_zero, List.set_cons_succ]
      refine wpAnyH_ready (rs := [14]) (by kernel_rfl) (by simp) ?_
      refine AllReadyH.cons (op_at rfl) (fun K hK => ?_) AllReadyH.nil
      go_simp
      first | (go_at_call_of 9 (Tm.op a); refine (NA'.out _ ?_).mono ?_; (go_split_ands; assumption); rintro e w' ⟨rfl, hb⟩) | (go_at_call_of 9 (Tm.op b); refine (NB'.out _ ?_).mono ?_; (go_split_ands; assumption); rintro e w' ⟨rfl, hb⟩) | (go_at_call 9; refine (NC.out _ ?_).mono ?_; (go_split_ands; assumption); rintro e w' ⟨rfl, hb⟩) | (go_at_call_of 8 (Tm.op a); refine (SA'.out _ ?_).mono ?_; (go_split_ands; assumption); rintro e w' ⟨rfl, hb⟩) | (go_at_call_of 8 (Tm.op b); refine (SB'.out _ ?_).mono ?_; (go_split_ands; assumption); rintro e w' ⟨rfl, hb⟩) | (go_at_call 8; refine (SC.out _ ?_).mono ?_; (go_split_ands; assumption); rintro e w' ⟨rfl, hb⟩)
      go_wp2_with fail
      refine hK.out _ _ ?_ (fun hHeld => ?_)
      · first | exact HS.out _ hb | exact HS.out _ BV'.out | exact HS.out _ BV'.out.drew
      clear hK K
      try simp only [Act.put, List.setIfInBounds_toArray, List.set_cons_zero, List.set_cons_succ]
      refine wpAnyH_ready (rs := [16]) (by kernel_rfl) (by simp) ?_
      refine AllReadyH.cons (op_at rfl) (fun K hK => ?_) AllReadyH.nil
      go_simp
      first | (go_at_call_of 9 (Tm.op a); refine (NA'.out _ ?_).mono ?_; (go_split_ands; assumption); rintro e w' ⟨rfl, hb⟩) | (go_at_call_of 9 (Tm.op b); refine (NB'.out _ ?_).mono ?_; (go_split_ands; assumption); rintro e w' ⟨rfl, hb⟩) | (go_at_call 9; refine (NC.out _ ?_).mono ?_; (go_split_ands; assumption); rintro e w' ⟨rfl, hb⟩) | (go_at_call_of 8 (Tm.op a); refine (SA'.out _ ?_).mono ?_; (go_split_ands; assumption); rintro e w' ⟨rfl, hb⟩) | (go_at_call_of 8 (Tm.op b); refine (SB'.out _ ?_).mono ?_; (go_split_ands; assumption); rintro e w' ⟨rfl, hb⟩) | (go_at_call 8; refine (SC.out _ ?_).mono ?_; (go_split_ands; assumption); rintro e w' ⟨rfl, hb⟩)
      go_wp2_with fail
      refine hK.out _ _ ?_ (fun hHeld => ?_)
      · first | exact HS.out _ hb | exact HS.out _ BV'.out | exact HS.out _ BV'.out.drew
      clear hK K
      try simp only [Act.put, List.setIfInBounds_toArray, List.set_cons_zero, List.set_cons_succ]
      refine wpAnyH_ready (rs := [18]) (by kernel_rfl) (by simp) ?_
      refine AllReadyH.cons (op_at rfl) (fun K hK => ?_) AllReadyH.nil
      go_simp
      first | (go_at_call_of 9 (Tm.op a); refine (NA'.out _ ?_).mono ?_; (go_split_ands; assumption); rintro e w' ⟨rfl, hb⟩) | (go_at_call_of 9 (Tm.op b); refine (NB'.out _ ?_).mono ?_; (go_split_ands; assumption); rintro e w' ⟨rfl, hb⟩) | (go_at_call 9; refine (NC.out _ ?_).mono ?_; (go_split_ands; assumption); rintro e w' ⟨rfl, hb⟩) | (go_at_call_of 8 (Tm.op a); refine (SA'.out _ ?_).mono ?_; (go_split_ands; assumption); rintro e w' ⟨rfl, hb⟩) | (go_at_call_of 8 (Tm.op b); refine (SB'.out _ ?_).mono ?_; (go_split_ands; assumption); rintro e w' ⟨rfl, hb⟩) | (go_at_call 8; refine (SC.out _ ?_).mono ?_; (go_split_ands; assumption); rintro e w' ⟨rfl, hb⟩)
      go_wp2_with fail
      refine hK.out _ _ ?_ (fun hHeld => ?_)
      · first | exact HS.out _ hb | exact HS.out _ BV'.out | exact HS.out _ BV'.out.drew
      clear hK K
      try simp only [Act.put, List.setIfInBounds_toArray, List.set_cons_zero, List.set_cons_succ]
      refine wpAnyH_take (i := 19) (v := ?_) (op_at rfl) (by kernel_rfl) (by kernel_rfl) (by kernel_rfl) (fun _ _ _ h => h) (Or.inl ⟨by rfl, ?_⟩) (by assumption) ?_
      rotate_left
      · (intro w hSw; (try dsimp only at hSw); go_simp; try with_reducible rfl)
      try simp only [Act.put, List.setIfInBounds_toArray, List.set_cons_zero, List.set_cons_succ]
      refine wpAnyH_take (i := 20) (v := ?_) (op_at rfl) (by kernel_rfl) (by kernel_rfl) (by kernel_rfl) (fun _ _ _ h => h) (Or.inl ⟨by rfl, ?_⟩) (by assumption) ?_
      rotate_left
      · (intro w hSw; (try dsimp only at hSw); go_simp; try with_reducible rfl)
      try simp only [Act.put, List.setIfInBounds_toArray, List.set_cons_zero, List.set_cons_succ]
      refine wpAnyH_take (i := 21) (v := ?_) (op_at rfl) (by kernel_rfl) (by kernel_rfl) (by kernel_rfl) (fun _ _ _ h => h) (Or.inl ⟨by rfl, ?_⟩) (by assumption) ?_
      rotate_left
      · (intro w hSw; (try dsimp only at hSw); go_simp; try with_reducible rfl)
      try simp only [Act.put, List.setIfInBounds_toArray, List.set_cons_zero, List.set_cons_succ]
      refine wpAnyH_take (i := 22) (v := ?_) (op_at rfl) (by kernel_rfl) (by kernel_rfl) (by kernel_rfl) (fun _ _ _ h => h) (Or.inl ⟨by rfl, ?_⟩) (by assumption) ?_
      rotate_left
      · (intro w hSw; (try dsimp only at hSw); go_simp; try with_reducible rfl)
      try simp only [Act.put, List.setIfInBounds_toArray, List.set_cons_zero, List.set_cons_succ]
      refine wpAnyH_take (i := 23) (v := ?_) (op_at rfl) (by kernel_rfl) (by kernel_rfl) (by kernel_rfl) (fun _ _ _ h => h) (Or.inl ⟨by rfl, ?_⟩) (by assumption) ?_
      rotate_left
      · (intro w hSw; (try dsimp only at hSw); go_simp; try with_reducible rfl)
      try simp only [Act.put, List.setIfInBounds_toArray, List.set_cons_zero, List.set_cons_succ]
      refine wpAnyH_take (i := 25) (v := ?_) (op_at rfl) (by kernel_rfl) (by kernel_rfl) (by kernel_rfl) (fun _ _ _ h => h) (Or.inl ⟨by rfl, ?_⟩) (by assumption) ?_
      rotate_left
      · (intro w hSw; (try dsimp only at hSw); go_simp; try with_reducible rfl)
      try simp only [Act.put, List.setIfInBounds_toArray, List.set_cons_zero, List.set_cons_succ]
      refine wpAnyH_take (i := 28) (v := ?_) (op_at rfl) (by kernel_rfl) (by kernel_rfl) (by kernel_rfl) (fun _ _ _ h => h) (Or.inl ⟨by rfl, ?_⟩) (by assumption) ?_
      rotate_left
      · (intro w hSw; (try dsimp only at hSw); go_simp; try with_reducible rfl)
      try simp only [Act.put, List.setIfInBounds_toArray, List.set_cons_zero, List.set_cons_succ]
      refine wpAnyH_ready (rs := [24]) (by kernel_rfl) (by simp) ?_
      refine AllReadyH.cons (op_at rfl) (fun K hK => ?_) AllReadyH.nil
      go_simp
      first | (go_at_call_of 9 (Tm.op a); refine (NA'.out _ ?_).mono ?_; (go_split_ands; assumption); rintro e w' ⟨rfl, hb⟩) | (go_at_call_of 9 (Tm.op b); refine (NB'.out _ ?_).mono ?_; (go_split_ands; assumption); rintro e w' ⟨rfl, hb⟩) | (go_at_call 9; refine (NC.out _ ?_).mono ?_; (go_split_ands; assumption); rintro e w' ⟨rfl, hb⟩) | (go_at_call_of 8 (Tm.op a); refine (SA'.out _ ?_).mono ?_; (go_split_ands; assumption); rintro e w' ⟨rfl, hb⟩) | (go_at_call_of 8 (Tm.op b); refine (SB'.out _ ?_).mono ?_; (go_split_ands; assumption); rintro e w' ⟨rfl, hb⟩) | (go_at_call 8; refine (SC.out _ ?_).mono ?_; (go_split_ands; assumption); rintro e w' ⟨rfl, hb⟩)
      go_wp2_with fail
      refine hK.out _ _ ?_ (fun hHeld => ?_)
      · first | exact HS.out _ hb | exact HS.out _ BV'.out | exact HS.out _ BV'.out.drew
      clear hK K
      try simp only [Act.put, List.setIfInBounds_toArray, List.set_cons_zero, List.set_cons_succ]
      refine wpAnyH_ready (rs := [26]) (by kernel_rfl) (by simp) ?_
      refine AllReadyH.cons (op_at rfl) (fun K hK => ?_) AllReadyH.nil
      go_simp
      first | (go_at_call_of 9 (Tm.op a); refine (NA'.out _ ?_).mono ?_; (go_split_ands; assumption); rintro e w' ⟨rfl, hb⟩) | (go_at_call_of 9 (Tm.op b); refine (NB'.out _ ?_).mono ?_; (go_split_ands; assumption); rintro e w' ⟨rfl, hb⟩) | (go_at_call 9; refine (NC.out _ ?_).mono ?_; (go_split_ands; assumption); rintro e w' ⟨rfl, hb⟩) | (go_at_call_of 8 (Tm.op a); refine (SA'.out _ ?_).mono ?_; (go_split_ands; assumption); rintro e w' ⟨rfl, hb⟩) | (go_at_call_of 8 (Tm.op b); refine (SB'.out _ ?_).mono ?_; (go_split_ands; assumption); rintro e w' ⟨rfl, hb⟩) | (go_at_call 8; refine (SC.out _ ?_).mono ?_; (go_split_ands; assumption); rintro e w' ⟨rfl, hb⟩)
      go_wp2_with fail
      refine hK.out _ _ ?_ (fun hHeld => ?_)
      · first | exact HS.out _ hb | exact HS.out _ BV'.out | exact HS.out _ BV'.out.drew
      clear hK K
      try simp only [Act.put, List.setIfInBounds_toArray, List.set_cons_zero, List.set_cons_succ]
      refine wpAnyH_take (i := 27) (v := ?_) (op_at rfl) (by kernel_rfl) (by kernel_rfl) (by kernel_rfl) (fun _ _ _ h => h) (Or.inl ⟨by rfl, ?_⟩) (by assumption) ?_
      rotate_left
      · (intro w hSw; (try dsimp only at hSw); go_simp; try with_reducible rfl)
      try simp only [Act.put, List.setIfInBounds_toArray, List.set_cons_zero, List.set_cons_succ]
      refine wpAnyH_ready (rs := [29]) (by kernel_rfl) (by simp) ?_
      refine AllReadyH.cons (op_at rfl) (fun K hK => ?_) AllReadyH.nil
      go_simp
      first | (go_at_call_of 9 (Tm.op a); refine (NA'.out _ ?_).mono ?_; (go_split_ands; assumption); rintro e w' ⟨rfl, hb⟩) | (go_at_call_of 9 (Tm.op b); refine (NB'.out _ ?_).mono ?_; (go_split_ands; assumption); rintro e w' ⟨rfl, hb⟩) | (go_at_call 9; refine (NC.out _ ?_).mono ?_; (go_split_ands; assumption); rintro e w' ⟨rfl, hb⟩) | (go_at_call_of 8 (Tm.op a); refine (SA'.out _ ?_).mono ?_; (go_split_ands; assumption); rintro e w' ⟨rfl, hb⟩) | (go_at_call_of 8 (Tm.op b); refine (SB'.out _ ?_).mono ?_; (go_split_ands; assumption); rintro e w' ⟨rfl, hb⟩) | (go_at_call 8; refine (SC.out _ ?_).mono ?_; (go_split_ands; assumption); rintro e w' ⟨rfl, hb⟩)
      go_wp2_with fail
      refine hK.out _ _ ?_ (fun hHeld => ?_)
      · first | exact HS.out _ hb | exact HS.out _ BV'.out | exact HS.out _ BV'.out.drew
      clear hK K
      try simp only [Act.put, List.setIfInBounds_toArray, List.set_cons_zero, List.set_cons_succ]
      refine wpAnyH_take (i := 30) (v := ?_) (op_at rfl) (by kernel_rfl) (by kernel_rfl) (by kernel_rfl) (fun _ _ _ h => h) (Or.inl ⟨by rfl, ?_⟩) (by assumption) ?_
      rotate_left
      · (intro w hSw; (try dsimp only at hSw); go_simp; try with_reducible rfl)
      try simp only [Act.put, List.setIfInBounds_toArray, List.set_cons_zero, List.set_cons_succ]
      refine wpAnyH_take (i := 31) (v := ?_) (op_at rfl) (by kernel_rfl) (by kernel_rfl) (by kernel_rfl) (fun _ _ _ h => h) (Or.inl ⟨by rfl, ?_⟩) (by assumption) ?_
      rotate_left
      · (intro w hSw; (try dsimp only at hSw); go_simp; try with_reducible rfl)
      try simp only [Act.put, List.setIfInBounds_toArray, List.set_cons_zero, List.set_cons_succ]
      refine wpAnyH_take (i := 32) (v := ?_) (op_at rfl) (by kernel_rfl) (by kernel_rfl) (by kernel_rfl) (fun _ _ _ h => h) (Or.inl ⟨by rfl, ?_⟩) (by assumption) ?_
      rotate_left
      · (intro w hSw; (try dsimp only at hSw); go_simp; try with_reducible rfl)
      try simp only [Act.put, List.setIfInBounds_toArray, List.set_cons_zero, List.set_cons_succ]
      refine wpAnyH_take (i := 33) (v := ?_) (op_at rfl) (by kernel_rfl) (by kernel_rfl) (by kernel_rfl) (fun _ _ _ h => h) (Or.inl ⟨by rfl, ?_⟩) (by assumption) ?_
      rotate_left
      · (intro w hSw; (try dsimp only at hSw); go_simp; try with_reducible rfl)
      try simp only [Act.put, List.setIfInBounds_toArray, List.set_cons_zero, List.set_cons_succ]
      refine wpAnyH_done (by kernel_rfl) ?_ _
      clear q1 q2 q3 q4
      go_wp2
      go_ret
      exact ⟨rfl, HB1.out.trans ((B2'.out.trans (hb.mono B2'.out.size)).mono HB1.out.size)⟩

end Go.Proofs.YtmjclolmoobfpaaDoor
