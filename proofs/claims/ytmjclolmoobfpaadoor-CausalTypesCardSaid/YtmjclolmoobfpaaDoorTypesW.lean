/-
  The walk of usancelaw14.CausalTypes.
-/
import Derived.Test.YtmjclolmoobfpaaDoorCausT
import Derived.Test.YtmjclolmoobfpaaDoorCausR
import Derived.Test.YtmjclolmoobfpaaDoorReg
namespace Go.Proofs.YtmjclolmoobfpaaDoor
open Go.RowKit
set_option maxRecDepth 100000

set_option maxHeartbeats 2000000 in
theorem names_same (l : List Nm) (u v : Value) (w : World) (hu : StrVal w u l) (hv : StrVal w v l) (hl : l.length ≤ 4000) :
    Calls Tryd.prog 15 #[u, v] w fun e w' => e = .returned (.bool true) ∧ Below w.heap.size w w' := by
  rcases hu with ⟨rfl, rfl⟩ | ⟨b, cap, rfl, h0, h1, h2, hb, hc⟩
  · rcases hv with ⟨-, rfl⟩ | ⟨b, cap, rfl, h0, -⟩
    · go_enter Tryd.func15, Tryd.ntmps15
      go_wp2
      refine wp_loop_rounds 1 ?_
      rw [rounds_succ]
      go_wp2
      go_ret
      exact ⟨rfl, Below.refl _ _⟩
    · simp at h0
  · rcases hv with ⟨rfl, rfl⟩ | ⟨b', cap', rfl, -, h1', h2', hb', hc'⟩
    · simp at h0
    have hm := h2
    have hm' := h2'
    unfold maxLen at hm hm'
    have HC := Lib.hid hc
    have HC' := Lib.hid hc'
    clear hc hc'
    go_enter Tryd.func15, Tryd.ntmps15
    go_wp2
    go_loopw [5] (fun i wr => ∃ k : Nat, k ≤ l.length ∧ i = .int .i64 k ∧ Hid (Below w.heap.size w wr)) (fun i _ => l.length - (intOf i).toNat)
    case atStart => exact ⟨0, Nat.zero_le _, rfl, Below.refl _ _⟩
    case round =>
      obtain ⟨k, hk, rfl, HB⟩ := hrel
      by_cases hlt : k < l.length
      · have c0 := (HB.out.cell (p := ⟨b, k, none⟩) hb).trans (HC.out k hlt)
        have c1 := (HB.out.cell (p := ⟨b', k, none⟩) hb').trans (HC'.out k hlt)
        have hk0 : (0 : Int) ≤ (k : Int) := by omega
        have hk1 : (k : Int) < (l.length : Int) := by omega
        go_wp2
        go_quiet (fail)
        go_wp2
        go_roundw
        case rel => exact ⟨k + 1, by omega, by go_num, Go.below_drewN HB.out _⟩
        case measure => simp [intOf]; omega
      · go_wp2
        go_ret
        exact ⟨rfl, HB.out⟩

set_option maxHeartbeats 8000000 in
theorem types_true (t : Tm) (a : Option Addr) (cap : Nat) (w : World) (h : t.hold w.heap.size w a cap) (he : Env w) :
    Calls Tryd.prog 5 #[.agg #[.int .i64 t.op, .int .i64 t.n, .string t.s, .slice a t.kids.length cap]] w fun e W' => e = .returned (.bool true) ∧ Below w.heap.size w W' := by
  have kk := h.bounds
  have wk1 := kk.1
  have wk2 := kk.2.1
  have kk3 := kk.2.2.2
  obtain ⟨W1, hW1⟩ : ∃ W1, W1 = w.alloc (.cells #[.int .i64 t.op, .int .i64 t.n, .string t.s, .slice a t.kids.length cap] 24) := ⟨_, rfl⟩
  have hB1 : Below w.heap.size w W1 := hW1 ▸ below1 _ _
  have hsz : W1.heap.size = w.heap.size + 1 := by rw [hW1]; simp
  have hc := (hW1 ▸ Box4.new w 24 (.int .i64 t.op) (.int .i64 t.n) (.string t.s) (.slice a t.kids.length cap) : Box4 W1 w.heap.size 24 (.int .i64 t.op) (.int .i64 t.n) (.string t.s) (.slice a t.kids.length cap)).cells
  have HS := Lib.hid (show ∀ cur, Below W1.heap.size W1 cur → Below W1.heap.size W1 cur ∧ cur.cell? ⟨w.heap.size, 0, none⟩ = some (.int .i64 t.op) ∧ cur.cell? ⟨w.heap.size, 1, none⟩ = some (.int .i64 t.n) ∧ cur.cell? ⟨w.heap.size, 2, none⟩ = some (.string t.s) ∧ cur.cell? ⟨w.heap.size, 3, none⟩ = some (.slice a t.kids.length cap) from fun cur (hb : Below W1.heap.size W1 cur) => ⟨hb, (hb.cell (p := ⟨w.heap.size, 0, none⟩) (show w.heap.size < W1.heap.size by omega)).trans hc.1, (hb.cell (p := ⟨w.heap.size, 1, none⟩) (show w.heap.size < W1.heap.size by omega)).trans hc.2.1, (hb.cell (p := ⟨w.heap.size, 2, none⟩) (show w.heap.size < W1.heap.size by omega)).trans hc.2.2.1, (hb.cell (p := ⟨w.heap.size, 3, none⟩) (show w.heap.size < W1.heap.size by omega)).trans hc.2.2.2⟩)
  have HH := Lib.hid (show ∀ cur, Below W1.heap.size W1 cur → t.hold cur.heap.size cur a cap from fun cur hb => ((h.below hB1).below (hb.mono hB1.size)).mono (Nat.le_trans hB1.size hb.size))
  have HE := Lib.hid (show ∀ cur, Below W1.heap.size W1 cur → Env cur from fun cur hc => (he.below hB1 he.size).below hc (Nat.lt_of_lt_of_le he.size hB1.size))
  have HB1 := Lib.hid hB1
  have HFL := Lib.hid (show (feedsB t).length ≤ 4000 by
    by_cases hr : rightB t = true
    · have h1 := fold_length t.terms []
      have h2 := (small_of_right hr).1
      rw [fold_put, fold_tidy, terms_length] at h1
      have h3 : feedsB t = tidy (fedL t.terms) := by unfold feedsB; rw [if_pos hr]
      rw [h3]
      simp only [List.length_nil] at h1
      omega
    · unfold feedsB; rw [if_neg hr]; simp)
  have CS := Lib.hid (show Calls Tryd.prog 6 #[] W1 fun e W' => e = .returned (.bool true) ∧ Below W1.heap.size W1 W' from shown_any W1 (HE.out W1 (Below.refl _ _)))
  have CT := Lib.hid (show ∀ cur, Below W1.heap.size W1 cur → Calls Tryd.prog 7 #[.agg #[.int .i64 t.op, .int .i64 t.n, .string t.s, .slice a t.kids.length cap]] cur fun e W' => e = .returned (.tuple #[.int .i64 (typeB t), .bool (rightB t)]) ∧ Below W1.heap.size W1 W' from fun cur hc =>
    (Type_any t a cap cur (HH.out cur hc) (HE.out cur hc)).mono (by rintro e W' ⟨rfl, h⟩; exact ⟨rfl, hc.trans (h.mono hc.size)⟩))
  have CU := Lib.hid (show ∀ cur, Below W1.heap.size W1 cur → Calls Tryd.prog 12 #[.agg #[.int .i64 t.op, .int .i64 t.n, .string t.s, .slice a t.kids.length cap]] cur fun e W' => e = .returned (.tuple #[.int .i64 (typeB t), .bool (rightB t)]) ∧ Below W1.heap.size W1 W' from fun cur hc =>
    (rType_any t a cap cur (HH.out cur hc)).mono (by rintro e W' ⟨rfl, h⟩; exact ⟨rfl, hc.trans (h.mono hc.size)⟩))
  have CC := Lib.hid (show ∀ cur, Below W1.heap.size W1 cur → Calls Tryd.prog 10 #[.agg #[.int .i64 t.op, .int .i64 t.n, .string t.s, .slice a t.kids.length cap]] cur fun e W' => e = .returned (.int .i64 (checkB t)) ∧ Below W1.heap.size W1 W' from fun cur hc =>
    (Check_any t a cap cur (HH.out cur hc) (HE.out cur hc)).mono (by rintro e W' ⟨rfl, h⟩; exact ⟨rfl, hc.trans (h.mono hc.size)⟩))
  have CD := Lib.hid (show ∀ cur, Below W1.heap.size W1 cur → Calls Tryd.prog 13 #[.agg #[.int .i64 t.op, .int .i64 t.n, .string t.s, .slice a t.kids.length cap]] cur fun e W' => e = .returned (.int .i64 (checkB t)) ∧ Below W1.heap.size W1 W' from fun cur hc =>
    (rCheckOf_any t a cap cur (HH.out cur hc)).mono (by rintro e W' ⟨rfl, h⟩; exact ⟨rfl, hc.trans (h.mono hc.size)⟩))
  have CH := Lib.hid (show ∀ cur, Below W1.heap.size W1 cur → Calls Tryd.prog 9 #[.agg #[.int .i64 t.op, .int .i64 t.n, .string t.s, .slice a t.kids.length cap]] cur fun e W' => e = .returned (.int .i64 (horizonB t)) ∧ Below W1.heap.size W1 W' from fun cur hc =>
    (Horizon_any t a cap cur (HH.out cur hc) (HE.out cur hc)).mono (by rintro e W' ⟨rfl, h⟩; exact ⟨rfl, hc.trans (h.mono hc.size)⟩))
  have CI := Lib.hid (show ∀ cur, Below W1.heap.size W1 cur → Calls Tryd.prog 14 #[.agg #[.int .i64 t.op, .int .i64 t.n, .string t.s, .slice a t.kids.length cap]] cur fun e W' => e = .returned (.int .i64 (horizonB t)) ∧ Below W1.heap.size W1 W' from fun cur hc =>
    (rHorizonOf_any t a cap cur (HH.out cur hc)).mono (by rintro e W' ⟨rfl, h⟩; exact ⟨rfl, hc.trans (h.mono hc.size)⟩))
  have CZ := Lib.hid (show ∀ cur, Below W1.heap.size W1 cur → Calls Tryd.prog 8 #[.agg #[.int .i64 t.op, .int .i64 t.n, .string t.s, .slice a t.kids.length cap]] cur fun e W' => e = .returned (.int .i64 (sizeB t)) ∧ Below W1.heap.size W1 W' from fun cur hc =>
    (Size_any t a cap cur (HH.out cur hc) (HE.out cur hc)).mono (by rintro e W' ⟨rfl, h⟩; exact ⟨rfl, hc.trans (h.mono hc.size)⟩))
  have CY := Lib.hid (show ∀ cur, Below W1.heap.size W1 cur → Calls Tryd.prog 18 #[.agg #[.int .i64 t.op, .int .i64 t.n, .string t.s, .slice a t.kids.length cap]] cur fun e W' => e = .returned (.int .i64 (sizeB t)) ∧ Below W1.heap.size W1 W' from fun cur hc =>
    (rSizeOf_any t a cap cur (HH.out cur hc)).mono (by rintro e W' ⟨rfl, h⟩; exact ⟨rfl, hc.trans (h.mono hc.size)⟩))
  have CF := Lib.hid (show ∀ cur, Below W1.heap.size W1 cur → Calls Tryd.prog 16 #[.agg #[.int .i64 t.op, .int .i64 t.n, .string t.s, .slice a t.kids.length cap]] cur fun e W' => (∃ v, e = .returned v ∧ StrVal W' v (feedsB t)) ∧ Below W1.heap.size W1 W' from fun cur hc =>
    (Feeds_any t a cap cur (HH.out cur hc) (HE.out cur hc)).mono (by rintro e W' ⟨hv, h⟩; exact ⟨hv, hc.trans (h.mono hc.size)⟩))
  have CG := Lib.hid (show ∀ cur, Below W1.heap.size W1 cur → Calls Tryd.prog 17 #[.agg #[.int .i64 t.op, .int .i64 t.n, .string t.s, .slice a t.kids.length cap]] cur fun e W' => (∃ v, e = .returned v ∧ StrVal W' v (feedsB t)) ∧ Below cur.heap.size cur W' ∧ Below W1.heap.size W1 W' from fun cur hc =>
    (rFeedsOf_any t a cap cur (HH.out cur hc)).mono (by rintro e W' ⟨hv, h⟩; exact ⟨hv, h, hc.trans (h.mono hc.size)⟩))
  obtain ⟨x0, x1, x2, x3⟩ := hc
  clear kk h he hB1 hsz
  go_enter Tryd.func5, Tryd.ntmps5
  go_wp2_with (first
    | (go_at_call 6; rw [← hW1]; refine CS.out.mono ?_; rintro e w1 ⟨rfl, hb1⟩; clear x0 x1 x2 x3; obtain ⟨-, x0, x1, x2, x3⟩ := HS.out _ hb1)
    | (go_at_call 7; refine (CT.out _ hb1).mono ?_; rintro e w2 ⟨rfl, hb2⟩; clear x0 x1 x2 x3; obtain ⟨-, x0, x1, x2, x3⟩ := HS.out _ hb2)
    | (go_at_call 12; refine (CU.out _ hb2).mono ?_; rintro e w3 ⟨rfl, hb3⟩; clear x0 x1 x2 x3))
  refine wp_region_held_drew (S := fun cur => Below W1.heap.size W1 cur ∧ cur.cell? ⟨w.heap.size, 0, none⟩ = some (.int .i64 t.op) ∧ cur.cell? ⟨w.heap.size, 1, none⟩ = some (.int .i64 t.n) ∧ cur.cell? ⟨w.heap.size, 2, none⟩ = some (.string t.s) ∧ cur.cell? ⟨w.heap.size, 3, none⟩ = some (.slice a t.kids.length cap)) (by kernel_rfl) ?_ (fun hHeld => ?_)
  · first | exact HS.out _ hb | exact HS.out _ hb3 | exact HS.out _ hb3.drew
  refine wpAnyH_take (i := 0) (v := ?_) (op_at rfl) (by kernel_rfl) (by kernel_rfl) (by kernel_rfl) (fun _ _ _ h => h) (Or.inl ⟨by rfl, ?_⟩) (by assumption) ?_
  rotate_left
  · (intro w hSw; (try dsimp only at hSw); go_simp; try with_reducible rfl)
  try simp only [Act.put, List.setIfInBounds_toArray, List.set_cons_zero, List.set_cons_succ]
  refine wpAnyH_take (i := 1) (v := ?_) (op_at rfl) (by kernel_rfl) (by kernel_rfl) (by kernel_rfl) (fun _ _ _ h => h) (Or.inl ⟨by rfl, ?_⟩) (by assumption) ?_
  rotate_left
  · (intro w hSw; (try dsimp only at hSw); go_simp; try with_reducible rfl)
  try simp only [Act.put, List.setIfInBounds_toArray, List.set_cons_zero, List.set_cons_succ]
  refine wpAnyH_take (i := 2) (v := ?_) (op_at rfl) (by kernel_rfl) (by kernel_rfl) (by kernel_rfl) (fun _ _ _ h => h) (Or.inl ⟨by rfl, ?_⟩) (by assumption) ?_
  rotate_left
  · (intro w hSw; (try dsimp only at hSw); go_simp; try with_reducible rfl)
  try simp only [Act.put, List.setIfInBounds_toArray, List.set_cons_zero, List.set_cons_succ]
  refine wpAnyH_take (i := 3) (v := ?_) (op_at rfl) (by kernel_rfl) (by kernel_rfl) (by kernel_rfl) (fun _ _ _ h => h) (Or.inl ⟨by rfl, ?_⟩) (by assumption) ?_
  rotate_left
  · (intro w hSw; (try dsimp only at hSw); go_simp; try with_reducible rfl)
  try simp only [Act.put, List.setIfInBounds_toArray, List.set_cons_zero, List.set_cons_succ]
  refine wpAnyH_take (i := 4) (v := ?_) (op_at rfl) (by kernel_rfl) (by kernel_rfl) (by kernel_rfl) (fun _ _ _ h => h) (Or.inl ⟨by rfl, ?_⟩) (by assumption) ?_
  rotate_left
  · (intro w hSw; (try dsimp only at hSw); go_simp; try with_reducible rfl)
  try simp only [Act.put, List.setIfInBounds_toArray, List.set_cons_zero, List.set_cons_succ]
  refine wpAnyH_take (i := 5) (v := ?_) (op_at rfl) (by kernel_rfl) (by kernel_rfl) (by kernel_rfl) (fun _ _ _ h => h) (Or.inl ⟨by rfl, ?_⟩) (by assumption) ?_
  rotate_left
  · (intro w hSw; (try dsimp only at hSw); go_simp; try with_reducible rfl)
  try simp only [Act.put, List.setIfInBounds_toArray, List.set_cons_zero, List.set_cons_succ]
  refine wpAnyH_take (i := 6) (v := ?_) (op_at rfl) (by kernel_rfl) (by kernel_rfl) (by kernel_rfl) (fun _ _ _ h => h) (Or.inl ⟨by rfl, ?_⟩) (by assumption) ?_
  rotate_left
  · (intro w hSw; (try dsimp only at hSw); go_simp; try with_reducible rfl)
  try simp only [Act.put, List.setIfInBounds_toArray, List.set_cons_zero, List.set_cons_succ]
  refine wpAnyH_take (i := 7) (v := ?_) (op_at rfl) (by kernel_rfl) (by kernel_rfl) (by kernel_rfl) (fun _ _ _ h => h) (Or.inl ⟨by rfl, ?_⟩) (by assumption) ?_
  rotate_left
  · (intro w hSw; (try dsimp only at hSw); go_simp; try with_reducible rfl)
  try simp only [Act.put, List.setIfInBounds_toArray, List.set_cons_zero, List.set_cons_succ]
  refine wpAnyH_take (i := 8) (v := ?_) (op_at rfl) (by kernel_rfl) (by kernel_rfl) (by kernel_rfl) (fun _ _ _ h => h) (Or.inl ⟨by rfl, ?_⟩) (by assumption) ?_
  rotate_left
  · (intro w hSw; (try dsimp only at hSw); go_simp; try with_reducible rfl)
  try simp only [Act.put, List.setIfInBounds_toArray, List.set_cons_zero, List.set_cons_succ]
  refine wpAnyH_take (i := 9) (v := ?_) (op_at rfl) (by kernel_rfl) (by kernel_rfl) (by kernel_rfl) (fun _ _ _ h => h) (Or.inl ⟨by rfl, ?_⟩) (by assumption) ?_
  rotate_left
  · (intro w hSw; (try dsimp only at hSw); go_simp; try with_reducible rfl)
  try simp only [Act.put, List.setIfInBounds_toArray, List.set_cons_zero, List.set_cons_succ]
  refine wpAnyH_take (i := 10) (v := ?_) (op_at rfl) (by kernel_rfl) (by kernel_rfl) (by kernel_rfl) (fun _ _ _ h => h) (Or.inl ⟨by rfl, ?_⟩) (by assumption) ?_
  rotate_left
  · (intro w hSw; (try dsimp only at hSw); go_simp; try with_reducible rfl)
  try simp only [Act.put, List.setIfInBounds_toArray, List.set_cons_zero, List.set_cons_succ]
  refine wpAnyH_take (i := 11) (v := ?_) (op_at rfl) (by kernel_rfl) (by kernel_rfl) (by kernel_rfl) (fun _ _ _ h => h) (Or.inl ⟨by rfl, ?_⟩) (by assumption) ?_
  rotate_left
  · (intro w hSw; (try dsimp only at hSw); go_simp; try with_reducible rfl)
  try simp only [Act.put, List.setIfInBounds_toArray, List.set_cons_zero, List.set_cons_succ]
  refine wpAnyH_take (i := 12) (v := ?_) (op_at rfl) (by kernel_rfl) (by kernel_rfl) (by kernel_rfl) (fun _ _ _ h => h) (Or.inl ⟨by rfl, ?_⟩) (by assumption) ?_
  rotate_left
  · (intro w hSw; (try dsimp only at hSw); go_simp; try with_reducible rfl)
  try simp only [Act.put, List.setIfInBounds_toArray, List.set_cons_zero, List.set_cons_succ]
  refine wpAnyH_take (i := 14) (v := ?_) (op_at rfl) (by kernel_rfl) (by kernel_rfl) (by kernel_rfl) (fun _ _ _ h => h) (Or.inl ⟨by rfl, ?_⟩) (by assumption) ?_
  rotate_left
  · (intro w hSw; (try dsimp only at hSw); go_simp; try with_reducible rfl)
  try simp only [Act.put, List.setIfInBounds_toArray, List.set_cons_zero, List.set_cons_succ]
  refine wpAnyH_ready (rs := [13]) (by kernel_rfl) (by simp) ?_
  refine AllReadyH.cons (op_at rfl) (fun K hK => ?_) AllReadyH.nil
  go_simp
  first | (go_at_call 10; refine (CC.out _ ?_).mono ?_; (go_split_ands; assumption); rintro e w' ⟨rfl, hb⟩) | (go_at_call 13; refine (CD.out _ ?_).mono ?_; (go_split_ands; assumption); rintro e w' ⟨rfl, hb⟩) | (go_at_call 9; refine (CH.out _ ?_).mono ?_; (go_split_ands; assumption); rintro e w' ⟨rfl, hb⟩) | (go_at_call 14; refine (CI.out _ ?_).mono ?_; (go_split_ands; assumption); rintro e w' ⟨rfl, hb⟩) | (go_at_call 8; refine (CZ.out _ ?_).mono ?_; (go_split_ands; assumption); rintro e w' ⟨rfl, hb⟩) | (go_at_call 18; refine (CY.out _ ?_).mono ?_; (go_split_ands; assumption); rintro e w' ⟨rfl, hb⟩) | (go_at_call 16; refine (CF.out _ ?_).mono ?_; (go_split_ands; assumption); rintro e wa ⟨⟨va, rfl, hva⟩, hb⟩) | (go_at_call 17; refine (CG.out _ ?_).mono ?_; (go_split_ands; assumption); rintro e wb ⟨⟨vb, rfl, hvb⟩, hbb, hb⟩; replace hva := hva.below hbb) | (go_at_call 15; refine Calls.mono (names_same (feedsB t) va vb wb hva hvb HFL.out) ?_; rintro e wc ⟨rfl, hbc⟩; replace hb := hb.trans (hbc.mono hb.size))
  go_wp2_with fail
  refine hK.out _ _ ?_ (fun hHeld => ?_)
  · first | exact HS.out _ hb | exact HS.out _ hb3 | exact HS.out _ hb3.drew
  clear hK K
  try simp only [Act.put, List.setIfInBounds_toArray, List.set_cons_zero, List.set_cons_succ]
  refine wpAnyH_ready (rs := [15]) (by kernel_rfl) (by simp) ?_
  refine AllReadyH.cons (op_at rfl) (fun K hK => ?_) AllReadyH.nil
  go_simp
  first | (go_at_call 10; refine (CC.out _ ?_).mono ?_; (go_split_ands; assumption); rintro e w' ⟨rfl, hb⟩) | (go_at_call 13; refine (CD.out _ ?_).mono ?_; (go_split_ands; assumption); rintro e w' ⟨rfl, hb⟩) | (go_at_call 9; refine (CH.out _ ?_).mono ?_; (go_split_ands; assumption); rintro e w' ⟨rfl, hb⟩) | (go_at_call 14; refine (CI.out _ ?_).mono ?_; (go_split_ands; assumption); rintro e w' ⟨rfl, hb⟩) | (go_at_call 8; refine (CZ.out _ ?_).mono ?_; (go_split_ands; assumption); rintro e w' ⟨rfl, hb⟩) | (go_at_call 18; refine (CY.out _ ?_).mono ?_; (go_split_ands; assumption); rintro e w' ⟨rfl, hb⟩) | (go_at_call 16; refine (CF.out _ ?_).mono ?_; (go_split_ands; assumption); rintro e wa ⟨⟨va, rfl, hva⟩, hb⟩) | (go_at_call 17; refine (CG.out _ ?_).mono ?_; (go_split_ands; assumption); rintro e wb ⟨⟨vb, rfl, hvb⟩, hbb, hb⟩; replace hva := hva.below hbb) | (go_at_call 15; refine Calls.mono (names_same (feedsB t) va vb wb hva hvb HFL.out) ?_; rintro e wc ⟨rfl, hbc⟩; replace hb := hb.trans (hbc.mono hb.size))
  go_wp2_with fail
  refine hK.out _ _ ?_ (fun hHeld => ?_)
  · first | exact HS.out _ hb | exact HS.out _ hb3 | exact HS.out _ hb3.drew
  clear hK K
  try simp only [Act.put, List.setIfInBounds_toArray, List.set_cons_zero, List.set_cons_succ]
  refine wpAnyH_take (i := 16) (v := ?_) (op_at rfl) (by kernel_rfl) (by kernel_rfl) (by kernel_rfl) (fun _ _ _ h => h) (Or.inl ⟨by rfl, ?_⟩) (by assumption) ?_
  rotate_left
  · (intro w hSw; (try dsimp only at hSw); go_simp; try with_reducible rfl)
  try simp only [Act.put, List.setIfInBounds_toArray, List.set_cons_zero, List.set_cons_succ]
  refine wpAnyH_take (i := 17) (v := ?_) (op_at rfl) (by kernel_rfl) (by kernel_rfl) (by kernel_rfl) (fun _ _ _ h => h) (Or.inl ⟨by rfl, ?_⟩) (by assumption) ?_
  rotate_left
  · (intro w hSw; (try dsimp only at hSw); go_simp; try with_reducible rfl)
  try simp only [Act.put, List.setIfInBounds_toArray, List.set_cons_zero, List.set_cons_succ]
  refine wpAnyH_take (i := 18) (v := ?_) (op_at rfl) (by kernel_rfl) (by kernel_rfl) (by kernel_rfl) (fun _ _ _ h => h) (Or.inl ⟨by rfl, ?_⟩) (by assumption) ?_
  rotate_left
  · (intro w hSw; (try dsimp only at hSw); go_simp; try with_reducible rfl)
  try simp only [Act.put, List.setIfInBounds_toArray, List.set_cons_zero, List.set_cons_succ]
  refine wpAnyH_take (i := 19) (v := ?_) (op_at rfl) (by kernel_rfl) (by kernel_rfl) (by kernel_rfl) (fun _ _ _ h => h) (Or.inl ⟨by rfl, ?_⟩) (by assumption) ?_
  rotate_left
  · (intro w hSw; (try dsimp only at hSw); go_simp; try with_reducible rfl)
  try simp only [Act.put, List.setIfInBounds_toArray, List.set_cons_zero, List.set_cons_succ]
  refine wpAnyH_take (i := 21) (v := ?_) (op_at rfl) (by kernel_rfl) (by kernel_rfl) (by kernel_rfl) (fun _ _ _ h => h) (Or.inl ⟨by rfl, ?_⟩) (by assumption) ?_
  rotate_left
  · (intro w hSw; (try dsimp only at hSw); go_simp; try with_reducible rfl)
  try simp only [Act.put, List.setIfInBounds_toArray, List.set_cons_zero, List.set_cons_succ]
  refine wpAnyH_ready (rs := [20]) (by kernel_rfl) (by simp) ?_
  refine AllReadyH.cons (op_at rfl) (fun K hK => ?_) AllReadyH.nil
  go_simp
  first | (go_at_call 10; refine (CC.out _ ?_).mono ?_; (go_split_ands; assumption); rintro e w' ⟨rfl, hb⟩) | (go_at_call 13; refine (CD.out _ ?_).mono ?_; (go_split_ands; assumption); rintro e w' ⟨rfl, hb⟩) | (go_at_call 9; refine (CH.out _ ?_).mono ?_; (go_split_ands; assumption); rintro e w' ⟨rfl, hb⟩) | (go_at_call 14; refine (CI.out _ ?_).mono ?_; (go_split_ands; assumption); rintro e w' ⟨rfl, hb⟩) | (go_at_call 8; refine (CZ.out _ ?_).mono ?_; (go_split_ands; assumption); rintro e w' ⟨rfl, hb⟩) | (go_at_call 18; refine (CY.out _ ?_).mono ?_; (go_split_ands; assumption); rintro e w' ⟨rfl, hb⟩) | (go_at_call 16; refine (CF.out _ ?_).mono ?_; (go_split_ands; assumption); rintro e wa ⟨⟨va, rfl, hva⟩, hb⟩) | (go_at_call 17; refine (CG.out _ ?_).mono ?_; (go_split_ands; assumption); rintro e wb ⟨⟨vb, rfl, hvb⟩, hbb, hb⟩; replace hva := hva.below hbb) | (go_at_call 15; refine Calls.mono (names_same (feedsB t) va vb wb hva hvb HFL.out) ?_; rintro e wc ⟨rfl, hbc⟩; replace hb := hb.trans (hbc.mono hb.size))
  go_wp2_with fail
  refine hK.out _ _ ?_ (fun hHeld => ?_)
  · first | exact HS.out _ hb | exact HS.out _ hb3 | exact HS.out _ hb3.drew
  clear hK K
  try simp only [Act.put, List.setIfInBounds_toArray, List.set_cons_zero, List.set_cons_succ]
  refine wpAnyH_ready (rs := [22]) (by kernel_rfl) (by simp) ?_
  refine AllReadyH.cons (op_at rfl) (fun K hK => ?_) AllReadyH.nil
  go_simp
  first | (go_at_call 10; refine (CC.out _ ?_).mono ?_; (go_split_ands; assumption); rintro e w' ⟨rfl, hb⟩) | (go_at_call 13; refine (CD.out _ ?_).mono ?_; (go_split_ands; assumption); rintro e w' ⟨rfl, hb⟩) | (go_at_call 9; refine (CH.out _ ?_).mono ?_; (go_split_ands; assumption); rintro e w' ⟨rfl, hb⟩) | (go_at_call 14; refine (CI.out _ ?_).mono ?_; (go_split_ands; assumption); rintro e w' ⟨rfl, hb⟩) | (go_at_call 8; refine (CZ.out _ ?_).mono ?_; (go_split_ands; assumption); rintro e w' ⟨rfl, hb⟩) | (go_at_call 18; refine (CY.out _ ?_).mono ?_; (go_split_ands; assumption); rintro e w' ⟨rfl, hb⟩) | (go_at_call 16; refine (CF.out _ ?_).mono ?_; (go_split_ands; assumption); rintro e wa ⟨⟨va, rfl, hva⟩, hb⟩) | (go_at_call 17; refine (CG.out _ ?_).mono ?_; (go_split_ands; assumption); rintro e wb ⟨⟨vb, rfl, hvb⟩, hbb, hb⟩; replace hva := hva.below hbb) | (go_at_call 15; refine Calls.mono (names_same (feedsB t) va vb wb hva hvb HFL.out) ?_; rintro e wc ⟨rfl, hbc⟩; replace hb := hb.trans (hbc.mono hb.size))
  go_wp2_with fail
  refine hK.out _ _ ?_ (fun hHeld => ?_)
  · first | exact HS.out _ hb | exact HS.out _ hb3 | exact HS.out _ hb3.drew
  clear hK K
  try simp only [Act.put, List.setIfInBounds_toArray, List.set_cons_zero, List.set_cons_succ]
  refine wpAnyH_take (i := 23) (v := ?_) (op_at rfl) (by kernel_rfl) (by kernel_rfl) (by kernel_rfl) (fun _ _ _ h => h) (Or.inl ⟨by rfl, ?_⟩) (by assumption) ?_
  rotate_left
  · (intro w hSw; (try dsimp only at hSw); go_simp; try with_reducible rfl)
  try simp only [Act.put, List.setIfInBounds_toArray, List.set_cons_zero, List.set_cons_succ]
  refine wpAnyH_take (i := 24) (v := ?_) (op_at rfl) (by kernel_rfl) (by kernel_rfl) (by kernel_rfl) (fun _ _ _ h => h) (Or.inl ⟨by rfl, ?_⟩) (by assumption) ?_
  rotate_left
  · (intro w hSw; (try dsimp only at hSw); go_simp; try with_reducible rfl)
  try simp only [Act.put, List.setIfInBounds_toArray, List.set_cons_zero, List.set_cons_succ]
  refine wpAnyH_take (i := 25) (v := ?_) (op_at rfl) (by kernel_rfl) (by kernel_rfl) (by kernel_rfl) (fun _ _ _ h => h) (Or.inl ⟨by rfl, ?_⟩) (by assumption) ?_
  rotate_left
  · (intro w hSw; (try dsimp only at hSw); go_simp; try with_reducible rfl)
  try simp only [Act.put, List.setIfInBounds_toArray, List.set_cons_zero, List.set_cons_succ]
  refine wpAnyH_take (i := 26) (v := ?_) (op_at rfl) (by kernel_rfl) (by kernel_rfl) (by kernel_rfl) (fun _ _ _ h => h) (Or.inl ⟨by rfl, ?_⟩) (by assumption) ?_
  rotate_left
  · (intro w hSw; (try dsimp only at hSw); go_simp; try with_reducible rfl)
  try simp only [Act.put, List.setIfInBounds_toArray, List.set_cons_zero, List.set_cons_succ]
  refine wpAnyH_take (i := 28) (v := ?_) (op_at rfl) (by kernel_rfl) (by kernel_rfl) (by kernel_rfl) (fun _ _ _ h => h) (Or.inl ⟨by rfl, ?_⟩) (by assumption) ?_
  rotate_left
  · (intro w hSw; (try dsimp only at hSw); go_simp; try with_reducible rfl)
  try simp only [Act.put, List.setIfInBounds_toArray, List.set_cons_zero, List.set_cons_succ]
  refine wpAnyH_ready (rs := [27]) (by kernel_rfl) (by simp) ?_
  refine AllReadyH.cons (op_at rfl) (fun K hK => ?_) AllReadyH.nil
  go_simp
  first | (go_at_call 10; refine (CC.out _ ?_).mono ?_; (go_split_ands; assumption); rintro e w' ⟨rfl, hb⟩) | (go_at_call 13; refine (CD.out _ ?_).mono ?_; (go_split_ands; assumption); rintro e w' ⟨rfl, hb⟩) | (go_at_call 9; refine (CH.out _ ?_).mono ?_; (go_split_ands; assumption); rintro e w' ⟨rfl, hb⟩) | (go_at_call 14; refine (CI.out _ ?_).mono ?_; (go_split_ands; assumption); rintro e w' ⟨rfl, hb⟩) | (go_at_call 8; refine (CZ.out _ ?_).mono ?_; (go_split_ands; assumption); rintro e w' ⟨rfl, hb⟩) | (go_at_call 18; refine (CY.out _ ?_).mono ?_; (go_split_ands; assumption); rintro e w' ⟨rfl, hb⟩) | (go_at_call 16; refine (CF.out _ ?_).mono ?_; (go_split_ands; assumption); rintro e wa ⟨⟨va, rfl, hva⟩, hb⟩) | (go_at_call 17; refine (CG.out _ ?_).mono ?_; (go_split_ands; assumption); rintro e wb ⟨⟨vb, rfl, hvb⟩, hbb, hb⟩; replace hva := hva.below hbb) | (go_at_call 15; refine Calls.mono (names_same (feedsB t) va vb wb hva hvb HFL.out) ?_; rintro e wc ⟨rfl, hbc⟩; replace hb := hb.trans (hbc.mono hb.size))
  go_wp2_with fail
  refine hK.out _ _ ?_ (fun hHeld => ?_)
  · first | exact HS.out _ hb | exact HS.out _ hb3 | exact HS.out _ hb3.drew
  clear hK K
  try simp only [Act.put, List.setIfInBounds_toArray, List.set_cons_zero, List.set_cons_succ]
  refine wpAnyH_ready (rs := [29]) (by kernel_rfl) (by simp) ?_
  refine AllReadyH.cons (op_at rfl) (fun K hK => ?_) AllReadyH.nil
  go_simp
  first | (go_at_call 10; refine (CC.out _ ?_).mono ?_; (go_split_ands; assumption); rintro e w' ⟨rfl, hb⟩) | (go_at_call 13; refine (CD.out _ ?_).mono ?_; (go_split_ands; assumption); rintro e w' ⟨rfl, hb⟩) | (go_at_call 9; refine (CH.out _ ?_).mono ?_; (go_split_ands; assumption); rintro e w' ⟨rfl, hb⟩) | (go_at_call 14; refine (CI.out _ ?_).mono ?_; (go_split_ands; assumption); rintro e w' ⟨rfl, hb⟩) | (go_at_call 8; refine (CZ.out _ ?_).mono ?_; (go_split_ands; assumption); rintro e w' ⟨rfl, hb⟩) | (go_at_call 18; refine (CY.out _ ?_).mono ?_; (go_split_ands; assumption); rintro e w' ⟨rfl, hb⟩) | (go_at_call 16; refine (CF.out _ ?_).mono ?_; (go_split_ands; assumption); rintro e wa ⟨⟨va, rfl, hva⟩, hb⟩) | (go_at_call 17; refine (CG.out _ ?_).mono ?_; (go_split_ands; assumption); rintro e wb ⟨⟨vb, rfl, hvb⟩, hbb, hb⟩; replace hva := hva.below hbb) | (go_at_call 15; refine Calls.mono (names_same (feedsB t) va vb wb hva hvb HFL.out) ?_; rintro e wc ⟨rfl, hbc⟩; replace hb := hb.trans (hbc.mono hb.size))
  go_wp2_with fail
  refine hK.out _ _ ?_ (fun hHeld => ?_)
  · first | exact HS.out _ hb | exact HS.out _ hb3 | exact HS.out _ hb3.drew
  clear hK K
  try simp only [Act.put, List.setIfInBounds_toArray, List.set_cons_zero, List.set_cons_succ]
  refine wpAnyH_ready (rs := [30]) (by kernel_rfl) (by simp) ?_
  refine AllReadyH.cons (op_at rfl) (fun K hK => ?_) AllReadyH.nil
  go_simp
  first | (go_at_call 10; refine (CC.out _ ?_).mono ?_; (go_split_ands; assumption); rintro e w' ⟨rfl, hb⟩) | (go_at_call 13; refine (CD.out _ ?_).mono ?_; (go_split_ands; assumption); rintro e w' ⟨rfl, hb⟩) | (go_at_call 9; refine (CH.out _ ?_).mono ?_; (go_split_ands; assumption); rintro e w' ⟨rfl, hb⟩) | (go_at_call 14; refine (CI.out _ ?_).mono ?_; (go_split_ands; assumption); rintro e w' ⟨rfl, hb⟩) | (go_at_call 8; refine (CZ.out _ ?_).mono ?_; (go_split_ands; assumption); rintro e w' ⟨rfl, hb⟩) | (go_at_call 18; refine (CY.out _ ?_).mono ?_; (go_split_ands; assumption); rintro e w' ⟨rfl, hb⟩) | (go_at_call 16; refine (CF.out _ ?_).mono ?_; (go_split_ands; assumption); rintro e wa ⟨⟨va, rfl, hva⟩, hb⟩) | (go_at_call 17; refine (CG.out _ ?_).mono ?_; (go_split_ands; assumption); rintro e wb ⟨⟨vb, rfl, hvb⟩, hbb, hb⟩; replace hva := hva.below hbb) | (go_at_call 15; refine Calls.mono (names_same (feedsB t) va vb wb hva hvb HFL.out) ?_; rintro e wc ⟨rfl, hbc⟩; replace hb := hb.trans (hbc.mono hb.size))
  go_wp2_with fail
  refine hK.out _ _ ?_ (fun hHeld => ?_)
  · first | exact HS.out _ hb | exact HS.out _ hb3 | exact HS.out _ hb3.drew
  clear hK K
  try simp only [Act.put, List.setIfInBounds_toArray, List.set_cons_zero, List.set_cons_succ]
  refine wpAnyH_take (i := 31) (v := ?_) (op_at rfl) (by kernel_rfl) (by kernel_rfl) (by kernel_rfl) (fun _ _ _ h => h) (Or.inl ⟨by rfl, ?_⟩) (by assumption) ?_
  rotate_left
  · (intro w hSw; (try dsimp only at hSw); go_simp; try with_reducible rfl)
  try simp only [Act.put, List.setIfInBounds_toArray, List.set_cons_zero, List.set_cons_succ]
  refine wpAnyH_take (i := 32) (v := ?_) (op_at rfl) (by kernel_rfl) (by kernel_rfl) (by kernel_rfl) (fun _ _ _ h => h) (Or.inl ⟨by rfl, ?_⟩) (by assumption) ?_
  rotate_left
  · (intro w hSw; (try dsimp only at hSw); go_simp; try with_reducible rfl)
  try simp only [Act.put, List.setIfInBounds_toArray, List.set_cons_zero, List.set_cons_succ]
  refine wpAnyH_take (i := 33) (v := ?_) (op_at rfl) (by kernel_rfl) (by kernel_rfl) (by kernel_rfl) (fun _ _ _ h => h) (Or.inl ⟨by rfl, ?_⟩) (by assumption) ?_
  rotate_left
  · (intro w hSw; (try dsimp only at hSw); go_simp; try with_reducible rfl)
  try simp only [Act.put, List.setIfInBounds_toArray, List.set_cons_zero, List.set_cons_succ]
  refine wpAnyH_take (i := 35) (v := ?_) (op_at rfl) (by kernel_rfl) (by kernel_rfl) (by kernel_rfl) (fun _ _ _ h => h) (Or.inl ⟨by rfl, ?_⟩) (by assumption) ?_
  rotate_left
  · (intro w hSw; (try dsimp only at hSw); go_simp; try with_reducible rfl)
  try simp only [Act.put, List.setIfInBounds_toArray, List.set_cons_zero, List.set_cons_succ]
  refine wpAnyH_ready (rs := [34]) (by kernel_rfl) (by simp) ?_
  refine AllReadyH.cons (op_at rfl) (fun K hK => ?_) AllReadyH.nil
  go_simp
  first | (go_at_call 10; refine (CC.out _ ?_).mono ?_; (go_split_ands; assumption); rintro e w' ⟨rfl, hb⟩) | (go_at_call 13; refine (CD.out _ ?_).mono ?_; (go_split_ands; assumption); rintro e w' ⟨rfl, hb⟩) | (go_at_call 9; refine (CH.out _ ?_).mono ?_; (go_split_ands; assumption); rintro e w' ⟨rfl, hb⟩) | (go_at_call 14; refine (CI.out _ ?_).mono ?_; (go_split_ands; assumption); rintro e w' ⟨rfl, hb⟩) | (go_at_call 8; refine (CZ.out _ ?_).mono ?_; (go_split_ands; assumption); rintro e w' ⟨rfl, hb⟩) | (go_at_call 18; refine (CY.out _ ?_).mono ?_; (go_split_ands; assumption); rintro e w' ⟨rfl, hb⟩) | (go_at_call 16; refine (CF.out _ ?_).mono ?_; (go_split_ands; assumption); rintro e wa ⟨⟨va, rfl, hva⟩, hb⟩) | (go_at_call 17; refine (CG.out _ ?_).mono ?_; (go_split_ands; assumption); rintro e wb ⟨⟨vb, rfl, hvb⟩, hbb, hb⟩; replace hva := hva.below hbb) | (go_at_call 15; refine Calls.mono (names_same (feedsB t) va vb wb hva hvb HFL.out) ?_; rintro e wc ⟨rfl, hbc⟩; replace hb := hb.trans (hbc.mono hb.size))
  go_wp2_with fail
  refine hK.out _ _ ?_ (fun hHeld => ?_)
  · first | exact HS.out _ hb | exact HS.out _ hb3 | exact HS.out _ hb3.drew
  clear hK K
  try simp only [Act.put, List.setIfInBounds_toArray, List.set_cons_zero, List.set_cons_succ]
  refine wpAnyH_ready (rs := [36]) (by kernel_rfl) (by simp) ?_
  refine AllReadyH.cons (op_at rfl) (fun K hK => ?_) AllReadyH.nil
  go_simp
  first | (go_at_call 10; refine (CC.out _ ?_).mono ?_; (go_split_ands; assumption); rintro e w' ⟨rfl, hb⟩) | (go_at_call 13; refine (CD.out _ ?_).mono ?_; (go_split_ands; assumption); rintro e w' ⟨rfl, hb⟩) | (go_at_call 9; refine (CH.out _ ?_).mono ?_; (go_split_ands; assumption); rintro e w' ⟨rfl, hb⟩) | (go_at_call 14; refine (CI.out _ ?_).mono ?_; (go_split_ands; assumption); rintro e w' ⟨rfl, hb⟩) | (go_at_call 8; refine (CZ.out _ ?_).mono ?_; (go_split_ands; assumption); rintro e w' ⟨rfl, hb⟩) | (go_at_call 18; refine (CY.out _ ?_).mono ?_; (go_split_ands; assumption); rintro e w' ⟨rfl, hb⟩) | (go_at_call 16; refine (CF.out _ ?_).mono ?_; (go_split_ands; assumption); rintro e wa ⟨⟨va, rfl, hva⟩, hb⟩) | (go_at_call 17; refine (CG.out _ ?_).mono ?_; (go_split_ands; assumption); rintro e wb ⟨⟨vb, rfl, hvb⟩, hbb, hb⟩; replace hva := hva.below hbb) | (go_at_call 15; refine Calls.mono (names_same (feedsB t) va vb wb hva hvb HFL.out) ?_; rintro e wc ⟨rfl, hbc⟩; replace hb := hb.trans (hbc.mono hb.size))
  go_wp2_with fail
  refine hK.out _ _ ?_ (fun hHeld => ?_)
  · first | exact HS.out _ hb | exact HS.out _ hb3 | exact HS.out _ hb3.drew
  clear hK K
  try simp only [Act.put, List.setIfInBounds_toArray, List.set_cons_zero, List.set_cons_succ]
  refine wpAnyH_take (i := 37) (v := ?_) (op_at rfl) (by kernel_rfl) (by kernel_rfl) (by kernel_rfl) (fun _ _ _ h => h) (Or.inl ⟨by rfl, ?_⟩) (by assumption) ?_
  rotate_left
  · (intro w hSw; (try dsimp only at hSw); go_simp; try with_reducible rfl)
  try simp only [Act.put, List.setIfInBounds_toArray, List.set_cons_zero, List.set_cons_succ]
  refine wpAnyH_take (i := 38) (v := ?_) (op_at rfl) (by kernel_rfl) (by kernel_rfl) (by kernel_rfl) (fun _ _ _ h => h) (Or.inl ⟨by rfl, ?_⟩) (by assumption) ?_
  rotate_left
  · (intro w hSw; (try dsimp only at hSw); go_simp; try with_reducible rfl)
  try simp only [Act.put, List.setIfInBounds_toArray, List.set_cons_zero, List.set_cons_succ]
  refine wpAnyH_take (i := 39) (v := ?_) (op_at rfl) (by kernel_rfl) (by kernel_rfl) (by kernel_rfl) (fun _ _ _ h => h) (Or.inl ⟨by rfl, ?_⟩) (by assumption) ?_
  rotate_left
  · (intro w hSw; (try dsimp only at hSw); go_simp; try with_reducible rfl)
  try simp only [Act.put, List.setIfInBounds_toArray, List.set_cons_zero, List.set_cons_succ]
  refine wpAnyH_done (by kernel_rfl) ?_ _
  go_wp2
  go_ret
  exact ⟨rfl, HB1.out.trans (hb.mono HB1.out.size)⟩

end Go.Proofs.YtmjclolmoobfpaaDoor
