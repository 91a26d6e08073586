/-
  The document's functions that go through a term: how many are left, how great, whether it looks ahead, the last day.
-/
import Derived.Test.YtmjclolmoobfpaaDoorBoth
namespace Go.Proofs.YtmjclolmoobfpaaDoor
open Go.RowKit
set_option maxRecDepth 100000

theorem counts_take (ks : List Tm) (k : Nat) (h : k < ks.length) : counts (ks.take (k + 1)) = counts (ks.take k) + ks[k].count ∧ talls (ks.take (k + 1)) = max (talls (ks.take k)) ks[k].tall := by
  induction ks generalizing k with
  | nil => simp at h
  | cons q ks ih =>
    cases k with
    | zero => simp only [List.take_succ_cons, List.take_zero, counts, talls, List.getElem_cons_zero]; omega
    | succ k =>
      have := ih k (by simpa using h)
      rw [List.take_succ_cons, List.take_succ_cons, counts, counts, talls, talls, List.getElem_cons_succ]
      omega
theorem counts_part (ks : List Tm) (k : Nat) : counts (ks.take k) ≤ counts ks ∧ talls (ks.take k) ≤ talls ks := by
  induction ks generalizing k with
  | nil => simp
  | cons q ks ih =>
    cases k with
    | zero => rw [List.take_zero, counts, talls]; omega
    | succ k =>
      have := ih k
      rw [List.take_succ_cons, counts, counts, talls, talls]
      omega
/-- how many of so many terms are left behind a term's; below 0: it has more, or is too deep -/
def leftB (t : Tm) (most : Int) (d : Nat) : Int := if d + t.tall ≤ 201 ∧ (t.count : Int) ≤ most then most - t.count else -1
def leftK (ks : List Tm) (most : Int) (d k : Nat) : Int := if d + talls (ks.take k) ≤ 200 ∧ 1 + (counts (ks.take k) : Int) ≤ most then most - 1 - counts (ks.take k) else -1
theorem leftK_zero (ks : List Tm) (most : Int) (d : Nat) (hm : 0 ≤ most) (hd : d ≤ 200) : leftK ks most d 0 = most - 1 := by
  unfold leftK
  rw [List.take_zero, counts, talls]
  split <;> omega
theorem leftK_succ (ks : List Tm) (most : Int) (d k : Nat) (h : k < ks.length) (h0 : 0 ≤ leftK ks most d k) : leftK ks most d (k + 1) = leftB ks[k] (leftK ks most d k) (d + 1) := by
  have := counts_take ks k h
  unfold leftK at h0 ⊢
  unfold leftB
  rw [this.1, this.2]
  have hk := tall_pos ks[k]
  split at h0
  · rename_i h1
    rw [if_pos h1]
    by_cases h2 : d + 1 + ks[k].tall ≤ 201 ∧ (ks[k].count : Int) ≤ most - 1 - counts (ks.take k)
    · rw [if_pos h2, if_pos (by omega)]; omega
    · rw [if_neg h2, if_neg (by omega)]
  · omega
theorem leftK_end (op n : Int) (s : ByteArray) (ks : List Tm) (most : Int) (d k : Nat) (_hd : d ≤ 200) (hk : ks.length ≤ k) : leftK ks most d k = leftB (.mk op n s ks) most d := by
  unfold leftK leftB
  rw [List.take_of_length_le hk, Tm.tall, Tm.count]
  by_cases h : d + talls ks ≤ 200 ∧ 1 + (counts ks : Int) ≤ most
  · rw [if_pos h, if_pos (by omega)]; omega
  · rw [if_neg h, if_neg (by omega)]
theorem leftK_neg (op n : Int) (s : ByteArray) (ks : List Tm) (most : Int) (d k : Nat) (h : leftK ks most d k < 0) : leftK ks most d k = -1 ∧ leftB (.mk op n s ks) most d = -1 := by
  have := counts_part ks k
  unfold leftK at h ⊢
  unfold leftB
  rw [Tm.tall, Tm.count]
  split at h
  · omega
  · rename_i h1
    rw [if_neg h1, if_neg (by omega)]
    exact ⟨rfl, rfl⟩
theorem leftK_bd (ks : List Tm) (most : Int) (d k : Nat) (hm : 0 ≤ most) : -1 ≤ leftK ks most d k ∧ leftK ks most d k ≤ most := by
  unfold leftK; split <;> omega
theorem small_left (t : Tm) : decide (0 ≤ leftB t 2000 1) = smallB t := by
  unfold leftB smallB
  rw [Bool.eq_iff_iff, decide_eq_true_iff, decide_eq_true_iff]
  split <;> omega

mutual
/-- the last day that a term names -/
def hB : Tm → Int
  | .mk op n _ ks => hBs ks (if op = 29 ∨ op = 30 ∨ op = 31 then n else 0)
def hBs : List Tm → Int → Int
  | [], m => m
  | k :: ks, m => hBs ks (max m (hB k))
end
theorem hBs_snoc (ks : List Tm) (k : Nat) (h : k < ks.length) (m : Int) : hBs (ks.take (k + 1)) m = max (hBs (ks.take k) m) (hB ks[k]) := by
  induction ks generalizing k m with
  | nil => simp at h
  | cons q ks ih =>
    cases k with
    | zero => simp only [List.take_succ_cons, List.take_zero, hBs, List.getElem_cons_zero]
    | succ k =>
      have := ih k (by simpa using h) (max m (hB q))
      rw [List.take_succ_cons, List.take_succ_cons, hBs, hBs, List.getElem_cons_succ, this]
def aheadB (t : Tm) : Bool := t.terms.any aheadT
theorem aheadB_mk (op n : Int) (s : ByteArray) (ks : List Tm) : aheadB (.mk op n s ks) = (aheadT (.mk op n s ks) || ks.any aheadB) := by
  unfold aheadB
  rw [Tm.terms, List.any_cons]
  congr 1
  induction ks with
  | nil => rw [termss]; rfl
  | cons k ks ih => rw [termss, List.any_append, ih, List.any_cons]

set_option maxHeartbeats 4000000 in
theorem left_any (N : Nat) : ∀ (t : Tm), SizeOf.sizeOf t < N → ∀ (most : Int) (d : Nat) (a : Option Addr) (cap n₀ : Nat) (w : World), 0 ≤ most → most ≤ 2000 → 1 ≤ d → d ≤ 201 → t.hold n₀ w a cap → n₀ ≤ w.heap.size →
    Calls Tryd.prog 42 #[.agg #[.int .i64 t.op, .int .i64 t.n, .string t.s, .slice a t.kids.length cap], .int .i64 most, .int .i64 d] w fun e w' => e = .returned (.int .i64 (leftB t most d)) ∧ Below w.heap.size w w' := by
  induction N with
  | zero => intro t ht; omega
  | succ N ih =>
  intro t ht
  cases t with
  | mk op n s ks =>
  intro most d a cap n₀ w hm0 hm1 hd0 hd1 hh hn
  show Calls Tryd.prog 42 #[.agg #[.int .i64 op, .int .i64 n, .string s, .slice a ks.length cap], .int .i64 most, .int .i64 d] w _
  have hkl : ks.length ≤ cap ∧ cap ≤ maxLen := ⟨hh.2.2.2.1, hh.2.2.2.2.1⟩
  have hm := hkl
  unfold maxLen at hm
  have wf1 := hh.1
  have wf2 := hh.2.1
  by_cases hd : (200 : Int) < d
  · have e := Lib.hid (show leftB (.mk op n s ks) most d = -1 by unfold leftB; have := tall_pos (.mk op n s ks); rw [if_neg (by omega)])
    go_enter Tryd.func42, Tryd.ntmps42
    go_wp2
    go_ret
    exact ⟨ret_int e.out.symm, below1 _ _⟩
  obtain ⟨W1, hW1⟩ : ∃ W1, W1 = w.alloc (.cells #[.int .i64 op, .int .i64 n, .string s, .slice a ks.length cap] 24) := ⟨_, rfl⟩
  have hB1 : Below w.heap.size w W1 := hW1 ▸ below1 _ _
  have hsz : W1.heap.size = w.heap.size + 1 := by rw [hW1]; simp
  have hb4 : Box4 W1 w.heap.size 24 (.int .i64 op) (.int .i64 n) (.string s) (.slice a ks.length cap) := hW1 ▸ Box4.new _ _ _ _ _ _
  have x3 := hb4.cells.2.2.2
  have HC := Lib.hid (show ∀ cur, Below W1.heap.size W1 cur → cur.cell? ⟨w.heap.size, 3, none⟩ = some (.slice a ks.length cap) from fun cur (hb : Below W1.heap.size W1 cur) => (hb.cell (p := ⟨w.heap.size, 3, none⟩) (show w.heap.size < W1.heap.size by omega)).trans x3)
  have HH := Lib.hid (show (Tm.mk op n s ks).hold n₀ W1 a cap from hh.below (hB1.mono hn))
  have IH := Lib.hid ih
  have HT := Lib.hid ht
  have HB1 := Lib.hid hB1
  have HN := Lib.hid hn
  clear hb4 x3 hh ih ht hB1 hsz hn
  go_enter Tryd.func42, Tryd.ntmps42
  go_wp2
  rw [← hW1]
  have HW1 := Lib.hid hW1
  clear hW1
  go_loopw [1, 7] (fun m i wr => (∃ k : Nat, k ≤ ks.length ∧ i = .int .i64 k ∧ m = .int .i64 (leftK ks most d k)) ∧ Hid (Below W1.heap.size W1 wr)) (fun _ i _ => (ks.length - (intOf i).toNat))
  case atStart => exact ⟨⟨0, Nat.zero_le _, rfl, by rw [leftK_zero ks most d hm0 (by omega)]⟩, Below.refl _ _⟩
  case round =>
    obtain ⟨⟨k, hk, rfl, rfl⟩, HR⟩ := hrel
    have bd := leftK_bd ks most d k hm0
    have y3 := HC.out _ HR.out
    by_cases hlt : k < ks.length
    · obtain ⟨b, off, a', cap', A⟩ := (HH.out.below (HR.out.mono (Nat.le_trans HN.out HB1.out.size))).kid k hlt
      obtain ⟨rfl, hb, c0, c1, c2, c3, hk1⟩ := A
      have HK := Lib.hid hk1
      clear hk1
      by_cases h0 : 0 ≤ leftK ks most d k
      · have E := Lib.hid (leftK_succ ks most d k hlt h0)
        have hcall := IH.out ks[k] (kid_size hlt HT.out) (leftK ks most d k) (d + 1) a' cap' n₀ wr h0 (by omega) (by omega) (by omega) HK.out (Nat.le_trans HN.out (Nat.le_trans HB1.out.size HR.out.size))
        have em : ((d + 1 : Nat) : Int) = (d : Int) + 1 := by omega
        rw [em, ← E.out] at hcall
        clear em
        go_wp2_with (go_at_call 42; refine hcall.mono ?_; clear hcall; rintro e w' ⟨rfl, hb⟩)
        go_roundw
        case rel => exact ⟨⟨k + 1, by omega, by go_num, rfl⟩, HR.out.trans (hb.mono HR.out.size)⟩
        case measure => simp [intOf]; omega
      · have E := Lib.hid (leftK_neg op n s ks most d k (by omega))
        go_wp2
        go_ret
        exact ⟨ret_int (by rw [E.out.1, E.out.2]), HB1.out.trans (HR.out.mono HB1.out.size)⟩
    · have E := Lib.hid (leftK_end op n s ks most d k (by omega) (by omega))
      go_wp2
      all_goals go_ret
      all_goals exact ⟨ret_int E.out, HB1.out.trans (HR.out.mono HB1.out.size)⟩

set_option maxHeartbeats 1000000 in
theorem rSmall_any (t : Tm) (a : Option Addr) (cap : Nat) (w : World) (h : t.hold w.heap.size w a cap) :
    Calls Tryd.prog 26 #[.agg #[.int .i64 t.op, .int .i64 t.n, .string t.s, .slice a t.kids.length cap]] w fun e w' => e = .returned (.bool (smallB t)) ∧ Below w.heap.size w w' := by
  have kk := h.bounds
  have wk1 := kk.1
  have wk2 := kk.2.1
  have kk3 := kk.2.2.2
  obtain ⟨x0, x1, x2, x3⟩ := cell_box w (.int .i64 t.op) (.int .i64 t.n) (.string t.s) (.slice a t.kids.length cap)
  have HS := Lib.hid (small_left t)
  have hcall := left_any _ t (Nat.lt_succ_self _) 2000 1 a cap w.heap.size (w.alloc (.cells #[.int .i64 t.op, .int .i64 t.n, .string t.s, .slice a t.kids.length cap] 24)) (by omega) (by omega) (by omega) (by omega) (h.below (below1 _ _)) (by simp)
  clear kk h
  go_enter Tryd.func26, Tryd.ntmps26
  go_wp2_with (go_at_call 42; refine hcall.mono ?_; clear hcall; rintro e w' ⟨rfl, hb⟩)
  go_ret
  exact ⟨ret_bool HS.out, (below1 _ _).trans (hb.mono (by simp))⟩

set_option maxHeartbeats 4000000 in
theorem rSize_any (N : Nat) : ∀ (t : Tm), SizeOf.sizeOf t < N → ∀ (a : Option Addr) (cap n₀ : Nat) (w : World), t.count ≤ 2000 → t.hold n₀ w a cap → n₀ ≤ w.heap.size →
    Calls Tryd.prog 34 #[.agg #[.int .i64 t.op, .int .i64 t.n, .string t.s, .slice a t.kids.length cap]] w fun e w' => e = .returned (.int .i64 (t.count : Nat)) ∧ Below w.heap.size w w' := by
  induction N with
  | zero => intro t ht; omega
  | succ N ih =>
  intro t ht
  cases t with
  | mk op n s ks =>
  intro a cap n₀ w hm0 hh hn
  show Calls Tryd.prog 34 #[.agg #[.int .i64 op, .int .i64 n, .string s, .slice a ks.length cap]] w _
  have hkl : ks.length ≤ cap ∧ cap ≤ maxLen := ⟨hh.2.2.2.1, hh.2.2.2.2.1⟩
  have hm := hkl
  unfold maxLen at hm
  have wf1 := hh.1
  have wf2 := hh.2.1
  have HCT := Lib.hid (show (Tm.mk op n s ks).count = 1 + counts ks by rw [Tm.count])
  rw [HCT.out] at hm0
  obtain ⟨W1, hW1⟩ : ∃ W1, W1 = w.alloc (.cells #[.int .i64 op, .int .i64 n, .string s, .slice a ks.length cap] 24) := ⟨_, rfl⟩
  have hB1 : Below w.heap.size w W1 := hW1 ▸ below1 _ _
  have hsz : W1.heap.size = w.heap.size + 1 := by rw [hW1]; simp
  have hb4 : Box4 W1 w.heap.size 24 (.int .i64 op) (.int .i64 n) (.string s) (.slice a ks.length cap) := hW1 ▸ Box4.new _ _ _ _ _ _
  have x3 := hb4.cells.2.2.2
  have HC := Lib.hid (show ∀ cur, Below W1.heap.size W1 cur → cur.cell? ⟨w.heap.size, 3, none⟩ = some (.slice a ks.length cap) from fun cur (hb : Below W1.heap.size W1 cur) => (hb.cell (p := ⟨w.heap.size, 3, none⟩) (show w.heap.size < W1.heap.size by omega)).trans x3)
  have HH := Lib.hid (show (Tm.mk op n s ks).hold n₀ W1 a cap from hh.below (hB1.mono hn))
  have IH := Lib.hid ih
  have HT := Lib.hid ht
  have HB1 := Lib.hid hB1
  have HN := Lib.hid hn
  clear hb4 x3 hh ih ht hB1 hsz hn
  go_enter Tryd.func34, Tryd.ntmps34
  go_wp2
  rw [← hW1]
  have HW1 := Lib.hid hW1
  clear hW1
  go_loopw [3, 4] (fun m i wr => (∃ k : Nat, k ≤ ks.length ∧ i = .int .i64 k ∧ m = .int .i64 (1 + counts (ks.take k) : Nat)) ∧ Hid (Below W1.heap.size W1 wr)) (fun _ i _ => (ks.length - (intOf i).toNat))
  case atStart => exact ⟨⟨0, Nat.zero_le _, rfl, rfl⟩, Below.refl _ _⟩
  case round =>
    obtain ⟨⟨k, hk, rfl, rfl⟩, HR⟩ := hrel
    have bd := (counts_part ks k).1
    have y3 := HC.out _ HR.out
    by_cases hlt : k < ks.length
    · obtain ⟨b, off, a', cap', A⟩ := (HH.out.below (HR.out.mono (Nat.le_trans HN.out HB1.out.size))).kid k hlt
      obtain ⟨rfl, hb, c0, c1, c2, c3, hk1⟩ := A
      have HK := Lib.hid hk1
      clear hk1
      have E := counts_take ks k hlt
      have bd' := (counts_part ks (k + 1)).1
      rw [E.1] at bd'
      have hcall := IH.out ks[k] (kid_size hlt HT.out) a' cap' n₀ wr (by omega) HK.out (Nat.le_trans HN.out (Nat.le_trans HB1.out.size HR.out.size))
      have HE := Lib.hid E.1
      clear E
      go_wp2_with (go_at_call 34; refine hcall.mono ?_; clear hcall; rintro e w' ⟨rfl, hb⟩)
      go_roundw
      case rel => exact ⟨⟨k + 1, by omega, by go_num, by rw [HE.out]; go_num⟩, HR.out.trans (hb.mono HR.out.size)⟩
      case measure => simp [intOf]; omega
    · have E := Lib.hid (show counts (ks.take k) = counts ks by rw [List.take_of_length_le (by omega)])
      go_wp2
      go_ret
      exact ⟨ret_int (by rw [E.out, HCT.out]), HB1.out.trans (HR.out.mono HB1.out.size)⟩

set_option maxHeartbeats 4000000 in
theorem rahead_any (N : Nat) : ∀ (t : Tm), SizeOf.sizeOf t < N → ∀ (a : Option Addr) (cap n₀ : Nat) (w : World), t.hold n₀ w a cap → n₀ ≤ w.heap.size →
    Calls Tryd.prog 28 #[.agg #[.int .i64 t.op, .int .i64 t.n, .string t.s, .slice a t.kids.length cap]] w fun e w' => e = .returned (.bool (aheadB t)) ∧ Below w.heap.size w w' := by
  induction N with
  | zero => intro t ht; omega
  | succ N ih =>
  intro t ht
  cases t with
  | mk op n s ks =>
  intro a cap n₀ w hh hn
  show Calls Tryd.prog 28 #[.agg #[.int .i64 op, .int .i64 n, .string s, .slice a ks.length cap]] w _
  have hkl : ks.length ≤ cap ∧ cap ≤ maxLen := ⟨hh.2.2.2.1, hh.2.2.2.2.1⟩
  have hm := hkl
  unfold maxLen at hm
  have wf1 := hh.1
  have wf2 := hh.2.1
  have HA := Lib.hid (aheadB_mk op n s ks)
  have ho : aheadT (.mk op n s ks) = ((decide (op = 4) || decide (op = 5)) && decide (n < 0)) := rfl
  by_cases h1 : (op = 4 ∨ op = 5) ∧ n < 0
  · have e := Lib.hid (show aheadB (.mk op n s ks) = true by
      rw [HA.out, ho, decide_eq_true h1.2]
      rcases h1.1 with h | h <;> simp [h])
    obtain ⟨h1, h2⟩ := h1
    clear ho
    rcases h1 with h1 | h1
    all_goals
      subst h1
      go_enter Tryd.func28, Tryd.ntmps28
      go_wp2
      go_ret
      exact ⟨ret_bool e.out.symm, below1 _ _⟩
  have HO := Lib.hid (show aheadT (.mk op n s ks) = false by
    rw [ho, Bool.eq_false_iff]
    intro h
    simp only [Bool.and_eq_true, Bool.or_eq_true, decide_eq_true_eq] at h
    exact h1 h)
  clear ho
  obtain ⟨W1, hW1⟩ : ∃ W1, W1 = w.alloc (.cells #[.int .i64 op, .int .i64 n, .string s, .slice a ks.length cap] 24) := ⟨_, rfl⟩
  have hB1 : Below w.heap.size w W1 := hW1 ▸ below1 _ _
  have hsz : W1.heap.size = w.heap.size + 1 := by rw [hW1]; simp
  have hb4 : Box4 W1 w.heap.size 24 (.int .i64 op) (.int .i64 n) (.string s) (.slice a ks.length cap) := hW1 ▸ Box4.new _ _ _ _ _ _
  have x3 := hb4.cells.2.2.2
  have HC := Lib.hid (show ∀ cur, Below W1.heap.size W1 cur → cur.cell? ⟨w.heap.size, 3, none⟩ = some (.slice a ks.length cap) from fun cur (hb : Below W1.heap.size W1 cur) => (hb.cell (p := ⟨w.heap.size, 3, none⟩) (show w.heap.size < W1.heap.size by omega)).trans x3)
  have HH := Lib.hid (show (Tm.mk op n s ks).hold n₀ W1 a cap from hh.below (hB1.mono hn))
  have IH := Lib.hid ih
  have HT := Lib.hid ht
  have HB1 := Lib.hid hB1
  have HN := Lib.hid hn
  clear hb4 x3 hh ih ht hB1 hsz hn
  have key : ((op == 4) = true ∧ 0 ≤ n) ∨ ((op == 4) = false ∧ (op == 5) = true ∧ 0 ≤ n) ∨ ((op == 4) = false ∧ (op == 5) = false) := by
    simp only [beq_iff_eq, beq_eq_false_iff_ne]
    omega
  clear h1
  rcases key with ⟨b4, hn0⟩ | ⟨b4, b5, hn0⟩ | ⟨b4, b5⟩
  all_goals
    go_enter Tryd.func28, Tryd.ntmps28
    go_wp2
    rw [← hW1]
    have HW1 := Lib.hid hW1
    clear hW1
    go_loopw [3] (fun i wr => (∃ k : Nat, k ≤ ks.length ∧ i = .int .i64 k ∧ Hid ((ks.take k).any aheadB = false)) ∧ Hid (Below W1.heap.size W1 wr)) (fun i _ => (ks.length - (intOf i).toNat))
    case atStart => exact ⟨⟨0, Nat.zero_le _, rfl, rfl⟩, Below.refl _ _⟩
    case round =>
      obtain ⟨⟨k, hk, rfl, HD⟩, HR⟩ := hrel
      have y3 := HC.out _ HR.out
      by_cases hlt : k < ks.length
      · obtain ⟨b, off, a', cap', A⟩ := (HH.out.below (HR.out.mono (Nat.le_trans HN.out HB1.out.size))).kid k hlt
        obtain ⟨rfl, hb, c0, c1, c2, c3, hk1⟩ := A
        have HK := Lib.hid hk1
        clear hk1
        have hcall := IH.out ks[k] (kid_size hlt HT.out) a' cap' n₀ wr HK.out (Nat.le_trans HN.out (Nat.le_trans HB1.out.size HR.out.size))
        have E := Lib.hid (show (ks.take (k + 1)).any aheadB = ((ks.take k).any aheadB || aheadB ks[k]) by rw [List.take_succ_eq_append_getElem hlt, List.any_append]; simp)
        cases hq : aheadB ks[k]
        · rw [hq] at hcall
          have HQ := Lib.hid hq
          clear hq
          go_wp2_with (go_at_call 28; refine hcall.mono ?_; clear hcall; rintro e w' ⟨rfl, hb⟩)
          go_roundw
          case rel => exact ⟨⟨k + 1, by omega, by go_num, by show _ = _; rw [E.out, HD.out, HQ.out]; rfl⟩, HR.out.trans (hb.mono HR.out.size)⟩
          case measure => simp [intOf]; omega
        · rw [hq] at hcall
          have e := Lib.hid (show aheadB (.mk op n s ks) = true by
            rw [HA.out]
            have : ks.any aheadB = true := List.any_eq_true.2 ⟨ks[k], List.getElem_mem hlt, hq⟩
            rw [this, Bool.or_true])
          clear hq
          go_wp2_with (go_at_call 28; refine hcall.mono ?_; clear hcall; rintro e w' ⟨rfl, hb⟩)
          go_ret
          exact ⟨ret_bool e.out.symm, HB1.out.trans ((HR.out.trans (hb.mono HR.out.size)).mono HB1.out.size)⟩
      · have e := Lib.hid (show aheadB (.mk op n s ks) = false by
          rw [HA.out]
          have := HD.out
          rw [List.take_of_length_le (by omega)] at this
          rw [this, HO.out]; rfl)
        go_wp2
        go_ret
        exact ⟨ret_bool e.out.symm, HB1.out.trans (HR.out.mono HB1.out.size)⟩

set_option maxHeartbeats 4000000 in
theorem rhorizon_any (N : Nat) : ∀ (t : Tm), SizeOf.sizeOf t < N → ∀ (a : Option Addr) (cap n₀ : Nat) (w : World), t.hold n₀ w a cap → n₀ ≤ w.heap.size →
    Calls Tryd.prog 29 #[.agg #[.int .i64 t.op, .int .i64 t.n, .string t.s, .slice a t.kids.length cap]] w fun e w' => e = .returned (.int .i64 (hB t)) ∧ Below w.heap.size w w' := by
  induction N with
  | zero => intro t ht; omega
  | succ N ih =>
  intro t ht
  cases t with
  | mk op n s ks =>
  intro a cap n₀ w hh hn
  show Calls Tryd.prog 29 #[.agg #[.int .i64 op, .int .i64 n, .string s, .slice a ks.length cap]] w _
  have hkl : ks.length ≤ cap ∧ cap ≤ maxLen := ⟨hh.2.2.2.1, hh.2.2.2.2.1⟩
  have hm := hkl
  unfold maxLen at hm
  have wf1 := hh.1
  have wf2 := hh.2.1
  obtain ⟨m0, hm0⟩ : ∃ m0, m0 = if op = 29 ∨ op = 30 ∨ op = 31 then n else 0 := ⟨_, rfl⟩
  have HM := Lib.hid (show hB (.mk op n s ks) = hBs ks m0 by rw [hB, hm0])
  obtain ⟨W1, hW1⟩ : ∃ W1, W1 = w.alloc (.cells #[.int .i64 op, .int .i64 n, .string s, .slice a ks.length cap] 24) := ⟨_, rfl⟩
  have hB1 : Below w.heap.size w W1 := hW1 ▸ below1 _ _
  have hsz : W1.heap.size = w.heap.size + 1 := by rw [hW1]; simp
  have hb4 : Box4 W1 w.heap.size 24 (.int .i64 op) (.int .i64 n) (.string s) (.slice a ks.length cap) := hW1 ▸ Box4.new _ _ _ _ _ _
  have x3 := hb4.cells.2.2.2
  have HC := Lib.hid (show ∀ cur, Below W1.heap.size W1 cur → cur.cell? ⟨w.heap.size, 3, none⟩ = some (.slice a ks.length cap) from fun cur (hb : Below W1.heap.size W1 cur) => (hb.cell (p := ⟨w.heap.size, 3, none⟩) (show w.heap.size < W1.heap.size by omega)).trans x3)
  have HH := Lib.hid (show (Tm.mk op n s ks).hold n₀ W1 a cap from hh.below (hB1.mono hn))
  have IH := Lib.hid ih
  have HT := Lib.hid ht
  have HB1 := Lib.hid hB1
  have HN := Lib.hid hn
  clear hb4 x3 hh ih ht hB1 hsz hn
  have key : ((op == 29) = true ∧ Hid (m0 = n)) ∨ ((op == 29) = false ∧ (op == 30) = true ∧ Hid (m0 = n)) ∨ ((op == 29) = false ∧ (op == 30) = false ∧ (op == 31) = true ∧ Hid (m0 = n)) ∨ ((op == 29) = false ∧ (op == 30) = false ∧ (op == 31) = false ∧ Hid (m0 = 0)) := by
    show (_ ∧ m0 = n) ∨ (_ ∧ _ ∧ m0 = n) ∨ (_ ∧ _ ∧ _ ∧ m0 = n) ∨ (_ ∧ _ ∧ _ ∧ m0 = 0)
    simp only [beq_iff_eq, beq_eq_false_iff_ne]
    rw [hm0]
    split <;> omega
  clear hm0
  rcases key with ⟨b1, H0⟩ | ⟨b1, b2, H0⟩ | ⟨b1, b2, b3, H0⟩ | ⟨b1, b2, b3, H0⟩
  all_goals
    go_enter Tryd.func29, Tryd.ntmps29
    go_wp2
    rw [← hW1]
    have HW1 := Lib.hid hW1
    clear hW1
    go_loopw [3, 4] (fun m i wr => (∃ k : Nat, k ≤ ks.length ∧ i = .int .i64 k ∧ m = .int .i64 (hBs (ks.take k) m0)) ∧ Hid (Below W1.heap.size W1 wr)) (fun _ i _ => (ks.length - (intOf i).toNat))
    case atStart => exact ⟨⟨0, Nat.zero_le _, rfl, by rw [List.take_zero, hBs, H0.out]⟩, Below.refl _ _⟩
    case round =>
      obtain ⟨⟨k, hk, rfl, rfl⟩, HR⟩ := hrel
      have y3 := HC.out _ HR.out
      by_cases hlt : k < ks.length
      · obtain ⟨b, off, a', cap', A⟩ := (HH.out.below (HR.out.mono (Nat.le_trans HN.out HB1.out.size))).kid k hlt
        obtain ⟨rfl, hb, c0, c1, c2, c3, hk1⟩ := A
        have HK := Lib.hid hk1
        clear hk1
        have hcall := IH.out ks[k] (kid_size hlt HT.out) a' cap' n₀ wr HK.out (Nat.le_trans HN.out (Nat.le_trans HB1.out.size HR.out.size))
        have E := Lib.hid (hBs_snoc ks k hlt m0)
        go_wp2_with (go_at_call 29; refine hcall.mono ?_; clear hcall; rintro e w' ⟨rfl, hb⟩)
        go_roundw
        case rel => exact ⟨⟨k + 1, by omega, by go_num, by rw [E.out]⟩, HR.out.trans (hb.mono HR.out.size)⟩
        case measure => simp [intOf]; omega
      · have E := Lib.hid (show hBs (ks.take k) m0 = hB (.mk op n s ks) by rw [List.take_of_length_le (by omega), HM.out])
        go_wp2
        go_ret
        exact ⟨ret_int E.out, HB1.out.trans (HR.out.mono HB1.out.size)⟩

end Go.Proofs.YtmjclolmoobfpaaDoor
