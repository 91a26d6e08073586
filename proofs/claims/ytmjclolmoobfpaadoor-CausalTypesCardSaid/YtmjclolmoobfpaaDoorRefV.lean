/-
  The document's feeds of a term.
-/
import Derived.Test.YtmjclolmoobfpaaDoorRefU
namespace Go.Proofs.YtmjclolmoobfpaaDoor
open Go.RowKit
set_option maxRecDepth 100000

theorem withL_length (l : List Nm) (s : Nm) : (withL l s).length ≤ l.length + 1 := by
  unfold withL
  split
  · omega
  · simp; omega
theorem putF_length (l : List Nm) (x : Tm) : (putF l x).length ≤ l.length + 1 := by
  unfold putF
  split
  · exact withL_length _ _
  · omega
theorem fold_length (ts : List Tm) (l : List Nm) : (ts.foldl putF l).length ≤ l.length + ts.length := by
  induction ts generalizing l with
  | nil => simp
  | cons x ts ih =>
    have := ih (putF l x)
    have := putF_length l x
    rw [List.foldl_cons, List.length_cons]
    omega
theorem termss_take (ks : List Tm) (k : Nat) (h : k < ks.length) : termss (ks.take (k + 1)) = termss (ks.take k) ++ ks[k].terms := by
  induction ks generalizing k with
  | nil => simp at h
  | cons q ks ih =>
    cases k with
    | zero => simp [termss]
    | succ k => rw [List.take_succ_cons, List.take_succ_cons, termss, termss, ih k (by simpa using h), List.append_assoc, List.getElem_cons_succ]

set_option maxHeartbeats 4000000 in
theorem feeds_any (N : Nat) : ∀ (t : Tm), SizeOf.sizeOf t < N → ∀ (l : List Nm) (v : Value) (a : Option Addr) (cap n₀ : Nat) (w : World), l.length + t.count ≤ 4000 → StrVal w v l → t.hold n₀ w a cap → n₀ ≤ w.heap.size →
    Calls Tryd.prog 33 #[v, .agg #[.int .i64 t.op, .int .i64 t.n, .string t.s, .slice a t.kids.length cap]] w fun e w' => (∃ v', e = .returned v' ∧ StrVal w' v' (t.terms.foldl putF l)) ∧ Below w.heap.size w w' := by
  induction N with
  | zero => intro t ht; omega
  | succ N ih =>
  intro t ht
  cases t with
  | mk op n s ks =>
  intro l v a cap n₀ w hcnt hv hh hn
  show Calls Tryd.prog 33 #[v, .agg #[.int .i64 op, .int .i64 n, .string s, .slice a ks.length cap]] w _
  have hkl : ks.length ≤ cap ∧ cap ≤ maxLen := ⟨hh.2.2.2.1, hh.2.2.2.2.1⟩
  have hm := hkl
  unfold maxLen at hm
  have hs := hh.2.2.1
  have hct : (Tm.mk op n s ks).count = 1 + counts ks := by rw [Tm.count]
  rw [hct] at hcnt
  clear hct
  obtain ⟨l0, hl0⟩ : ∃ l0, l0 = putF l (.mk op n s ks) := ⟨_, rfl⟩
  have hl0len : l0.length ≤ l.length + 1 := by rw [hl0]; exact putF_length _ _
  have HT0 := Lib.hid (show (Tm.mk op n s ks).terms.foldl putF l = (termss ks).foldl putF l0 by rw [Tm.terms, List.foldl_cons, hl0])
  obtain ⟨W1, hW1⟩ : ∃ W1, W1 = w.alloc (.cells #[.int .i64 op, .int .i64 n, .string s, .slice a ks.length cap] 24) := ⟨_, rfl⟩
  have hB1 : Below w.heap.size w W1 := hW1 ▸ below1 _ _
  have hsz : W1.heap.size = w.heap.size + 1 := by rw [hW1]; simp
  have hb4 : Box4 W1 w.heap.size 24 (.int .i64 op) (.int .i64 n) (.string s) (.slice a ks.length cap) := hW1 ▸ Box4.new _ _ _ _ _ _
  have x3 := hb4.cells.2.2.2
  have HC := Lib.hid (show ∀ cur, Below W1.heap.size W1 cur → cur.cell? ⟨w.heap.size, 3, none⟩ = some (.slice a ks.length cap) from fun cur (hb : Below W1.heap.size W1 cur) => (hb.cell (p := ⟨w.heap.size, 3, none⟩) (show w.heap.size < W1.heap.size by omega)).trans x3)
  have HH := Lib.hid (show (Tm.mk op n s ks).hold n₀ W1 a cap from hh.below (hB1.mono hn))
  have HV := Lib.hid (hv.below hB1)
  have IH := Lib.hid ih
  have HT := Lib.hid ht
  have HB1 := Lib.hid hB1
  have HN := Lib.hid hn
  clear hb4 x3 hh ih ht hB1 hsz hn hv
  cases h4 : (op == 4)
  · have hl0' : l0 = l := by
      rw [hl0]; unfold putF
      rw [if_neg (fun h => by rw [show op = 4 from h] at h4; cases h4)]
    have HL0 := Lib.hid hl0'
    clear hl0 hl0'
    go_enter Tryd.func33, Tryd.ntmps33
    go_wp2
    rw [← hW1]
    have HW1 := Lib.hid hW1
    clear hW1
    go_loopw [0, 5] (fun u i wr => ∃ k : Nat, k ≤ ks.length ∧ i = .int .i64 k ∧ Hid (StrVal wr u ((termss (ks.take k)).foldl putF l0) ∧ Below W1.heap.size W1 wr)) (fun _ i _ => (ks.length - (intOf i).toNat))
    case atStart => exact ⟨0, Nat.zero_le _, rfl, by show _ ∧ _; exact ⟨by rw [List.take_zero, termss, List.foldl_nil, HL0.out]; exact HV.out, Below.refl _ _⟩⟩
    case round =>
      obtain ⟨k, hk, rfl, HR⟩ := hrel
      have y3 := HC.out _ HR.out.2
      by_cases hlt : k < ks.length
      · obtain ⟨b, off, a', cap', A⟩ := (HH.out.below (HR.out.2.mono (Nat.le_trans HN.out HB1.out.size))).kid k hlt
        obtain ⟨rfl, hb, c0, c1, c2, c3, hk1⟩ := A
        have hcc := counts_take ks k hlt
        have hcp := (counts_part ks (k + 1)).1
        have hfl := fold_length (termss (ks.take k)) l0
        rw [termss_length] at hfl
        have hcall := IH.out ks[k] (kid_size hlt HT.out) ((termss (ks.take k)).foldl putF l0) _ a' cap' n₀ wr (by omega) HR.out.1 hk1 (Nat.le_trans HN.out (Nat.le_trans HB1.out.size HR.out.2.size))
        have E := Lib.hid (show (termss (ks.take (k + 1))).foldl putF l0 = ks[k].terms.foldl putF ((termss (ks.take k)).foldl putF l0) by rw [termss_take ks k hlt, List.foldl_append])
        rw [← E.out] at hcall
        clear hk1 hcc hcp hfl
        go_wp2_with (go_at_call 33; refine hcall.mono ?_; clear hcall; rintro e w' ⟨⟨v', rfl, hv'⟩, hb'⟩)
        go_roundw
        case rel => exact ⟨k + 1, by omega, by go_num, by show _ ∧ _; exact ⟨hv', HR.out.2.trans (hb'.mono HR.out.2.size)⟩⟩
        case measure => simp [intOf]; omega
      · have E := Lib.hid (show (termss (ks.take k)).foldl putF l0 = (Tm.mk op n s ks).terms.foldl putF l by rw [HT0.out, List.take_of_length_le (by omega)])
        go_wp2
        go_ret
        exact ⟨⟨_, rfl, by rw [← E.out]; exact HR.out.1⟩, HB1.out.trans (HR.out.2.mono HB1.out.size)⟩
  · have hl0' : l0 = withL l s.data.toList := by
      rw [hl0]; unfold putF
      exact if_pos (beq_iff_eq.1 h4)
    have CW := Lib.hid (with_any l v s W1 HV.out (by omega) hs)
    have HL0 := Lib.hid hl0'
    clear hl0 hl0'
    go_enter Tryd.func33, Tryd.ntmps33
    go_wp2_with (go_at_call 48; rw [← hW1]; refine CW.out.mono ?_; rintro e w2 ⟨⟨v2, rfl, hv2⟩, hb2⟩; rw [← HL0.out] at hv2)
    have HW1 := Lib.hid hW1
    clear hW1
    go_loopw [0, 5] (fun u i wr => ∃ k : Nat, k ≤ ks.length ∧ i = .int .i64 k ∧ Hid (StrVal wr u ((termss (ks.take k)).foldl putF l0) ∧ Below W1.heap.size W1 wr)) (fun _ i _ => (ks.length - (intOf i).toNat))
    case atStart => exact ⟨0, Nat.zero_le _, rfl, by show _ ∧ _; exact ⟨by rw [List.take_zero, termss, List.foldl_nil]; exact hv2, hb2⟩⟩
    case round =>
      obtain ⟨k, hk, rfl, HR⟩ := hrel
      have y3 := HC.out _ HR.out.2
      by_cases hlt : k < ks.length
      · obtain ⟨b, off, a', cap', A⟩ := (HH.out.below (HR.out.2.mono (Nat.le_trans HN.out HB1.out.size))).kid k hlt
        obtain ⟨rfl, hb, c0, c1, c2, c3, hk1⟩ := A
        have hcc := counts_take ks k hlt
        have hcp := (counts_part ks (k + 1)).1
        have hfl := fold_length (termss (ks.take k)) l0
        rw [termss_length] at hfl
        have hcall := IH.out ks[k] (kid_size hlt HT.out) ((termss (ks.take k)).foldl putF l0) _ a' cap' n₀ wr (by omega) HR.out.1 hk1 (Nat.le_trans HN.out (Nat.le_trans HB1.out.size HR.out.2.size))
        have E := Lib.hid (show (termss (ks.take (k + 1))).foldl putF l0 = ks[k].terms.foldl putF ((termss (ks.take k)).foldl putF l0) by rw [termss_take ks k hlt, List.foldl_append])
        rw [← E.out] at hcall
        clear hk1 hcc hcp hfl
        go_wp2_with (go_at_call 33; refine hcall.mono ?_; clear hcall; rintro e w' ⟨⟨v', rfl, hv'⟩, hb'⟩)
        go_roundw
        case rel => exact ⟨k + 1, by omega, by go_num, by show _ ∧ _; exact ⟨hv', HR.out.2.trans (hb'.mono HR.out.2.size)⟩⟩
        case measure => simp [intOf]; omega
      · have E := Lib.hid (show (termss (ks.take k)).foldl putF l0 = (Tm.mk op n s ks).terms.foldl putF l by rw [HT0.out, List.take_of_length_le (by omega)])
        go_wp2
        go_ret
        exact ⟨⟨_, rfl, by rw [← E.out]; exact HR.out.1⟩, HB1.out.trans (HR.out.2.mono HB1.out.size)⟩

set_option maxHeartbeats 2000000 in
theorem rFeedsOf_any (t : Tm) (a : Option Addr) (cap : Nat) (w : World) (h : t.hold w.heap.size w a cap) :
    Calls Tryd.prog 17 #[.agg #[.int .i64 t.op, .int .i64 t.n, .string t.s, .slice a t.kids.length cap]] w fun e W' => (∃ v, e = .returned v ∧ StrVal W' v (feedsB t)) ∧ Below w.heap.size w W' := by
  have kk := h.bounds
  have wk1 := kk.1
  have wk2 := kk.2.1
  have kk3 := kk.2.2.2
  obtain ⟨W1, hW1⟩ : ∃ W1, W1 = w.alloc (.cells #[.int .i64 t.op, .int .i64 t.n, .string t.s, .slice a t.kids.length cap] 24) := ⟨_, rfl⟩
  have hB1 : Below w.heap.size w W1 := hW1 ▸ below1 _ _
  have hsz : W1.heap.size = w.heap.size + 1 := by rw [hW1]; simp
  have hc := (hW1 ▸ Box4.new w 24 (.int .i64 t.op) (.int .i64 t.n) (.string t.s) (.slice a t.kids.length cap) : Box4 W1 w.heap.size 24 (.int .i64 t.op) (.int .i64 t.n) (.string t.s) (.slice a t.kids.length cap)).cells
  have HC := Lib.hid (show ∀ cur, Below W1.heap.size W1 cur → _ ∧ _ ∧ _ ∧ _ from fun cur (hb : Below W1.heap.size W1 cur) => ⟨(hb.cell (p := ⟨w.heap.size, 0, none⟩) (show w.heap.size < W1.heap.size by omega)).trans hc.1, (hb.cell (p := ⟨w.heap.size, 1, none⟩) (show w.heap.size < W1.heap.size by omega)).trans hc.2.1, (hb.cell (p := ⟨w.heap.size, 2, none⟩) (show w.heap.size < W1.heap.size by omega)).trans hc.2.2.1, (hb.cell (p := ⟨w.heap.size, 3, none⟩) (show w.heap.size < W1.heap.size by omega)).trans hc.2.2.2⟩)
  have HH := Lib.hid (show ∀ cur, Below W1.heap.size W1 cur → t.hold cur.heap.size cur a cap from fun cur hb => ((h.below hB1).below (hb.mono hB1.size)).mono (Nat.le_trans hB1.size hb.size))
  have HB1 := Lib.hid hB1
  have CS := Lib.hid (rType_any t a cap W1 (HH.out W1 (Below.refl _ _)))
  obtain ⟨x0, x1, x2, x3⟩ := hc
  clear kk h hB1 hsz
  cases hR : rightB t
  · have e := Lib.hid (show feedsB t = [] by unfold feedsB; rw [if_neg (by rw [hR]; decide)])
    go_enter Tryd.func17, Tryd.ntmps17
    go_wp2_with (go_at_call 12; rw [← hW1]; refine CS.out.mono ?_; rintro e w1 ⟨rfl, hb1⟩; rw [hR]; clear x0 x1 x2 x3; obtain ⟨x0, x1, x2, x3⟩ := HC.out _ hb1)
    go_ret
    exact ⟨⟨_, rfl, .inl ⟨e.out, rfl⟩⟩, HB1.out.trans (hb1.mono HB1.out.size)⟩
  · have e := Lib.hid (show t.terms.foldl putF [] = feedsB t by unfold feedsB; rw [if_pos hR, fold_put, fold_tidy])
    have hct := (small_of_right hR).1
    have CT := Lib.hid (show ∀ cur, Below W1.heap.size W1 cur → Calls Tryd.prog 33 #[.slice none 0 0, .agg #[.int .i64 t.op, .int .i64 t.n, .string t.s, .slice a t.kids.length cap]] cur fun e w' => (∃ v', e = .returned v' ∧ StrVal w' v' (t.terms.foldl putF [])) ∧ Below cur.heap.size cur w' from fun cur hb =>
      feeds_any _ t (Nat.lt_succ_self _) [] (.slice none 0 0) a cap _ cur (by simp; omega) (.inl ⟨rfl, rfl⟩) (HH.out cur hb) (Nat.le_refl _))
    clear hct
    go_enter Tryd.func17, Tryd.ntmps17
    go_wp2_with (first
      | (go_at_call 12; rw [← hW1]; refine CS.out.mono ?_; rintro e w1 ⟨rfl, hb1⟩; rw [hR]; clear x0 x1 x2 x3; obtain ⟨x0, x1, x2, x3⟩ := HC.out _ hb1)
      | (go_at_call 33; refine (CT.out _ hb1).mono ?_; rintro e w2 ⟨⟨v2, rfl, hv2⟩, hb2⟩))
    go_ret
    exact ⟨⟨_, rfl, by rw [← e.out]; exact hv2⟩, HB1.out.trans ((hb1.trans (hb2.mono hb1.size)).mono HB1.out.size)⟩

end Go.Proofs.YtmjclolmoobfpaaDoor
