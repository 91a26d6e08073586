/-
  The walk of usanceref14.with.
-/
import Derived.Test.YtmjclolmoobfpaaDoorRefW
import Derived.Test.YtmjclolmoobfpaaDoorFeedsLaw
import Derived.Test.YtmjclolmoobfpaaDoorOps
import Derived.WalkLawsBesides
import Derived.Sort.Walk0
namespace Go.Proofs.YtmjclolmoobfpaaDoor
open Go.RowKit
set_option maxRecDepth 100000

/-- a value that is a slice of names -/
def StrVal (W : World) (v : Value) (l : List Nm) : Prop := (l = [] ∧ v = .slice none 0 0) ∨
  (∃ b cap, v = .slice (some ⟨b, 0, none⟩) l.length cap ∧ 0 < l.length ∧ l.length ≤ cap ∧ cap ≤ maxLen ∧ b < W.heap.size ∧ ∀ j (h : j < l.length), W.cell? ⟨b, j, none⟩ = some (.string ⟨l[j].toArray⟩))
theorem StrVal.below {W W' : World} {v : Value} {l : List Nm} (h : StrVal W v l) (hb : Below W.heap.size W W') : StrVal W' v l := by
  rcases h with h | ⟨b, cap, h1, h2, h3, h4, h5, h6⟩
  · exact .inl h
  · exact .inr ⟨b, cap, h1, h2, h3, h4, Nat.lt_of_lt_of_le h5 hb.size, fun j hj => (hb.cell (p := ⟨b, j, none⟩) h5).trans (h6 j hj)⟩
def encN (x : Nm) : Value := .string ⟨x.toArray⟩
theorem str_of_row {W : World} {base : Nat} {e : TypeId} {g n cap : Nat} {l : List Nm} (h : W.ownsRow base e 1 (.slice (some ⟨g, 0, none⟩) n cap) n (l.map encN)) (h0 : 0 < n) : StrVal W (.slice (some ⟨g, 0, none⟩) n cap) l := by
  have hl : l.length = n := by have := h.1; simpa using this
  have hc := fun j => h.cellAt (j := j)
  obtain ⟨-, ⟨hv, -⟩ | ⟨g', cap', cur, hv, hb, hg, h1, h2, h3, h4⟩⟩ := h
  · cases hv
  · simp only [Value.slice.injEq, Option.some.injEq, Addr.mk.injEq, and_true, true_and] at hv
    obtain ⟨rfl, rfl⟩ := hv
    refine .inr ⟨g, cap, by rw [hl], by omega, by omega, h2, (Array.getElem?_eq_some_iff.1 hg).1, fun j hj => ?_⟩
    rw [hc j (by omega), List.getElem?_map, List.getElem?_eq_getElem hj]
    rfl
theorem place_at {l : List Nm} {s : Nm} {k : Nat} (hk : k ≤ l.length) (h : ∀ j (h : j < l.length), j < k → l[j] < s) (hn : ∀ h : k < l.length, ¬ l[k] < s) : placeL l s = k := by
  unfold placeL
  induction l generalizing k with
  | nil => simp at hk; subst hk; rfl
  | cons a l ih =>
    cases k with
    | zero =>
      have := hn (by simp)
      rw [List.takeWhile_cons_of_neg (by simpa using this)]; rfl
    | succ k =>
      have h0 := h 0 (by simp) (by omega)
      rw [List.takeWhile_cons_of_pos (by simpa using h0), List.length_cons]
      rw [ih (by simpa using hk) (fun j hj hjk => h (j + 1) (by simpa using hj) (by omega)) (fun hlt => hn (by simpa using hlt))]
theorem with_same {l : List Nm} {s : Nm} {k : Nat} (hk : k < l.length) (h : ∀ j (h : j < l.length), j < k → l[j] < s) (he : l[k] = s) : withL l s = l := by
  unfold withL
  rw [place_at (by omega) h (fun _ => by rw [he]; exact List.lt_irrefl s), List.getElem?_eq_getElem hk, he, if_pos rfl]
theorem with_put {l : List Nm} {s : Nm} {k : Nat} (hk : k ≤ l.length) (h : ∀ j (h : j < l.length), j < k → l[j] < s) (hn : ∀ h : k < l.length, ¬ l[k] < s ∧ l[k] ≠ s) : withL l s = l.take k ++ s :: l.drop k := by
  unfold withL
  rw [place_at hk h (fun h => (hn h).1)]
  by_cases hlt : k < l.length
  · rw [List.getElem?_eq_getElem hlt, if_neg]
    intro e
    exact (hn hlt).2 (Option.some.inj e)
  · rw [List.getElem?_eq_none (by omega), if_neg (by simp)]
theorem infoS : (Tryd.prog.info? 9).map (fun i => (i.zero, i.size, i.bytes)) = some (some (.string ⟨#[]⟩), 1, 16) := by kernel_rfl

set_option maxHeartbeats 4000000 in
theorem with_some (l : List Nm) (b cap : Nat) (s : ByteArray) (w : World) (h0 : 0 < l.length) (h1 : l.length ≤ cap) (h2 : cap ≤ maxLen) (hb : b < w.heap.size) (hc : ∀ j (h : j < l.length), w.cell? ⟨b, j, none⟩ = some (.string ⟨l[j].toArray⟩)) (hl : l.length ≤ 4000) (_hs : s.size ≤ maxLen) :
    Calls Tryd.prog 48 #[.slice (some ⟨b, 0, none⟩) l.length cap, .string s] w fun e w' => (∃ v', e = .returned v' ∧ StrVal w' v' (withL l s.data.toList)) ∧ Below w.heap.size w w' := by
  have hm := h2
  unfold maxLen at hm
  obtain ⟨i0, hi, hz0, hz1, hz2⟩ := info_parts infoS
  have HI := Lib.hid (show _ ∧ _ ∧ _ ∧ _ from ⟨hi, hz0, hz1, hz2⟩)
  clear hi hz0 hz1 hz2
  have hsl : s.toList = s.data.toList := Lib.toList_data s
  have HSL := Lib.hid hsl
  have HC := Lib.hid hc
  have HV := Lib.hid (show StrVal w (.slice (some ⟨b, 0, none⟩) l.length cap) l from .inr ⟨b, cap, rfl, h0, h1, h2, hb, hc⟩)
  clear hc hsl
  go_enter Tryd.func48, Tryd.ntmps48
  go_wp2
  go_loop [5] (fun i => ∃ k : Nat, k ≤ l.length ∧ i = .int .i64 k ∧ Hid (∀ j (h : j < l.length), j < k → l[j] < s.data.toList)) (fun i => l.length - (intOf i).toNat)
  case atStart => exact ⟨0, Nat.zero_le _, rfl, fun j h hj => by omega⟩
  case round =>
    obtain ⟨k, hk, rfl, HK⟩ := hrel
    have hk0 : (0 : Int) ≤ (k : Int) := by omega
    by_cases hgo : ∃ hlt : k < l.length, l[k] < s.data.toList
    · obtain ⟨hlt, hgo⟩ := hgo
      have c0 := HC.out k hlt
      have hbl : Op.bytesLess l[k] s.toList = true := by rw [HSL.out, bytesLess_eq, decide_eq_true hgo]
      have HG := Lib.hid hgo
      clear hgo
      go_wp2
      go_round
      case rel =>
        refine ⟨k + 1, by omega, by go_num, fun j h hj => ?_⟩
        by_cases e : j = k
        · subst e; exact HG.out
        · exact HK.out j h (by omega)
      case measure => simp [intOf]; omega
    by_cases heq : ∃ hlt : k < l.length, l[k] = s.data.toList
    · obtain ⟨hlt, heq⟩ := heq
      have c0 := HC.out k hlt
      have hbl : Op.bytesLess l[k] s.toList = false := by rw [HSL.out, bytesLess_eq, decide_eq_false (fun h => hgo ⟨hlt, h⟩)]
      have hbe : (l[k] == s.toList) = true := by rw [HSL.out, heq, beq_self_eq_true]
      have E := Lib.hid (with_same hlt HK.out heq)
      clear heq hgo
      go_wp2
      go_ret
      exact ⟨⟨_, rfl, by rw [E.out]; exact HV.out⟩, Below.refl _ _⟩
    have E := Lib.hid (with_put (s := s.data.toList) hk HK.out (fun h => ⟨fun h' => hgo ⟨h, h'⟩, fun h' => heq ⟨h, h'⟩⟩))
    have key : (∃ hlt : k < l.length, Op.bytesLess l[k] s.toList = false ∧ (l[k] == s.toList) = false ∧ w.cell? ⟨b, k, none⟩ = some (.string ⟨l[k].toArray⟩)) ∨ ¬ k < l.length := by
      by_cases hlt : k < l.length
      · exact .inl ⟨hlt, by rw [HSL.out, bytesLess_eq, decide_eq_false (fun h => hgo ⟨hlt, h⟩)], by rw [HSL.out, beq_eq_false_iff_ne]; exact fun h => heq ⟨hlt, h⟩, HC.out k hlt⟩
      · exact .inr hlt
    clear hgo heq
    have HNEW1 := Lib.hid (show ∀ W', w.grownBy W' none → ∀ ad : Addr, ad = ⟨b, 0, none⟩ → ∀ j u, ((l.take k).map encN)[j]? = some u → W'.cell? (ad.add j) = some u from fun W' hg ad hd j u hu => by
      subst hd
      have hj : j < (l.take k).length := by have := (List.getElem?_eq_some_iff.1 hu).1; simpa using this
      have hj2 : j < l.length := by simp at hj; omega
      rw [List.getElem?_map, List.getElem?_eq_getElem hj] at hu
      simp only [Option.map_some, Option.some.injEq, List.getElem_take] at hu
      subst hu
      rw [Go.WideShapes.add_plain, Nat.zero_add]
      exact cell_kept (HC.out j hj2) hg (fun r e => by cases e))
    have hkc : k ≤ cap := by omega
    have hwr : IntKind.i64.wrap ((l.length : Int) + 1) = (l.length : Int) + 1 := IntWalk.i64_in _ (by omega)
    have HNEW2 := Lib.hid (show ∀ W', Below w.heap.size w W' → ∀ ad : Addr, (¬ cap = k → ad = ⟨b, k, none⟩) → ∀ j u, ((l.drop k).map encN)[j]? = some u → W'.cell? (ad.add j) = some u from fun W' hg ad hd j u hu => by
      have hj : j < (l.drop k).length := by have := (List.getElem?_eq_some_iff.1 hu).1; simpa using this
      have hj2 : k + j < l.length := by simp at hj; omega
      obtain rfl := hd (by omega)
      rw [List.getElem?_map, List.getElem?_eq_getElem hj] at hu
      simp only [Option.map_some, Option.some.injEq, List.getElem_drop] at hu
      subst hu
      rw [Go.WideShapes.add_plain]
      exact (hg.cell (p := ⟨b, k + j, none⟩) hb).trans (HC.out (k + j) hj2))
    rcases key with ⟨hlt, hbl, hbe, c0⟩ | hke
    all_goals
      go_wp2
      refine wp_region_held_drew (S := fun _ => True) (by kernel_rfl) ?_ (fun hHeld => ?_)
      · trivial
      refine wpAnyH_take (i := 0) (v := ?_) (op_at rfl) (by kernel_rfl) (by kernel_rfl) (by kernel_rfl) (fun _ _ _ h => h) (Or.inl ⟨by rfl, ?_⟩) (by assumption) ?_
      rotate_left
      · (intro w hSw; (try dsimp only at hSw); go_simp; try with_reducible rfl)
      try simp only [Act.put, List.setIfInBounds_toArray, List.set_cons_zero, List.set_cons_succ]
      refine wpAnyH_take (i := 1) (v := ?_) (op_at rfl) (by kernel_rfl) (by kernel_rfl) (by kernel_rfl) (fun _ _ _ h => h) (Or.inl ⟨by rfl, ?_⟩) (by assumption) ?_
      rotate_left
      · (intro w hSw; (try dsimp only at hSw); go_simp; try with_reducible rfl)
      try simp only [Act.put, List.setIfInBounds_toArray, List.set_cons_zero, List.set_cons_succ]
      refine wpAnyH_take (i := 2) (v := ?_) (op_at rfl) (by kernel_rfl) (by kernel_rfl) (by kernel_rfl) (fun _ _ _ h => h) (Or.inl ⟨by rfl, ?_⟩) (by assumption) ?_
      rotate_left
      · (intro w hSw; (try dsimp only at hSw); go_simp; try with_reducible rfl)
      try simp only [Act.put, List.setIfInBounds_toArray, List.set_cons_zero, List.set_cons_succ]
      refine wpAnyH_take (i := 4) (v := ?_) (op_at rfl) (by kernel_rfl) (by kernel_rfl) (by kernel_rfl) (fun _ _ _ h => h) (Or.inl ⟨by rfl, ?_⟩) (by assumption) ?_
      rotate_left
      · (intro w hSw; (try dsimp only at hSw); go_simp; try with_reducible rfl)
      try simp only [Act.put, List.setIfInBounds_toArray, List.set_cons_zero, List.set_cons_succ]
      refine wpAnyH_take (i := 5) (v := ?_) (op_at rfl) (by kernel_rfl) (by kernel_rfl) (by kernel_rfl) (fun _ _ _ h => h) (Or.inl ⟨by rfl, ?_⟩) (by assumption) ?_
      rotate_left
      · (intro w hSw; (try dsimp only at hSw); go_simp; try with_reducible rfl)
      try simp only [Act.put, List.setIfInBounds_toArray, List.set_cons_zero, List.set_cons_succ]
      refine wpAnyH_take (i := 6) (v := ?_) (op_at rfl) (by kernel_rfl) (by kernel_rfl) (by kernel_rfl) (fun _ _ _ h => h) (Or.inl ⟨by rfl, ?_⟩) (by assumption) ?_
      rotate_left
      · (intro w hSw; (try dsimp only at hSw); go_simp; try with_reducible rfl)
      try simp only [Act.put, List.setIfInBounds_toArray, List.set_cons_zero, List.set_cons_succ]
      refine wpAnyH_ready (rs := [3]) (by kernel_rfl) (by simp) ?_
      refine AllReadyH.cons (op_at rfl) (fun K hK => ?_) AllReadyH.nil
      rw [if_pos (by rfl)]
      refine op_make_own _ _ _ _ rfl w.heap.size 9 i0 (.string ⟨#[]⟩) 1 Tryd.underlying34 HI.out.1 HI.out.2.1 HI.out.2.2.1 .i64 .i64 _ (l.length + 1) rfl rfl (by first | rfl | omega) (by rw [HI.out.2.2.2]; omega) (by unfold maxLen; omega) (Nat.le_refl _) ?_
      intro w1 own1 grow1
      refine hK.out _ _ ?_ (fun hHeld => ?_)
      · trivial
      clear hK K
      try simp only [Act.put, List.setIfInBounds_toArray, List.set_cons_zero, List.set_cons_succ]
      refine wpAnyH_ready (rs := [7]) (by kernel_rfl) (by simp) ?_
      refine AllReadyH.cons (op_at rfl) (fun K hK => ?_) AllReadyH.nil
      rw [if_pos (by rfl)]
      refine op_append_fits_any _ _ _ _ rfl w.heap.size 9 i0 1 Tryd.underlying34 HI.out.1 HI.out.2.2.1 w.heap.size 0 (l.length + 1) [] rfl own1 _ k _ ((l.take k).map encN) rfl (by simp; omega) (by intro h; cases h) (fun ad had => HNEW1.out w1 ⟨grow1.1, grow1.2, grow1.3, grow1.4, grow1.5⟩ ad (Option.some.inj had).symm) (by intro u hu; obtain ⟨x, -, rfl⟩ := List.mem_map.1 hu; rfl) (by omega) ?_
      intro w2 own2 grow2
      refine hK.out _ _ ?_ (fun hHeld => ?_)
      · trivial
      clear hK K
      try simp only [Act.put, List.setIfInBounds_toArray, List.set_cons_zero, List.set_cons_succ]
      refine wpAnyH_take (i := 8) (v := ?_) (op_at rfl) (by kernel_rfl) (by kernel_rfl) (by kernel_rfl) (fun _ _ _ h => h) (Or.inl ⟨by rfl, ?_⟩) (by assumption) ?_
      rotate_left
      · (intro w hSw; (try dsimp only at hSw); go_simp; try with_reducible rfl)
      try simp only [Act.put, List.setIfInBounds_toArray, List.set_cons_zero, List.set_cons_succ]
      refine wpAnyH_done (by kernel_rfl) ?_ _

      clear hwr
      have HB2 := Lib.hid (show Below w.heap.size w w2 from (((Below.refl w.heap.size w).drew.grown grow1 (Nat.le_refl _) (fun r e => by cases e)).grown grow2 (by have := grow1.size; exact this) (fun r e => by cases e; exact Nat.le_refl _)))
      rw [Nat.zero_add, List.nil_append] at own2
      go_wp2_with (first
        | (refine wpList_append_fits_any _ rfl (.tmp 42) (.tmp 44) _ rfl w.heap.size 9 i0 1 Tryd.underlying34 HI.out.1 HI.out.2.2.1 w.heap.size k (l.length + 1) ((l.take k).map encN) rfl (own2.alloc _) _ 1 _ [.string s] rfl rfl (by intro h; cases h) (fun ad had => by obtain rfl := Option.some.inj had; exact cell_one_new _ _ _) (fun u hu => by simp at hu; subst hu; rfl) (by omega) ?_; intro w3 own3 grow3; have OWN3 := Lib.hid own3; have HB3 := Lib.hid (show Below w.heap.size w w3 from (HB2.out.trans ((below1 _ _).mono HB2.out.size)).grown grow3 (by have := HB2.out.size; simp; omega) (fun r e => by cases e; exact Nat.le_refl _)); clear own3 grow3)
        | (refine wpList_append_fits_any _ rfl (.tmp 46) (.tmp 49) _ rfl w.heap.size 9 i0 1 Tryd.underlying34 HI.out.1 HI.out.2.2.1 w.heap.size (k + 1) (l.length + 1) ((l.take k).map encN ++ [.string s]) rfl OWN3.out _ (l.length - k) _ ((l.drop k).map encN) rfl (by simp) (by intro h; (first | (split at h <;> cases h) | cases h)) (fun ad had => HNEW2.out w3 HB3.out ad (fun hne => by first | (rw [if_neg hne] at had; exact (Option.some.inj had).symm) | (simp [hne] at had; exact had.symm))) (fun u hu => by obtain ⟨x, -, rfl⟩ := List.mem_map.1 hu; rfl) (by omega) ?_; intro w4 own4 grow4))
      all_goals
        have HF := Lib.hid (HB3.out.grown grow4 HB3.out.size (fun r e => by cases e; exact Nat.le_refl _))
        go_ret
        refine ⟨⟨_, rfl, ?_⟩, HF.out⟩
        have hlen : k + 1 + (l.length - k) = l.length + 1 := by omega
        rw [hlen] at own4 ⊢
        rw [E.out]
        have hx : (l.take k ++ s.data.toList :: l.drop k).map encN = (l.take k).map encN ++ [.string s] ++ (l.drop k).map encN := by
          rw [List.map_append, List.map_cons, List.append_assoc]
          rfl
        rw [← hx] at own4
        exact str_of_row own4 (by omega)

set_option maxHeartbeats 2000000 in
theorem with_none (s : ByteArray) (w : World) (hs : s.size ≤ maxLen) :
    Calls Tryd.prog 48 #[.slice none 0 0, .string s] w fun e w' => (∃ v', e = .returned v' ∧ StrVal w' v' (withL [] s.data.toList)) ∧ Below w.heap.size w w' := by
  obtain ⟨i0, hi, hz0, hz1, hz2⟩ := info_parts infoS
  have HI := Lib.hid (show _ ∧ _ ∧ _ ∧ _ from ⟨hi, hz0, hz1, hz2⟩)
  clear hi hz0 hz1 hz2
  go_enter Tryd.func48, Tryd.ntmps48
  go_wp2
  refine wp_loop_rounds 1 ?_
  rw [rounds_succ]
  go_wp2
  refine wp_region_held_drew (S := fun _ => True) (by kernel_rfl) ?_ (fun hHeld => ?_)
  · trivial
  refine wpAnyH_take (i := 0) (v := ?_) (op_at rfl) (by kernel_rfl) (by kernel_rfl) (by kernel_rfl) (fun _ _ _ h => h) (Or.inl ⟨by rfl, ?_⟩) (by assumption) ?_
  rotate_left
  · (intro w hSw; (try dsimp only at hSw); go_simp; try with_reducible rfl)
  try simp only [Act.put, List.setIfInBounds_toArray, List.set_cons_zero, List.set_cons_succ]
  refine wpAnyH_take (i := 1) (v := ?_) (op_at rfl) (by kernel_rfl) (by kernel_rfl) (by kernel_rfl) (fun _ _ _ h => h) (Or.inl ⟨by rfl, ?_⟩) (by assumption) ?_
  rotate_left
  · (intro w hSw; (try dsimp only at hSw); go_simp; try with_reducible rfl)
  try simp only [Act.put, List.setIfInBounds_toArray, List.set_cons_zero, List.set_cons_succ]
  refine wpAnyH_take (i := 2) (v := ?_) (op_at rfl) (by kernel_rfl) (by kernel_rfl) (by kernel_rfl) (fun _ _ _ h => h) (Or.inl ⟨by rfl, ?_⟩) (by assumption) ?_
  rotate_left
  · (intro w hSw; (try dsimp only at hSw); go_simp; try with_reducible rfl)
  try simp only [Act.put, List.setIfInBounds_toArray, List.set_cons_zero, List.set_cons_succ]
  refine wpAnyH_take (i := 4) (v := ?_) (op_at rfl) (by kernel_rfl) (by kernel_rfl) (by kernel_rfl) (fun _ _ _ h => h) (Or.inl ⟨by rfl, ?_⟩) (by assumption) ?_
  rotate_left
  · (intro w hSw; (try dsimp only at hSw); go_simp; try with_reducible rfl)
  try simp only [Act.put, List.setIfInBounds_toArray, List.set_cons_zero, List.set_cons_succ]
  refine wpAnyH_take (i := 5) (v := ?_) (op_at rfl) (by kernel_rfl) (by kernel_rfl) (by kernel_rfl) (fun _ _ _ h => h) (Or.inl ⟨by rfl, ?_⟩) (by assumption) ?_
  rotate_left
  · (intro w hSw; (try dsimp only at hSw); go_simp; try with_reducible rfl)
  try simp only [Act.put, List.setIfInBounds_toArray, List.set_cons_zero, List.set_cons_succ]
  refine wpAnyH_take (i := 6) (v := ?_) (op_at rfl) (by kernel_rfl) (by kernel_rfl) (by kernel_rfl) (fun _ _ _ h => h) (Or.inl ⟨by rfl, ?_⟩) (by assumption) ?_
  rotate_left
  · (intro w hSw; (try dsimp only at hSw); go_simp; try with_reducible rfl)
  try simp only [Act.put, List.setIfInBounds_toArray, List.set_cons_zero, List.set_cons_succ]
  refine wpAnyH_ready (rs := [3]) (by kernel_rfl) (by simp) ?_
  refine AllReadyH.cons (op_at rfl) (fun K hK => ?_) AllReadyH.nil
  rw [if_pos (by rfl)]
  refine op_make_own _ _ _ _ rfl w.heap.size 9 i0 (.string ⟨#[]⟩) 1 Tryd.underlying34 HI.out.1 HI.out.2.1 HI.out.2.2.1 .i64 .i64 _ 1 rfl rfl (by rfl) (by rw [HI.out.2.2.2]; omega) (by unfold maxLen; omega) (Nat.le_refl _) ?_
  intro w1 own1 grow1
  refine hK.out _ _ ?_ (fun hHeld => ?_)
  · trivial
  clear hK K
  try simp only [Act.put, List.setIfInBounds_toArray, List.set_cons_zero, List.set_cons_succ]
  refine wpAnyH_ready (rs := [7]) (by kernel_rfl) (by simp) ?_
  refine AllReadyH.cons (op_at rfl) (fun K hK => ?_) AllReadyH.nil
  rw [if_pos (by rfl)]
  refine op_append_fits_any _ _ _ _ rfl w.heap.size 9 i0 1 Tryd.underlying34 HI.out.1 HI.out.2.2.1 w.heap.size 0 1 [] rfl own1 _ 0 _ [] rfl (by simp) (by intro h; exact ⟨rfl, rfl⟩) (fun ad had j u hu => by simp at hu) (by intro u hu; cases hu) (by omega) ?_
  intro w2 own2 grow2
  refine hK.out _ _ ?_ (fun hHeld => ?_)
  · trivial
  clear hK K
  try simp only [Act.put, List.setIfInBounds_toArray, List.set_cons_zero, List.set_cons_succ]
  refine wpAnyH_take (i := 8) (v := ?_) (op_at rfl) (by kernel_rfl) (by kernel_rfl) (by kernel_rfl) (fun _ _ _ h => h) (Or.inl ⟨by rfl, ?_⟩) (by assumption) ?_
  rotate_left
  · (intro w hSw; (try dsimp only at hSw); go_simp; try with_reducible rfl)
  try simp only [Act.put, List.setIfInBounds_toArray, List.set_cons_zero, List.set_cons_succ]
  refine wpAnyH_done (by kernel_rfl) ?_ _

  have HB2 := Lib.hid (show Below w.heap.size w w2 from (((Below.refl w.heap.size w).drew.grown grow1 (Nat.le_refl _) (fun r e => by cases e)).grown grow2 (by have := grow1.size; exact this) (fun r e => by cases e; exact Nat.le_refl _)))
  go_wp2_with (first
    | (refine wpList_append_fits_any _ rfl (.tmp 42) (.tmp 44) _ rfl w.heap.size 9 i0 1 Tryd.underlying34 HI.out.1 HI.out.2.2.1 w.heap.size 0 1 [] rfl (own2.alloc _) _ 1 _ [.string s] rfl rfl (by intro h; cases h) (fun ad had => by obtain rfl := Option.some.inj had; exact cell_one_new _ _ _) (fun u hu => by simp at hu; subst hu; rfl) (by omega) ?_; intro w3 own3 grow3; have OWN3 := Lib.hid own3; have HB3 := Lib.hid (show Below w.heap.size w w3 from (HB2.out.trans ((below1 _ _).mono HB2.out.size)).grown grow3 (by have := HB2.out.size; simp; omega) (fun r e => by cases e; exact Nat.le_refl _)); clear own3 grow3)
    | (refine wpList_append_fits_any _ rfl (.tmp 46) (.tmp 49) _ rfl w.heap.size 9 i0 1 Tryd.underlying34 HI.out.1 HI.out.2.2.1 w.heap.size 1 1 [.string s] rfl OWN3.out _ 0 _ [] rfl (by simp) (by intro h; exact ⟨rfl, rfl⟩) (fun ad had j u hu => by simp at hu) (fun u hu => by cases hu) (by omega) ?_; intro w4 own4 grow4))
  have HF := Lib.hid (HB3.out.grown grow4 HB3.out.size (fun r e => by cases e; exact Nat.le_refl _))
  go_ret
  refine ⟨⟨_, rfl, ?_⟩, HF.out⟩
  rw [withL_nil]
  exact str_of_row (l := [s.data.toList]) own4 (by omega)

theorem with_any (l : List Nm) (v : Value) (s : ByteArray) (w : World) (h : StrVal w v l) (hl : l.length ≤ 4000) (hs : s.size ≤ maxLen) :
    Calls Tryd.prog 48 #[v, .string s] w fun e w' => (∃ v', e = .returned v' ∧ StrVal w' v' (withL l s.data.toList)) ∧ Below w.heap.size w w' := by
  rcases h with ⟨rfl, rfl⟩ | ⟨b, cap, rfl, h0, h1, h2, hb, hc⟩
  · exact with_none s w hs
  · exact with_some l b cap s w h0 h1 h2 hb hc hl hs

end Go.Proofs.YtmjclolmoobfpaaDoor
