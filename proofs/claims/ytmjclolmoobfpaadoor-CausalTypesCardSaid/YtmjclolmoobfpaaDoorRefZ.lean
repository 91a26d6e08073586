/-
  The document's Type, Check, Horizon, Size tell what the program's tell.
-/
import Derived.Test.YtmjclolmoobfpaaDoorRefY
namespace Go.Proofs.YtmjclolmoobfpaaDoor
open Go.RowKit
set_option maxRecDepth 100000

theorem code_index {x : Int} (h : isLet x) : Lib.indexByte [110, 98, 100, 63, 99] x.toNat.toUInt8 = codeI x := by
  rcases h with rfl | rfl | rfl | rfl <;> decide
theorem typeB_code {t : Tm} (h : rightB t = true) : typeB t = codeI (letterB t) := by
  unfold typeB
  rw [if_pos h]
  rcases letter_let t with h0 | h0
  · unfold rightB at h
    rw [Bool.and_eq_true] at h
    exact absurd h0 (of_decide_eq_true h.2)
  · exact code_index h0
theorem right_typed {t : Tm} (h : smallB t = true) : (typedO t).isSome = rightB t := by
  rw [typed_letter]
  unfold byLetter rightB
  rw [h]
  by_cases h0 : letterB t = 0
  · rw [if_pos h0, decide_eq_false (fun h => h h0)]; rfl
  · rw [if_neg h0, decide_eq_true h0]; rfl
theorem right_typed' {t : Tm} (h : rightB t = true) : typedO t = some (typeB t) := by
  rw [typeB_code h, typed_letter]
  unfold byLetter
  unfold rightB at h
  rw [Bool.and_eq_true] at h
  rw [if_neg (of_decide_eq_true h.2)]
theorem not_right {t : Tm} (h : smallB t = false) : rightB t = false := by unfold rightB; rw [h]; rfl
theorem typeB_zero {t : Tm} (h : rightB t = false) : typeB t = 0 := by unfold typeB; rw [if_neg (by rw [h]; decide)]

mutual
theorem letter_terms : ∀ (t : Tm), letterB t ≠ 0 → ∀ x ∈ t.terms, letterB x ≠ 0
  | .mk op n s ks, h, x, hx => by
    rw [Tm.terms] at hx
    rcases List.mem_cons.1 hx with e | hx
    · rw [e]; exact h
    · exact letter_termss ks (fun k hk => letterB_kid h hk) x hx
theorem letter_termss : ∀ (ks : List Tm), (∀ k ∈ ks, letterB k ≠ 0) → ∀ x ∈ termss ks, letterB x ≠ 0
  | [], _, x, hx => by rw [termss] at hx; cases hx
  | k :: ks, h, x, hx => by
    rw [termss] at hx
    rcases List.mem_append.1 hx with hx | hx
    · exact letter_terms k (h k (by simp)) x hx
    · exact letter_termss ks (fun q hq => h q (by simp [hq])) x hx
end
theorem day_of {x : Tm} (h : letterB x ≠ 0) (ho : x.op = 29 ∨ x.op = 30 ∨ x.op = 31) : 0 ≤ x.n := by
  cases x with
  | mk op n s ks =>
    rw [letterB] at h
    split at h
    · rename_i hc
      have hf := hc.2.2
      have ho' : op = 29 ∨ op = 30 ∨ op = 31 := ho
      show 0 ≤ n
      rcases ho' with rfl | rfl | rfl
      all_goals
        unfold fieldsB at hf
        simp only [inB] at hf
        first
          | (rw [if_neg (by decide), if_pos (by decide)] at hf; simp at hf; omega)
          | (rw [if_neg (by decide), if_neg (by decide), if_neg (by decide), if_neg (by decide), if_neg (by decide), if_pos (by decide)] at hf; simp at hf; omega)
    · exact absurd rfl h
def dayed (l : List Tm) : Prop := ∀ x ∈ l, (x.op = 29 ∨ x.op = 30 ∨ x.op = 31) → 0 ≤ x.n
mutual
theorem hB_last : ∀ (t : Tm), dayed t.terms → hB t = lastF t.terms
  | .mk op n s ks, h => by
    rw [Tm.terms] at h ⊢
    have h1 := hBs_last ks (if op = 29 ∨ op = 30 ∨ op = 31 then n else 0) (by
      split
      · rename_i ho; exact h (.mk op n s ks) (by simp) ho
      · exact Int.le_refl _) (fun x hx => h x (List.mem_cons_of_mem _ hx))
    rw [hB, h1]
    show _ = List.foldl lastS (lastS 0 (.mk op n s ks)) _
    congr 1
    unfold lastS
    show (if op = 29 ∨ op = 30 ∨ op = 31 then n else 0) = if op = 29 ∨ op = 30 ∨ op = 31 then max 0 n else 0
    split
    · rename_i ho
      have : 0 ≤ n := h (.mk op n s ks) (by simp) ho
      omega
    · rfl
theorem hBs_last : ∀ (ks : List Tm) (m : Int), 0 ≤ m → dayed (termss ks) → hBs ks m = (termss ks).foldl lastS m
  | [], m, _, _ => by rw [hBs, termss]; rfl
  | k :: ks, m, hm, h => by
    rw [termss] at h ⊢
    have h1 := hB_last k (fun x hx => h x (List.mem_append_left _ hx))
    have h0 : 0 ≤ lastF k.terms := last_le k.terms 0
    rw [hBs, h1, hBs_last ks _ (by omega) (fun x hx => h x (List.mem_append_right _ hx)), List.foldl_append]
    congr 1
    unfold lastF
    rw [← last_max]
    congr 1
    omega
end
theorem horizon_right {t : Tm} (h : rightB t = true) : hB t = horizonB t := by
  unfold horizonB
  rw [if_pos h]
  refine hB_last t fun x hx ho => day_of (letter_terms t ?_ x hx) ho
  unfold rightB at h
  rw [Bool.and_eq_true] at h
  exact of_decide_eq_true h.2

set_option maxHeartbeats 2000000 in
theorem rType_any (t : Tm) (a : Option Addr) (cap : Nat) (w : World) (h : t.hold w.heap.size w a cap) :
    Calls Tryd.prog 12 #[.agg #[.int .i64 t.op, .int .i64 t.n, .string t.s, .slice a t.kids.length cap]] w fun e W' => e = .returned (.tuple #[.int .i64 (typeB t), .bool (rightB t)]) ∧ Below w.heap.size w W' := by
  have kk := h.bounds
  have wk1 := kk.1
  have wk2 := kk.2.1
  have kk3 := kk.2.2.2
  obtain ⟨W1, hW1⟩ : ∃ W1, W1 = w.alloc (.cells #[.int .i64 t.op, .int .i64 t.n, .string t.s, .slice a t.kids.length cap] 24) := ⟨_, rfl⟩
  have hB1 : Below w.heap.size w W1 := hW1 ▸ below1 _ _
  have hsz : W1.heap.size = w.heap.size + 1 := by rw [hW1]; simp
  have hc := (hW1 ▸ Box4.new w 24 (.int .i64 t.op) (.int .i64 t.n) (.string t.s) (.slice a t.kids.length cap) : Box4 W1 w.heap.size 24 (.int .i64 t.op) (.int .i64 t.n) (.string t.s) (.slice a t.kids.length cap)).cells
  have HC := Lib.hid (show ∀ cur, Below W1.heap.size W1 cur → _ ∧ _ ∧ _ ∧ _ from fun cur (hb : Below W1.heap.size W1 cur) => ⟨(hb.cell (p := ⟨w.heap.size, 0, none⟩) (show w.heap.size < W1.heap.size by omega)).trans hc.1, (hb.cell (p := ⟨w.heap.size, 1, none⟩) (show w.heap.size < W1.heap.size by omega)).trans hc.2.1, (hb.cell (p := ⟨w.heap.size, 2, none⟩) (show w.heap.size < W1.heap.size by omega)).trans hc.2.2.1, (hb.cell (p := ⟨w.heap.size, 3, none⟩) (show w.heap.size < W1.heap.size by omega)).trans hc.2.2.2⟩)
  have HH := Lib.hid (show ∀ cur, Below W1.heap.size W1 cur → t.hold cur.heap.size cur a cap from fun cur hb => ((h.below hB1).below (hb.mono hB1.size)).mono (Nat.le_trans hB1.size hb.size))
  have HB1 := Lib.hid hB1
  have CS := Lib.hid (rSmall_any t a cap W1 (HH.out W1 (Below.refl _ _)))
  obtain ⟨x0, x1, x2, x3⟩ := hc
  clear kk h hB1 hsz
  cases hs : smallB t
  · have e1 := Lib.hid (not_right hs)
    have e2 := Lib.hid (typeB_zero e1.out)
    go_enter Tryd.func12, Tryd.ntmps12
    go_wp2_with (go_at_call 26; rw [← hW1]; refine CS.out.mono ?_; rintro e w' ⟨rfl, hb⟩; rw [hs])
    go_ret2
    exact ⟨ret_pair e2.out.symm e1.out.symm, HB1.out.trans (hb.mono HB1.out.size)⟩
  · have hr := right_typed hs
    have hsm := smallB_iff.1 hs
    have CT := Lib.hid (show ∀ cur, Below W1.heap.size W1 cur → Calls Tryd.prog 27 #[.agg #[.int .i64 t.op, .int .i64 t.n, .string t.s, .slice a t.kids.length cap], .int .i64 1] cur (TypedPost t cur) from fun cur hb =>
      typed_any _ t (Nat.lt_succ_self _) 1 a cap _ cur (Nat.le_refl _) (by omega) (HH.out cur hb) (Nat.le_refl _))
    clear hsm
    cases hR : rightB t
    · rw [hR] at hr
      have HRr := Lib.hid hr
      have e2 := Lib.hid (typeB_zero hR)
      clear hr
      go_enter Tryd.func12, Tryd.ntmps12
      go_wp2_with (first
        | (go_at_call 26; rw [← hW1]; refine CS.out.mono ?_; rintro e w1 ⟨rfl, hb1⟩; rw [hs]; clear x0 x1 x2 x3; obtain ⟨x0, x1, x2, x3⟩ := HC.out _ hb1)
        | (go_at_call 27; refine (CT.out _ hb1).mono ?_; rintro e w2 ⟨x, rfl, -, hb2⟩; rw [HRr.out]))
      go_ret2
      exact ⟨ret_pair e2.out.symm rfl, HB1.out.trans ((hb1.trans (hb2.mono hb1.size)).mono HB1.out.size)⟩
    · rw [hR] at hr
      have HRr := Lib.hid hr
      have e2 := Lib.hid (right_typed' hR)
      clear hr
      go_enter Tryd.func12, Tryd.ntmps12
      go_wp2_with (first
        | (go_at_call 26; rw [← hW1]; refine CS.out.mono ?_; rintro e w1 ⟨rfl, hb1⟩; rw [hs]; clear x0 x1 x2 x3; obtain ⟨x0, x1, x2, x3⟩ := HC.out _ hb1)
        | (go_at_call 27; refine (CT.out _ hb1).mono ?_; rintro e w2 ⟨x, rfl, hx, hb2⟩; rw [HRr.out, hx _ e2.out]; clear hx))
      go_ret2
      exact ⟨rfl, HB1.out.trans ((hb1.trans (hb2.mono hb1.size)).mono HB1.out.size)⟩

end Go.Proofs.YtmjclolmoobfpaaDoor
