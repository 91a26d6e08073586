/-
  CausalKids, the plain law: a kid of a right term is right, and no greater.
-/
import Derived.Test.YtmjclolmoobfpaaDoorCausR
namespace Go.Proofs.YtmjclolmoobfpaaDoor
open Go.RowKit
set_option maxRecDepth 100000

theorem lettersB_some : ∀ (ks : List Tm) (cs : List UInt8) (x y : Int), lettersB ks cs x = some y → ∀ k ∈ ks, letterB k ≠ 0
  | [], _, _, _, _, k, hk => by cases hk
  | _ :: _, [], _, _, h, _, _ => by rw [lettersB] at h; cases h
  | q :: ks, c :: cs, x, y, h, k, hk => by
    rw [lettersB] at h
    split at h
    · cases h
    · rename_i h0
      rcases List.mem_cons.1 hk with rfl | hk
      · exact h0
      · split at h
        · exact lettersB_some ks cs _ y h k hk
        · split at h
          · cases h
          · exact lettersB_some ks cs x y h k hk
theorem letterB_kid {t : Tm} (h : letterB t ≠ 0) {k : Tm} (hk : k ∈ t.kids) : letterB k ≠ 0 := by
  cases t with
  | mk op n s ks =>
    rw [letterB] at h
    split at h
    · split at h
      · exact absurd rfl h
      · rename_i x hx
        exact lettersB_some ks _ 0 x hx k hk
    · exact absurd rfl h
theorem counts_kid {ks : List Tm} {k : Tm} (hk : k ∈ ks) : k.count ≤ counts ks ∧ k.tall ≤ talls ks := by
  induction ks with
  | nil => cases hk
  | cons q ks ih =>
    rw [counts, talls]
    rcases List.mem_cons.1 hk with rfl | hk
    · omega
    · have := ih hk
      omega
theorem count_kid {t k : Tm} (hk : k ∈ t.kids) : k.count < t.count ∧ k.tall < t.tall := by
  cases t with
  | mk op n s ks =>
    have := counts_kid (show k ∈ ks from hk)
    rw [Tm.count, Tm.tall]
    omega
theorem right_kid {t k : Tm} (h : rightB t = true) (hk : k ∈ t.kids) : rightB k = true := by
  have hs := small_of_right h
  unfold rightB at h ⊢
  rw [Bool.and_eq_true] at h ⊢
  have := count_kid hk
  exact ⟨decide_eq_true (by omega), decide_eq_true (letterB_kid (of_decide_eq_true h.2) hk)⟩
theorem size_kid {t k : Tm} (h : rightB t = true) (hk : k ∈ t.kids) : sizeB k < sizeB t := by
  unfold sizeB
  rw [if_pos h, if_pos (right_kid h hk)]
  have := count_kid hk
  omega
theorem lastS_le (m : Int) (x : Tm) : m ≤ lastS m x := by unfold lastS; split <;> omega
theorem lastS_mono {m m' : Int} (h : m ≤ m') (x : Tm) : lastS m x ≤ lastS m' x := by unfold lastS; split <;> omega
theorem last_le : ∀ (l : List Tm) (m : Int), m ≤ l.foldl lastS m
  | [], _ => Int.le_refl _
  | x :: l, m => Int.le_trans (lastS_le m x) (last_le l _)
theorem last_mono : ∀ (l : List Tm) {m m' : Int}, m ≤ m' → l.foldl lastS m ≤ l.foldl lastS m'
  | [], _, _, h => h
  | x :: l, _, _, h => last_mono l (lastS_mono h x)
theorem last_infix {l l' : List Tm} (h : l <:+: l') : lastF l ≤ lastF l' := by
  obtain ⟨a, b, rfl⟩ := h
  unfold lastF
  rw [List.foldl_append, List.foldl_append]
  exact Int.le_trans (last_mono l (last_le a 0)) (last_le b _)
theorem terms_kid' {ks : List Tm} {k : Tm} (hk : k ∈ ks) : k.terms <:+: termss ks := by
  induction ks with
  | nil => cases hk
  | cons q ks ih =>
    rw [termss]
    rcases List.mem_cons.1 hk with rfl | hk
    · exact (List.prefix_append _ _).isInfix
    · obtain ⟨a, b, e⟩ := ih hk
      exact ⟨q.terms ++ a, b, by rw [← e]; simp [List.append_assoc]⟩
theorem terms_kid {t k : Tm} (hk : k ∈ t.kids) : k.terms <:+: t.terms := by
  cases t with
  | mk op n s ks =>
    obtain ⟨a, b, e⟩ := terms_kid' (show k ∈ ks from hk)
    exact ⟨.mk op n s ks :: a, b, by rw [Tm.terms, ← e]; simp⟩
theorem horizon_kid {t k : Tm} (h : rightB t = true) (hk : k ∈ t.kids) : horizonB k ≤ horizonB t := by
  unfold horizonB
  rw [if_pos h, if_pos (right_kid h hk)]
  exact last_infix (terms_kid hk)

end Go.Proofs.YtmjclolmoobfpaaDoor
