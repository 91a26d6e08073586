/-
  A name and a currency: the document's words for them are the program's.
-/
import Derived.Test.YtmjclolmoobfpaaDoorRefA
import Derived.Test.YtmjclolmoobfpaaDoorNames
namespace Go.Proofs.YtmjclolmoobfpaaDoor
open Go.RowKit
set_option maxRecDepth 100000

theorem u8_all {p : UInt8 → Bool} (h : ∀ n : Fin 256, p (UInt8.ofNat n.val) = true) (c : UInt8) : p c = true := by
  have := h ⟨c.toNat, c.toNat_lt⟩
  simpa using this
theorem inner_eq (c : UInt8) : isInner c = inC c := by
  have := u8_all (p := fun c => isInner c == inC c) (by decide +kernel) c
  simpa using this
theorem great_eq (c : UInt8) : isGreat c = (decide (65 ≤ (c.toNat : Int)) && decide ((c.toNat : Int) ≤ 90)) := by
  have := u8_all (p := fun c => isGreat c == (decide (65 ≤ (c.toNat : Int)) && decide ((c.toNat : Int) ≤ 90))) (by decide +kernel) c
  simpa using this
theorem takeWhile_all {α : Type} (p : α → Bool) : ∀ l : List α, (l.takeWhile p).length = l.length ↔ l.all p = true
  | [] => by simp
  | a :: l => by
    rw [List.takeWhile_cons]
    cases h : p a
    · simp [h]
    · simp [h, takeWhile_all p l]
theorem nameR_eq (l : List UInt8) : nameR l = nameL l := by
  unfold nameR nameL
  cases l with
  | nil => rfl
  | cons c l =>
    have ha : (c :: l).all isInner = (inC c && l.all inC) := by
      rw [List.all_cons, inner_eq]; congr 1
      exact List.all_congr rfl fun a => inner_eq a
    rw [ha, Bool.eq_iff_iff]
    have hsm : smC c = true → inC c = true := fun h => by
      unfold inC inI; rw [show smI (c.toNat : Int) = true from h]; rfl
    have hsm' : smC c = true ↔ 97 ≤ (c.toNat : Int) ∧ (c.toNat : Int) ≤ 122 := by unfold smC smI; simp
    have hsp : spanL (c :: l) = if smC c then 1 + (l.takeWhile inC).length else 0 := rfl
    have htw := takeWhile_all inC l
    simp only [Bool.and_eq_true, decide_eq_true_eq, List.length_cons, List.headD_cons]
    rw [hsp]
    by_cases hc : smC c = true
    · rw [if_pos hc]
      have := hsm hc
      have h2 := hsm'.1 hc
      constructor
      · rintro ⟨⟨-, h24⟩, hs⟩
        exact ⟨⟨h24, decide_eq_true h2.1, decide_eq_true h2.2⟩, this, htw.1 (by omega)⟩
      · rintro ⟨⟨h24, -⟩, -, hi⟩
        have := htw.2 hi
        exact ⟨⟨by omega, h24⟩, by omega⟩
    · rw [if_neg hc]
      constructor
      · rintro ⟨-, hs⟩; omega
      · rintro ⟨⟨-, h2⟩, -⟩; exact absurd (hsm'.2 ⟨of_decide_eq_true h2.1, of_decide_eq_true h2.2⟩) hc

theorem cur_get {s : ByteArray} (h : s.size = 3) : curL s.data.toList = (((decide (65 ≤ (s[0].toNat : Int)) && decide ((s[0].toNat : Int) ≤ 90)) && (decide (65 ≤ (s[1].toNat : Int)) && decide ((s[1].toNat : Int) ≤ 90))) && (decide (65 ≤ (s[2].toNat : Int)) && decide ((s[2].toNat : Int) ≤ 90))) := by
  unfold curL
  have hl : s.data.toList.length = 3 := by simpa using h
  rw [decide_eq_true hl]
  have e : s.data.toList = [s[0], s[1], s[2]] := by
    have := drop_at (s := s) (k := 0) (by omega)
    rw [List.drop_zero, drop_at (s := s) (k := 1) (by omega), drop_at (s := s) (k := 2) (by omega), drop_end (s := s) (k := 3) (by omega)] at this
    exact this
  rw [e]
  simp only [List.all_cons, List.all_nil, great_eq, Bool.and_true, Bool.true_and, Bool.and_assoc]
  rfl

set_option maxHeartbeats 1000000 in
theorem rIsCur_any (s : ByteArray) (w : World) (hs : s.size ≤ maxLen) :
    Calls Tryd.prog 55 #[.string s] w fun e w' => e = .returned (.bool (curL s.data.toList)) ∧ w = w' := by
  have hm := hs
  unfold maxLen at hm
  by_cases h3 : s.size = 3
  · have e := Lib.hid (cur_get h3)
    go_enter Tryd.func55, Tryd.ntmps55
    go_wp2
    go_loop [3] (fun i => ∃ k : Nat, k ≤ 3 ∧ i = .int .i64 k ∧ Hid (∀ j (h : j < s.size), j < k → 65 ≤ (s[j].toNat : Int) ∧ (s[j].toNat : Int) ≤ 90)) (fun i => 3 - (intOf i).toNat)
    case atStart => exact ⟨0, by omega, rfl, fun j h hj => by omega⟩
    case round =>
      obtain ⟨k, hk, rfl, HK⟩ := hrel
      by_cases hlt : k < 3
      · have hks : k < s.size := by omega
        have hF : Hid (¬ (65 ≤ (s[k].toNat : Int) ∧ (s[k].toNat : Int) ≤ 90) → curL s.data.toList = false) := by
          intro hb
          rw [e.out]
          have hk3 : k = 0 ∨ k = 1 ∨ k = 2 := by omega
          rw [Bool.eq_false_iff]
          intro hh
          simp only [Bool.and_eq_true, decide_eq_true_eq] at hh
          rcases hk3 with rfl | rfl | rfl
          · exact hb hh.1.1
          · exact hb hh.1.2
          · exact hb hh.2
        go_wp2
        all_goals first
          | (go_round
             case rel =>
               refine ⟨k + 1, by omega, by go_num, fun j h hj => ?_⟩
               by_cases ej : j = k
               · subst ej; exact ⟨by omega, by omega⟩
               · exact HK.out j h (by omega)
             case measure => simp [intOf]; omega)
          | (go_ret
             exact ⟨rretB (hF.out (by omega)).symm, rfl⟩)
      · have E := Lib.hid (show curL s.data.toList = true by
          rw [e.out]
          simp only [Bool.and_eq_true, decide_eq_true_eq]
          exact ⟨⟨HK.out 0 (by omega) (by omega), HK.out 1 (by omega) (by omega)⟩, HK.out 2 (by omega) (by omega)⟩)
        go_wp2
        go_ret
        exact ⟨rretB E.out.symm, rfl⟩
  · have e := Lib.hid (show curL s.data.toList = false by unfold curL; rw [decide_eq_false (by simpa using h3)]; rfl)
    go_enter Tryd.func55, Tryd.ntmps55
    go_wp2
    go_ret
    exact ⟨rretB e.out.symm, rfl⟩

end Go.Proofs.YtmjclolmoobfpaaDoor
