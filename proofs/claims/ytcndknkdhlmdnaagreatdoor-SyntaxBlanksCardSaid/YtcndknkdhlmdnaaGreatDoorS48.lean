/-
  Complement: what one text more of SynQ is rested on.
-/
import Derived.Test.YtcndknkdhlmdnaaGreatDoorS08
import Derived.Test.YtcndknkdhlmdnaaGreatDoorS07
import Derived.Test.YtcndknkdhlmdnaaGreatDoorS06
import Derived.Test.YtcndknkdhlmdnaaGreatDoorS46
import Derived.Test.YtcndknkdhlmdnaaGreatDoorS04
import Derived.Test.YtcndknkdhlmdnaaGreatDoorS01
import Derived.Test.YtcndknkdhlmdnaaGreatDoorRows
import Derived.WalkKit
import Derived.Lib.LaidTab
import Derived.Test.YtcndknkdhlmdnaaGreatDoorS02
import Derived.Lib.SlTrimSet
import Derived.Lib.Strings
import Derived.Lib.IndexMore
import Derived.Lib.IndexBytes
import Derived.Test.YtcndknkdhlmdnaaGreatDoorS29
import Derived.Test.YtcndknkdhlmdnaaGreatDoorS30
import Derived.Test.YtcndknkdhlmdnaaGreatDoorS34
namespace Go.Proofs.YtcndknkdhlmdnaaGreatDoor
set_option maxRecDepth 100000

theorem tw_stop {p : UInt8 → Bool} (h0 : p 0 = false) : ∀ l : List UInt8, p ((l.drop (l.takeWhile p).length).headD 0) = false
  | [] => h0
  | c :: l => by
    rw [List.takeWhile_cons]
    cases hp : p c with
    | false => exact hp
    | true => exact tw_stop h0 l
theorem tw_get {p : UInt8 → Bool} : ∀ (l : List UInt8) (i : Nat), i < (l.takeWhile p).length → p ((l.drop i).headD 0) = true
  | [], i, h => by simp at h
  | c :: l, i, h => by
    rw [List.takeWhile_cons] at h
    cases hp : p c with
    | false => rw [hp] at h; simp at h
    | true =>
      rw [hp] at h
      cases i with
      | zero => exact hp
      | succ i => exact tw_get l i (by simpa using h)
theorem last_take : ∀ (l : List UInt8) (n : Nat), n + 1 ≤ l.length → (l.take (n + 1)).getLastD 0 = (l.drop n).headD 0
  | [], n, h => by simp at h
  | c :: l, 0, _ => rfl
  | c :: l, n + 1, h => by
    have := last_take l n (by simpa using h)
    rw [List.take_succ_cons, List.drop_succ_cons, ← this]
    cases l with
    | nil => simp at h
    | cons d l => rfl
theorem in_dg (c : UInt8) (h : inC c = false) : dgC c = false := by
  have := u8_all (p := fun c => inC c || !(dgC c)) (by decide +kernel) c
  simpa [h] using this
theorem gr_dg (c : UInt8) (h : grC c = true) : dgC c = false := by
  have := u8_all (p := fun c => !(grC c) || !(dgC c)) (by decide +kernel) c
  simpa [h] using this
theorem span_stop {u : List UInt8} (h : 1 ≤ spanL u) : dgC ((u.drop (spanL u)).headD 0) = false := by
  cases u with
  | nil => exact absurd h (by decide)
  | cons c r =>
    have e : spanL (c :: r) = if smC c then 1 + (r.takeWhile inC).length else 0 := rfl
    cases hc : smC c with
    | false => rw [e, hc] at h; simp at h
    | true =>
      rw [e, hc, if_pos rfl, Nat.add_comm, List.drop_succ_cons]
      exact in_dg _ (tw_stop (by decide) r)
theorem dig_stop (u : List UInt8) : dgC ((u.drop (digR u)).headD 0) = false := tw_stop (by decide) u
theorem tok_last {c : UInt8} {r : List UInt8} {p : Int} {t : Tk} {n : Nat} (h : tokS c r p = .ok (t, n)) (hd : dgC (((c :: r).take n).getLastD 0) = true) : dgC (((c :: r).drop n).headD 0) = false := by
  have hlen := tok_len h
  obtain ⟨m, rfl⟩ : ∃ m, n = m + 1 := ⟨n - 1, by omega⟩
  rw [last_take _ _ (by rw [List.length_cons]; omega)] at hd
  unfold tokS at h
  split at h
  · rename_i h1
    have hs : 1 ≤ spanL (c :: r) := by show 1 ≤ (if smC c then 1 + (r.takeWhile inC).length else 0); rw [if_pos h1]; omega
    unfold namedS at h
    simp only at h
    split at h
    · split at h
      · cases h
      · rename_i hx
        have hn := (Prod.mk.inj (Except.ok.inj h)).2
        rw [← hn]
        have := span_stop (u := (c :: r).drop (spanL (c :: r) + 1)) (by omega)
        rwa [List.drop_drop] at this
    · split at h
      · cases h
      · have hn := (Prod.mk.inj (Except.ok.inj h)).2
        rw [← hn]
        exact span_stop hs
  · split at h
    · unfold numS at h
      split at h
      · rename_i hda
        split at h
        · cases h
        · split at h
          · cases h; exact ((date_parts _).1 hda).2.2
          · cases h
      · split at h
        · cases h
        · split at h
          · have hn := (Prod.mk.inj (Except.ok.inj h)).2
            rw [← hn]
            unfold numR
            split
            · rename_i hc
              have := dig_stop ((c :: r).drop (digR (c :: r) + 1))
              rwa [List.drop_drop] at this
            · exact dig_stop _
          · cases h
    · rename_i h2
      split at h
      · unfold quotS at h
        split at h
        · cases h
        · rename_i hq
          split at h
          · cases h
            rw [List.drop_succ_cons] at hd
            rw [Classical.not_not.1 hq] at hd
            exact absurd hd (by decide)
          · cases h
      · split at h
        · unfold curS at h
          split at h
          · rename_i h3
            cases h
            have := tw_get (p := grC) (c :: r) 2 (by show 2 < greR (c :: r); omega)
            rw [gr_dg _ this] at hd
            cases hd
          · cases h
        · unfold markS at h
          split at h
          · rename_i hx
            cases h
            rw [List.drop_succ_cons, List.drop_zero, hx.2] at hd
            exact absurd hd (by decide)
          · split at h
            · cases h
              exact absurd hd h2
            · cases h
end Go.Proofs.YtcndknkdhlmdnaaGreatDoor
