/-
  The walks of usanceref14.kids, last.
-/
import Derived.Test.YtmjclolmoobfpaaDoorRefT
import Derived.Test.YtmjclolmoobfpaaDoorRefF
import Derived.Test.YtmjclolmoobfpaaDoorTypesLaw
namespace Go.Proofs.YtmjclolmoobfpaaDoor
open Go.RowKit
set_option maxRecDepth 100000

/-- whole numbers that lie beside each other -/
def IntsAt (W : World) (a : Option Addr) (l : List Int) : Prop := ∀ j (h : j < l.length), ∃ b off, a = some ⟨b, off, none⟩ ∧ b < W.heap.size ∧ W.cell? ⟨b, off + j, none⟩ = some (.int .i64 l[j])
theorem IntsAt.below {W W' : World} {a : Option Addr} {l : List Int} (h : IntsAt W a l) (hb : Below W.heap.size W W') : IntsAt W' a l := fun j hj => by
  obtain ⟨b, off, e, hlt, hc⟩ := h j hj
  exact ⟨b, off, e, Nat.lt_of_lt_of_le hlt hb.size, (hb.cell (p := ⟨b, off + j, none⟩) hlt).trans hc⟩
theorem IntsAt.nil (W : World) (a : Option Addr) : IntsAt W a [] := fun j h => absurd h (by simp)
def KidsPost (want : List Int) (t : Int) (w : World) (e : Ending) (w' : World) : Prop :=
  ∃ a, e = .returned (.tuple #[.slice a want.length want.length, .int .i64 t, .bool true]) ∧ IntsAt w' a want ∧ Below w.heap.size w w'
theorem kids1 (w : World) (x : Int) (t : TypeId) : IntsAt (w.alloc (.cells #[.int .i64 x] t)) (some ⟨w.heap.size, 0, none⟩) [x] := fun j h => by
  have : j = 0 := by simpa using h
  subst this
  exact ⟨_, _, rfl, by simp, by simp⟩
theorem kids2 (w : World) (x y : Int) (t : TypeId) : IntsAt (w.alloc (.cells #[.int .i64 x, .int .i64 y] t)) (some ⟨w.heap.size, 0, none⟩) [x, y] := fun j h => by
  have : j = 0 ∨ j = 1 := by simp at h; omega
  rcases this with rfl | rfl
  all_goals exact ⟨_, _, rfl, by simp, by simp⟩
theorem kids3 (w : World) (x y z : Int) (t : TypeId) : IntsAt (w.alloc (.cells #[.int .i64 x, .int .i64 y, .int .i64 z] t)) (some ⟨w.heap.size, 0, none⟩) [x, y, z] := fun j h => by
  have : j = 0 ∨ j = 1 ∨ j = 2 := by simp at h; omega
  rcases this with rfl | rfl | rfl
  all_goals exact ⟨_, _, rfl, by simp, by simp⟩

set_option maxHeartbeats 1000000 in
theorem rkids_1 (w : World) : Calls Tryd.prog 45 #[.int .i64 1] w (KidsPost [] 0 w) := by
  go_enter Tryd.func45, Tryd.ntmps45
  go_wp2
  go_ret3
  exact ⟨none, rfl, IntsAt.nil _ _, Below.refl _ _⟩
set_option maxHeartbeats 1000000 in
theorem rkids_2 (w : World) : Calls Tryd.prog 45 #[.int .i64 2] w (KidsPost [] 1 w) := by
  go_enter Tryd.func45, Tryd.ntmps45
  go_wp2
  go_ret3
  exact ⟨none, rfl, IntsAt.nil _ _, Below.refl _ _⟩
set_option maxHeartbeats 1000000 in
theorem rkids_3 (w : World) : Calls Tryd.prog 45 #[.int .i64 3] w (KidsPost [] 2 w) := by
  go_enter Tryd.func45, Tryd.ntmps45
  go_wp2
  go_ret3
  exact ⟨none, rfl, IntsAt.nil _ _, Below.refl _ _⟩
set_option maxHeartbeats 1000000 in
theorem rkids_4 (w : World) : Calls Tryd.prog 45 #[.int .i64 4] w (KidsPost [] 0 w) := by
  go_enter Tryd.func45, Tryd.ntmps45
  go_wp2
  go_ret3
  exact ⟨none, rfl, IntsAt.nil _ _, Below.refl _ _⟩
set_option maxHeartbeats 1000000 in
theorem rkids_5 (w : World) : Calls Tryd.prog 45 #[.int .i64 5] w (KidsPost [] 2 w) := by
  go_enter Tryd.func45, Tryd.ntmps45
  go_wp2
  go_ret3
  exact ⟨none, rfl, IntsAt.nil _ _, Below.refl _ _⟩
set_option maxHeartbeats 1000000 in
theorem rkids_6 (w : World) : Calls Tryd.prog 45 #[.int .i64 6] w (KidsPost [0] 0 w) := by
  go_enter Tryd.func45, Tryd.ntmps45
  go_wp2
  go_ret3
  exact ⟨_, rfl, kids1 _ 0 _, below1 _ _⟩
set_option maxHeartbeats 1000000 in
theorem rkids_7 (w : World) : Calls Tryd.prog 45 #[.int .i64 7] w (KidsPost [0, 0] 0 w) := by
  go_enter Tryd.func45, Tryd.ntmps45
  go_wp2
  go_ret3
  exact ⟨_, rfl, kids2 _ 0 0 _, below1 _ _⟩
set_option maxHeartbeats 1000000 in
theorem rkids_8 (w : World) : Calls Tryd.prog 45 #[.int .i64 8] w (KidsPost [0, 0] 0 w) := by
  go_enter Tryd.func45, Tryd.ntmps45
  go_wp2
  go_ret3
  exact ⟨_, rfl, kids2 _ 0 0 _, below1 _ _⟩
set_option maxHeartbeats 1000000 in
theorem rkids_9 (w : World) : Calls Tryd.prog 45 #[.int .i64 9] w (KidsPost [0, 0] 0 w) := by
  go_enter Tryd.func45, Tryd.ntmps45
  go_wp2
  go_ret3
  exact ⟨_, rfl, kids2 _ 0 0 _, below1 _ _⟩
set_option maxHeartbeats 1000000 in
theorem rkids_10 (w : World) : Calls Tryd.prog 45 #[.int .i64 10] w (KidsPost [0, 0] 0 w) := by
  go_enter Tryd.func45, Tryd.ntmps45
  go_wp2
  go_ret3
  exact ⟨_, rfl, kids2 _ 0 0 _, below1 _ _⟩
set_option maxHeartbeats 1000000 in
theorem rkids_11 (w : World) : Calls Tryd.prog 45 #[.int .i64 11] w (KidsPost [0, 0] 1 w) := by
  go_enter Tryd.func45, Tryd.ntmps45
  go_wp2
  go_ret3
  exact ⟨_, rfl, kids2 _ 0 0 _, below1 _ _⟩
set_option maxHeartbeats 1000000 in
theorem rkids_12 (w : World) : Calls Tryd.prog 45 #[.int .i64 12] w (KidsPost [0, 0] 1 w) := by
  go_enter Tryd.func45, Tryd.ntmps45
  go_wp2
  go_ret3
  exact ⟨_, rfl, kids2 _ 0 0 _, below1 _ _⟩
set_option maxHeartbeats 1000000 in
theorem rkids_13 (w : World) : Calls Tryd.prog 45 #[.int .i64 13] w (KidsPost [0, 0] 1 w) := by
  go_enter Tryd.func45, Tryd.ntmps45
  go_wp2
  go_ret3
  exact ⟨_, rfl, kids2 _ 0 0 _, below1 _ _⟩
set_option maxHeartbeats 1000000 in
theorem rkids_14 (w : World) : Calls Tryd.prog 45 #[.int .i64 14] w (KidsPost [1] 1 w) := by
  go_enter Tryd.func45, Tryd.ntmps45
  go_wp2
  go_ret3
  exact ⟨_, rfl, kids1 _ 1 _, below1 _ _⟩
set_option maxHeartbeats 1000000 in
theorem rkids_15 (w : World) : Calls Tryd.prog 45 #[.int .i64 15] w (KidsPost [1, 1] 1 w) := by
  go_enter Tryd.func45, Tryd.ntmps45
  go_wp2
  go_ret3
  exact ⟨_, rfl, kids2 _ 1 1 _, below1 _ _⟩
set_option maxHeartbeats 1000000 in
theorem rkids_16 (w : World) : Calls Tryd.prog 45 #[.int .i64 16] w (KidsPost [1, 1] 1 w) := by
  go_enter Tryd.func45, Tryd.ntmps45
  go_wp2
  go_ret3
  exact ⟨_, rfl, kids2 _ 1 1 _, below1 _ _⟩
set_option maxHeartbeats 1000000 in
theorem rkids_17 (w : World) : Calls Tryd.prog 45 #[.int .i64 17] w (KidsPost [2, 2] 1 w) := by
  go_enter Tryd.func45, Tryd.ntmps45
  go_wp2
  go_ret3
  exact ⟨_, rfl, kids2 _ 2 2 _, below1 _ _⟩
set_option maxHeartbeats 1000000 in
theorem rkids_18 (w : World) : Calls Tryd.prog 45 #[.int .i64 18] w (KidsPost [2, 0] 2 w) := by
  go_enter Tryd.func45, Tryd.ntmps45
  go_wp2
  go_ret3
  exact ⟨_, rfl, kids2 _ 2 0 _, below1 _ _⟩
set_option maxHeartbeats 1000000 in
theorem rkids_19 (w : World) : Calls Tryd.prog 45 #[.int .i64 19] w (KidsPost [2, 0] 2 w) := by
  go_enter Tryd.func45, Tryd.ntmps45
  go_wp2
  go_ret3
  exact ⟨_, rfl, kids2 _ 2 0 _, below1 _ _⟩
set_option maxHeartbeats 1000000 in
theorem rkids_20 (w : World) : Calls Tryd.prog 45 #[.int .i64 20] w (KidsPost [2, 2] 0 w) := by
  go_enter Tryd.func45, Tryd.ntmps45
  go_wp2
  go_ret3
  exact ⟨_, rfl, kids2 _ 2 2 _, below1 _ _⟩
set_option maxHeartbeats 1000000 in
theorem rkids_21 (w : World) : Calls Tryd.prog 45 #[.int .i64 21] w (KidsPost [2, 2] 0 w) := by
  go_enter Tryd.func45, Tryd.ntmps45
  go_wp2
  go_ret3
  exact ⟨_, rfl, kids2 _ 2 2 _, below1 _ _⟩
set_option maxHeartbeats 1000000 in
theorem rkids_23 (w : World) : Calls Tryd.prog 45 #[.int .i64 23] w (KidsPost [] 4 w) := by
  go_enter Tryd.func45, Tryd.ntmps45
  go_wp2
  go_ret3
  exact ⟨none, rfl, IntsAt.nil _ _, Below.refl _ _⟩
set_option maxHeartbeats 1000000 in
theorem rkids_24 (w : World) : Calls Tryd.prog 45 #[.int .i64 24] w (KidsPost [] 4 w) := by
  go_enter Tryd.func45, Tryd.ntmps45
  go_wp2
  go_ret3
  exact ⟨none, rfl, IntsAt.nil _ _, Below.refl _ _⟩
set_option maxHeartbeats 1000000 in
theorem rkids_25 (w : World) : Calls Tryd.prog 45 #[.int .i64 25] w (KidsPost [4] 4 w) := by
  go_enter Tryd.func45, Tryd.ntmps45
  go_wp2
  go_ret3
  exact ⟨_, rfl, kids1 _ 4 _, below1 _ _⟩
set_option maxHeartbeats 1000000 in
theorem rkids_26 (w : World) : Calls Tryd.prog 45 #[.int .i64 26] w (KidsPost [0, 4] 4 w) := by
  go_enter Tryd.func45, Tryd.ntmps45
  go_wp2
  go_ret3
  exact ⟨_, rfl, kids2 _ 0 4 _, below1 _ _⟩
set_option maxHeartbeats 1000000 in
theorem rkids_27 (w : World) : Calls Tryd.prog 45 #[.int .i64 27] w (KidsPost [4, 4] 4 w) := by
  go_enter Tryd.func45, Tryd.ntmps45
  go_wp2
  go_ret3
  exact ⟨_, rfl, kids2 _ 4 4 _, below1 _ _⟩
set_option maxHeartbeats 1000000 in
theorem rkids_28 (w : World) : Calls Tryd.prog 45 #[.int .i64 28] w (KidsPost [1, 4, 4] 4 w) := by
  go_enter Tryd.func45, Tryd.ntmps45
  go_wp2
  go_ret3
  exact ⟨_, rfl, kids3 _ 1 4 4 _, below1 _ _⟩
set_option maxHeartbeats 1000000 in
theorem rkids_29 (w : World) : Calls Tryd.prog 45 #[.int .i64 29] w (KidsPost [4] 4 w) := by
  go_enter Tryd.func45, Tryd.ntmps45
  go_wp2
  go_ret3
  exact ⟨_, rfl, kids1 _ 4 _, below1 _ _⟩
set_option maxHeartbeats 1000000 in
theorem rkids_30 (w : World) : Calls Tryd.prog 45 #[.int .i64 30] w (KidsPost [1, 4] 4 w) := by
  go_enter Tryd.func45, Tryd.ntmps45
  go_wp2
  go_ret3
  exact ⟨_, rfl, kids2 _ 1 4 _, below1 _ _⟩
set_option maxHeartbeats 1000000 in
theorem rkids_31 (w : World) : Calls Tryd.prog 45 #[.int .i64 31] w (KidsPost [4, 4] 4 w) := by
  go_enter Tryd.func45, Tryd.ntmps45
  go_wp2
  go_ret3
  exact ⟨_, rfl, kids2 _ 4 4 _, below1 _ _⟩
set_option maxHeartbeats 1000000 in
theorem rkids_none (op : Int) (w : World) (h : kidsT op = none) (hw : (Lit.int .i64 op).wf = true) : Calls Tryd.prog 45 #[.int .i64 op] w fun e w' => e = .returned (.tuple #[.slice none 0 0, .int .i64 0, .bool false]) ∧ w = w' := by
  have hk : ∀ m : Fin 32, kidsT (m.val : Int) = none → m.val = 0 ∨ m.val = 22 := by decide +kernel
  have : op < 1 ∨ op = 22 ∨ 31 < op := by
    refine Classical.byContradiction fun hc => ?_
    have h2 := hk ⟨op.toNat, by omega⟩ (by rw [show ((op.toNat : Nat) : Int) = op by omega]; exact h)
    simp only at h2
    omega
  clear hk h
  rcases this with h | h | h
  · have hs : ∀ n : Int, 1 ≤ n → (op == n) = false := fun n hn => by rw [beq_eq_false_iff_ne]; omega
    have b1 := hs 1 (by omega)
    have b2 := hs 2 (by omega)
    have b3 := hs 3 (by omega)
    have b4 := hs 4 (by omega)
    have b5 := hs 5 (by omega)
    have b6 := hs 6 (by omega)
    have b7 := hs 7 (by omega)
    have b8 := hs 8 (by omega)
    have b9 := hs 9 (by omega)
    have b10 := hs 10 (by omega)
    have b11 := hs 11 (by omega)
    have b12 := hs 12 (by omega)
    have b13 := hs 13 (by omega)
    have b14 := hs 14 (by omega)
    have b15 := hs 15 (by omega)
    have b16 := hs 16 (by omega)
    have b17 := hs 17 (by omega)
    have b18 := hs 18 (by omega)
    have b19 := hs 19 (by omega)
    have b20 := hs 20 (by omega)
    have b21 := hs 21 (by omega)
    have b23 := hs 23 (by omega)
    have b24 := hs 24 (by omega)
    have b25 := hs 25 (by omega)
    have b26 := hs 26 (by omega)
    have b27 := hs 27 (by omega)
    have b28 := hs 28 (by omega)
    have b29 := hs 29 (by omega)
    have b30 := hs 30 (by omega)
    have b31 := hs 31 (by omega)
    clear hs
    go_enter Tryd.func45, Tryd.ntmps45
    go_wp2
    go_ret3
    exact ⟨rfl, rfl⟩
  · subst h
    go_enter Tryd.func45, Tryd.ntmps45
    go_wp2
    go_ret3
    exact ⟨rfl, rfl⟩
  · have hs : ∀ n : Int, n ≤ 31 → (op == n) = false := fun n hn => by rw [beq_eq_false_iff_ne]; omega
    have b1 := hs 1 (by omega)
    have b2 := hs 2 (by omega)
    have b3 := hs 3 (by omega)
    have b4 := hs 4 (by omega)
    have b5 := hs 5 (by omega)
    have b6 := hs 6 (by omega)
    have b7 := hs 7 (by omega)
    have b8 := hs 8 (by omega)
    have b9 := hs 9 (by omega)
    have b10 := hs 10 (by omega)
    have b11 := hs 11 (by omega)
    have b12 := hs 12 (by omega)
    have b13 := hs 13 (by omega)
    have b14 := hs 14 (by omega)
    have b15 := hs 15 (by omega)
    have b16 := hs 16 (by omega)
    have b17 := hs 17 (by omega)
    have b18 := hs 18 (by omega)
    have b19 := hs 19 (by omega)
    have b20 := hs 20 (by omega)
    have b21 := hs 21 (by omega)
    have b23 := hs 23 (by omega)
    have b24 := hs 24 (by omega)
    have b25 := hs 25 (by omega)
    have b26 := hs 26 (by omega)
    have b27 := hs 27 (by omega)
    have b28 := hs 28 (by omega)
    have b29 := hs 29 (by omega)
    have b30 := hs 30 (by omega)
    have b31 := hs 31 (by omega)
    clear hs
    go_enter Tryd.func45, Tryd.ntmps45
    go_wp2
    go_ret3
    exact ⟨rfl, rfl⟩

theorem rkids_some (op : Int) (want : List Int) (t : Int) (w : World) (h : kidsT op = some (want, t)) : Calls Tryd.prog 45 #[.int .i64 op] w (KidsPost want t w) := by
  have h1 : 0 ≤ op ∧ op < 32 := by
    refine Classical.byContradiction fun hc => ?_
    unfold kidsT at h
    rw [if_pos (by omega)] at h
    cases h
  obtain ⟨m, rfl⟩ : ∃ m : Nat, op = m := ⟨op.toNat, by omega⟩
  have hm : m < 32 := by omega
  clear h1
  unfold kidsT at h
  rw [if_neg (by omega)] at h
  match m, hm, h with
  | 0, _, h => cases h
  | 1, _, h =>
    obtain ⟨rfl, rfl⟩ : [] = want ∧ 0 = t := by simpa using Option.some.inj (show some ([], (0 : Int)) = some (want, t) from h)
    exact rkids_1 w
  | 2, _, h =>
    obtain ⟨rfl, rfl⟩ : [] = want ∧ 1 = t := by simpa using Option.some.inj (show some ([], (1 : Int)) = some (want, t) from h)
    exact rkids_2 w
  | 3, _, h =>
    obtain ⟨rfl, rfl⟩ : [] = want ∧ 2 = t := by simpa using Option.some.inj (show some ([], (2 : Int)) = some (want, t) from h)
    exact rkids_3 w
  | 4, _, h =>
    obtain ⟨rfl, rfl⟩ : [] = want ∧ 0 = t := by simpa using Option.some.inj (show some ([], (0 : Int)) = some (want, t) from h)
    exact rkids_4 w
  | 5, _, h =>
    obtain ⟨rfl, rfl⟩ : [] = want ∧ 2 = t := by simpa using Option.some.inj (show some ([], (2 : Int)) = some (want, t) from h)
    exact rkids_5 w
  | 6, _, h =>
    obtain ⟨rfl, rfl⟩ : [0] = want ∧ 0 = t := by simpa using Option.some.inj (show some ([0], (0 : Int)) = some (want, t) from h)
    exact rkids_6 w
  | 7, _, h =>
    obtain ⟨rfl, rfl⟩ : [0, 0] = want ∧ 0 = t := by simpa using Option.some.inj (show some ([0, 0], (0 : Int)) = some (want, t) from h)
    exact rkids_7 w
  | 8, _, h =>
    obtain ⟨rfl, rfl⟩ : [0, 0] = want ∧ 0 = t := by simpa using Option.some.inj (show some ([0, 0], (0 : Int)) = some (want, t) from h)
    exact rkids_8 w
  | 9, _, h =>
    obtain ⟨rfl, rfl⟩ : [0, 0] = want ∧ 0 = t := by simpa using Option.some.inj (show some ([0, 0], (0 : Int)) = some (want, t) from h)
    exact rkids_9 w
  | 10, _, h =>
    obtain ⟨rfl, rfl⟩ : [0, 0] = want ∧ 0 = t := by simpa using Option.some.inj (show some ([0, 0], (0 : Int)) = some (want, t) from h)
    exact rkids_10 w
  | 11, _, h =>
    obtain ⟨rfl, rfl⟩ : [0, 0] = want ∧ 1 = t := by simpa using Option.some.inj (show some ([0, 0], (1 : Int)) = some (want, t) from h)
    exact rkids_11 w
  | 12, _, h =>
    obtain ⟨rfl, rfl⟩ : [0, 0] = want ∧ 1 = t := by simpa using Option.some.inj (show some ([0, 0], (1 : Int)) = some (want, t) from h)
    exact rkids_12 w
  | 13, _, h =>
    obtain ⟨rfl, rfl⟩ : [0, 0] = want ∧ 1 = t := by simpa using Option.some.inj (show some ([0, 0], (1 : Int)) = some (want, t) from h)
    exact rkids_13 w
  | 14, _, h =>
    obtain ⟨rfl, rfl⟩ : [1] = want ∧ 1 = t := by simpa using Option.some.inj (show some ([1], (1 : Int)) = some (want, t) from h)
    exact rkids_14 w
  | 15, _, h =>
    obtain ⟨rfl, rfl⟩ : [1, 1] = want ∧ 1 = t := by simpa using Option.some.inj (show some ([1, 1], (1 : Int)) = some (want, t) from h)
    exact rkids_15 w
  | 16, _, h =>
    obtain ⟨rfl, rfl⟩ : [1, 1] = want ∧ 1 = t := by simpa using Option.some.inj (show some ([1, 1], (1 : Int)) = some (want, t) from h)
    exact rkids_16 w
  | 17, _, h =>
    obtain ⟨rfl, rfl⟩ : [2, 2] = want ∧ 1 = t := by simpa using Option.some.inj (show some ([2, 2], (1 : Int)) = some (want, t) from h)
    exact rkids_17 w
  | 18, _, h =>
    obtain ⟨rfl, rfl⟩ : [2, 0] = want ∧ 2 = t := by simpa using Option.some.inj (show some ([2, 0], (2 : Int)) = some (want, t) from h)
    exact rkids_18 w
  | 19, _, h =>
    obtain ⟨rfl, rfl⟩ : [2, 0] = want ∧ 2 = t := by simpa using Option.some.inj (show some ([2, 0], (2 : Int)) = some (want, t) from h)
    exact rkids_19 w
  | 20, _, h =>
    obtain ⟨rfl, rfl⟩ : [2, 2] = want ∧ 0 = t := by simpa using Option.some.inj (show some ([2, 2], (0 : Int)) = some (want, t) from h)
    exact rkids_20 w
  | 21, _, h =>
    obtain ⟨rfl, rfl⟩ : [2, 2] = want ∧ 0 = t := by simpa using Option.some.inj (show some ([2, 2], (0 : Int)) = some (want, t) from h)
    exact rkids_21 w
  | 22, _, h => cases h
  | 23, _, h =>
    obtain ⟨rfl, rfl⟩ : [] = want ∧ 4 = t := by simpa using Option.some.inj (show some ([], (4 : Int)) = some (want, t) from h)
    exact rkids_23 w
  | 24, _, h =>
    obtain ⟨rfl, rfl⟩ : [] = want ∧ 4 = t := by simpa using Option.some.inj (show some ([], (4 : Int)) = some (want, t) from h)
    exact rkids_24 w
  | 25, _, h =>
    obtain ⟨rfl, rfl⟩ : [4] = want ∧ 4 = t := by simpa using Option.some.inj (show some ([4], (4 : Int)) = some (want, t) from h)
    exact rkids_25 w
  | 26, _, h =>
    obtain ⟨rfl, rfl⟩ : [0, 4] = want ∧ 4 = t := by simpa using Option.some.inj (show some ([0, 4], (4 : Int)) = some (want, t) from h)
    exact rkids_26 w
  | 27, _, h =>
    obtain ⟨rfl, rfl⟩ : [4, 4] = want ∧ 4 = t := by simpa using Option.some.inj (show some ([4, 4], (4 : Int)) = some (want, t) from h)
    exact rkids_27 w
  | 28, _, h =>
    obtain ⟨rfl, rfl⟩ : [1, 4, 4] = want ∧ 4 = t := by simpa using Option.some.inj (show some ([1, 4, 4], (4 : Int)) = some (want, t) from h)
    exact rkids_28 w
  | 29, _, h =>
    obtain ⟨rfl, rfl⟩ : [4] = want ∧ 4 = t := by simpa using Option.some.inj (show some ([4], (4 : Int)) = some (want, t) from h)
    exact rkids_29 w
  | 30, _, h =>
    obtain ⟨rfl, rfl⟩ : [1, 4] = want ∧ 4 = t := by simpa using Option.some.inj (show some ([1, 4], (4 : Int)) = some (want, t) from h)
    exact rkids_30 w
  | 31, _, h =>
    obtain ⟨rfl, rfl⟩ : [4, 4] = want ∧ 4 = t := by simpa using Option.some.inj (show some ([4, 4], (4 : Int)) = some (want, t) from h)
    exact rkids_31 w
  | m + 32, hm, _ => exact absurd hm (by omega)

set_option maxHeartbeats 1000000 in
theorem rlast_any (l : List Int) (a : Option Addr) (cap : Nat) (w : World) (h : IntsAt w a l) (hl : l.length ≤ 3) :
    Calls Tryd.prog 44 #[.slice a l.length cap] w fun e w' => (∃ x, e = .returned (.int .i64 x) ∧ ∀ q r, l = q ++ [r] → x = r) ∧ w = w' := by
  match l, hl, h with
  | [], _, _ =>
    go_enter Tryd.func44, Tryd.ntmps44
    go_wp2
    go_ret
    exact ⟨⟨_, rfl, fun q r e => by simp at e⟩, rfl⟩
  | [x], _, h =>
    obtain ⟨b, off, rfl, hb, c0⟩ := h 0 (by simp)
    rw [Nat.add_zero] at c0
    go_enter Tryd.func44, Tryd.ntmps44
    go_wp2
    go_ret
    exact ⟨⟨_, rfl, fun q r e => by cases q with | nil => simp at e; exact e | cons p q => simp at e⟩, rfl⟩
  | [x, y], _, h =>
    obtain ⟨b, off, rfl, hb, c0⟩ := h 1 (by simp)
    go_enter Tryd.func44, Tryd.ntmps44
    go_wp2
    go_ret
    exact ⟨⟨_, rfl, fun q r e => by
      have := congrArg List.getLast? e
      simp at this
      exact this⟩, rfl⟩
  | [x, y, z], _, h =>
    obtain ⟨b, off, rfl, hb, c0⟩ := h 2 (by simp)
    go_enter Tryd.func44, Tryd.ntmps44
    go_wp2
    go_ret
    exact ⟨⟨_, rfl, fun q r e => by
      have := congrArg List.getLast? e
      simp at this
      exact this⟩, rfl⟩
  | _ :: _ :: _ :: _ :: _, hl, _ => exact absurd hl (by simp)

end Go.Proofs.YtmjclolmoobfpaaDoor
