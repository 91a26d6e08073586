/-
  Texts that the statements' proofs rest on, one behind another: NodeB, DateA, DateB, DateC.
-/
import Derived.Test.YtcndknkdhlmdnaaGreatDoorM05
import Derived.Lib.Strings
import Derived.Test.YtcndknkdhlmdnaaGreatDoorRows
import Derived.Test.YtcndknkdhlmdnaaGreatDoorM01
import Derived.WalkKit
import Derived.WalkSpells
import Derived.WalkLawsBesides
import Derived.IntWalk
import Derived.Lib.Hide

/-
  usanceref07.Same: are two trees the same, but for places?
-/
namespace Go.Proofs.YtcndknkdhlmdnaaGreatDoor
open Go.RowKit
set_option maxRecDepth 100000

theorem nbytes {s s' : ByteArray} (h : s.toList = s'.toList) : s = s' := by
  rw [Lib.toList_data, Lib.toList_data] at h
  cases s
  cases s'
  simp only [ByteArray.mk.injEq]
  exact Array.toList_inj.1 h

set_option maxHeartbeats 4000000 in
theorem rSame_any' (N : Nat) : ∀ (t : Nd), SizeOf.sizeOf t < N → ∀ (u : Nd) (a : Option Addr) (cap : Nat) (a' : Option Addr) (cap' n₀ : Nat) (w : World), t.hold n₀ w a cap → u.hold n₀ w a' cap' → n₀ ≤ w.heap.size →
    Calls Tryz.prog 30 #[.agg #[.int .i64 t.kind, .string t.text, .int .i64 t.n, .slice a t.kids.length cap, .int .i64 t.place], .agg #[.int .i64 u.kind, .string u.text, .int .i64 u.n, .slice a' u.kids.length cap', .int .i64 u.place]] w fun e w' => e = .returned (.bool (sameN t u)) ∧ Below w.heap.size w w' := by
  induction N with
  | zero => intro t ht; omega
  | succ N ih =>
  intro t ht
  cases t with
  | mk kind s n ks p =>
  intro u
  cases u with
  | mk kind' s' n' ks' p' =>
  intro a cap a' cap' n₀ w hh hu hn
  show Calls Tryz.prog 30 #[.agg #[.int .i64 kind, .string s, .int .i64 n, .slice a ks.length cap, .int .i64 p], .agg #[.int .i64 kind', .string s', .int .i64 n', .slice a' ks'.length cap', .int .i64 p']] w _
  have hkl : ks.length ≤ cap ∧ cap ≤ maxLen := ⟨hh.2.2.2.2.1, hh.2.2.2.2.2.1⟩
  have hkl' : ks'.length ≤ cap' ∧ cap' ≤ maxLen := ⟨hu.2.2.2.2.1, hu.2.2.2.2.2.1⟩
  have hm := hkl
  have hm' := hkl'
  unfold maxLen at hm hm'
  have HH := Lib.hid hh
  have HU := Lib.hid hu
  have IH := Lib.hid ih
  have HT := Lib.hid ht
  clear hh hu ih ht
  have E := Lib.hid (show sameN (.mk kind s n ks p) (.mk kind' s' n' ks' p') = (kind == kind' && s.toList == s'.toList && n == n' && sameKs ks ks') from sameN_eq _ _)
  by_cases q1 : kind = kind'
  case neg =>
    have HB : Hid (Below w.heap.size w ((w.alloc (.cells #[.int .i64 kind, .string s, .int .i64 n, .slice a ks.length cap, .int .i64 p] 24)).alloc (.cells #[.int .i64 kind', .string s', .int .i64 n', .slice a' ks'.length cap', .int .i64 p'] 24))) := (nbelow1 _ _).alloc (by simp) _
    have e1 : (kind != kind') = true := by simpa using q1
    have F := Lib.hid (show sameN (.mk kind s n ks p) (.mk kind' s' n' ks' p') = false by rw [E.out, beq_eq_false_iff_ne.2 q1]; rfl)
    clear q1
    go_enter Tryz.func30, Tryz.ntmps30
    go_wp2
    go_ret
    exact ⟨nretB F.out.symm, HB.out⟩
  subst q1
  by_cases q2 : s = s'
  case neg =>
    have HB : Hid (Below w.heap.size w ((w.alloc (.cells #[.int .i64 kind, .string s, .int .i64 n, .slice a ks.length cap, .int .i64 p] 24)).alloc (.cells #[.int .i64 kind, .string s', .int .i64 n', .slice a' ks'.length cap', .int .i64 p'] 24))) := (nbelow1 _ _).alloc (by simp) _
    have e2 : ¬ s.toList = s'.toList := fun e => q2 (nbytes e)
    have F := Lib.hid (show sameN (.mk kind s n ks p) (.mk kind s' n' ks' p') = false by rw [E.out, beq_eq_false_iff_ne.2 e2]; simp)
    clear q2
    go_enter Tryz.func30, Tryz.ntmps30
    go_wp2
    go_ret
    exact ⟨nretB F.out.symm, HB.out⟩
  subst q2
  by_cases q3 : n = n'
  case neg =>
    have HB : Hid (Below w.heap.size w ((w.alloc (.cells #[.int .i64 kind, .string s, .int .i64 n, .slice a ks.length cap, .int .i64 p] 24)).alloc (.cells #[.int .i64 kind, .string s, .int .i64 n', .slice a' ks'.length cap', .int .i64 p'] 24))) := (nbelow1 _ _).alloc (by simp) _
    have e3 : (n != n') = true := by simpa using q3
    have F := Lib.hid (show sameN (.mk kind s n ks p) (.mk kind s n' ks' p') = false by rw [E.out, beq_eq_false_iff_ne.2 q3]; simp)
    clear q3
    go_enter Tryz.func30, Tryz.ntmps30
    go_wp2
    go_ret
    exact ⟨nretB F.out.symm, HB.out⟩
  subst q3
  have HB : Hid (Below w.heap.size w ((w.alloc (.cells #[.int .i64 kind, .string s, .int .i64 n, .slice a ks.length cap, .int .i64 p] 24)).alloc (.cells #[.int .i64 kind, .string s, .int .i64 n, .slice a' ks'.length cap', .int .i64 p'] 24))) := (nbelow1 _ _).alloc (by simp) _
  by_cases q4 : ks.length = ks'.length
  case neg =>
    have e4 : ((ks.length : Int) != (ks'.length : Int)) = true := by rw [bne_iff_ne]; omega
    have F := Lib.hid (show sameN (.mk kind s n ks p) (.mk kind s n ks' p') = false by
      rw [E.out, show sameKs ks ks' = false from Bool.eq_false_iff.2 fun e => q4 (sameKs_length _ _ e)]; simp)
    clear q4
    go_enter Tryz.func30, Tryz.ntmps30
    go_wp2
    go_ret
    exact ⟨nretB F.out.symm, HB.out⟩
  have e4 : ((ks.length : Int) != (ks'.length : Int)) = false := by rw [bne_eq_false_iff_eq, q4]
  have Q4 := Lib.hid q4
  have F := Lib.hid (show sameN (.mk kind s n ks p) (.mk kind s n ks' p') = sameKs ks ks' by rw [E.out]; simp)
  clear q4
  go_enter Tryz.func30, Tryz.ntmps30
  go_wp2
  obtain ⟨W1, hW1⟩ : ∃ W1, W1 = (w.alloc (.cells #[.int .i64 kind, .string s, .int .i64 n, .slice a ks.length cap, .int .i64 p] 24)).alloc (.cells #[.int .i64 kind, .string s, .int .i64 n, .slice a' ks'.length cap', .int .i64 p'] 24) := ⟨_, rfl⟩
  rw [← hW1] at HB ⊢
  have hsz : W1.heap.size = w.heap.size + 2 := by rw [hW1]; simp
  have D := Lib.hid (show W1.cell? ⟨w.heap.size, 3, none⟩ = some (.slice a ks.length cap) ∧ W1.cell? ⟨w.heap.size + 1, 3, none⟩ = some (.slice a' ks'.length cap') from by
    have c := nbox w (.int .i64 kind) (.string s) (.int .i64 n) (.slice a ks.length cap) (.int .i64 p)
    have c' := nbox (w.alloc (.cells #[.int .i64 kind, .string s, .int .i64 n, .slice a ks.length cap, .int .i64 p] 24)) (.int .i64 kind) (.string s) (.int .i64 n) (.slice a' ks'.length cap') (.int .i64 p')
    simp only [World.size_alloc] at c'
    rw [hW1]
    exact ⟨((nbelow1 _ _).cell (p := ⟨w.heap.size, 3, none⟩) (by simp)).trans c.2.2.2.1, c'.2.2.2.1⟩)
  clear hW1
  go_loopw [5] (fun i wr => ∃ (k : Nat), k ≤ ks.length ∧ i = .int .i64 k ∧ Hid (sameKs (ks.drop k) (ks'.drop k) = sameKs ks ks') ∧ Hid (Below W1.heap.size W1 wr)) (fun i _ => (ks.length - (intOf i).toNat))
  case atStart => exact ⟨0, Nat.zero_le _, rfl, rfl, Below.refl _ _⟩
  case round =>
    obtain ⟨k, hk, rfl, HI, HBr⟩ := hrel
    have d3 := (HBr.out.cell (p := ⟨w.heap.size, 3, none⟩) (by show w.heap.size < W1.heap.size; omega)).trans D.out.1
    have HW := Lib.hid (HB.out.trans (HBr.out.mono HB.out.size))
    by_cases hlt : k < ks.length
    · have hlt' : k < ks'.length := Q4.out ▸ hlt
      obtain ⟨b, off, x, cx, A⟩ := (HH.out.below (HB.out.mono hn)).kid k hlt
      obtain ⟨b', off', x', cx', A'⟩ := (HU.out.below (HB.out.mono hn)).kid k hlt'
      obtain ⟨rfl, hb0, c0, c1, c2, c3, c4, hk1⟩ := A
      obtain ⟨rfl, hb0', c0', c1', c2', c3', c4', hk1'⟩ := A'
      have HK := Lib.hid hk1
      have HK' := Lib.hid hk1'
      clear hk1 hk1'
      have S := Lib.hid (sameKs_step ks ks' k hlt hlt')
      have hbw : b < W1.heap.size := Nat.lt_of_lt_of_le hb0 (Nat.le_trans hn HB.out.size)
      have hbw' : b' < W1.heap.size := Nat.lt_of_lt_of_le hb0' (Nat.le_trans hn HB.out.size)
      have HS := Lib.hid (show ∀ cur, Below W1.heap.size W1 cur → Below W1.heap.size W1 cur ∧ cur.cell? ⟨w.heap.size, 3, none⟩ = some (.slice (some ⟨b, off, none⟩) ks.length cap) ∧ cur.cell? ⟨w.heap.size + 1, 3, none⟩ = some (.slice (some ⟨b', off', none⟩) ks'.length cap') ∧
        cur.cell? ⟨b, off + k * 5, none⟩ = some (.int .i64 ks[k].kind) ∧ cur.cell? ⟨b, off + k * 5 + 1, none⟩ = some (.string ks[k].text) ∧ cur.cell? ⟨b, off + k * 5 + 2, none⟩ = some (.int .i64 ks[k].n) ∧ cur.cell? ⟨b, off + k * 5 + 3, none⟩ = some (.slice x ks[k].kids.length cx) ∧ cur.cell? ⟨b, off + k * 5 + 4, none⟩ = some (.int .i64 ks[k].place) ∧
        cur.cell? ⟨b', off' + k * 5, none⟩ = some (.int .i64 ks'[k].kind) ∧ cur.cell? ⟨b', off' + k * 5 + 1, none⟩ = some (.string ks'[k].text) ∧ cur.cell? ⟨b', off' + k * 5 + 2, none⟩ = some (.int .i64 ks'[k].n) ∧ cur.cell? ⟨b', off' + k * 5 + 3, none⟩ = some (.slice x' ks'[k].kids.length cx') ∧ cur.cell? ⟨b', off' + k * 5 + 4, none⟩ = some (.int .i64 ks'[k].place) from fun cur hc =>
        ⟨hc, (hc.cell (p := ⟨w.heap.size, 3, none⟩) (by show w.heap.size < W1.heap.size; omega)).trans D.out.1, (hc.cell (p := ⟨w.heap.size + 1, 3, none⟩) (by show w.heap.size + 1 < W1.heap.size; omega)).trans D.out.2,
          (hc.cell (p := ⟨b, off + k * 5, none⟩) hbw).trans c0, (hc.cell (p := ⟨b, off + k * 5 + 1, none⟩) hbw).trans c1, (hc.cell (p := ⟨b, off + k * 5 + 2, none⟩) hbw).trans c2, (hc.cell (p := ⟨b, off + k * 5 + 3, none⟩) hbw).trans c3, (hc.cell (p := ⟨b, off + k * 5 + 4, none⟩) hbw).trans c4,
          (hc.cell (p := ⟨b', off' + k * 5, none⟩) hbw').trans c0', (hc.cell (p := ⟨b', off' + k * 5 + 1, none⟩) hbw').trans c1', (hc.cell (p := ⟨b', off' + k * 5 + 2, none⟩) hbw').trans c2', (hc.cell (p := ⟨b', off' + k * 5 + 3, none⟩) hbw').trans c3', (hc.cell (p := ⟨b', off' + k * 5 + 4, none⟩) hbw').trans c4'⟩)
      have C1 := Lib.hid (show ∀ cur, Below W1.heap.size W1 cur → Calls Tryz.prog 30 #[.agg #[.int .i64 ks[k].kind, .string ks[k].text, .int .i64 ks[k].n, .slice x ks[k].kids.length cx, .int .i64 ks[k].place], .agg #[.int .i64 ks'[k].kind, .string ks'[k].text, .int .i64 ks'[k].n, .slice x' ks'[k].kids.length cx', .int .i64 ks'[k].place]] cur fun e W' => e = .returned (.bool (sameN ks[k] ks'[k])) ∧ Below W1.heap.size W1 W' from fun cur hc =>
        (IH.out _ (nkid_size hlt HT.out) _ _ _ _ _ n₀ cur (HK.out.below (hc.mono (Nat.le_trans hn HB.out.size))) (HK'.out.below (hc.mono (Nat.le_trans hn HB.out.size))) (Nat.le_trans hn (Nat.le_trans HB.out.size hc.size))).mono (by rintro e W' ⟨rfl, hb⟩; exact ⟨rfl, hc.trans (hb.mono hc.size)⟩))
      have hb := HBr.out
      clear c0 c1 c2 c3 c4 c0' c1' c2' c3' c4' hb0 hb0'
      go_wp2
      clear d3
      go_region_held3 (fun cur => Below W1.heap.size W1 cur ∧ cur.cell? ⟨w.heap.size, 3, none⟩ = some (.slice (some ⟨b, off, none⟩) ks.length cap) ∧ cur.cell? ⟨w.heap.size + 1, 3, none⟩ = some (.slice (some ⟨b', off', none⟩) ks'.length cap') ∧
        cur.cell? ⟨b, off + k * 5, none⟩ = some (.int .i64 ks[k].kind) ∧ cur.cell? ⟨b, off + k * 5 + 1, none⟩ = some (.string ks[k].text) ∧ cur.cell? ⟨b, off + k * 5 + 2, none⟩ = some (.int .i64 ks[k].n) ∧ cur.cell? ⟨b, off + k * 5 + 3, none⟩ = some (.slice x ks[k].kids.length cx) ∧ cur.cell? ⟨b, off + k * 5 + 4, none⟩ = some (.int .i64 ks[k].place) ∧
        cur.cell? ⟨b', off' + k * 5, none⟩ = some (.int .i64 ks'[k].kind) ∧ cur.cell? ⟨b', off' + k * 5 + 1, none⟩ = some (.string ks'[k].text) ∧ cur.cell? ⟨b', off' + k * 5 + 2, none⟩ = some (.int .i64 ks'[k].n) ∧ cur.cell? ⟨b', off' + k * 5 + 3, none⟩ = some (.slice x' ks'[k].kids.length cx') ∧ cur.cell? ⟨b', off' + k * 5 + 4, none⟩ = some (.int .i64 ks'[k].place))
        (first | exact HS.out _ hb | exact HS.out _ hb.drew | exact HS.out _ HBr.out | exact HS.out _ HBr.out.drew)
        (first | (go_at_call 30; refine (C1.out _ ?_).mono ?_; (go_split_ands; assumption); rintro e w' ⟨rfl, hb⟩))
      have HR := Lib.hid hb
      clear hb
      cases hsm : sameN ks[k] ks'[k]
      · go_wp2
        go_ret
        exact ⟨nretB (by rw [F.out, ← HI.out, S.out, hsm]; rfl), HB.out.trans (HR.out.mono HB.out.size)⟩
      · go_wp2
        go_roundw
        case rel => exact ⟨k + 1, by omega, by go_num, by show _ = _; rw [← HI.out, S.out, hsm]; rfl, HR.out⟩
        case measure => simp [intOf]; omega
    · have S := Lib.hid (sameKs_end ks ks' k hlt (by rw [← Q4.out]; exact hlt))
      go_wp2
      go_ret
      exact ⟨nretB (by rw [F.out, ← HI.out, S.out]), HW.out⟩

theorem rSame_any (t u : Nd) (a : Option Addr) (cap : Nat) (a' : Option Addr) (cap' n₀ : Nat) (w : World) (h : t.hold n₀ w a cap) (h' : u.hold n₀ w a' cap') (hn : n₀ ≤ w.heap.size) :
    Calls Tryz.prog 30 #[.agg #[.int .i64 t.kind, .string t.text, .int .i64 t.n, .slice a t.kids.length cap, .int .i64 t.place], .agg #[.int .i64 u.kind, .string u.text, .int .i64 u.n, .slice a' u.kids.length cap', .int .i64 u.place]] w fun e w' => e = .returned (.bool (sameN t u)) ∧ Below w.heap.size w w' :=
  rSame_any' _ t (Nat.lt_succ_self _) u a cap a' cap' n₀ w h h' hn

end Go.Proofs.YtcndknkdhlmdnaaGreatDoor

/-
  The walks of the calendar's small functions: leap years, days of a year, days ahead, lengths of months, the clamp.
-/
namespace Go.Proofs.YtcndknkdhlmdnaaGreatDoor
open Go.RowKit
set_option maxRecDepth 100000

theorem below1 (w : World) (o : Obj) : Below w.heap.size w (w.alloc o) := (Below.refl _ _).alloc (Nat.le_refl _) _
theorem below2 (w : World) (o o' : Obj) : Below w.heap.size w ((w.alloc o).alloc o') := (below1 w o).alloc (by simp) _
theorem below3 (w : World) (o o' o'' : Obj) : Below w.heap.size w (((w.alloc o).alloc o').alloc o'') := (below2 w o o').alloc (by simp; omega) _
theorem ret_int {k : IntKind} {a b : Int} (h : a = b) : Ending.returned (.int k a) = .returned (.int k b) := by rw [h]

theorem ret_val {k : IntKind} {a b : Int} (h : a = b) : Value.int k a = Value.int k b := by rw [h]

set_option maxHeartbeats 400000 in
theorem leap_any (y : Int) (w : World) (h0 : 0 ≤ y) (h1 : y ≤ 100000) :
    Calls Tryz.prog 214 #[.int .i64 y] w fun e w' => e = .returned (.bool (Cal.lp y)) ∧ w = w' := by
  go_enter Tryz.func214, Tryz.ntmps214
  go_wp2
  all_goals go_ret
  all_goals exact ⟨by simp [Cal.lp, *], rfl⟩

set_option maxHeartbeats 400000 in
theorem rleap_any (y : Int) (w : World) (h0 : 0 ≤ y) (h1 : y ≤ 100000) :
    Calls Tryz.prog 173 #[.int .i64 y] w fun e w' => e = .returned (.bool (Cal.lp y)) ∧ w = w' := by
  go_enter Tryz.func173, Tryz.ntmps173
  go_wp2
  all_goals go_ret
  all_goals exact ⟨by simp [Cal.lp, *], rfl⟩

set_option maxHeartbeats 400000 in
theorem days_any (y : Int) (w : World) (h0 : 0 ≤ y) (h1 : y ≤ 100000) :
    Calls Tryz.prog 195 #[.int .i64 y] w fun e w' => e = .returned (.int .i64 (365 + Cal.lpI y)) ∧ w = w' := by
  cases hl : Cal.lp y
  all_goals
    go_enter Tryz.func195, Tryz.ntmps195
    go_wp2_with (go_at_call 214; refine (leap_any _ _ (by omega) (by omega)).mono ?_; rintro e w' ⟨rfl, rfl⟩)
    go_ret
    exact ⟨by simp [Cal.lpI, hl], rfl⟩

set_option maxHeartbeats 400000 in
theorem ahead_any (y : Int) (w : World) (h0 : 1 ≤ y) (h1 : y ≤ 100000) :
    Calls Tryz.prog 194 #[.int .i64 y] w fun e w' => e = .returned (.int .i64 (Cal.ahead y)) ∧ w = w' := by
  go_enter Tryz.func194, Tryz.ntmps194
  go_wp2
  go_ret
  exact ⟨rfl, rfl⟩

/-- the lengths of a year's months, as the array that the program makes -/
def months (y : Int) : Array Value := #[.int .i64 31, .int .i64 (28 + Cal.lpI y), .int .i64 31, .int .i64 30, .int .i64 31, .int .i64 30, .int .i64 31, .int .i64 31, .int .i64 30, .int .i64 31, .int .i64 30, .int .i64 31]

set_option maxHeartbeats 400000 in
theorem lengths_any (y : Int) (w : World) (h0 : 0 ≤ y) (h1 : y ≤ 100000) :
    Calls Tryz.prog 196 #[.int .i64 y] w fun e w' => e = .returned (.agg #[.int .i64 31, .int .i64 (28 + Cal.lpI y), .int .i64 31, .int .i64 30, .int .i64 31, .int .i64 30, .int .i64 31, .int .i64 31, .int .i64 30, .int .i64 31, .int .i64 30, .int .i64 31]) ∧ Below w.heap.size w w' := by
  cases hl : Cal.lp y
  all_goals
    go_enter Tryz.func196, Tryz.ntmps196
    go_wp2_with (go_at_call 214; refine (leap_any _ _ (by omega) (by omega)).mono ?_; rintro e w' ⟨rfl, rfl⟩)
    refine bodyPost_ret (v := .agg #[.int .i64 31, .int .i64 (28 + Cal.lpI y), .int .i64 31, .int .i64 30, .int .i64 31, .int .i64 30, .int .i64 31, .int .i64 31, .int .i64 30, .int .i64 31, .int .i64 30, .int .i64 31]) ?_ rfl ⟨rfl, below2 _ _ _⟩
    simp [results, Tryz.results196, go_sem, Cal.lpI, hl]

/-- what stands at a month's place, February aside -/
theorem get28 (y : Int) {m : Int} (h2 : 1 ≤ m) (h3 : m ≤ 12) (hm : ¬ m = 2) : [Value.int IntKind.i64 31, Value.int IntKind.i64 28, Value.int IntKind.i64 31, Value.int IntKind.i64 30, Value.int IntKind.i64 31, Value.int IntKind.i64 30, Value.int IntKind.i64 31, Value.int IntKind.i64 31, Value.int IntKind.i64 30, Value.int IntKind.i64 31, Value.int IntKind.i64 30, Value.int IntKind.i64 31][m.toNat - 1]? = some (.int .i64 (Cal.mlen y m)) := by
  rcases Cal.months_cases h2 h3 with e | e | e | e | e | e | e | e | e | e | e | e <;> subst e <;> first | rfl | omega
/-- what stands at a month's place -/
theorem getm (y : Int) {k : Nat} (h3 : k < 12) : [Value.int IntKind.i64 31, Value.int IntKind.i64 (28 + Cal.lpI y), Value.int IntKind.i64 31, Value.int IntKind.i64 30, Value.int IntKind.i64 31, Value.int IntKind.i64 30, Value.int IntKind.i64 31, Value.int IntKind.i64 31, Value.int IntKind.i64 30, Value.int IntKind.i64 31, Value.int IntKind.i64 30, Value.int IntKind.i64 31][k]? = some (.int .i64 (Cal.mlen y ((k : Int) + 1))) := by
  have c : k = 0 ∨ k = 1 ∨ k = 2 ∨ k = 3 ∨ k = 4 ∨ k = 5 ∨ k = 6 ∨ k = 7 ∨ k = 8 ∨ k = 9 ∨ k = 10 ∨ k = 11 := by omega
  rcases c with e | e | e | e | e | e | e | e | e | e | e | e <;> subst e <;> rfl

set_option maxHeartbeats 400000 in
theorem rlength_any (y m : Int) (w : World) (h0 : 0 ≤ y) (h1 : y ≤ 100000) (h2 : 1 ≤ m) (h3 : m ≤ 12) :
    Calls Tryz.prog 143 #[.int .i64 y, .int .i64 m] w fun e w' => e = .returned (.int .i64 (Cal.mlen y m)) ∧ Below w.heap.size w w' := by
  by_cases hm : m = 2
  · subst hm
    cases hl : Cal.lp y
    all_goals
      go_enter Tryz.func143, Tryz.ntmps143
      go_wp2_with (go_at_call 173; refine (rleap_any _ _ (by omega) (by omega)).mono ?_; rintro e w' ⟨rfl, rfl⟩)
      go_ret
      exact ⟨by simp [Cal.mlen, Cal.lpI, hl], below1 _ _⟩
  · have hg := get28 y h2 h3 hm
    go_enter Tryz.func143, Tryz.ntmps143
    go_wp2_with (go_at_call 173; refine (rleap_any _ _ (by omega) (by omega)).mono ?_; rintro e w' ⟨rfl, rfl⟩)
    go_ret
    exact ⟨rfl, below1 _ _⟩

end Go.Proofs.YtcndknkdhlmdnaaGreatDoor

/-
  The walks of a date's day and of a day's date, of the program and of the document's answer.
-/
namespace Go.Proofs.YtcndknkdhlmdnaaGreatDoor
open Go.RowKit
set_option maxRecDepth 100000

set_option maxHeartbeats 1000000 in
theorem rof_bad (y m d : Int) (w : World) (h : ¬ Cal.ok y m d) :
    Calls Tryz.prog 155 #[.int .i64 y, .int .i64 m, .int .i64 d] w fun e w' => e = .returned (.tuple #[.int .i64 0, .int .i64 30]) ∧ Below w.heap.size w w' := by
  by_cases h1 : y < 1900
  · clear h
    go_enter Tryz.func155, Tryz.ntmps155
    go_wp2
    go_ret2
    exact ⟨rfl, Below.refl _ _⟩
  by_cases h2 : 2099 < y
  · clear h
    go_enter Tryz.func155, Tryz.ntmps155
    go_wp2
    go_ret2
    exact ⟨rfl, Below.refl _ _⟩
  by_cases h3 : m < 1
  · clear h
    go_enter Tryz.func155, Tryz.ntmps155
    go_wp2
    go_ret2
    exact ⟨rfl, Below.refl _ _⟩
  by_cases h4 : 12 < m
  · clear h
    go_enter Tryz.func155, Tryz.ntmps155
    go_wp2
    go_ret2
    exact ⟨rfl, Below.refl _ _⟩
  by_cases h5 : d < 1
  · clear h
    go_enter Tryz.func155, Tryz.ntmps155
    go_wp2
    go_ret2
    exact ⟨rfl, Below.refl _ _⟩
  have h6 : Cal.mlen y m < d := by unfold Cal.ok at h; omega
  clear h
  go_enter Tryz.func155, Tryz.ntmps155
  go_wp2_with (go_at_call 143; refine (rlength_any _ _ _ (by omega) (by omega) (by omega) (by omega)).mono ?_; rintro e w' ⟨rfl, hb⟩)
  go_ret2
  exact ⟨rfl, hb⟩

set_option maxHeartbeats 1000000 in
theorem rof_ok (y m d : Int) (w : World) (h : Cal.ok y m d) :
    Calls Tryz.prog 155 #[.int .i64 y, .int .i64 m, .int .i64 d] w fun e w' => e = .returned (.tuple #[.int .i64 (Cal.num y m d), .int .i64 0]) ∧ Below w.heap.size w w' := by
  obtain ⟨h1, h2, h3, h4, h5, h6⟩ := h
  have ml := Cal.mlen_bd y m
  go_enter Tryz.func155, Tryz.ntmps155
  go_wp2_with (go_at_call 143; refine (rlength_any _ _ _ (by omega) (by omega) (by omega) (by omega)).mono ?_; rintro e w' ⟨rfl, hb⟩)
  go_loop [8, 9] (fun n t => ∃ z : Int, 1900 ≤ z ∧ z ≤ y ∧ t = .int .i64 z ∧ n = .int .i64 (Cal.ahead z)) (fun _ t => (2100 - intOf t).toNat)
  case atStart => exact ⟨1900, by omega, h1, rfl, rfl⟩
  case round =>
    obtain ⟨z, hz1, hz2, rfl, rfl⟩ := hrel
    have hb1 := Cal.ahead_bd hz1 (by omega)
    have hs := Lib.hid (Cal.ahead_succ z)
    by_cases hlt : z < y
    · cases hl : Cal.lp z
      all_goals
        go_wp2_with (go_at_call 173; refine (rleap_any _ _ (by omega) (by omega)).mono ?_; rintro e w' ⟨rfl, rfl⟩)
        go_round
        case rel => exact ⟨z + 1, by omega, by omega, by go_num, by rw [hs.out]; simp [Cal.lpI, hl]⟩
        case measure => simp [intOf]; omega
    · obtain rfl : z = y := by omega
      clear hs hlt
      have cb := Cal.cum_bd z h3 (by omega)
      go_wp2
      go_loopw [8, 11] (fun n k wr => ∃ j : Int, 1 ≤ j ∧ j ≤ m ∧ k = .int .i64 j ∧ n = .int .i64 (Cal.ahead z + Cal.cum z j) ∧ Below w.heap.size w wr) (fun _ k _ => (13 - intOf k).toNat)
      case atStart => exact ⟨1, by omega, h3, rfl, by rw [Cal.cum_1]; go_num, hb⟩
      case round =>
        obtain ⟨j, hj1, hj2, rfl, rfl, hb2⟩ := hrel
        clear hb
        have hB := Lib.hid hb2
        clear hb2
        have cj := Cal.cum_bd z hj1 (by omega)
        have mj := Cal.mlen_bd z j
        have hs := Lib.hid (Cal.cum_succ z hj1 (by omega))
        by_cases hlt : j < m
        · go_wp2_with (go_at_call 143; refine (rlength_any _ _ _ (by omega) (by omega) (by omega) (by omega)).mono ?_; rintro e w' ⟨rfl, hb⟩)
          go_roundw
          case rel => exact ⟨j + 1, by omega, by omega, by go_num, by rw [hs.out]; go_num, hB.out.trans (hb.mono hB.out.size)⟩
          case measure => simp [intOf]; omega
        · obtain rfl : j = m := by omega
          go_wp2
          go_ret2
          exact ⟨by simp [Cal.num], hB.out⟩

set_option maxHeartbeats 400000 in
theorem rparts_bad (k : Int) (w : World) (h : k < 0 ∨ 73048 < k) :
    Calls Tryz.prog 109 #[.int .i64 k] w fun e w' => e = .returned (.tuple #[.int .i64 0, .int .i64 0, .int .i64 0, .int .i64 30]) ∧ Below w.heap.size w w' := by
  by_cases h1 : k < 0
  all_goals
    go_enter Tryz.func109, Tryz.ntmps109
    go_wp2
    refine bodyPost_ret (v := .tuple #[.int .i64 0, .int .i64 0, .int .i64 0, .int .i64 30]) (by simp [results, Tryz.results109, go_sem]) rfl ⟨rfl, Below.refl _ _⟩

set_option maxHeartbeats 1000000 in
theorem rparts_ok (y m d k : Int) (w : World) (h : Cal.ok y m d) (hk : Cal.num y m d = k) :
    Calls Tryz.prog 109 #[.int .i64 k] w fun e w' => e = .returned (.tuple #[.int .i64 y, .int .i64 m, .int .i64 d, .int .i64 0]) ∧ Below w.heap.size w w' := by
  have nb := Cal.num_bd h
  have iy := Cal.in_year h
  have ny := Cal.num_lt_year h
  have H := Lib.hid h
  obtain ⟨h1, h2, h3, h4, h5, h6⟩ := h
  subst hk
  clear iy ny
  go_enter Tryz.func109, Tryz.ntmps109
  go_wp2
  go_loopw [0, 6, 7] (fun r u v wr => ∃ z j : Int, 1900 ≤ z ∧ z ≤ y ∧ 1 ≤ j ∧ j ≤ 12 ∧ (z = y → j ≤ m) ∧ u = .int .i64 z ∧ v = .int .i64 j ∧ r = .int .i64 (Cal.num y m d - Cal.ahead z - Cal.cum z j) ∧ Below w.heap.size w wr) (fun _ u v _ => ((2100 - intOf u) * 13 + (13 - intOf v)).toNat)
  case atStart => exact ⟨1900, 1, by omega, h1, by omega, by omega, by omega, rfl, rfl, by rw [Cal.ahead_1900, Cal.cum_1]; go_num, Below.refl _ _⟩
  case round =>
    obtain ⟨z, j, hz1, hz2, hj1, hj2, hzj, rfl, rfl, rfl, hb2⟩ := hrel
    have hB := Lib.hid hb2
    have hc := Cal.cum_bd z hj1 (by omega)
    have ha := Cal.ahead_bd hz1 (by omega)
    have hm := Cal.mlen_bd z j
    have hs := Lib.hid (Cal.cum_succ z hj1 hj2)
    have ht := Lib.hid (Cal.ahead_succ z)
    have Hzj := Lib.hid hzj
    clear hb2 hzj
    by_cases e : z < y ∨ z = y ∧ j < m
    · have hmo := Cal.more H.out hj1 hj2 e
      have hs1 := hs.out
      have hle : Cal.mlen z j ≤ Cal.num y m d - Cal.ahead z - Cal.cum z j := by omega
      have E := Lib.hid e
      have hx : j = 12 → z < y := by omega
      clear e hs1 hmo
      by_cases h12 : j = 12
      · have hzy := hx h12
        subst h12
        clear hx
        go_wp2_with (go_at_call 143; refine (rlength_any _ _ _ (by omega) (by omega) (by omega) (by omega)).mono ?_; rintro e w' ⟨rfl, hb⟩; replace hB := Lib.hid (hB.out.trans (hb.mono hB.out.size)); clear hb)
        go_roundw
        case rel =>
          have c13 := Cal.cum_13 z
          have c1 := Cal.cum_1 (z + 1)
          have hso := hs.out
          have hto := ht.out
          have c131 : Cal.cum z (12 + 1) = Cal.cum z 13 := rfl
          exact ⟨z + 1, 1, by omega, by omega, by omega, by omega, by omega, by go_num, rfl, ret_val (by omega), hB.out⟩
        case measure => simp [intOf]; omega
      · clear hx
        go_wp2_with (go_at_call 143; refine (rlength_any _ _ _ (by omega) (by omega) (by omega) (by omega)).mono ?_; rintro e w' ⟨rfl, hb⟩; replace hB := Lib.hid (hB.out.trans (hb.mono hB.out.size)); clear hb)
        go_roundw
        case rel =>
          have hso := hs.out
          have hzjo := Hzj.out
          have hEo := E.out
          exact ⟨z, j + 1, by omega, by omega, by omega, by omega, by omega, rfl, by go_num, ret_val (by omega), hB.out⟩
        case measure => simp [intOf]; omega
    · have hzy : z = y := by have := Hzj.out; omega
      have hjm : j = m := by have := Hzj.out; omega
      subst hzy hjm
      clear e
      have hlt : Cal.num z j d - Cal.ahead z - Cal.cum z j < Cal.mlen z j := by unfold Cal.num; omega
      have hd : Cal.num z j d - Cal.ahead z - Cal.cum z j + 1 = d := by unfold Cal.num; omega
      have HD := Lib.hid hd
      clear hd
      go_wp2_with (go_at_call 143; refine (rlength_any _ _ _ (by omega) (by omega) (by omega) (by omega)).mono ?_; rintro e w' ⟨rfl, hb⟩; replace hB := Lib.hid (hB.out.trans (hb.mono hB.out.size)); clear hb)
      rw [HD.out]
      refine bodyPost_ret (v := .tuple #[.int .i64 z, .int .i64 j, .int .i64 d, .int .i64 0]) (by simp [results, Tryz.results109, go_sem]) rfl ⟨rfl, hB.out⟩

end Go.Proofs.YtcndknkdhlmdnaaGreatDoor

/-
  The walks of the program's own date.Of and date.Parts.
-/
namespace Go.Proofs.YtcndknkdhlmdnaaGreatDoor
open Go.RowKit
set_option maxRecDepth 100000

set_option maxHeartbeats 1000000 in
theorem of_bad (y m d : Int) (w : World) (h : ¬ Cal.ok y m d) :
    Calls Tryz.prog 203 #[.int .i64 y, .int .i64 m, .int .i64 d] w fun e w' => e = .returned (.tuple #[.int .i64 0, .int .i64 30]) ∧ Below w.heap.size w w' := by
  by_cases h1 : y < 1900
  · clear h
    go_enter Tryz.func203, Tryz.ntmps203
    go_wp2
    go_ret2
    exact ⟨rfl, Below.refl _ _⟩
  by_cases h2 : 2099 < y
  · clear h
    go_enter Tryz.func203, Tryz.ntmps203
    go_wp2
    go_ret2
    exact ⟨rfl, Below.refl _ _⟩
  by_cases h3 : m < 1
  · clear h
    go_enter Tryz.func203, Tryz.ntmps203
    go_wp2
    go_ret2
    exact ⟨rfl, Below.refl _ _⟩
  by_cases h4 : 12 < m
  · clear h
    go_enter Tryz.func203, Tryz.ntmps203
    go_wp2
    go_ret2
    exact ⟨rfl, Below.refl _ _⟩
  have hg := getm y (k := (m - 1).toNat) (by omega)
  rw [show (((m - 1).toNat : Nat) : Int) + 1 = m by omega, show (m - 1).toNat = m.toNat - 1 by omega] at hg
  by_cases h5 : d < 1
  · clear h
    go_enter Tryz.func203, Tryz.ntmps203
    go_wp2_with (go_at_call 196; refine (lengths_any _ _ (by omega) (by omega)).mono ?_; rintro e w' ⟨rfl, hb⟩)
    go_ret2
    exact ⟨rfl, hb.trans ((below1 _ _).mono hb.size)⟩
  have h6 : Cal.mlen y m < d := by unfold Cal.ok at h; omega
  clear h
  go_enter Tryz.func203, Tryz.ntmps203
  go_wp2_with (go_at_call 196; refine (lengths_any _ _ (by omega) (by omega)).mono ?_; rintro e w' ⟨rfl, hb⟩)
  go_ret2
  exact ⟨rfl, hb.trans ((below1 _ _).mono hb.size)⟩

theorem index12 (y : Int) {k : Nat} (h3 : k < 12) (w : World) : (Instr.index 162 (.agg #[.int .i64 31, .int .i64 (28 + Cal.lpI y), .int .i64 31, .int .i64 30, .int .i64 31, .int .i64 30, .int .i64 31, .int .i64 31, .int .i64 30, .int .i64 31, .int .i64 30, .int .i64 31]) (.int .i64 k)).run Tryz.prog w = .ok (.int .i64 (Cal.mlen y ((k : Int) + 1))) w := by
  have c : k = 0 ∨ k = 1 ∨ k = 2 ∨ k = 3 ∨ k = 4 ∨ k = 5 ∨ k = 6 ∨ k = 7 ∨ k = 8 ∨ k = 9 ∨ k = 10 ∨ k = 11 := by omega
  rcases c with e | e | e | e | e | e | e | e | e | e | e | e <;> subst e <;> (show _ = _) <;> kernel_rfl

theorem index12i (y : Int) {j : Int} (h : 0 ≤ j) (h3 : j < 12) (w : World) : (Instr.index 162 (.agg #[.int .i64 31, .int .i64 (28 + Cal.lpI y), .int .i64 31, .int .i64 30, .int .i64 31, .int .i64 30, .int .i64 31, .int .i64 31, .int .i64 30, .int .i64 31, .int .i64 30, .int .i64 31]) (.int .i64 j)).run Tryz.prog w = .ok (.int .i64 (Cal.mlen y (j + 1))) w := by
  obtain ⟨k, rfl⟩ := Int.eq_ofNat_of_zero_le h
  exact index12 y (by omega) w

theorem slice12 (h : Int) (h0 : 0 ≤ h) (h1 : h ≤ 12) (w : World) (a : Addr) : (Instr.sliceAt 162 (.pointer (some a)) none (some (.int .i64 h)) none).run Tryz.prog w = .ok (.slice (some a) h.toNat 12) w := by
  rw [run_sliceAt_array_h w 162 a (by kernel_rfl) .i64 h h0 (by rw [show Tryz.prog.arrayLen 162 = 12 from by kernel_rfl]; omega)]
  rw [show Tryz.prog.arrayLen 162 = 12 from by kernel_rfl, show Tryz.prog.elem 162 = 3 from by kernel_rfl]
  rw [show (sizeOf 3).run Tryz.prog w = .ok 1 w from by kernel_rfl]
  simp [Result.andThen, slicedAt, Addr.add]

theorem ret_val' {a b c : Int} (h : a = b) : Ending.returned (.tuple #[.int .i64 a, .int .i64 c]) = .returned (.tuple #[.int .i64 b, .int .i64 c]) := by rw [h]

set_option maxHeartbeats 1000000 in
theorem of_ok (y m d : Int) (w : World) (h : Cal.ok y m d) :
    Calls Tryz.prog 203 #[.int .i64 y, .int .i64 m, .int .i64 d] w fun e w' => e = .returned (.tuple #[.int .i64 (Cal.num y m d), .int .i64 0]) ∧ Below w.heap.size w w' := by
  obtain ⟨h1, h2, h3, h4, h5, h6⟩ := h
  have ml := Cal.mlen_bd y m
  have ab := Cal.ahead_bd h1 (by omega)
  have hg := getm y (k := (m - 1).toNat) (by omega)
  rw [show (((m - 1).toNat : Nat) : Int) + 1 = m by omega, show (m - 1).toNat = m.toNat - 1 by omega] at hg
  have hsl := slice12 (m - 1) (by omega) (by omega)
  rw [show (m - 1).toNat = m.toNat - 1 by omega] at hsl
  go_enter Tryz.func203, Tryz.ntmps203
  go_wp2_with (first | (go_at_call 196; refine (lengths_any _ _ (by omega) (by omega)).mono ?_; rintro e w' ⟨rfl, hb⟩) | (go_at_call 194; refine (ahead_any _ _ (by omega) (by omega)).mono ?_; rintro e w' ⟨rfl, rfl⟩))
  clear hg
  go_loop [9, 47] (fun n i => ∃ k : Nat, (k : Int) ≤ m - 1 ∧ i = .int .i64 k ∧ n = .int .i64 (Cal.ahead y + d - 1 + Cal.cum y (k + 1))) (fun _ i => (13 - intOf i).toNat)
  case atStart => exact ⟨0, by omega, rfl, by rw [show ((0 : Nat) : Int) + 1 = 1 from rfl, Cal.cum_1]; go_num⟩
  case round =>
    obtain ⟨k, hk, rfl, rfl⟩ := hrel
    have hs := Lib.hid (Cal.cum_succ y (m := (k : Int) + 1) (by omega) (by omega))
    have hc := Cal.cum_bd y (m := (k : Int) + 1) (by omega) (by omega)
    have hm := Cal.mlen_bd y ((k : Int) + 1)
    by_cases hlt : (k : Int) < m - 1
    · have hg := getm y (k := k) (by omega)
      go_wp2
      go_round
      case rel => exact ⟨k + 1, by omega, by go_num, ret_val (by rw [show (((k + 1 : Nat) : Int) + 1) = (k : Int) + 1 + 1 by omega, hs.out]; omega)⟩
      case measure => simp [intOf]; omega
    · obtain rfl : m = k + 1 := by omega
      go_wp2
      go_ret2
      exact ⟨ret_val' (by unfold Cal.num; omega), hb.trans ((below1 _ _).mono hb.size)⟩

set_option maxHeartbeats 400000 in
theorem parts_bad (k : Int) (w : World) (h : k < 0 ∨ 73048 < k) :
    Calls Tryz.prog 168 #[.int .i64 k] w fun e w' => e = .returned (.tuple #[.int .i64 0, .int .i64 0, .int .i64 0, .int .i64 30]) ∧ Below w.heap.size w w' := by
  by_cases h1 : k < 0
  all_goals
    go_enter Tryz.func168, Tryz.ntmps168
    go_wp2
    refine bodyPost_ret (v := .tuple #[.int .i64 0, .int .i64 0, .int .i64 0, .int .i64 30]) (by simp [results, Tryz.results168, go_sem]) rfl ⟨rfl, Below.refl _ _⟩

set_option maxHeartbeats 1000000 in
theorem parts_ok (y m d k : Int) (w : World) (h : Cal.ok y m d) (hk : Cal.num y m d = k) :
    Calls Tryz.prog 168 #[.int .i64 k] w fun e w' => e = .returned (.tuple #[.int .i64 y, .int .i64 m, .int .i64 d, .int .i64 0]) ∧ Below w.heap.size w w' := by
  have nb := Cal.num_bd h
  have ny := Cal.num_lt_year h
  have ml := Cal.mlen_bd y m
  have H := Lib.hid h
  obtain ⟨h1, h2, h3, h4, h5, h6⟩ := h
  subst hk
  have g1 : Cal.ahead (1900 + Cal.num y m d / 366) ≤ Cal.num y m d := by unfold Cal.ahead; omega
  have g2 := Cal.year_le g1 ny.2
  go_enter Tryz.func168, Tryz.ntmps168
  go_wp2
  have G : Hid (Cal.ahead y ≤ Cal.num y m d ∧ Cal.num y m d < Cal.ahead (y + 1)) := ny
  clear ny g1
  go_loop [8] (fun t => ∃ z : Int, 1900 ≤ z ∧ z ≤ y ∧ t = .int .i64 z) (fun t => (2100 - intOf t).toNat)
  case atStart => exact ⟨_, by omega, g2, rfl⟩
  case round =>
    obtain ⟨z, hz1, hz2, rfl⟩ := hrel
    have ab := Cal.ahead_bd hz1 (by omega)
    have lb := Cal.lpI_b z
    have hs := Lib.hid (Cal.ahead_succ z)
    clear g2
    by_cases e : z < y
    · have hle : 365 + Cal.lpI z ≤ Cal.num y m d - Cal.ahead z := by have := Cal.ahead_mono (show z + 1 ≤ y by omega); have := hs.out; have := G.out; omega
      go_wp2_with (first | (go_at_call 194; refine (ahead_any _ _ (by omega) (by omega)).mono ?_; rintro e w' ⟨rfl, rfl⟩) | (go_at_call 195; refine (days_any _ _ (by omega) (by omega)).mono ?_; rintro e w' ⟨rfl, rfl⟩))
      go_round
      case rel => exact ⟨z + 1, by omega, by omega, rfl⟩
      case measure => simp [intOf]; omega
    · obtain rfl : z = y := by omega
      have hlt : Cal.num z m d - Cal.ahead z < 365 + Cal.lpI z := by have := hs.out; have := G.out; omega
      have hn := Lib.hid (show Cal.num z m d - Cal.ahead z = Cal.cum z m + d - 1 by unfold Cal.num; omega)
      clear hs e
      have cb := Cal.cum_bd z h3 (by omega)
      go_wp2_with (first | (go_at_call 194; refine (ahead_any _ _ (by omega) (by omega)).mono ?_; rintro e w' ⟨rfl, rfl⟩) | (go_at_call 195; refine (days_any _ _ (by omega) (by omega)).mono ?_; rintro e w' ⟨rfl, rfl⟩) | (go_at_call 196; refine (lengths_any _ _ (by omega) (by omega)).mono ?_; rintro e w' ⟨rfl, hb⟩))
      go_loop [0, 38] (fun r i => ∃ k : Nat, (k : Int) ≤ m - 1 ∧ i = .int .i64 k ∧ r = .int .i64 (Cal.cum z m + d - 1 - Cal.cum z (k + 1))) (fun _ i => (13 - intOf i).toNat)
      case atStart => exact ⟨0, by omega, rfl, ret_val (by rw [show ((0 : Nat) : Int) + 1 = 1 from rfl, Cal.cum_1, hn.out]; omega)⟩
      case round =>
        obtain ⟨k, hk, rfl, rfl⟩ := hrel
        have hs := Lib.hid (Cal.cum_succ z (m := (k : Int) + 1) (by omega) (by omega))
        have hc := Cal.cum_bd z (m := (k : Int) + 1) (by omega) (by omega)
        have hm := Cal.mlen_bd z ((k : Int) + 1)
        have hg := index12 z (k := k) (by omega)
        by_cases hlt2 : (k : Int) < m - 1
        · have hle : Cal.mlen z ((k : Int) + 1) ≤ Cal.cum z m + d - 1 - Cal.cum z (k + 1) := by
            have := Cal.cum_mono z (show 1 ≤ (k : Int) + 1 + 1 by omega) (show (k : Int) + 1 + 1 ≤ m by omega) (by omega)
            have := hs.out
            omega
          go_wp2
          go_round
          case rel => exact ⟨k + 1, by omega, by go_num, ret_val (by rw [show (((k + 1 : Nat) : Int) + 1) = (k : Int) + 1 + 1 by omega, hs.out]; omega)⟩
          case measure => simp [intOf]; omega
        · obtain rfl : m = k + 1 := by omega
          go_wp2
          refine bodyPost_ret (v := .tuple #[.int .i64 z, .int .i64 (k + 1), .int .i64 d, .int .i64 0]) ?_ rfl ⟨rfl, hb⟩
          simp [results, Tryz.results168, go_sem]
          omega

end Go.Proofs.YtcndknkdhlmdnaaGreatDoor
