/-
  Texts that the statements' proofs rest on, one behind another: ShowA, ShowB, ShowC.
-/
import Derived.Test.YtcndknkdhlmdnaaGreatDoorM06
import Derived.Deep.LoopGhost
import Derived.Shelf.Abstract
import Derived.Sort.Walk7a

/-
  show.same: are two trees the same, but for places?
-/
namespace Go.Proofs.YtcndknkdhlmdnaaGreatDoor
open Go.RowKit Go.Shelf
set_option maxRecDepth 100000

set_option maxHeartbeats 4000000 in
theorem sequal_any (t u : Nd) (a : Option Addr) (cap : Nat) (a' : Option Addr) (cap' n₀ : Nat) (w : World) (hh : t.hold n₀ w a cap) (hu : u.hold n₀ w a' cap') (hn : n₀ ≤ w.heap.size)
    (ih : ∀ (k : Nat) (hk : k < t.kids.length) (v : Nd) (x : Option Addr) (cx : Nat) (x' : Option Addr) (cx' : Nat) (cur : World), t.kids[k].hold n₀ cur x cx → v.hold n₀ cur x' cx' → n₀ ≤ cur.heap.size →
      Calls Tryz.prog 51 #[.agg #[.int .i64 t.kids[k].kind, .string t.kids[k].text, .int .i64 t.kids[k].n, .slice x t.kids[k].kids.length cx, .int .i64 t.kids[k].place], .agg #[.int .i64 v.kind, .string v.text, .int .i64 v.n, .slice x' v.kids.length cx', .int .i64 v.place]] cur fun e w' => e = .returned (.bool (sameN t.kids[k] v)) ∧ Below cur.heap.size cur w') :
    Calls Tryz.prog 76 #[.slice a t.kids.length cap, .slice a' u.kids.length cap', .func (.func 51) #[] #[]] w fun e w' => e = .returned (.bool (sameKs t.kids u.kids)) ∧ Below w.heap.size w w' := by
  have eg := enters_of Tryz.func51 (by kernel_rfl) rfl
  have hkl := hh.bounds.2.2.2.2
  have hkl' := hu.bounds.2.2.2.2
  have hm := hkl
  have hm' := hkl'
  unfold maxLen at hm hm'
  have HH := Lib.hid hh
  have HU := Lib.hid hu
  have IH := Lib.hid ih
  clear hh hu ih
  obtain ⟨ks, hks⟩ : ∃ ks, t.kids = ks := ⟨_, rfl⟩
  obtain ⟨ks', hks'⟩ : ∃ ks', u.kids = ks' := ⟨_, rfl⟩
  by_cases q4 : t.kids.length = u.kids.length
  case neg =>
    have e4 : ((t.kids.length : Int) != (u.kids.length : Int)) = true := by rw [bne_iff_ne]; omega
    have F := Lib.hid (show sameKs t.kids u.kids = false from Bool.eq_false_iff.2 fun e => q4 (sameKs_length _ _ e))
    clear q4 hks hks'
    go_enter Tryz.func76, Tryz.ntmps76
    go_wp2
    go_ret
    exact ⟨nretB F.out.symm, Below.refl _ _⟩
  have e4 : ((t.kids.length : Int) != (u.kids.length : Int)) = false := by rw [bne_eq_false_iff_eq, q4]
  have Q4 := Lib.hid q4
  clear q4 hks hks'
  go_enter Tryz.func76, Tryz.ntmps76
  go_wp2
  go_loopw [17] (fun i wr => ∃ (k : Nat), k ≤ t.kids.length ∧ i = .int .i64 k ∧ Hid (sameKs (t.kids.drop k) (u.kids.drop k) = sameKs t.kids u.kids) ∧ Hid (Below w.heap.size w wr)) (fun i _ => (t.kids.length - (intOf i).toNat))
  case atStart => exact ⟨0, Nat.zero_le _, rfl, rfl, Below.refl _ _⟩
  case round =>
    obtain ⟨k, hk, rfl, HI, HBr⟩ := hrel
    by_cases hlt : k < t.kids.length
    · have hlt' : k < u.kids.length := Q4.out ▸ hlt
      obtain ⟨b, off, x, cx, A⟩ := (HH.out.below (HBr.out.mono hn)).kid k hlt
      obtain ⟨b', off', x', cx', A'⟩ := (HU.out.below (HBr.out.mono hn)).kid k hlt'
      obtain ⟨rfl, hb0, c0, c1, c2, c3, c4, hk1⟩ := A
      obtain ⟨rfl, hb0', c0', c1', c2', c3', c4', hk1'⟩ := A'
      have HK := Lib.hid hk1
      have HK' := Lib.hid hk1'
      clear hk1 hk1'
      have S := Lib.hid (sameKs_step t.kids u.kids k hlt hlt')
      have hnr : n₀ ≤ wr.heap.size := Nat.le_trans hn HBr.out.size
      have hbw : b < wr.heap.size := Nat.lt_of_lt_of_le hb0 hnr
      have hbw' : b' < wr.heap.size := Nat.lt_of_lt_of_le hb0' hnr
      cases hsm : sameN t.kids[k] u.kids[k]
      all_goals
        go_wp2_with fail
        refine Calls.mono (IH.out k hlt u.kids[k] x cx x' cx' _ (HK.out.below (((nbelow1 wr _).alloc (by simp) _).mono hnr)) (HK'.out.below (((nbelow1 wr _).alloc (by simp) _).mono hnr)) (Nat.le_trans hnr (by simp; omega))) ?_
        rintro e w' ⟨rfl, hb⟩
        have HR := Lib.hid (HBr.out.trans ((((nbelow1 wr _).alloc (by simp) _).trans (hb.mono (by simp; omega))).mono HBr.out.size))
        clear hb
        rw [hsm]
        go_wp2_with fail
      · go_ret
        exact ⟨nretB (by rw [← HI.out, S.out, hsm]; rfl), HR.out⟩
      · go_roundw
        case rel => exact ⟨k + 1, by omega, by go_num, by show _ = _; rw [← HI.out, S.out, hsm]; rfl, HR.out⟩
        case measure => simp [intOf]; omega
    · have S := Lib.hid (sameKs_end t.kids u.kids k hlt (by rw [← Q4.out]; exact hlt))
      go_wp2
      go_ret
      exact ⟨nretB (by rw [← HI.out, S.out]), HBr.out⟩

set_option maxHeartbeats 4000000 in
theorem ssame_any' (N : Nat) : ∀ (t : Nd), SizeOf.sizeOf t < N → ∀ (u : Nd) (a : Option Addr) (cap : Nat) (a' : Option Addr) (cap' n₀ : Nat) (w : World), t.hold n₀ w a cap → u.hold n₀ w a' cap' → n₀ ≤ w.heap.size →
    Calls Tryz.prog 51 #[.agg #[.int .i64 t.kind, .string t.text, .int .i64 t.n, .slice a t.kids.length cap, .int .i64 t.place], .agg #[.int .i64 u.kind, .string u.text, .int .i64 u.n, .slice a' u.kids.length cap', .int .i64 u.place]] w fun e w' => e = .returned (.bool (sameN t u)) ∧ Below w.heap.size w w' := by
  induction N with
  | zero => intro t ht; omega
  | succ N ih =>
  intro t ht u a cap a' cap' n₀ w hh hu hn
  have hk : ∀ (k : Nat) (hk : k < t.kids.length), SizeOf.sizeOf t.kids[k] < N := by
    cases t with
    | mk kind s n ks p => exact fun k hk => nkid_size hk ht
  have IH := Lib.hid fun (k : Nat) (h : k < t.kids.length) => ih _ (hk k h)
  have HH := Lib.hid hh
  have HU := Lib.hid hu
  clear hh hu ih ht hk
  have E := Lib.hid (sameN_eq t u)
  cases t with
  | mk kind s n ks p =>
  cases u with
  | mk kind' s' n' ks' p' =>
  show Calls Tryz.prog 51 #[.agg #[.int .i64 kind, .string s, .int .i64 n, .slice a ks.length cap, .int .i64 p], .agg #[.int .i64 kind', .string s', .int .i64 n', .slice a' ks'.length cap', .int .i64 p']] w _
  by_cases q1 : kind = kind'
  case neg =>
    have HB : Hid (Below w.heap.size w ((w.alloc (.cells #[.int .i64 kind, .string s, .int .i64 n, .slice a ks.length cap, .int .i64 p] 24)).alloc (.cells #[.int .i64 kind', .string s', .int .i64 n', .slice a' ks'.length cap', .int .i64 p'] 24))) := (nbelow1 _ _).alloc (by simp) _
    have e1 : (kind == kind') = false := by simpa using q1
    have F := Lib.hid (show sameN (.mk kind s n ks p) (.mk kind' s' n' ks' p') = false by rw [E.out, show ((Nd.mk kind s n ks p).kind == (Nd.mk kind' s' n' ks' p').kind) = false from e1]; rfl)
    clear q1
    go_enter Tryz.func51, Tryz.ntmps51
    go_wp2
    go_ret
    exact ⟨nretB F.out.symm, HB.out⟩
  subst q1
  by_cases q2 : s = s'
  case neg =>
    have HB : Hid (Below w.heap.size w ((w.alloc (.cells #[.int .i64 kind, .string s, .int .i64 n, .slice a ks.length cap, .int .i64 p] 24)).alloc (.cells #[.int .i64 kind, .string s', .int .i64 n', .slice a' ks'.length cap', .int .i64 p'] 24))) := (nbelow1 _ _).alloc (by simp) _
    have e2 : (s.toList == s'.toList) = false := beq_eq_false_iff_ne.2 fun e => q2 (nbytes e)
    have F := Lib.hid (show sameN (.mk kind s n ks p) (.mk kind s' n' ks' p') = false by rw [E.out, show ((Nd.mk kind s n ks p).text.toList == (Nd.mk kind s' n' ks' p').text.toList) = false from e2]; simp)
    have e2' : ¬ s.toList = s'.toList := fun e => q2 (nbytes e)
    clear q2 e2
    go_enter Tryz.func51, Tryz.ntmps51
    go_wp2
    go_ret
    exact ⟨nretB F.out.symm, HB.out⟩
  subst q2
  by_cases q3 : n = n'
  case neg =>
    have HB : Hid (Below w.heap.size w ((w.alloc (.cells #[.int .i64 kind, .string s, .int .i64 n, .slice a ks.length cap, .int .i64 p] 24)).alloc (.cells #[.int .i64 kind, .string s, .int .i64 n', .slice a' ks'.length cap', .int .i64 p'] 24))) := (nbelow1 _ _).alloc (by simp) _
    have e3 : (n == n') = false := by simpa using q3
    have F := Lib.hid (show sameN (.mk kind s n ks p) (.mk kind s n' ks' p') = false by rw [E.out, show ((Nd.mk kind s n ks p).n == (Nd.mk kind s n' ks' p').n) = false from e3]; simp)
    clear q3
    go_enter Tryz.func51, Tryz.ntmps51
    go_wp2
    go_ret
    exact ⟨nretB F.out.symm, HB.out⟩
  subst q3
  have HB : Hid (Below w.heap.size w ((w.alloc (.cells #[.int .i64 kind, .string s, .int .i64 n, .slice a ks.length cap, .int .i64 p] 24)).alloc (.cells #[.int .i64 kind, .string s, .int .i64 n, .slice a' ks'.length cap', .int .i64 p'] 24))) := (nbelow1 _ _).alloc (by simp) _
  have F := Lib.hid (show sameN (.mk kind s n ks p) (.mk kind s n ks' p') = sameKs ks ks' by rw [E.out]; simp [Nd.kind, Nd.text, Nd.n, Nd.kids])
  go_enter Tryz.func51, Tryz.ntmps51
  go_wp2_with (first | (go_at_call 76; refine (sequal_any (.mk kind s n ks p) (.mk kind s n ks' p') a cap a' cap' n₀ _ (HH.out.below (HB.out.mono hn)) (HU.out.below (HB.out.mono hn)) (Nat.le_trans hn HB.out.size) (fun k hk v x cx x' cx' cur h h' hc => IH.out k hk v x cx x' cx' n₀ cur h h' hc)).mono ?_; rintro e w' ⟨rfl, hb⟩))
  go_ret
  exact ⟨nretB F.out.symm, HB.out.trans (hb.mono HB.out.size)⟩
theorem ssame_any (t u : Nd) (a : Option Addr) (cap : Nat) (a' : Option Addr) (cap' n₀ : Nat) (w : World) (h : t.hold n₀ w a cap) (h' : u.hold n₀ w a' cap') (hn : n₀ ≤ w.heap.size) :
    Calls Tryz.prog 51 #[.agg #[.int .i64 t.kind, .string t.text, .int .i64 t.n, .slice a t.kids.length cap, .int .i64 t.place], .agg #[.int .i64 u.kind, .string u.text, .int .i64 u.n, .slice a' u.kids.length cap', .int .i64 u.place]] w fun e w' => e = .returned (.bool (sameN t u)) ∧ Below w.heap.size w w' :=
  ssame_any' _ t (Nat.lt_succ_self _) u a cap a' cap' n₀ w h h' hn

end Go.Proofs.YtcndknkdhlmdnaaGreatDoor

/-
  show.small: has a tree at most 8192 nodes?
-/
namespace Go.Proofs.YtcndknkdhlmdnaaGreatDoor
open Go.RowKit Go.Shelf
set_option maxRecDepth 100000

theorem below_set {B : Nat} {A C : World} (h : Below B A C) (p : Addr) (v : Value) : Below B (A.setCell p v) (C.setCell p v) :=
  ⟨h.os, h.tape, h.output, by simpa [World.setCell] using h.size, fun k hk => by
    have e := h.block k hk
    simp only [World.setCell, Array.getElem?_modify]
    rw [e]⟩
theorem below_set2 {B : Nat} {A C D : World} {L : Nat} {v v' : Value} (h : Below B (A.setCell ⟨L, 0, none⟩ v) C) (h' : Below B (C.setCell ⟨L, 0, none⟩ v') D) : Below B (A.setCell ⟨L, 0, none⟩ v') D := by
  have := below_set h ⟨L, 0, none⟩ v'
  rw [Go.Proofs.setCell_setCell] at this
  exact this.trans h'
/-- a tree below a written cell -/
theorem hold_set {n₀ L : Nat} {w : World} {t : Nd} {a : Option Addr} {cap : Nat} (h : t.hold n₀ w a cap) (hL : n₀ ≤ L) (v : Value) : t.hold n₀ (w.setCell ⟨L, 0, none⟩ v) a cap :=
  h.below ((Below.refl n₀ w).setCell (p := ⟨L, 0, none⟩) hL v)

/-- the value of the closure that counts -/
abbrev walkF (L K : Nat) : Value := .func (.func 61) #[] #[.pointer (some ⟨L, 0, none⟩), .pointer (some ⟨K, 0, none⟩)]
/-- what the closure keeps: the counter's cell and its own -/
structure Cnt (L K : Nat) (m : Int) (w : World) : Prop where
  lt : L < w.heap.size
  lk : K < w.heap.size
  ne : L ≠ K
  cell : w.cell? ⟨L, 0, none⟩ = some (.int .i64 m)
  froz : w.frozen? ⟨L, 0, none⟩ = false
  own : w.cell? ⟨K, 0, none⟩ = some (walkF L K)
theorem Cnt.set {L K : Nat} {m : Int} {w : World} (h : Cnt L K m w) (y : Int) : Cnt L K y (w.setCell ⟨L, 0, none⟩ (.int .i64 y)) :=
  ⟨by simpa [World.setCell] using h.lt, by simpa [World.setCell] using h.lk, h.ne, World.cell?_setCell_same' _ _ _ (by rw [h.cell]; rfl), by rw [World.frozen?_setCell]; exact h.froz, by rw [World.cell?_setCell_other _ _ _ _ (by simp; exact fun e => h.ne e)]; exact h.own⟩
theorem Cnt.below {L K : Nat} {m : Int} {w w' : World} (h : Cnt L K m w) {B : Nat} (hb : Below B w w') (hL : L < B) (hK : K < B) : Cnt L K m w' :=
  ⟨Nat.lt_of_lt_of_le h.lt hb.size, Nat.lt_of_lt_of_le h.lk hb.size, h.ne, (hb.cell (p := ⟨L, 0, none⟩) hL).trans h.cell, (hb.frozen (p := ⟨L, 0, none⟩) hL).trans h.froz, (hb.cell (p := ⟨K, 0, none⟩) hK).trans h.own⟩
/-- the closure's contract at a tree -/
def Walks (t : Nd) (L K n₀ : Nat) : Prop := ∀ (a : Option Addr) (cap : Nat) (m : Int) (w : World), t.hold n₀ w a cap → n₀ ≤ L → n₀ ≤ K → Cnt L K m w → 0 ≤ m → m ≤ 8192 →
  Calls Tryz.prog 61 #[.agg #[.int .i64 t.kind, .string t.text, .int .i64 t.n, .slice a t.kids.length cap, .int .i64 t.place], .pointer (some ⟨L, 0, none⟩), .pointer (some ⟨K, 0, none⟩)] w fun e w' => e = .returned (.bool (decide (0 ≤ leftN t m))) ∧ Below w.heap.size (w.setCell ⟨L, 0, none⟩ (.int .i64 (leftN t m))) w'

set_option maxHeartbeats 1000000 in
theorem snot_any (t : Nd) (L K n₀ : Nat) (ih : Walks t L K n₀) (a : Option Addr) (cap : Nat) (m : Int) (w : World) (hh : t.hold n₀ w a cap) (hL : n₀ ≤ L) (hK : n₀ ≤ K) (hc : Cnt L K m w) (h0 : 0 ≤ m) (h1 : m ≤ 8192) :
    Calls Tryz.prog 63 #[.agg #[.int .i64 t.kind, .string t.text, .int .i64 t.n, .slice a t.kids.length cap, .int .i64 t.place], .pointer (some ⟨K, 0, none⟩)] w fun e w' => e = .returned (.bool (!decide (0 ≤ leftN t m))) ∧ Below w.heap.size (w.setCell ⟨L, 0, none⟩ (.int .i64 (leftN t m))) w' := by
  have eg := enters_of Tryz.func61 (by kernel_rfl) rfl
  have HH := Lib.hid hh
  have HC := Lib.hid hc
  have IH := Lib.hid ih
  have ow := hc.own
  have lk := hc.lk
  have hn : n₀ ≤ w.heap.size := Nat.le_trans hL (Nat.le_of_lt hc.lt)
  clear hh hc ih
  go_enter Tryz.func63, Tryz.ntmps63
  go_wp2_with fail
  have hb1 := nbelow1 w (.cells #[.int .i64 t.kind, .string t.text, .int .i64 t.n, .slice a t.kids.length cap, .int .i64 t.place] 24)
  refine Calls.mono (IH.out a cap m _ (HH.out.below (hb1.mono hn)) hL hK (HC.out.below hb1 HC.out.lt HC.out.lk) h0 h1) ?_
  rintro e w' ⟨rfl, hb⟩
  have HB := Lib.hid ((below_set hb1 ⟨L, 0, none⟩ (.int .i64 (leftN t m))).trans (hb.mono (by simp)))
  clear hb hb1
  go_wp2_with fail
  go_ret
  exact ⟨rfl, HB.out⟩

set_option maxHeartbeats 2000000 in
theorem sindex_any (t : Nd) (L K n₀ : Nat) (ih : ∀ k (hk : k < t.kids.length), Walks t.kids[k] L K n₀) (a : Option Addr) (cap : Nat) (m : Int) (w : World) (hh : t.hold n₀ w a cap) (hL : n₀ ≤ L) (hK : n₀ ≤ K) (hc : Cnt L K m w) (h0 : 0 ≤ m) (h1 : m ≤ 8192)
    (hw : w.setCell ⟨L, 0, none⟩ (.int .i64 m) = w) :
    Calls Tryz.prog 39 #[.slice a t.kids.length cap, .func (.func 63) #[] #[.pointer (some ⟨K, 0, none⟩)]] w fun e w' => ∃ r : Int, e = .returned (.int .i64 r) ∧ (0 ≤ r ↔ leftKs t.kids m < 0) ∧ Below w.heap.size (w.setCell ⟨L, 0, none⟩ (.int .i64 (leftKs t.kids m))) w' := by
  have eg := enters_of Tryz.func63 (by kernel_rfl) rfl
  have hkl := hh.bounds.2.2.2.2
  have hm := hkl
  unfold maxLen at hm
  have HH := Lib.hid hh
  have HC := Lib.hid hc
  have IH := Lib.hid ih
  have HW := Lib.hid hw
  have hn : n₀ ≤ w.heap.size := Nat.le_trans hL (Nat.le_of_lt hc.lt)
  clear hh hc ih hw
  go_enter Tryz.func39, Tryz.ntmps39
  go_wp2_with fail
  go_loopw [8] (fun i wr => ∃ (k : Nat) (z : Int), k ≤ t.kids.length ∧ i = .int .i64 k ∧ 0 ≤ z ∧ z ≤ 8192 ∧ Hid (leftKs (t.kids.drop k) z = leftKs t.kids m) ∧ Hid (Below w.heap.size (w.setCell ⟨L, 0, none⟩ (.int .i64 z)) wr)) (fun i _ => (t.kids.length - (intOf i).toNat))
  case atStart => exact ⟨0, m, Nat.zero_le _, rfl, h0, h1, rfl, by show Below _ _ _; rw [HW.out]; exact Below.refl _ _⟩
  case round =>
    obtain ⟨k, z, hk, rfl, hz0, hz1, HI, HBr⟩ := hrel
    have hnr : w.heap.size ≤ wr.heap.size := by have := HBr.out.size; simpa [World.setCell] using this
    by_cases hlt : k < t.kids.length
    · have CR := Lib.hid ((HC.out.set z).below HBr.out HC.out.lt HC.out.lk)
      obtain ⟨b, off, x, cx, A⟩ := ((hold_set HH.out hL (.int .i64 z)).below (HBr.out.mono hn)).kid k hlt
      obtain ⟨rfl, hb0, c0, c1, c2, c3, c4, hk1⟩ := A
      have HK := Lib.hid hk1
      clear hk1
      have R := leftN_range t.kids[k] z hz0
      have S := Lib.hid (leftKs_step t.kids k hlt z)
      by_cases hl : 0 ≤ leftN t.kids[k] z
      all_goals
        go_wp2_with fail
        refine Calls.mono (snot_any t.kids[k] L K n₀ (IH.out k hlt) x cx z _ HK.out hL hK CR.out hz0 hz1) ?_
        rintro e w' ⟨rfl, hb⟩
        have HB := Lib.hid (below_set2 HBr.out (hb.mono hnr))
        clear hb
      · rw [decide_eq_true hl]
        go_wp2_with fail
        go_roundw
        case rel => exact ⟨k + 1, _, by omega, by go_num, hl, by omega, by show _ = _; rw [← HI.out, S.out, if_pos hz0], HB.out⟩
        case measure => simp [intOf]; omega
      · rw [decide_eq_false (show ¬ 0 ≤ leftN t.kids[k] z by omega)]
        have F := Lib.hid (show leftKs t.kids m = leftN t.kids[k] z by rw [← HI.out, S.out, if_pos hz0, leftKs_neg _ (show ¬ 0 ≤ leftN t.kids[k] z by omega)])
        go_wp2_with fail
        go_ret
        exact ⟨k, rfl, by rw [F.out]; omega, by rw [F.out]; exact HB.out⟩
    · have S := Lib.hid (leftKs_end t.kids k hlt z)
      have F := Lib.hid (show leftKs t.kids m = z by rw [← HI.out, S.out])
      go_wp2_with fail
      go_ret
      exact ⟨-1, rfl, by rw [F.out]; omega, by rw [F.out]; exact HBr.out⟩

set_option maxHeartbeats 1000000 in
theorem scontains_any (t : Nd) (L K n₀ : Nat) (ih : ∀ k (hk : k < t.kids.length), Walks t.kids[k] L K n₀) (a : Option Addr) (cap : Nat) (m : Int) (w : World) (hh : t.hold n₀ w a cap) (hL : n₀ ≤ L) (hK : n₀ ≤ K) (hc : Cnt L K m w) (h0 : 0 ≤ m) (h1 : m ≤ 8192)
    (hw : w.setCell ⟨L, 0, none⟩ (.int .i64 m) = w) :
    Calls Tryz.prog 62 #[.slice a t.kids.length cap, .func (.func 63) #[] #[.pointer (some ⟨K, 0, none⟩)]] w fun e w' => e = .returned (.bool (decide (leftKs t.kids m < 0))) ∧ Below w.heap.size (w.setCell ⟨L, 0, none⟩ (.int .i64 (leftKs t.kids m))) w' := by
  have C := Lib.hid (sindex_any t L K n₀ ih a cap m w hh hL hK hc h0 h1 hw)
  clear ih hh hc hw
  go_enter Tryz.func62, Tryz.ntmps62
  go_wp2_with fail
  refine Calls.mono C.out ?_
  rintro e w' ⟨r, rfl, hr, hb⟩
  have HB := Lib.hid hb
  have HR := Lib.hid hr
  clear hb hr
  go_wp2_with fail
  go_ret
  exact ⟨nretB (by rw [Bool.eq_iff_iff]; simp only [decide_eq_true_eq]; exact HR.out), HB.out⟩

set_option maxHeartbeats 2000000 in
theorem swalk_any (N : Nat) : ∀ (t : Nd), SizeOf.sizeOf t < N → ∀ (L K n₀ : Nat), Walks t L K n₀ := by
  induction N with
  | zero => intro t ht; omega
  | succ N ih =>
  intro t ht L K n₀ a cap m w hh hL hK hc h0 h1
  have hk : ∀ (k : Nat) (hk : k < t.kids.length), Walks t.kids[k] L K n₀ := by
    cases t with
    | mk kind s n ks p => exact fun k hk => ih _ (nkid_size hk ht) L K n₀
  have E := Lib.hid (show leftN t m = leftKs t.kids (m - 1) by cases t; rw [leftN]; rfl)
  have IH := Lib.hid hk
  have HH := Lib.hid hh
  have HC := Lib.hid hc
  have hn : n₀ ≤ w.heap.size := Nat.le_trans hL (Nat.le_of_lt hc.lt)
  clear hh hc hk ih ht
  have hb1 := nbelow1 w (.cells #[.int .i64 t.kind, .string t.text, .int .i64 t.n, .slice a t.kids.length cap, .int .i64 t.place] 24)
  obtain ⟨c, z⟩ : _ ∧ _ := ⟨(HC.out.below hb1 HC.out.lt HC.out.lk).cell, (HC.out.below hb1 HC.out.lt HC.out.lk).froz⟩
  go_enter Tryz.func61, Tryz.ntmps61
  by_cases hm : 0 ≤ m - 1
  · go_wp2_with fail
    refine Calls.mono (scontains_any t L K n₀ IH.out a cap (m - 1) _ (hold_set (HH.out.below (hb1.mono hn)) hL _) hL hK ((HC.out.below hb1 HC.out.lt HC.out.lk).set (m - 1)) hm (by omega) (Go.Proofs.setCell_setCell _ _ _ _ _)) ?_
    rintro e w' ⟨rfl, hb⟩
    rw [Go.Proofs.setCell_setCell] at hb
    have HB := Lib.hid ((below_set hb1 ⟨L, 0, none⟩ (.int .i64 (leftKs t.kids (m - 1)))).trans (hb.mono (by simp [World.setCell])))
    clear hb hb1 c z
    go_wp2_with fail
    go_ret
    exact ⟨nretB (by rw [E.out, Bool.eq_iff_iff]; simp), by rw [E.out]; exact HB.out⟩
  · have F := Lib.hid (show leftN t m = m - 1 by rw [E.out, leftKs_neg _ hm])
    have HB := Lib.hid (below_set hb1 ⟨L, 0, none⟩ (.int .i64 (m - 1)))
    go_wp2_with fail
    go_ret
    exact ⟨nretB (by rw [F.out, decide_eq_false (show ¬ 0 ≤ m - 1 by omega)]), by rw [F.out]; exact HB.out⟩

end Go.Proofs.YtcndknkdhlmdnaaGreatDoor

/-
  show.small and show.Same, and usanceref09.Same.
-/
namespace Go.Proofs.YtcndknkdhlmdnaaGreatDoor
open Go.RowKit Go.Shelf
set_option maxRecDepth 100000

theorem run_store_func (P : Program) (w : World) (p : Addr) (f : Fn) (x y : Array Value) (v : Value) (m : Mode) (h : w.cell? p = some v) (hf : w.frozen? p = false) : (store p (.func f x y) m).run P w = .ok () (w.setCell p (.func f x y)) := by
  rw [run_store P w p _ m rfl, h]
  simp [hf]
/-- the two cells that show.small lays -/
def cntW (w : World) (K : Value) : World := ((w.alloc (.cells #[.int .i64 8192] 3)).alloc (.cells #[.nilFunc] 29)).setCell ⟨w.heap.size + 1, 0, none⟩ K
theorem cnt_of (w : World) : Cnt w.heap.size (w.heap.size + 1) 8192 (cntW w (walkF w.heap.size (w.heap.size + 1))) := by
  unfold cntW
  refine ⟨by simp [World.setCell]; omega, by simp [World.setCell], by omega, ?_, ?_, ?_⟩
  · rw [World.cell?_setCell_other _ _ _ _ (by simp)]; simp
  · rw [World.frozen?_setCell]; simp
  · exact World.cell?_setCell_same' _ _ _ (by simp)
theorem cntW_below (w : World) (K : Value) : Below w.heap.size w (cntW w K) :=
  ((nbelow1 w _).alloc (by simp) _).setCell (p := ⟨w.heap.size + 1, 0, none⟩) (by show w.heap.size ≤ w.heap.size + 1; omega) _

set_option maxHeartbeats 1000000 in
theorem ssmall_any (t : Nd) (a : Option Addr) (cap n₀ : Nat) (w : World) (hh : t.hold n₀ w a cap) (hn : n₀ ≤ w.heap.size) :
    Calls Tryz.prog 37 #[.agg #[.int .i64 t.kind, .string t.text, .int .i64 t.n, .slice a t.kids.length cap, .int .i64 t.place]] w fun e w' => e = .returned (.bool (smallN t)) ∧ Below w.heap.size w w' := by
  have HH := Lib.hid hh
  clear hh
  have E := Lib.hid (show smallN t = decide (0 ≤ leftN t 8192) from rfl)
  go_enter Tryz.func37, Tryz.ntmps37
  go_wp2_with fail
  obtain ⟨W1, hW1⟩ : ∃ W1, W1 = w.alloc (.cells #[.int .i64 t.kind, .string t.text, .int .i64 t.n, .slice a t.kids.length cap, .int .i64 t.place] 24) := ⟨_, rfl⟩
  have HB := Lib.hid (show Below w.heap.size w W1 from hW1 ▸ nbelow1 _ _)
  have hsz : W1.heap.size = w.heap.size + 1 := by rw [hW1]; simp
  have hbx := nbox w (.int .i64 t.kind) (.string t.text) (.int .i64 t.n) (.slice a t.kids.length cap) (.int .i64 t.place)
  rw [← hW1] at hbx ⊢
  clear hW1
  rw [run_store_func _ _ _ _ _ _ .nilFunc _ (by rw [← hsz]; simp) (by rw [← hsz]; simp)]
  have hc0 := cnt_of W1
  have hb0 := cntW_below W1 (walkF W1.heap.size (W1.heap.size + 1))
  have ew : ∀ v, ((W1.alloc (.cells #[.int .i64 8192] 3)).alloc (.cells #[.nilFunc] 29)).setCell ⟨w.heap.size + 1 + 1, 0, none⟩ v = cntW W1 v := fun v => by unfold cntW; rw [hsz]
  rw [ew]
  clear ew
  rw [hsz] at hc0 hb0
  generalize cntW W1 (walkF (w.heap.size + 1) (w.heap.size + 1 + 1)) = W2 at hc0 hb0 ⊢
  have HC := Lib.hid hc0
  have HB1 := Lib.hid (show Below W1.heap.size W1 W2 from hsz.symm ▸ hb0)
  clear hc0 hb0
  have ow := HC.out.own
  obtain ⟨b0, b1, b2, b3, b4⟩ := hbx
  have lt : w.heap.size < W1.heap.size := by omega
  have d0 := (HB1.out.cell (p := ⟨w.heap.size, 0, none⟩) lt).trans b0
  have d1 := (HB1.out.cell (p := ⟨w.heap.size, 1, none⟩) lt).trans b1
  have d2 := (HB1.out.cell (p := ⟨w.heap.size, 2, none⟩) lt).trans b2
  have d3 := (HB1.out.cell (p := ⟨w.heap.size, 3, none⟩) lt).trans b3
  have d4 := (HB1.out.cell (p := ⟨w.heap.size, 4, none⟩) lt).trans b4
  clear b0 b1 b2 b3 b4
  go_wp2_with fail
  have hn1 : n₀ ≤ W1.heap.size := by omega
  have HT := Lib.hid ((HH.out.below (HB.out.mono hn)).below (HB1.out.mono hn1))
  refine Calls.mono (swalk_any _ t (Nat.lt_succ_self _) (w.heap.size + 1) (w.heap.size + 1 + 1) n₀ a cap 8192 W2 HT.out (by omega) (by omega) HC.out (by omega) (by omega)) ?_
  rintro e w' ⟨rfl, hb⟩
  have HW := Lib.hid (HB.out.trans (((HB1.out.mono (Nat.le_of_lt lt)).setCell (p := ⟨w.heap.size + 1, 0, none⟩) (by show w.heap.size ≤ w.heap.size + 1; omega) (.int .i64 (leftN t 8192))).trans (hb.mono (Nat.le_trans (Nat.le_of_lt lt) HB1.out.size))))
  clear hb
  go_wp2_with fail
  go_ret
  exact ⟨nretB E.out.symm, HW.out⟩

/-- a node in a cell of its own -/
structure Boxed (b : Nat) (t : Nd) (a : Option Addr) (cap : Nat) (w : World) : Prop where
  lt : b < w.heap.size
  c0 : w.cell? ⟨b, 0, none⟩ = some (.int .i64 t.kind)
  c1 : w.cell? ⟨b, 1, none⟩ = some (.string t.text)
  c2 : w.cell? ⟨b, 2, none⟩ = some (.int .i64 t.n)
  c3 : w.cell? ⟨b, 3, none⟩ = some (.slice a t.kids.length cap)
  c4 : w.cell? ⟨b, 4, none⟩ = some (.int .i64 t.place)
theorem Boxed.below {b : Nat} {t : Nd} {a : Option Addr} {cap : Nat} {w w' : World} (h : Boxed b t a cap w) (hb : Below w.heap.size w w') : Boxed b t a cap w' :=
  ⟨Nat.lt_of_lt_of_le h.lt hb.size, (hb.cell (p := ⟨b, 0, none⟩) h.lt).trans h.c0, (hb.cell (p := ⟨b, 1, none⟩) h.lt).trans h.c1, (hb.cell (p := ⟨b, 2, none⟩) h.lt).trans h.c2, (hb.cell (p := ⟨b, 3, none⟩) h.lt).trans h.c3, (hb.cell (p := ⟨b, 4, none⟩) h.lt).trans h.c4⟩
theorem Boxed.cells {b : Nat} {t : Nd} {a : Option Addr} {cap : Nat} {w : World} (h : Boxed b t a cap w) : w.cell? ⟨b, 0, none⟩ = some (.int .i64 t.kind) ∧ w.cell? ⟨b, 1, none⟩ = some (.string t.text) ∧ w.cell? ⟨b, 2, none⟩ = some (.int .i64 t.n) ∧
    w.cell? ⟨b, 3, none⟩ = some (.slice a t.kids.length cap) ∧ w.cell? ⟨b, 4, none⟩ = some (.int .i64 t.place) := ⟨h.c0, h.c1, h.c2, h.c3, h.c4⟩
theorem Boxed.make (w : World) (t : Nd) (a : Option Addr) (cap : Nat) : Boxed w.heap.size t a cap (w.alloc (.cells #[.int .i64 t.kind, .string t.text, .int .i64 t.n, .slice a t.kids.length cap, .int .i64 t.place] 24)) := by
  refine ⟨?_, ?_, ?_, ?_, ?_, ?_⟩ <;> simp

set_option maxHeartbeats 2000000 in
theorem sSame_any (t u : Nd) (a : Option Addr) (cap : Nat) (a' : Option Addr) (cap' n₀ : Nat) (w : World) (hh : t.hold n₀ w a cap) (hu : u.hold n₀ w a' cap') (hn : n₀ ≤ w.heap.size) :
    Calls Tryz.prog 23 #[.agg #[.int .i64 t.kind, .string t.text, .int .i64 t.n, .slice a t.kids.length cap, .int .i64 t.place], .agg #[.int .i64 u.kind, .string u.text, .int .i64 u.n, .slice a' u.kids.length cap', .int .i64 u.place]] w
      fun e w' => e = .returned (.bool (smallN t && smallN u && sameN t u)) ∧ Below w.heap.size w w' := by
  have HB : Hid (Below w.heap.size w ((w.alloc (.cells #[.int .i64 t.kind, .string t.text, .int .i64 t.n, .slice a t.kids.length cap, .int .i64 t.place] 24)).alloc (.cells #[.int .i64 u.kind, .string u.text, .int .i64 u.n, .slice a' u.kids.length cap', .int .i64 u.place] 24))) := (nbelow1 _ _).alloc (by simp) _
  have HH := Lib.hid (hh.below (HB.out.mono hn))
  have HU := Lib.hid (hu.below (HB.out.mono hn))
  have b0 : Hid (Boxed w.heap.size t a cap ((w.alloc (.cells #[.int .i64 t.kind, .string t.text, .int .i64 t.n, .slice a t.kids.length cap, .int .i64 t.place] 24)).alloc (.cells #[.int .i64 u.kind, .string u.text, .int .i64 u.n, .slice a' u.kids.length cap', .int .i64 u.place] 24))) := by
    refine ⟨by simp <;> omega, ?_, ?_, ?_, ?_, ?_⟩ <;> simp
  have b1 : Hid (Boxed (w.heap.size + 1) u a' cap' ((w.alloc (.cells #[.int .i64 t.kind, .string t.text, .int .i64 t.n, .slice a t.kids.length cap, .int .i64 t.place] 24)).alloc (.cells #[.int .i64 u.kind, .string u.text, .int .i64 u.n, .slice a' u.kids.length cap', .int .i64 u.place] 24))) := by
    refine ⟨by simp <;> omega, ?_, ?_, ?_, ?_, ?_⟩ <;> simp
  clear hh hu
  cases h1 : smallN t
  · go_enter Tryz.func23, Tryz.ntmps23
    go_wp2_with fail
    refine Calls.mono (ssmall_any t a cap n₀ _ HH.out (Nat.le_trans hn HB.out.size)) ?_
    rintro e w' ⟨rfl, hb⟩
    rw [h1]
    have HW := Lib.hid (HB.out.trans (hb.mono HB.out.size))
    go_wp2_with fail
    go_ret
    exact ⟨rfl, HW.out⟩
  · cases h2 : smallN u
    all_goals
      go_enter Tryz.func23, Tryz.ntmps23
      go_wp2_with fail
      refine Calls.mono (ssmall_any t a cap n₀ _ HH.out (Nat.le_trans hn HB.out.size)) ?_
      rintro e w1 ⟨rfl, hb⟩
      rw [h1]
      have HW := Lib.hid (HB.out.trans (hb.mono HB.out.size))
      have c0 := Lib.hid (b0.out.below hb)
      have c1 := Lib.hid (b1.out.below hb)
      have H1 := Lib.hid (HH.out.below (hb.mono (Nat.le_trans hn HB.out.size)))
      have U1 := Lib.hid (HU.out.below (hb.mono (Nat.le_trans hn HB.out.size)))
      clear hb b0 b1
      obtain ⟨y0, y1, y2, y3, y4⟩ := c1.out.cells
      go_wp2_with fail
      refine Calls.mono (ssmall_any u a' cap' n₀ _ U1.out (Nat.le_trans hn HW.out.size)) ?_
      rintro e w2 ⟨rfl, hb⟩
      rw [h2]
      clear y0 y1 y2 y3 y4
      have HX := Lib.hid (HW.out.trans (hb.mono HW.out.size))
      have d0 := Lib.hid (c0.out.below hb)
      have d1 := Lib.hid (c1.out.below hb)
      have H2 := Lib.hid (H1.out.below (hb.mono (Nat.le_trans hn HW.out.size)))
      have U2 := Lib.hid (U1.out.below (hb.mono (Nat.le_trans hn HW.out.size)))
      clear hb c0 c1 HW HB
      obtain ⟨x0, x1, x2, x3, x4⟩ := d0.out.cells
      obtain ⟨y0, y1, y2, y3, y4⟩ := d1.out.cells
      go_wp2_with fail
    · go_ret
      exact ⟨rfl, HX.out⟩
    · refine Calls.mono (ssame_any t u a cap a' cap' n₀ _ H2.out U2.out (Nat.le_trans hn HX.out.size)) ?_
      rintro e w3 ⟨rfl, hb⟩
      have HZ := Lib.hid (HX.out.trans (hb.mono HX.out.size))
      clear hb
      go_wp2_with fail
      go_ret
      exact ⟨rfl, HZ.out⟩

set_option maxHeartbeats 2000000 in
theorem rSame9_any (t u : Nd) (a : Option Addr) (cap : Nat) (a' : Option Addr) (cap' n₀ : Nat) (w : World) (hh : t.hold n₀ w a cap) (hu : u.hold n₀ w a' cap') (hn : n₀ ≤ w.heap.size) :
    Calls Tryz.prog 24 #[.agg #[.int .i64 t.kind, .string t.text, .int .i64 t.n, .slice a t.kids.length cap, .int .i64 t.place], .agg #[.int .i64 u.kind, .string u.text, .int .i64 u.n, .slice a' u.kids.length cap', .int .i64 u.place]] w
      fun e w' => e = .returned (.bool (smallN t && smallN u && sameN t u)) ∧ Below w.heap.size w w' := by
  have HB : Hid (Below w.heap.size w ((w.alloc (.cells #[.int .i64 t.kind, .string t.text, .int .i64 t.n, .slice a t.kids.length cap, .int .i64 t.place] 24)).alloc (.cells #[.int .i64 u.kind, .string u.text, .int .i64 u.n, .slice a' u.kids.length cap', .int .i64 u.place] 24))) := (nbelow1 _ _).alloc (by simp) _
  have HH := Lib.hid (hh.below (HB.out.mono hn))
  have HU := Lib.hid (hu.below (HB.out.mono hn))
  have b0 : Hid (Boxed w.heap.size t a cap ((w.alloc (.cells #[.int .i64 t.kind, .string t.text, .int .i64 t.n, .slice a t.kids.length cap, .int .i64 t.place] 24)).alloc (.cells #[.int .i64 u.kind, .string u.text, .int .i64 u.n, .slice a' u.kids.length cap', .int .i64 u.place] 24))) := by
    refine ⟨by simp <;> omega, ?_, ?_, ?_, ?_, ?_⟩ <;> simp
  have b1 : Hid (Boxed (w.heap.size + 1) u a' cap' ((w.alloc (.cells #[.int .i64 t.kind, .string t.text, .int .i64 t.n, .slice a t.kids.length cap, .int .i64 t.place] 24)).alloc (.cells #[.int .i64 u.kind, .string u.text, .int .i64 u.n, .slice a' u.kids.length cap', .int .i64 u.place] 24))) := by
    refine ⟨by simp <;> omega, ?_, ?_, ?_, ?_, ?_⟩ <;> simp
  clear hh hu
  cases h1 : smallN t <;> cases h2 : smallN u
  all_goals
    go_enter Tryz.func24, Tryz.ntmps24
    go_wp2_with fail
    refine Calls.mono (rSmall_any t a cap n₀ _ HH.out (Nat.le_trans hn HB.out.size)) ?_
    rintro e w1 ⟨rfl, hb⟩
    rw [h1]
    have HW := Lib.hid (HB.out.trans (hb.mono HB.out.size))
    have c0 := Lib.hid (b0.out.below hb)
    have c1 := Lib.hid (b1.out.below hb)
    have H1 := Lib.hid (HH.out.below (hb.mono (Nat.le_trans hn HB.out.size)))
    have U1 := Lib.hid (HU.out.below (hb.mono (Nat.le_trans hn HB.out.size)))
    clear hb b0 b1
    obtain ⟨y0, y1, y2, y3, y4⟩ := c1.out.cells
    go_wp2_with fail
    refine Calls.mono (rSmall_any u a' cap' n₀ _ U1.out (Nat.le_trans hn HW.out.size)) ?_
    rintro e w2 ⟨rfl, hb⟩
    rw [h2]
    clear y0 y1 y2 y3 y4
    have HX := Lib.hid (HW.out.trans (hb.mono HW.out.size))
    have d0 := Lib.hid (c0.out.below hb)
    have d1 := Lib.hid (c1.out.below hb)
    have H2 := Lib.hid (H1.out.below (hb.mono (Nat.le_trans hn HW.out.size)))
    have U2 := Lib.hid (U1.out.below (hb.mono (Nat.le_trans hn HW.out.size)))
    clear hb c0 c1 HW HB
    obtain ⟨x0, x1, x2, x3, x4⟩ := d0.out.cells
    obtain ⟨y0, y1, y2, y3, y4⟩ := d1.out.cells
    go_wp2_with fail
  · go_ret
    exact ⟨rfl, HX.out⟩
  · go_ret
    exact ⟨rfl, HX.out⟩
  · go_ret
    exact ⟨rfl, HX.out⟩
  · refine Calls.mono (rSame_any t u a cap a' cap' n₀ _ H2.out U2.out (Nat.le_trans hn HX.out.size)) ?_
    rintro e w3 ⟨rfl, hb⟩
    have HZ := Lib.hid (HX.out.trans (hb.mono HX.out.size))
    clear hb
    go_wp2_with fail
    go_ret
    exact ⟨rfl, HZ.out⟩

end Go.Proofs.YtcndknkdhlmdnaaGreatDoor
