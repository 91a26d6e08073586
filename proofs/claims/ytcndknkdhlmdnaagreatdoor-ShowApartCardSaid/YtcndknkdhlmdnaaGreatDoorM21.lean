/-
  Texts that the statements' proofs rest on, one behind another: ShowN.
-/
import Derived.Test.YtcndknkdhlmdnaaGreatDoorM05
import Derived.Test.YtcndknkdhlmdnaaGreatDoorM16
import Derived.Test.YtcndknkdhlmdnaaGreatDoorM13
import Derived.Deep.RegionHeld3
import Derived.BigQuiet

/-
  show.plain: the form of a node without kids.
-/
namespace Go.Proofs.YtcndknkdhlmdnaaGreatDoor
open Go.RowKit Go.Shelf
set_option maxRecDepth 100000

def leafV (l : List UInt8) : Value := .iface 80 (.string ⟨l.toArray⟩)
/-- the form, or none -/
def plainV (t : Nd) : Value := if plainB t = true then leafV (formN t) else .nilIface
theorem kids_empty (t : Nd) : t.kids.isEmpty = decide ((t.kids.length : Int) ≤ 0) := by
  cases t.kids with
  | nil => rfl
  | cons a l => simp
theorem mkLeaf (x : Value) (w : World) : (Instr.makeInterface 80 x).run Tryz.prog w = .ok (.iface 80 x) w := run_makeInterface w 80 x (by kernel_rfl)
theorem retV {a b : Value} (h : a = b) : Ending.returned a = .returned b := by rw [h]

set_option maxHeartbeats 4000000 in
theorem plain_any (t : Nd) (a : Option Addr) (cap : Nat) (w : World) (hs : t.text.size ≤ 140737488355328) (hk : t.kids.length ≤ cap ∧ cap ≤ maxLen) (he : Env w) (ht : Tab w) :
    Calls Tryz.prog 104 #[.agg #[.int .i64 t.kind, .string t.text, .int .i64 t.n, .slice a t.kids.length cap, .int .i64 t.place]] w fun e w' => e = .returned (plainV t) ∧ Below w.heap.size w w' := by
  have mk := mkLeaf
  have mixed : Tryz.prog.follows .mixedOrders = true := by kernel_rfl
  have hm : t.kids.length ≤ 9223372036854775807 := Nat.le_trans hk.1 hk.2
  have HB := Lib.hid (nbelow1 w (.cells #[.int .i64 t.kind, .string t.text, .int .i64 t.n, .slice a t.kids.length cap, .int .i64 t.place] 24))
  have B0 := Lib.hid (Boxed.make w t a cap)
  have HE := Lib.hid (he.below HB.out)
  have HT := Lib.hid (ht.below HB.out)
  clear he ht
  go_enter Tryz.func104, Tryz.ntmps104
  go_wp2_with fail
  generalize (w.alloc (.cells #[.int .i64 t.kind, .string t.text, .int .i64 t.n, .slice a t.kids.length cap, .int .i64 t.place] 24)) = W1 at HB B0 HE HT ⊢
  have c1 := B0.out.c1
  go_region
  have HE1 : Hid (Env W1.drew) := HE.out
  have HT1 : Hid (Tab W1.drew) := HT.out
  have B1 : Hid (Boxed w.heap.size t a cap W1.drew) := ⟨B0.out.lt, B0.out.c0, B0.out.c1, B0.out.c2, B0.out.c3, B0.out.c4⟩
  have HB1 : Hid (Below w.heap.size w W1.drew) := ⟨HB.out.os, HB.out.tape, HB.out.output, HB.out.size, HB.out.block⟩
  clear c1 HE HT B0 HB
  generalize W1.drew = W2 at HE1 HT1 B1 HB1 ⊢
  have P := Lib.hid (show plainV t = if plainB t = true then leafV (formN t) else .nilIface from rfl)
  have PB := Lib.hid (show plainB t = (decide (5 ≤ t.kind ∧ t.kind ≤ 10) && (textOk t.kind t.text.data.toList && numOk t.kind t.n) && t.kids.isEmpty) from rfl)
  have KE := Lib.hid (kids_empty t)
  have FE := Lib.hid (form_eq t)
  have hk7 : t.kind = 5 ∨ t.kind = 6 ∨ t.kind = 8 ∨ t.kind = 7 ∨ t.kind = 10 ∨ t.kind = 9 ∨ ¬ (5 ≤ t.kind ∧ t.kind ≤ 10) := by omega
  rcases hk7 with hk | hk | hk | hk | hk | hk | hk
  · have c0 := B1.out.kind hk
    have F := Lib.hid (show formN t = showI t.n by rw [FE.out, hk]; rfl)
    have G := Lib.hid (show plainB t = (t.text.toList.isEmpty && (decide (0 ≤ t.n) && decide (t.n ≤ 1000000000000000)) && decide ((t.kids.length : Int) ≤ 0)) by rw [PB.out, KE.out, hk, Lib.toList_data]; rfl)
    clear hk
    have HS := Lib.hid (show ∀ cur, Below W2.heap.size W2 cur → Below W2.heap.size W2 cur ∧ cur.cell? ⟨w.heap.size, 1, none⟩ = some (.string t.text) ∧ cur.cell? ⟨w.heap.size, 2, none⟩ = some (.int .i64 t.n) ∧ cur.cell? ⟨w.heap.size, 3, none⟩ = some (.slice a t.kids.length cap) from fun cur hc =>
      ⟨hc, (hc.cell (p := ⟨w.heap.size, 1, none⟩) B1.out.lt).trans B1.out.c1, (hc.cell (p := ⟨w.heap.size, 2, none⟩) B1.out.lt).trans B1.out.c2, (hc.cell (p := ⟨w.heap.size, 3, none⟩) B1.out.lt).trans B1.out.c3⟩)
    have C1 := Lib.hid (show ∀ cur, Below W2.heap.size W2 cur → Calls Tryz.prog 139 #[.int .i64 t.n] cur fun e W' => e = .returned (.string ⟨(showI t.n).toArray⟩) ∧ Below W2.heap.size W2 W' from fun cur hc =>
      (nShow_any t.n cur).mono (by rintro e W' ⟨rfl, hb⟩; exact ⟨rfl, hc.trans (hb.mono hc.size)⟩))
    have hb : Below W2.heap.size W2 W2 := Below.refl _ _
    generalize t.n = n at HS C1 F G ⊢
    generalize t.text = s at HS G ⊢
    have c1 := (HS.out _ hb).2.1
    by_cases g1 : 0 ≤ n
    case' pos => by_cases g2 : n ≤ 1000000000000000
    case' pos => by_cases g3 : s.toList = []
    case pos =>
      have g4 : s.toList.isEmpty = true := by rw [g3]; rfl
      have R : Hid (plainB t = decide ((t.kids.length : Int) ≤ 0)) := by
        show _ = _
        rw [G.out, g4, decide_eq_true g1, decide_eq_true g2]; rfl
      go_wp2_with fail
      clear c0 c1
      first | (go_region_held3 (fun cur => Below W2.heap.size W2 cur ∧ cur.cell? ⟨w.heap.size, 1, none⟩ = some (.string s) ∧ cur.cell? ⟨w.heap.size, 2, none⟩ = some (.int .i64 n) ∧ cur.cell? ⟨w.heap.size, 3, none⟩ = some (.slice a t.kids.length cap))
        (first | exact HS.out _ hb | exact HS.out _ hb.drew)
        (first | (go_at_call 139; refine (C1.out _ ?_).mono ?_; (go_split_ands; assumption); rintro e w' ⟨rfl, hb⟩))) | fail
      all_goals
        have c3 := (HS.out _ hb).2.2.2
        by_cases gk : (0 : Int) < t.kids.length
        · have V := Lib.hid (show plainV t = .nilIface by rw [P.out, if_neg (by rw [R.out, decide_eq_false (by omega)]; decide)])
          go_wp2_with fail
          go_ret
          exact ⟨retV V.out.symm, HB1.out.trans (hb.mono HB1.out.size)⟩
        · have V := Lib.hid (show plainV t = leafV (showI n) by rw [P.out, if_pos (by rw [R.out, decide_eq_true (by omega)]), F.out])
          go_wp2_with fail
          go_ret
          exact ⟨retV V.out.symm, HB1.out.trans (hb.mono HB1.out.size)⟩
    all_goals
      (try (have g4 : s.toList.isEmpty = false := by simpa using g3))
      (try (have g5 : n < 0 := by omega))
      have R : Hid (plainB t = false) := by
        show _ = _
        rw [G.out, Bool.eq_false_iff]
        intro hh
        simp only [Bool.and_eq_true, decide_eq_true_eq] at hh
        first | omega | (rw [g4] at hh; exact absurd hh.1.1 (by decide))
      have V := Lib.hid (show plainV t = .nilIface by rw [P.out, if_neg (by rw [R.out]; decide)])
      clear R
      go_wp2_with fail
      clear c0 c1
      (try (have g7 : decide (0 ≤ n) = false := decide_eq_false (by omega)))
      (try (have g8 : decide (0 ≤ n) = true := decide_eq_true (by omega)))
      (try (have g6 : decide (n ≤ 1000000000000000) = false := decide_eq_false (by omega)))
      first
        | (refine wp_region_held_drew (S := (fun cur => Below W2.heap.size W2 cur ∧ cur.cell? ⟨w.heap.size, 1, none⟩ = some (.string s) ∧ cur.cell? ⟨w.heap.size, 2, none⟩ = some (.int .i64 n) ∧ cur.cell? ⟨w.heap.size, 3, none⟩ = some (.slice a t.kids.length cap))) (by kernel_rfl) ?_ (fun hHeld => ?_)
           · (first | exact HS.out _ hb | exact HS.out _ hb.drew)
           refine wpAnyH_take (i := 0) (v := ?_) (op_at rfl) (by kernel_rfl) (by kernel_rfl) (by kernel_rfl) (fun _ _ _ h => h) (Or.inl ⟨by rfl, ?_⟩) (by assumption) ?_
           rotate_left
           · (intro w hSw; (try dsimp only at hSw); go_simp; try with_reducible rfl)
           try simp only [Act.put, List.setIfInBounds_toArray, List.set_cons_zero, List.set_cons_succ]
           refine wpAnyH_take (i := 1) (v := ?_) (op_at rfl) (by kernel_rfl) (by kernel_rfl) (by kernel_rfl) (fun _ _ _ h => h) (Or.inl ⟨by rfl, ?_⟩) (by assumption) ?_
           rotate_left
           · (intro w hSw; (try dsimp only at hSw); go_simp; try with_reducible rfl)
           try simp only [Act.put, List.setIfInBounds_toArray, List.set_cons_zero, List.set_cons_succ]
           refine wpAnyH_take (i := 2) (v := ?_) (op_at rfl) (by kernel_rfl) (by kernel_rfl) (by kernel_rfl) (fun _ _ _ h => h) (Or.inl ⟨by rfl, ?_⟩) (by assumption) ?_
           rotate_left
           · (intro w hSw; (try dsimp only at hSw); go_simp; try with_reducible rfl)
           try simp only [Act.put, List.setIfInBounds_toArray, List.set_cons_zero, List.set_cons_succ]
           refine wpAnyH_take (i := 3) (v := ?_) (op_at rfl) (by kernel_rfl) (by kernel_rfl) (by kernel_rfl) (fun _ _ _ h => h) (Or.inl ⟨by rfl, ?_⟩) (by assumption) ?_
           rotate_left
           · (intro w hSw; (try dsimp only at hSw); go_simp; try with_reducible rfl)
           try simp only [Act.put, List.setIfInBounds_toArray, List.set_cons_zero, List.set_cons_succ]
           refine wpAnyH_take (i := 4) (op_at rfl) (by kernel_rfl) (by kernel_rfl) (by kernel_rfl) (fun _ _ _ h => h) (Or.inr ⟨by rfl, rfl⟩) (by assumption) ?_
           try simp only [Act.put, List.setIfInBounds_toArray, List.set_cons_zero, List.set_cons_succ]
           refine wpAnyH_take (i := 5) (op_at rfl) (by kernel_rfl) (by kernel_rfl) (by kernel_rfl) (fun _ _ _ h => h) (Or.inr ⟨by rfl, rfl⟩) (by assumption) ?_
           try simp only [Act.put, List.setIfInBounds_toArray, List.set_cons_zero, List.set_cons_succ]
           refine wpAnyH_take (i := 6) (op_at rfl) (by kernel_rfl) (by kernel_rfl) (by kernel_rfl) (fun _ _ _ h => h) (Or.inr ⟨by rfl, rfl⟩) (by assumption) ?_
           try simp only [Act.put, List.setIfInBounds_toArray, List.set_cons_zero, List.set_cons_succ]
           refine wpAnyH_take (i := 7) (v := ?_) (op_at rfl) (by kernel_rfl) (by kernel_rfl) (by kernel_rfl) (fun _ _ _ h => h) (Or.inl ⟨by rfl, ?_⟩) (by assumption) ?_
           rotate_left
           · (intro w hSw; (try dsimp only at hSw); go_simp; try with_reducible rfl)
           try simp only [Act.put, List.setIfInBounds_toArray, List.set_cons_zero, List.set_cons_succ]
           refine wpAnyH_take (i := 8) (v := ?_) (op_at rfl) (by kernel_rfl) (by kernel_rfl) (by kernel_rfl) (fun _ _ _ h => h) (Or.inl ⟨by rfl, ?_⟩) (by assumption) ?_
           rotate_left
           · (intro w hSw; (try dsimp only at hSw); go_simp; try with_reducible rfl)
           try simp only [Act.put, List.setIfInBounds_toArray, List.set_cons_zero, List.set_cons_succ]
           refine wpAnyH_take (i := 9) (op_at rfl) (by kernel_rfl) (by kernel_rfl) (by kernel_rfl) (fun _ _ _ h => h) (Or.inr ⟨by rfl, rfl⟩) (by assumption) ?_
           try simp only [Act.put, List.setIfInBounds_toArray, List.set_cons_zero, List.set_cons_succ]
           refine wpAnyH_take (i := 10) (op_at rfl) (by kernel_rfl) (by kernel_rfl) (by kernel_rfl) (fun _ _ _ h => h) (Or.inr ⟨by rfl, rfl⟩) (by assumption) ?_
           try simp only [Act.put, List.setIfInBounds_toArray, List.set_cons_zero, List.set_cons_succ]
           refine wpAnyH_take (i := 11) (op_at rfl) (by kernel_rfl) (by kernel_rfl) (by kernel_rfl) (fun _ _ _ h => h) (Or.inr ⟨by rfl, rfl⟩) (by assumption) ?_
           try simp only [Act.put, List.setIfInBounds_toArray, List.set_cons_zero, List.set_cons_succ]
           refine wpAnyH_take (i := 12) (v := ?_) (op_at rfl) (by kernel_rfl) (by kernel_rfl) (by kernel_rfl) (fun _ _ _ h => h) (Or.inl ⟨by rfl, ?_⟩) (by assumption) ?_
           rotate_left
           · (intro w hSw; (try dsimp only at hSw); go_simp; try with_reducible rfl)
           try simp only [Act.put, List.setIfInBounds_toArray, List.set_cons_zero, List.set_cons_succ]
           refine wpAnyH_take (i := 13) (v := ?_) (op_at rfl) (by kernel_rfl) (by kernel_rfl) (by kernel_rfl) (fun _ _ _ h => h) (Or.inl ⟨by rfl, ?_⟩) (by assumption) ?_
           rotate_left
           · (intro w hSw; (try dsimp only at hSw); go_simp; try with_reducible rfl)
           try simp only [Act.put, List.setIfInBounds_toArray, List.set_cons_zero, List.set_cons_succ]
           refine wpAnyH_take (i := 14) (v := ?_) (op_at rfl) (by kernel_rfl) (by kernel_rfl) (by kernel_rfl) (fun _ _ _ h => h) (Or.inl ⟨by rfl, ?_⟩) (by assumption) ?_
           rotate_left
           · (intro w hSw; (try dsimp only at hSw); go_simp; try with_reducible rfl)
           try simp only [Act.put, List.setIfInBounds_toArray, List.set_cons_zero, List.set_cons_succ]
           refine wpAnyH_ready (rs := [15]) (by kernel_rfl) (by simp) ?_
           refine AllReadyH.cons (op_at rfl) (fun K hK => ?_) AllReadyH.nil
           go_simp
           (go_at_call 139; refine (C1.out _ ?_).mono ?_; (go_split_ands; assumption); rintro e w' ⟨rfl, hb⟩)
           go_wp2_with fail
           refine hK.out _ _ ?_ (fun hHeld => ?_)
           · (first | exact HS.out _ hb | exact HS.out _ hb.drew)
           clear hK K
           try simp only [Act.put, List.setIfInBounds_toArray, List.set_cons_zero, List.set_cons_succ]
           refine wpAnyH_take (i := 16) (v := ?_) (op_at rfl) (by kernel_rfl) (by kernel_rfl) (by kernel_rfl) (fun _ _ _ h => h) (Or.inl ⟨by rfl, ?_⟩) (by assumption) ?_
           rotate_left
           · (intro w hSw; (try dsimp only at hSw); go_simp; try with_reducible rfl)
           try simp only [Act.put, List.setIfInBounds_toArray, List.set_cons_zero, List.set_cons_succ]
           refine wpAnyH_take (i := 17) (v := ?_) (op_at rfl) (by kernel_rfl) (by kernel_rfl) (by kernel_rfl) (fun _ _ _ h => h) (Or.inl ⟨by rfl, ?_⟩) (by assumption) ?_
           rotate_left
           · (intro w hSw; (try dsimp only at hSw); go_simp; try with_reducible rfl)
           try simp only [Act.put, List.setIfInBounds_toArray, List.set_cons_zero, List.set_cons_succ]
           refine wpAnyH_done (by kernel_rfl) ?_ _)
        | (refine wp_region_held_drew (S := (fun cur => Below W2.heap.size W2 cur ∧ cur.cell? ⟨w.heap.size, 1, none⟩ = some (.string s) ∧ cur.cell? ⟨w.heap.size, 2, none⟩ = some (.int .i64 n) ∧ cur.cell? ⟨w.heap.size, 3, none⟩ = some (.slice a t.kids.length cap))) (by kernel_rfl) ?_ (fun hHeld => ?_)
           · (first | exact HS.out _ hb | exact HS.out _ hb.drew)
           refine wpAnyH_take (i := 0) (v := ?_) (op_at rfl) (by kernel_rfl) (by kernel_rfl) (by kernel_rfl) (fun _ _ _ h => h) (Or.inl ⟨by rfl, ?_⟩) (by assumption) ?_
           rotate_left
           · (intro w hSw; (try dsimp only at hSw); go_simp; try with_reducible rfl)
           try simp only [Act.put, List.setIfInBounds_toArray, List.set_cons_zero, List.set_cons_succ]
           refine wpAnyH_take (i := 1) (v := ?_) (op_at rfl) (by kernel_rfl) (by kernel_rfl) (by kernel_rfl) (fun _ _ _ h => h) (Or.inl ⟨by rfl, ?_⟩) (by assumption) ?_
           rotate_left
           · (intro w hSw; (try dsimp only at hSw); go_simp; try with_reducible rfl)
           try simp only [Act.put, List.setIfInBounds_toArray, List.set_cons_zero, List.set_cons_succ]
           refine wpAnyH_take (i := 2) (v := ?_) (op_at rfl) (by kernel_rfl) (by kernel_rfl) (by kernel_rfl) (fun _ _ _ h => h) (Or.inl ⟨by rfl, ?_⟩) (by assumption) ?_
           rotate_left
           · (intro w hSw; (try dsimp only at hSw); go_simp; try with_reducible rfl)
           try simp only [Act.put, List.setIfInBounds_toArray, List.set_cons_zero, List.set_cons_succ]
           refine wpAnyH_take (i := 3) (v := ?_) (op_at rfl) (by kernel_rfl) (by kernel_rfl) (by kernel_rfl) (fun _ _ _ h => h) (Or.inl ⟨by rfl, ?_⟩) (by assumption) ?_
           rotate_left
           · (intro w hSw; (try dsimp only at hSw); go_simp; try with_reducible rfl)
           try simp only [Act.put, List.setIfInBounds_toArray, List.set_cons_zero, List.set_cons_succ]
           refine wpAnyH_take (i := 4) (v := ?_) (op_at rfl) (by kernel_rfl) (by kernel_rfl) (by kernel_rfl) (fun _ _ _ h => h) (Or.inl ⟨by rfl, ?_⟩) (by assumption) ?_
           rotate_left
           · (intro w hSw; (try dsimp only at hSw); go_simp; try with_reducible rfl)
           try simp only [Act.put, List.setIfInBounds_toArray, List.set_cons_zero, List.set_cons_succ]
           refine wpAnyH_take (i := 5) (v := ?_) (op_at rfl) (by kernel_rfl) (by kernel_rfl) (by kernel_rfl) (fun _ _ _ h => h) (Or.inl ⟨by rfl, ?_⟩) (by assumption) ?_
           rotate_left
           · (intro w hSw; (try dsimp only at hSw); go_simp; try with_reducible rfl)
           try simp only [Act.put, List.setIfInBounds_toArray, List.set_cons_zero, List.set_cons_succ]
           refine wpAnyH_take (i := 6) (v := ?_) (op_at rfl) (by kernel_rfl) (by kernel_rfl) (by kernel_rfl) (fun _ _ _ h => h) (Or.inl ⟨by rfl, ?_⟩) (by assumption) ?_
           rotate_left
           · (intro w hSw; (try dsimp only at hSw); go_simp; try with_reducible rfl)
           try simp only [Act.put, List.setIfInBounds_toArray, List.set_cons_zero, List.set_cons_succ]
           refine wpAnyH_take (i := 7) (v := ?_) (op_at rfl) (by kernel_rfl) (by kernel_rfl) (by kernel_rfl) (fun _ _ _ h => h) (Or.inl ⟨by rfl, ?_⟩) (by assumption) ?_
           rotate_left
           · (intro w hSw; (try dsimp only at hSw); go_simp; try with_reducible rfl)
           try simp only [Act.put, List.setIfInBounds_toArray, List.set_cons_zero, List.set_cons_succ]
           refine wpAnyH_take (i := 8) (v := ?_) (op_at rfl) (by kernel_rfl) (by kernel_rfl) (by kernel_rfl) (fun _ _ _ h => h) (Or.inl ⟨by rfl, ?_⟩) (by assumption) ?_
           rotate_left
           · (intro w hSw; (try dsimp only at hSw); go_simp; try with_reducible rfl)
           try simp only [Act.put, List.setIfInBounds_toArray, List.set_cons_zero, List.set_cons_succ]
           refine wpAnyH_take (i := 9) (op_at rfl) (by kernel_rfl) (by kernel_rfl) (by kernel_rfl) (fun _ _ _ h => h) (Or.inr ⟨by rfl, rfl⟩) (by assumption) ?_
           try simp only [Act.put, List.setIfInBounds_toArray, List.set_cons_zero, List.set_cons_succ]
           refine wpAnyH_take (i := 10) (op_at rfl) (by kernel_rfl) (by kernel_rfl) (by kernel_rfl) (fun _ _ _ h => h) (Or.inr ⟨by rfl, rfl⟩) (by assumption) ?_
           try simp only [Act.put, List.setIfInBounds_toArray, List.set_cons_zero, List.set_cons_succ]
           refine wpAnyH_take (i := 11) (op_at rfl) (by kernel_rfl) (by kernel_rfl) (by kernel_rfl) (fun _ _ _ h => h) (Or.inr ⟨by rfl, rfl⟩) (by assumption) ?_
           try simp only [Act.put, List.setIfInBounds_toArray, List.set_cons_zero, List.set_cons_succ]
           refine wpAnyH_take (i := 12) (v := ?_) (op_at rfl) (by kernel_rfl) (by kernel_rfl) (by kernel_rfl) (fun _ _ _ h => h) (Or.inl ⟨by rfl, ?_⟩) (by assumption) ?_
           rotate_left
           · (intro w hSw; (try dsimp only at hSw); go_simp; try with_reducible rfl)
           try simp only [Act.put, List.setIfInBounds_toArray, List.set_cons_zero, List.set_cons_succ]
           refine wpAnyH_take (i := 13) (v := ?_) (op_at rfl) (by kernel_rfl) (by kernel_rfl) (by kernel_rfl) (fun _ _ _ h => h) (Or.inl ⟨by rfl, ?_⟩) (by assumption) ?_
           rotate_left
           · (intro w hSw; (try dsimp only at hSw); go_simp; try with_reducible rfl)
           try simp only [Act.put, List.setIfInBounds_toArray, List.set_cons_zero, List.set_cons_succ]
           refine wpAnyH_take (i := 14) (v := ?_) (op_at rfl) (by kernel_rfl) (by kernel_rfl) (by kernel_rfl) (fun _ _ _ h => h) (Or.inl ⟨by rfl, ?_⟩) (by assumption) ?_
           rotate_left
           · (intro w hSw; (try dsimp only at hSw); go_simp; try with_reducible rfl)
           try simp only [Act.put, List.setIfInBounds_toArray, List.set_cons_zero, List.set_cons_succ]
           refine wpAnyH_ready (rs := [15]) (by kernel_rfl) (by simp) ?_
           refine AllReadyH.cons (op_at rfl) (fun K hK => ?_) AllReadyH.nil
           go_simp
           (go_at_call 139; refine (C1.out _ ?_).mono ?_; (go_split_ands; assumption); rintro e w' ⟨rfl, hb⟩)
           go_wp2_with fail
           refine hK.out _ _ ?_ (fun hHeld => ?_)
           · (first | exact HS.out _ hb | exact HS.out _ hb.drew)
           clear hK K
           try simp only [Act.put, List.setIfInBounds_toArray, List.set_cons_zero, List.set_cons_succ]
           refine wpAnyH_take (i := 16) (v := ?_) (op_at rfl) (by kernel_rfl) (by kernel_rfl) (by kernel_rfl) (fun _ _ _ h => h) (Or.inl ⟨by rfl, ?_⟩) (by assumption) ?_
           rotate_left
           · (intro w hSw; (try dsimp only at hSw); go_simp; try with_reducible rfl)
           try simp only [Act.put, List.setIfInBounds_toArray, List.set_cons_zero, List.set_cons_succ]
           refine wpAnyH_take (i := 17) (v := ?_) (op_at rfl) (by kernel_rfl) (by kernel_rfl) (by kernel_rfl) (fun _ _ _ h => h) (Or.inl ⟨by rfl, ?_⟩) (by assumption) ?_
           rotate_left
           · (intro w hSw; (try dsimp only at hSw); go_simp; try with_reducible rfl)
           try simp only [Act.put, List.setIfInBounds_toArray, List.set_cons_zero, List.set_cons_succ]
           refine wpAnyH_done (by kernel_rfl) ?_ _)
        | (go_region_held3 (fun cur => Below W2.heap.size W2 cur ∧ cur.cell? ⟨w.heap.size, 1, none⟩ = some (.string s) ∧ cur.cell? ⟨w.heap.size, 2, none⟩ = some (.int .i64 n) ∧ cur.cell? ⟨w.heap.size, 3, none⟩ = some (.slice a t.kids.length cap))
            (first | exact HS.out _ hb | exact HS.out _ hb.drew)
            (first | (go_at_call 139; refine (C1.out _ ?_).mono ?_; (go_split_ands; assumption); rintro e w' ⟨rfl, hb⟩)))
      all_goals
        have c3 := (HS.out _ hb).2.2.2
        go_wp2_with fail
        go_ret
        exact ⟨retV V.out.symm, HB1.out.trans (hb.mono HB1.out.size)⟩
  · have c0 := B1.out.kind hk
    have F := Lib.hid (show formN t = dateT t.n by rw [FE.out, hk]; rfl)
    have G := Lib.hid (show plainB t = (t.text.toList.isEmpty && (decide (0 ≤ t.n) && decide (t.n ≤ 73048)) && decide ((t.kids.length : Int) ≤ 0)) by rw [PB.out, KE.out, hk, Lib.toList_data]; rfl)
    clear hk
    have c1 := B1.out.c1
    have c2 := B1.out.c2
    have c3 := B1.out.c3
    by_cases g1 : 0 ≤ t.n ∧ t.n ≤ 73048
    · obtain ⟨g1, g2⟩ := g1
      obtain ⟨y, m, d, ho, hnum, hte⟩ := dateT_of g1 g2
      have HO := Lib.hid ho
      have HN := Lib.hid hnum
      have HX := Lib.hid hte
      clear ho hnum hte
      go_wp2_with fail
      refine Calls.mono (show_ok y m d t.n _ HT1.out HO.out HN.out) ?_
      rintro e w3 ⟨rfl, hb⟩
      have HC := Lib.hid (HB1.out.trans (hb.mono HB1.out.size))
      have B3 := B1.out.below hb
      clear hb c0 c1 c2 c3
      have c1 := B3.c1
      have c3 := B3.c3
      clear B3
      by_cases g3 : t.text.toList = []
      · have g4 : t.text.toList.isEmpty = true := by rw [g3]; rfl
        have R : Hid (plainB t = decide ((t.kids.length : Int) ≤ 0)) := by
          show _ = _
          rw [G.out, g4, decide_eq_true g1, decide_eq_true g2]; rfl
        by_cases gk : (0 : Int) < t.kids.length
        · have V := Lib.hid (show plainV t = .nilIface by rw [P.out, if_neg (by rw [R.out, decide_eq_false (by omega)]; decide)])
          go_wp2_with fail
          go_ret
          exact ⟨retV V.out.symm, HC.out⟩
        · have V := Lib.hid (show plainV t = leafV (Cal.text y m d) by rw [P.out, if_pos (by rw [R.out, decide_eq_true (by omega)]), F.out, HX.out])
          go_wp2_with fail
          go_ret
          exact ⟨retV V.out.symm, HC.out⟩
      · have g4 : t.text.toList.isEmpty = false := by simpa using g3
        have V := Lib.hid (show plainV t = .nilIface by rw [P.out, if_neg (by rw [G.out, g4]; simp)])
        go_wp2_with fail
        go_ret
        exact ⟨retV V.out.symm, HC.out⟩
    · have V := Lib.hid (show plainV t = .nilIface by
        rw [P.out, if_neg]
        rw [G.out]
        simp only [Bool.and_eq_true, decide_eq_true_eq]
        exact fun h => g1 h.1.2)
      by_cases g2 : 0 ≤ t.n
      · have g3 : 73048 < t.n := by omega
        clear g1
        go_wp2_with fail
        go_ret
        exact ⟨retV V.out.symm, HB1.out⟩
      · have g3 : t.n < 0 := by omega
        clear g1
        go_wp2_with fail
        go_ret
        exact ⟨retV V.out.symm, HB1.out⟩
  · have c0 := B1.out.kind hk
    have F := Lib.hid (show formN t = if t.n = 1 then [116, 114, 117, 101] else [102, 97, 108, 115, 101] by rw [FE.out, hk]; rfl)
    have G := Lib.hid (show plainB t = (t.text.toList.isEmpty && (decide (t.n = 0) || decide (t.n = 1)) && decide ((t.kids.length : Int) ≤ 0)) by rw [PB.out, KE.out, hk, Lib.toList_data]; rfl)
    clear hk
    have c1 := B1.out.c1
    have c3 := B1.out.c3
    have hn3 : t.n = 0 ∨ t.n = 1 ∨ (t.n ≠ 0 ∧ t.n ≠ 1) := by omega
    rcases hn3 with hn | hn | hn
    · have c2 : W2.cell? ⟨w.heap.size, 2, none⟩ = some (.int .i64 0) := hn ▸ B1.out.c2
      by_cases g3 : t.text.toList = []
      · have g4 : t.text.toList.isEmpty = true := by rw [g3]; rfl
        have R : Hid (plainB t = decide ((t.kids.length : Int) ≤ 0)) := by
          show _ = _
          rw [G.out, g4, hn]; rfl
        by_cases gk : (0 : Int) < t.kids.length
        · have V := Lib.hid (show plainV t = .nilIface by rw [P.out, if_neg (by rw [R.out, decide_eq_false (by omega)]; decide)])
          clear hn
          go_wp2_with fail
          go_ret
          exact ⟨retV V.out.symm, HB1.out⟩
        · have V := Lib.hid (show plainV t = leafV [102, 97, 108, 115, 101] by rw [P.out, if_pos (by rw [R.out, decide_eq_true (by omega)]), F.out, hn]; rfl)
          clear hn
          go_wp2_with fail
          go_ret
          exact ⟨retV V.out.symm, HB1.out⟩
      · have g4 : t.text.toList.isEmpty = false := by simpa using g3
        have V := Lib.hid (show plainV t = .nilIface by rw [P.out, if_neg (by rw [G.out, g4]; simp)])
        clear hn
        go_wp2_with fail
        go_ret
        exact ⟨retV V.out.symm, HB1.out⟩
    · have c2 : W2.cell? ⟨w.heap.size, 2, none⟩ = some (.int .i64 1) := hn ▸ B1.out.c2
      by_cases g3 : t.text.toList = []
      · have g4 : t.text.toList.isEmpty = true := by rw [g3]; rfl
        have R : Hid (plainB t = decide ((t.kids.length : Int) ≤ 0)) := by
          show _ = _
          rw [G.out, g4, hn]; rfl
        by_cases gk : (0 : Int) < t.kids.length
        · have V := Lib.hid (show plainV t = .nilIface by rw [P.out, if_neg (by rw [R.out, decide_eq_false (by omega)]; decide)])
          clear hn
          go_wp2_with fail
          go_ret
          exact ⟨retV V.out.symm, HB1.out⟩
        · have V := Lib.hid (show plainV t = leafV [116, 114, 117, 101] by rw [P.out, if_pos (by rw [R.out, decide_eq_true (by omega)]), F.out, hn]; rfl)
          clear hn
          go_wp2_with fail
          go_ret
          exact ⟨retV V.out.symm, HB1.out⟩
      · have g4 : t.text.toList.isEmpty = false := by simpa using g3
        have V := Lib.hid (show plainV t = .nilIface by rw [P.out, if_neg (by rw [G.out, g4]; simp)])
        clear hn
        go_wp2_with fail
        go_ret
        exact ⟨retV V.out.symm, HB1.out⟩
    · have c2 := B1.out.c2
      have V := Lib.hid (show plainV t = .nilIface by rw [P.out, if_neg (by rw [G.out, decide_eq_false hn.1, decide_eq_false hn.2]; simp)])
      obtain ⟨h0, h1⟩ := hn
      have e0 : (t.n == 0) = false := by simpa using h0
      have e1 : (t.n == 1) = false := by simpa using h1
      clear h0 h1
      go_wp2_with fail
      go_ret
      exact ⟨retV V.out.symm, HB1.out⟩
  · have c0 := B1.out.kind hk
    have F := Lib.hid (show plainB t = true → formN t = t.text.data.toList from fun h => by
      rw [FE.out, hk, List.isEmpty_iff.1 (show t.kids.isEmpty = true by rw [PB.out] at h; simp only [Bool.and_eq_true] at h; exact h.2), formKs]; rfl)
    have G := Lib.hid (show plainB t = (curL t.text.data.toList && decide (t.n = 0) && decide ((t.kids.length : Int) ≤ 0)) by rw [PB.out, KE.out, hk]; rfl)
    clear hk
    have c1 := B1.out.c1
    go_wp2_with fail
    refine Calls.mono (sisCur_any t.text _ (Nat.le_trans hs (by decide))) ?_
    rintro e w3 ⟨rfl, hb⟩
    have HC := Lib.hid (HB1.out.trans (hb.mono HB1.out.size))
    have B3 := B1.out.below hb
    clear hb c0 c1
    have c2 := B3.c2
    have c3 := B3.c3
    clear B3
    cases hq : curL t.text.data.toList
    · have V := Lib.hid (show plainV t = .nilIface by rw [P.out, if_neg (by rw [G.out, hq]; simp)])
      go_wp2_with fail
      go_ret
      exact ⟨retV V.out.symm, HC.out⟩
    · by_cases h0 : t.n = 0
      · have c2' : w3.cell? ⟨w.heap.size, 2, none⟩ = some (.int .i64 0) := h0 ▸ c2
        have R : Hid (plainB t = decide ((t.kids.length : Int) ≤ 0)) := by
          show _ = _
          rw [G.out, hq, h0]; rfl
        clear c2
        by_cases gk : (0 : Int) < t.kids.length
        · have V := Lib.hid (show plainV t = .nilIface by rw [P.out, if_neg (by rw [R.out, decide_eq_false (by omega)]; decide)])
          clear h0
          go_wp2_with fail
          go_ret
          exact ⟨retV V.out.symm, HC.out⟩
        · have V := Lib.hid (show plainV t = .iface 80 (.string t.text) by
            have hp : plainB t = true := by rw [R.out, decide_eq_true (by omega)]
            rw [P.out, if_pos hp, F.out hp]
            exact congrArg (fun x => Value.iface 80 (.string x)) (str_of rfl))
          clear h0
          go_wp2_with fail
          go_ret
          exact ⟨retV V.out.symm, HC.out⟩
      · have V := Lib.hid (show plainV t = .nilIface by rw [P.out, if_neg (by rw [G.out, decide_eq_false h0]; simp)])
        have e0 : (t.n == 0) = false := by simpa using h0
        clear h0
        go_wp2_with fail
        go_ret
        exact ⟨retV V.out.symm, HC.out⟩
  · have c0 := B1.out.kind hk
    have F := Lib.hid (show plainB t = true → formN t = t.text.data.toList from fun h => by
      rw [FE.out, hk, List.isEmpty_iff.1 (show t.kids.isEmpty = true by rw [PB.out] at h; simp only [Bool.and_eq_true] at h; exact h.2), formKs]; rfl)
    have G := Lib.hid (show plainB t = (anyL t.text.data.toList && decide (t.n = 0) && decide ((t.kids.length : Int) ≤ 0)) by rw [PB.out, KE.out, hk]; rfl)
    clear hk
    have c1 := B1.out.c1
    go_wp2_with fail
    refine Calls.mono (sisAny_any t.text _ (Nat.le_trans hs (by decide)) HE1.out) ?_
    rintro e w3 ⟨rfl, hb⟩
    have HC := Lib.hid (HB1.out.trans (hb.mono HB1.out.size))
    have B3 := B1.out.below hb
    clear hb c0 c1
    have c2 := B3.c2
    have c3 := B3.c3
    clear B3
    cases hq : anyL t.text.data.toList
    · have V := Lib.hid (show plainV t = .nilIface by rw [P.out, if_neg (by rw [G.out, hq]; simp)])
      go_wp2_with fail
      go_ret
      exact ⟨retV V.out.symm, HC.out⟩
    · by_cases h0 : t.n = 0
      · have c2' : w3.cell? ⟨w.heap.size, 2, none⟩ = some (.int .i64 0) := h0 ▸ c2
        have R : Hid (plainB t = decide ((t.kids.length : Int) ≤ 0)) := by
          show _ = _
          rw [G.out, hq, h0]; rfl
        clear c2
        by_cases gk : (0 : Int) < t.kids.length
        · have V := Lib.hid (show plainV t = .nilIface by rw [P.out, if_neg (by rw [R.out, decide_eq_false (by omega)]; decide)])
          clear h0
          go_wp2_with fail
          go_ret
          exact ⟨retV V.out.symm, HC.out⟩
        · have V := Lib.hid (show plainV t = .iface 80 (.string t.text) by
            have hp : plainB t = true := by rw [R.out, decide_eq_true (by omega)]
            rw [P.out, if_pos hp, F.out hp]
            exact congrArg (fun x => Value.iface 80 (.string x)) (str_of rfl))
          clear h0
          go_wp2_with fail
          go_ret
          exact ⟨retV V.out.symm, HC.out⟩
      · have V := Lib.hid (show plainV t = .nilIface by rw [P.out, if_neg (by rw [G.out, decide_eq_false h0]; simp)])
        have e0 : (t.n == 0) = false := by simpa using h0
        clear h0
        go_wp2_with fail
        go_ret
        exact ⟨retV V.out.symm, HC.out⟩
  · have c0 := B1.out.kind hk
    have F := Lib.hid (show formN t = [102, 101, 101, 100, 32, 34] ++ t.text.data.toList ++ [34] by rw [FE.out, hk]; rfl)
    have G := Lib.hid (show plainB t = (nameL t.text.data.toList && decide (t.n = 0) && decide ((t.kids.length : Int) ≤ 0)) by rw [PB.out, KE.out, hk]; rfl)
    clear hk
    have c1 := B1.out.c1
    go_wp2_with fail
    refine Calls.mono (sisName_any t.text _ (Nat.le_trans hs (by decide))) ?_
    rintro e w3 ⟨rfl, hb⟩
    have HC := Lib.hid (HB1.out.trans (hb.mono HB1.out.size))
    have B3 := B1.out.below hb
    clear hb c0 c1
    have c2 := B3.c2
    have c3 := B3.c3
    clear B3
    cases hq : nameL t.text.data.toList
    · have V := Lib.hid (show plainV t = .nilIface by rw [P.out, if_neg (by rw [G.out, hq]; simp)])
      go_wp2_with fail
      go_ret
      exact ⟨retV V.out.symm, HC.out⟩
    · by_cases h0 : t.n = 0
      · have c2' : w3.cell? ⟨w.heap.size, 2, none⟩ = some (.int .i64 0) := h0 ▸ c2
        have R : Hid (plainB t = decide ((t.kids.length : Int) ≤ 0)) := by
          show _ = _
          rw [G.out, hq, h0]; rfl
        clear c2
        by_cases gk : (0 : Int) < t.kids.length
        · have V := Lib.hid (show plainV t = .nilIface by rw [P.out, if_neg (by rw [R.out, decide_eq_false (by omega)]; decide)])
          clear h0
          go_wp2_with fail
          go_ret
          exact ⟨retV V.out.symm, HC.out⟩
        · have V := Lib.hid (show plainV t = .iface 80 (.string (⟨#[102, 101, 101, 100, 32, 34]⟩ ++ t.text ++ ⟨#[34]⟩)) by
            have hp : plainB t = true := by rw [R.out, decide_eq_true (by omega)]
            rw [P.out, if_pos hp, F.out]
            exact congrArg (fun x => Value.iface 80 (.string x)) (str_of (by simp)))
          clear h0
          go_wp2_with fail
          go_ret
          exact ⟨retV V.out.symm, HC.out⟩
      · have V := Lib.hid (show plainV t = .nilIface by rw [P.out, if_neg (by rw [G.out, decide_eq_false h0]; simp)])
        have e0 : (t.n == 0) = false := by simpa using h0
        clear h0
        go_wp2_with fail
        go_ret
        exact ⟨retV V.out.symm, HC.out⟩
  · have c0 := B1.out.c0
    have V := Lib.hid (show plainV t = .nilIface by rw [P.out, if_neg (by rw [PB.out, decide_eq_false hk]; simp)])
    have k5 : t.kind ≠ 5 := by omega
    have k6 : t.kind ≠ 6 := by omega
    have k7 : t.kind ≠ 7 := by omega
    have k8 : t.kind ≠ 8 := by omega
    have k9 : t.kind ≠ 9 := by omega
    have k10 : t.kind ≠ 10 := by omega
    clear hk
    go_wp2_with fail
    go_ret
    exact ⟨retV V.out.symm, HB1.out⟩

end Go.Proofs.YtcndknkdhlmdnaaGreatDoor
