/-
  Texts that the statements' proofs rest on, one behind another: ShowV, ShowW, ShowX.
-/
import Derived.Test.YtcndknkdhlmdnaaGreatDoorM19
import Derived.Test.YtcndknkdhlmdnaaGreatDoorM05

/-
  usanceref09: a right expression's form, of whatever kind.
-/
namespace Go.Proofs.YtcndknkdhlmdnaaGreatDoor
open Go.RowKit
set_option maxRecDepth 100000

set_option maxHeartbeats 8000000 in
theorem rform_if (t : Nd) (n₀ : Nat) (d : Int) (h : rightN t d = true) (hk : t.kind = 14) (ih : ∀ k ∈ t.kids, FormC n₀ k) : FormC n₀ t := by
  obtain ⟨s, k, u, v, p, rfl, hs, hrk, hru, hrv⟩ := right_if h hk
  intro hl a cap w hh hn
  have hl_k : (formN k).length ≤ 1000000000000 := Nat.le_trans (form_len_kid h (k := k) (by simp [Nd.kids])).1 hl
  have hl_u : (formN u).length ≤ 1000000000000 := Nat.le_trans (form_len_kid h (k := u) (by simp [Nd.kids])).1 hl
  have hl_v : (formN v).length ≤ 1000000000000 := Nat.le_trans (form_len_kid h (k := v) (by simp [Nd.kids])).1 hl
  obtain ⟨b, off, x, cx, A0⟩ := hh.kid 0 (show 0 < 3 by decide)
  have A0' : Nd.At n₀ w a 0 k b off x cx := A0
  obtain ⟨b1, off1, y, cy, A1⟩ := hh.kid 1 (show 1 < 3 by decide)
  have A1' : Nd.At n₀ w a 1 u b1 off1 y cy := A1
  obtain ⟨b2, off2, z, cz, A2⟩ := hh.kid 2 (show 2 < 3 by decide)
  have A2' : Nd.At n₀ w a 2 v b2 off2 z cz := A2
  obtain ⟨rfl, hb0, c0, c1, c2, c3, c4, hk1⟩ := A0'
  obtain ⟨ha1, hb1, g0, g1, g2, g3, g4, hk2⟩ := A1'
  obtain ⟨ha2, hb2, f0, f1, f2, f3, f4, hk3⟩ := A2'
  obtain ⟨rfl, rfl⟩ : b = b1 ∧ off = off1 := by injection ha1 with ha; injection ha with h1 h2; exact ⟨h1, h2⟩
  obtain ⟨rfl, rfl⟩ : b = b2 ∧ off = off2 := by injection ha2 with ha; injection ha with h1 h2; exact ⟨h1, h2⟩
  simp only [Nat.zero_mul, Nat.add_zero] at c0 c1 c2 c3 c4
  simp only [Nat.one_mul, Nat.add_assoc, Nat.reduceAdd] at g0 g1 g2 g3 g4
  simp only [Nat.reduceMul, Nat.add_assoc, Nat.reduceAdd] at f0 f1 f2 f3 f4
  have hbw : b < w.heap.size := Nat.lt_of_lt_of_le hb0 hn
  have hkc := hh.bounds.2.2.2.2
  obtain ⟨F, hF⟩ : ∃ F : ByteArray, F = ⟨(formN k).toArray⟩ := ⟨_, rfl⟩
  have hFs : F.size ≤ 1000000000002 := by
    rw [hF]
    show (formN k).length ≤ _
    omega
  obtain ⟨G, hG⟩ : ∃ F : ByteArray, F = ⟨(formN u).toArray⟩ := ⟨_, rfl⟩
  have hGs : G.size ≤ 1000000000002 := by
    rw [hG]
    show (formN u).length ≤ _
    omega
  obtain ⟨H, hH⟩ : ∃ F : ByteArray, F = ⟨(formN v).toArray⟩ := ⟨_, rfl⟩
  have hHs : H.size ≤ 1000000000002 := by
    rw [hH]
    show (formN v).length ≤ _
    omega
  have V := Lib.hid (show formN (.mk 14 s 0 [k, u, v] p) = 105 :: 102 :: 32 :: (F.data.toList ++ 32 :: ([116, 104, 101, 110] ++ 32 :: (G.data.toList ++ 32 :: ([101, 108, 115, 101] ++ 32 :: H.data.toList)))) by rw [form_if, hF, hG, hH])
  have HB := Lib.hid (nbelow1 w (.cells #[.int .i64 14, .string s, .int .i64 0, .slice (some ⟨b, off, none⟩) 3 cap, .int .i64 p] 24))
  have C0 := Lib.hid (show ∀ W1 cur, Below w.heap.size w W1 → Below W1.heap.size W1 cur → Calls Tryz.prog 45 #[.agg #[.int .i64 k.kind, .string k.text, .int .i64 k.n, .slice x k.kids.length cx, .int .i64 k.place]] cur fun e W' => e = .returned (.string F) ∧ Below W1.heap.size W1 W' from fun W1 cur h0 hc =>
    (ih k (by simp [Nd.kids]) hl_k x cx cur (hk1.below ((h0.trans (hc.mono h0.size)).mono hn)) (Nat.le_trans hn (Nat.le_trans h0.size hc.size))).mono (by rintro e W' ⟨rfl, hb⟩; exact ⟨by rw [hF], hc.trans (hb.mono hc.size)⟩))
  have C1 := Lib.hid (show ∀ W1 cur, Below w.heap.size w W1 → Below W1.heap.size W1 cur → Calls Tryz.prog 45 #[.agg #[.int .i64 u.kind, .string u.text, .int .i64 u.n, .slice y u.kids.length cy, .int .i64 u.place]] cur fun e W' => e = .returned (.string G) ∧ Below W1.heap.size W1 W' from fun W1 cur h0 hc =>
    (ih u (by simp [Nd.kids]) hl_u y cy cur (hk2.below ((h0.trans (hc.mono h0.size)).mono hn)) (Nat.le_trans hn (Nat.le_trans h0.size hc.size))).mono (by rintro e W' ⟨rfl, hb⟩; exact ⟨by rw [hG], hc.trans (hb.mono hc.size)⟩))
  have C2 := Lib.hid (show ∀ W1 cur, Below w.heap.size w W1 → Below W1.heap.size W1 cur → Calls Tryz.prog 45 #[.agg #[.int .i64 v.kind, .string v.text, .int .i64 v.n, .slice z v.kids.length cz, .int .i64 v.place]] cur fun e W' => e = .returned (.string H) ∧ Below W1.heap.size W1 W' from fun W1 cur h0 hc =>
    (ih v (by simp [Nd.kids]) hl_v z cz cur (hk3.below ((h0.trans (hc.mono h0.size)).mono hn)) (Nat.le_trans hn (Nat.le_trans h0.size hc.size))).mono (by rintro e W' ⟨rfl, hb⟩; exact ⟨by rw [hH], hc.trans (hb.mono hc.size)⟩))
  clear hh hl h hrk hru hrv ih hF hG hH hk1 hk2 hk3 hl_k hl_u hl_v A0 A1 A2 ha1 ha2 hb1 hb2
  have HCL := Lib.hid (show ∀ W1 cur, Below w.heap.size w W1 → Below W1.heap.size W1 cur → cur.cell? ⟨b, off, none⟩ = some (.int .i64 k.kind) ∧ cur.cell? ⟨b, off + 1, none⟩ = some (.string k.text) ∧ cur.cell? ⟨b, off + 2, none⟩ = some (.int .i64 k.n) ∧ cur.cell? ⟨b, off + 3, none⟩ = some (.slice x k.kids.length cx) ∧ cur.cell? ⟨b, off + 4, none⟩ = some (.int .i64 k.place) ∧ cur.cell? ⟨b, off + 5, none⟩ = some (.int .i64 u.kind) ∧ cur.cell? ⟨b, off + 6, none⟩ = some (.string u.text) ∧ cur.cell? ⟨b, off + 7, none⟩ = some (.int .i64 u.n) ∧ cur.cell? ⟨b, off + 8, none⟩ = some (.slice y u.kids.length cy) ∧ cur.cell? ⟨b, off + 9, none⟩ = some (.int .i64 u.place) ∧ cur.cell? ⟨b, off + 10, none⟩ = some (.int .i64 v.kind) ∧ cur.cell? ⟨b, off + 11, none⟩ = some (.string v.text) ∧ cur.cell? ⟨b, off + 12, none⟩ = some (.int .i64 v.n) ∧ cur.cell? ⟨b, off + 13, none⟩ = some (.slice z v.kids.length cz) ∧ cur.cell? ⟨b, off + 14, none⟩ = some (.int .i64 v.place) from fun W1 cur h0 hc => by
    have hB := h0.trans (hc.mono h0.size)
    exact ⟨(hB.cell (p := ⟨b, off, none⟩) hbw).trans c0, (hB.cell (p := ⟨b, off + 1, none⟩) hbw).trans c1, (hB.cell (p := ⟨b, off + 2, none⟩) hbw).trans c2, (hB.cell (p := ⟨b, off + 3, none⟩) hbw).trans c3, (hB.cell (p := ⟨b, off + 4, none⟩) hbw).trans c4, (hB.cell (p := ⟨b, off + 5, none⟩) hbw).trans g0, (hB.cell (p := ⟨b, off + 6, none⟩) hbw).trans g1, (hB.cell (p := ⟨b, off + 7, none⟩) hbw).trans g2, (hB.cell (p := ⟨b, off + 8, none⟩) hbw).trans g3, (hB.cell (p := ⟨b, off + 9, none⟩) hbw).trans g4, (hB.cell (p := ⟨b, off + 10, none⟩) hbw).trans f0, (hB.cell (p := ⟨b, off + 11, none⟩) hbw).trans f1, (hB.cell (p := ⟨b, off + 12, none⟩) hbw).trans f2, (hB.cell (p := ⟨b, off + 13, none⟩) hbw).trans f3, (hB.cell (p := ⟨b, off + 14, none⟩) hbw).trans f4⟩)
  clear c0 c1 c2 c3 c4 g0 g1 g2 g3 g4 f0 f1 f2 f3 f4 hbw hb0
  show Calls Tryz.prog 45 #[.agg #[.int .i64 14, .string s, .int .i64 0, .slice (some ⟨b, off, none⟩) 3 cap, .int .i64 p]] w _
  have B0 := Lib.hid (Boxed.make w (.mk 14 s 0 [k, u, v] p) (some ⟨b, off, none⟩) cap)
  have n0 : ¬ 9223372036854775807 < 3 + F.size := by omega
  have n1 : ¬ 9223372036854775807 < 3 + F.size + 6 := by omega
  have n2 : ¬ 9223372036854775807 < 3 + F.size + 6 + G.size := by omega
  have n3 : ¬ 9223372036854775807 < 3 + F.size + 6 + G.size + 6 := by omega
  have n4 : ¬ 9223372036854775807 < 3 + F.size + 6 + G.size + 6 + H.size := by omega
  go_enter Tryz.func45, Tryz.ntmps45
  go_wp2_with fail
  generalize hW : w.alloc (.cells #[.int .i64 14, .string s, .int .i64 0, .slice (some ⟨b, off, none⟩) 3 cap, .int .i64 p] 24) = W1 at HB ⊢
  have HX := Lib.hid (show Boxed w.heap.size (.mk 14 s 0 [k, u, v] p) (some ⟨b, off, none⟩) cap W1 from hW ▸ B0.out)
  clear hW B0
  have hb := Below.refl W1.heap.size W1
  have HS := Lib.hid (show ∀ cur, Below W1.heap.size W1 cur → Below W1.heap.size W1 cur ∧ cur.cell? ⟨w.heap.size, 3, none⟩ = some (.slice (some ⟨b, off, none⟩) 3 cap) ∧ cur.cell? ⟨b, off, none⟩ = some (.int .i64 k.kind) ∧ cur.cell? ⟨b, off + 1, none⟩ = some (.string k.text) ∧ cur.cell? ⟨b, off + 2, none⟩ = some (.int .i64 k.n) ∧ cur.cell? ⟨b, off + 3, none⟩ = some (.slice x k.kids.length cx) ∧ cur.cell? ⟨b, off + 4, none⟩ = some (.int .i64 k.place) ∧ cur.cell? ⟨b, off + 5, none⟩ = some (.int .i64 u.kind) ∧ cur.cell? ⟨b, off + 6, none⟩ = some (.string u.text) ∧ cur.cell? ⟨b, off + 7, none⟩ = some (.int .i64 u.n) ∧ cur.cell? ⟨b, off + 8, none⟩ = some (.slice y u.kids.length cy) ∧ cur.cell? ⟨b, off + 9, none⟩ = some (.int .i64 u.place) ∧ cur.cell? ⟨b, off + 10, none⟩ = some (.int .i64 v.kind) ∧ cur.cell? ⟨b, off + 11, none⟩ = some (.string v.text) ∧ cur.cell? ⟨b, off + 12, none⟩ = some (.int .i64 v.n) ∧ cur.cell? ⟨b, off + 13, none⟩ = some (.slice z v.kids.length cz) ∧ cur.cell? ⟨b, off + 14, none⟩ = some (.int .i64 v.place) from fun cur hc =>
    ⟨hc, (hc.cell (p := ⟨w.heap.size, 3, none⟩) HX.out.lt).trans HX.out.c3, HCL.out W1 cur HB.out hc⟩)
  have E0 := Lib.hid fun cur hc => C0.out W1 cur HB.out hc
  have E1 := Lib.hid fun cur hc => C1.out W1 cur HB.out hc
  have E2 := Lib.hid fun cur hc => C2.out W1 cur HB.out hc
  clear C0 C1 C2 HCL
  go_region_held3 (fun cur => Below W1.heap.size W1 cur ∧ cur.cell? ⟨w.heap.size, 3, none⟩ = some (.slice (some ⟨b, off, none⟩) 3 cap) ∧ cur.cell? ⟨b, off, none⟩ = some (.int .i64 k.kind) ∧ cur.cell? ⟨b, off + 1, none⟩ = some (.string k.text) ∧ cur.cell? ⟨b, off + 2, none⟩ = some (.int .i64 k.n) ∧ cur.cell? ⟨b, off + 3, none⟩ = some (.slice x k.kids.length cx) ∧ cur.cell? ⟨b, off + 4, none⟩ = some (.int .i64 k.place) ∧ cur.cell? ⟨b, off + 5, none⟩ = some (.int .i64 u.kind) ∧ cur.cell? ⟨b, off + 6, none⟩ = some (.string u.text) ∧ cur.cell? ⟨b, off + 7, none⟩ = some (.int .i64 u.n) ∧ cur.cell? ⟨b, off + 8, none⟩ = some (.slice y u.kids.length cy) ∧ cur.cell? ⟨b, off + 9, none⟩ = some (.int .i64 u.place) ∧ cur.cell? ⟨b, off + 10, none⟩ = some (.int .i64 v.kind) ∧ cur.cell? ⟨b, off + 11, none⟩ = some (.string v.text) ∧ cur.cell? ⟨b, off + 12, none⟩ = some (.int .i64 v.n) ∧ cur.cell? ⟨b, off + 13, none⟩ = some (.slice z v.kids.length cz) ∧ cur.cell? ⟨b, off + 14, none⟩ = some (.int .i64 v.place))
    (first | exact HS.out _ hb | exact HS.out _ hb.drew)
    (first | (go_at_call 45; ((with_reducible refine (E0.out _ ?_).mono ?_); (go_split_ands; assumption); rintro e w' ⟨rfl, hb⟩)) | (go_at_call 45; ((with_reducible refine (E1.out _ ?_).mono ?_); (go_split_ands; assumption); rintro e w' ⟨rfl, hb⟩)) | (go_at_call 45; ((with_reducible refine (E2.out _ ?_).mono ?_); (go_split_ands; assumption); rintro e w' ⟨rfl, hb⟩)))
  all_goals
    go_wp2_with fail
    go_ret
    exact ⟨retS (by rw [V.out]; exact bytes_of (by simp)), HB.out.trans (hb.mono HB.out.size)⟩

theorem rform_any' (N : Nat) : ∀ (t : Nd) (n₀ : Nat) (d : Int), SizeOf.sizeOf t < N → rightN t d = true → FormC n₀ t := by
  induction N with
  | zero => intro t n₀ d h; omega
  | succ N ih =>
  intro t n₀ d hsz h
  have hp := right_parts h
  have ihk : ∀ k ∈ t.kids, FormC n₀ k := fun k hk => ih k n₀ (d + 1) (size_kid hsz hk) (by
    have h4 := hp.2.2.2
    obtain ⟨i, hi, rfl⟩ := List.getElem_of_mem hk
    rcases hc : rightN t.kids[i] (d + 1) with _ | _
    · rw [rightKs_not hi hc] at h4; cases h4
    · rfl)
  have hkk := kids_kind hp.1
  rcases (show (5 ≤ t.kind ∧ t.kind ≤ 10) ∨ (t.kind = 11 ∨ t.kind = 15) ∨ t.kind = 12 ∨ t.kind = 13 ∨ t.kind = 14 by omega) with e | e | e | e | e
  · exact rform_leaf t n₀ d h e
  · exact rform_list t n₀ d h e ihk
  · exact rform_una t n₀ d h e ihk
  · exact rform_bin t n₀ d h e ihk
  · exact rform_if t n₀ d h e ihk
/-- a right expression's form -/
theorem rform_any (t : Nd) (n₀ : Nat) (d : Int) (h : rightN t d = true) : FormC n₀ t := rform_any' _ t n₀ d (Nat.lt_succ_self _) h

/-- a parameter's form is its name -/
theorem form_bare {t : Nd} (h : bareN 4 t = true) : formN t = t.text.data.toList := by
  obtain ⟨-, h1, -, h3⟩ := bare_near h
  rw [form_eq' t, h1, h3]
  rfl
set_option maxHeartbeats 1000000 in
theorem rform_bare (t : Nd) (n₀ : Nat) (h : bareN 4 t = true) : FormC n₀ t := by
  intro hl a cap w hh hn
  have V := Lib.hid (form_bare h)
  have hk := (bare_near h).2.1
  have HB := Lib.hid (nbelow1 w (.cells #[.int .i64 t.kind, .string t.text, .int .i64 t.n, .slice a t.kids.length cap, .int .i64 t.place] 24))
  have q : ∀ v : Int, (t.kind == v) = decide (t.kind = v) := fun _ => rfl
  have e1 : (t.kind == 5) = false := by rw [q, decide_eq_false (by omega)]
  have e2 : (t.kind == 6) = false := by rw [q, decide_eq_false (by omega)]
  have e3 : (t.kind == 8) = false := by rw [q, decide_eq_false (by omega)]
  have e4 : (t.kind == 9) = false := by rw [q, decide_eq_false (by omega)]
  have e5 : (t.kind == 11) = false := by rw [q, decide_eq_false (by omega)]
  have e6 : (t.kind == 12) = false := by rw [q, decide_eq_false (by omega)]
  have e7 : (t.kind == 13) = false := by rw [q, decide_eq_false (by omega)]
  have e8 : (t.kind == 14) = false := by rw [q, decide_eq_false (by omega)]
  have e9 : (t.kind == 15) = false := by rw [q, decide_eq_false (by omega)]
  clear q hk h hh hl
  go_enter Tryz.func45, Tryz.ntmps45
  go_wp2_with fail
  go_ret
  exact ⟨retS (by rw [V.out]), HB.out⟩

end Go.Proofs.YtcndknkdhlmdnaaGreatDoor

/-
  usanceref09: which modules are right.
-/
namespace Go.Proofs.YtcndknkdhlmdnaaGreatDoor
open Go.RowKit
set_option maxRecDepth 100000

set_option maxHeartbeats 1000000 in
theorem rbare_any (t : Nd) (a : Option Addr) (cap : Nat) (k : Int) (w : World) (hs : t.text.size ≤ maxLen) :
    Calls Tryz.prog 48 #[.agg #[.int .i64 t.kind, .string t.text, .int .i64 t.n, .slice a t.kids.length cap, .int .i64 t.place], .int .i64 k] w fun e w' => e = .returned (.bool (bareN k t)) ∧ Below w.heap.size w w' := by
  have B := Lib.hid (bareN_eq k t)
  have HB := Lib.hid (nbelow1 w (.cells #[.int .i64 t.kind, .string t.text, .int .i64 t.n, .slice a t.kids.length cap, .int .i64 t.place] 24))
  have B0 := Lib.hid (Boxed.make w t a cap)
  go_enter Tryz.func48, Tryz.ntmps48
  go_wp2_with fail
  generalize hW : w.alloc (.cells #[.int .i64 t.kind, .string t.text, .int .i64 t.n, .slice a t.kids.length cap, .int .i64 t.place] 24) = W1 at HB B0 ⊢
  clear hW
  refine Calls.mono (rIsNear_any t.text W1 hs) ?_
  rintro e w2 ⟨rfl, hb⟩
  have HC := Lib.hid (HB.out.trans (hb.mono HB.out.size))
  have B1 := Lib.hid (B0.out.below hb)
  clear hb HB B0
  have c0 := B1.out.c0
  have c2 := B1.out.c2
  have c3 := B1.out.c3
  cases h1 : t.kind == k
  · have F := Lib.hid (show bareN k t = false by rw [B.out, h1]; rfl)
    go_wp2_with fail
    go_ret
    exact ⟨nretB F.out.symm, HC.out⟩
  cases h2 : nearL t.text.data.toList
  · have F := Lib.hid (show bareN k t = false by rw [B.out, h1, h2]; rfl)
    go_wp2_with fail
    go_ret
    exact ⟨nretB F.out.symm, HC.out⟩
  cases h3 : t.n == 0
  · have F := Lib.hid (show bareN k t = false by rw [B.out, h1, h2, h3]; rfl)
    go_wp2_with fail
    go_ret
    exact ⟨nretB F.out.symm, HC.out⟩
  have F := Lib.hid (show bareN k t = ((t.kids.length : Int) == 0) by rw [B.out, h1, h2, h3]; rfl)
  go_wp2_with fail
  go_ret
  exact ⟨nretB F.out.symm, HC.out⟩

set_option maxHeartbeats 4000000 in
theorem rlet_any (t : Nd) (a : Option Addr) (cap n₀ : Nat) (w : World) (hh : t.hold n₀ w a cap) (hn : n₀ ≤ w.heap.size) (hsm : ∀ k ∈ t.kids, smallN k = true) :
    Calls Tryz.prog 49 #[.agg #[.int .i64 t.kind, .string t.text, .int .i64 t.n, .slice a t.kids.length cap, .int .i64 t.place]] w fun e w' => e = .returned (.bool (letN t)) ∧ Below w.heap.size w w' := by
  have hts := hh.bounds.2.1
  have hkc := hh.bounds.2.2.2.2
  have hkl : t.kids.length ≤ 9223372036854775807 := Nat.le_trans hkc.1 hkc.2
  have HH := Lib.hid hh
  have HM := Lib.hid hsm
  have B := Lib.hid (letN_eq t)
  have HB := Lib.hid (nbelow1 w (.cells #[.int .i64 t.kind, .string t.text, .int .i64 t.n, .slice a t.kids.length cap, .int .i64 t.place] 24))
  have B0 := Lib.hid (Boxed.make w t a cap)
  clear hh hsm
  go_enter Tryz.func49, Tryz.ntmps49
  go_wp2_with fail
  generalize hW : w.alloc (.cells #[.int .i64 t.kind, .string t.text, .int .i64 t.n, .slice a t.kids.length cap, .int .i64 t.place] 24) = W1 at HB B0 ⊢
  clear hW
  refine Calls.mono (rIsNear_any t.text W1 hts) ?_
  rintro e w2 ⟨rfl, hb⟩
  have HC := Lib.hid (HB.out.trans (hb.mono HB.out.size))
  have B1 := Lib.hid (B0.out.below hb)
  clear hb HB B0
  have c0 := B1.out.c0
  have c2 := B1.out.c2
  have c3 := B1.out.c3
  cases h1 : t.kind == 3
  · have F := Lib.hid (show letN t = false by rw [B.out, h1]; rfl)
    have h1' : (t.kind != 3) = true := by rw [bne, h1]; rfl
    go_wp2_with fail
    go_ret
    exact ⟨nretB F.out.symm, HC.out⟩
  have h1' : (t.kind != 3) = false := by rw [bne, h1]; rfl
  cases h2 : nearL t.text.data.toList
  · have F := Lib.hid (show letN t = false by rw [B.out, h1, h2]; rfl)
    go_wp2_with fail
    go_ret
    exact ⟨nretB F.out.symm, HC.out⟩
  cases h3 : t.n == 0
  · have F := Lib.hid (show letN t = false by rw [B.out, h1, h2, h3]; rfl)
    have h3' : (t.n != 0) = true := by rw [bne, h3]; rfl
    go_wp2_with fail
    go_ret
    exact ⟨nretB F.out.symm, HC.out⟩
  have h3' : (t.n != 0) = false := by rw [bne, h3]; rfl
  by_cases h4 : (t.kids.length : Int) < 1
  · have F := Lib.hid (show letN t = false by rw [B.out, decide_eq_false (show ¬ 1 ≤ t.kids.length by omega)]; simp)
    go_wp2_with fail
    go_ret
    exact ⟨nretB F.out.symm, HC.out⟩
  by_cases h5 : 9 < (t.kids.length : Int)
  · have F := Lib.hid (show letN t = false by rw [B.out, decide_eq_false (show ¬ t.kids.length ≤ 9 by omega)]; simp)
    go_wp2_with fail
    go_ret
    exact ⟨nretB F.out.symm, HC.out⟩
  have F := Lib.hid (show letN t = (t.kids.dropLast.all (bareN 4) && rightN (lastK t) 1) by
    rw [B.out, h1, h2, h3, decide_eq_true (show 1 ≤ t.kids.length by omega), decide_eq_true (show t.kids.length ≤ 9 by omega)]; rfl)
  have h6 : 1 ≤ t.kids.length := by omega
  have h7 : t.kids.length ≤ 9 := by omega
  clear B
  go_wp2_with fail
  clear c0 c2 c3 h1 h1' h2 h3 h3' h4 h5
  go_loopw [5, 6] (fun i _ wr => ∃ k : Nat, k + 1 ≤ t.kids.length ∧ i = .int .i64 k ∧ Hid (Below w.heap.size w wr) ∧ Hid (Boxed w.heap.size t a cap wr) ∧ Hid (∀ j (hj : j < t.kids.length), j < k → bareN 4 t.kids[j] = true)) (fun i _ _ => t.kids.length - (intOf i).toNat)
  case atStart => exact ⟨0, by omega, rfl, HC, B1, fun j hj h => by omega⟩
  case round =>
    obtain ⟨k, hk, rfl, HBr, HBx, HAll⟩ := hrel
    clear B1 HC
    have c3 := HBx.out.c3
    by_cases hlt : (k : Int) < t.kids.length - 1
    · have hlt' : k < t.kids.length := by omega
      obtain ⟨b, off, x, cx, A⟩ := (HH.out.below (HBr.out.mono hn)).kid k hlt'
      obtain ⟨rfl, hb0, c0, c1, c2, c3', c4, hk1⟩ := A
      have hxs := hk1.bounds.2.1
      clear hk1
      cases hr : bareN 4 t.kids[k]
      · have F' := Lib.hid (show letN t = false by rw [F.out, all_not (dropLast_mem (show k < t.kids.length - 1 by omega) hlt') hr]; rfl)
        go_wp2_with fail
        refine Calls.mono (rbare_any t.kids[k] x cx 4 wr hxs) ?_
        rintro e w4 ⟨rfl, hb⟩
        rw [hr]
        have HE := Lib.hid (HBr.out.trans (hb.mono HBr.out.size))
        clear hb
        go_wp2_with fail
        go_ret
        exact ⟨nretB F'.out.symm, HE.out⟩
      · have HR := Lib.hid hr
        go_wp2_with fail
        refine Calls.mono (rbare_any t.kids[k] x cx 4 wr hxs) ?_
        rintro e w4 ⟨rfl, hb⟩
        rw [hr]
        have HE := Lib.hid (HBr.out.trans (hb.mono HBr.out.size))
        have HX := Lib.hid (HBx.out.below hb)
        clear hb hr
        go_wp2_with fail
        go_roundw
        case rel =>
          refine ⟨k + 1, by omega, by go_num, HE, HX, fun j hj h => ?_⟩
          by_cases e : j = k
          · subst e; exact HR.out
          · exact HAll.out j hj (by omega)
        case measure => simp [intOf]; omega
    · obtain ⟨b, off, x, cx, A⟩ := (HH.out.below (HBr.out.mono hn)).kid (t.kids.length - 1) (by omega)
      obtain ⟨rfl, hb0, c0, c1, c2, c3', c4, hk1⟩ := A
      rw [last_get h6] at c0 c1 c2 c3' c4 hk1
      have hsl : smallN (lastK t) = true := HM.out _ (last_mem h6)
      have F' := Lib.hid (show letN t = rightE (lastK t) by
        rw [F.out, dropLast_all fun j hj hj' => HAll.out j hj (by omega)]
        unfold rightE
        rw [hsl])
      have C := Lib.hid (rRightExpr_any (lastK t) x cx n₀ wr hk1 (Nat.le_trans hn HBr.out.size))
      obtain ⟨m, hm⟩ : ∃ m, t.kids.length = m + 1 := ⟨t.kids.length - 1, by omega⟩
      rw [hm, Nat.add_sub_cancel] at c0 c1 c2 c3' c4
      have z1 : ((t.kids.length : Int) - 1) = (m : Int) := by omega
      have hml : m < t.kids.length := by omega
      have HZ := Lib.hid hm
      clear hk1 hsl hm
      go_wp2_with fail
      refine Calls.mono C.out ?_
      rintro e w4 ⟨rfl, hb⟩
      have HE := Lib.hid (HBr.out.trans (hb.mono HBr.out.size))
      clear hb
      go_wp2_with fail
      go_ret
      exact ⟨nretB F'.out.symm, HE.out⟩

end Go.Proofs.YtcndknkdhlmdnaaGreatDoor

/-
  usanceref09: which modules are right: Right; Expr.
-/
namespace Go.Proofs.YtcndknkdhlmdnaaGreatDoor
open Go.RowKit
set_option maxRecDepth 100000

set_option maxHeartbeats 8000000 in
theorem rRight_any (t : Nd) (a : Option Addr) (cap n₀ : Nat) (w : World) (hh : t.hold n₀ w a cap) (hn : n₀ ≤ w.heap.size) :
    Calls Tryz.prog 20 #[.agg #[.int .i64 t.kind, .string t.text, .int .i64 t.n, .slice a t.kids.length cap, .int .i64 t.place]] w fun e w' => e = .returned (.bool (modN t)) ∧ Below w.heap.size w w' := by
  have hts := hh.bounds.2.1
  have hkc := hh.bounds.2.2.2.2
  have hkl : t.kids.length ≤ 9223372036854775807 := Nat.le_trans hkc.1 hkc.2
  have HH := Lib.hid hh
  have B := Lib.hid (modN_eq t)
  have HB := Lib.hid (nbelow1 w (.cells #[.int .i64 t.kind, .string t.text, .int .i64 t.n, .slice a t.kids.length cap, .int .i64 t.place] 24))
  have B0 := Lib.hid (Boxed.make w t a cap)
  clear hh
  go_enter Tryz.func20, Tryz.ntmps20
  go_wp2_with fail
  generalize hW : w.alloc (.cells #[.int .i64 t.kind, .string t.text, .int .i64 t.n, .slice a t.kids.length cap, .int .i64 t.place] 24) = W1 at HB B0 ⊢
  clear hW
  refine Calls.mono (rIsNear_any t.text W1 hts) ?_
  rintro e w1 ⟨rfl, hb⟩
  have HC1 := Lib.hid (HB.out.trans (hb.mono HB.out.size))
  have B1' := Lib.hid (B0.out.below hb)
  clear hb HB B0
  have c0 := B1'.out.c0
  have c1 := B1'.out.c1
  have c2 := B1'.out.c2
  have c3 := B1'.out.c3
  have c4 := B1'.out.c4
  go_wp2_with fail
  refine Calls.mono (rSmall_any t a cap n₀ w1 (HH.out.below (HC1.out.mono hn)) (Nat.le_trans hn HC1.out.size)) ?_
  rintro e w2 ⟨rfl, hb⟩
  have HC := Lib.hid (HC1.out.trans (hb.mono HC1.out.size))
  have B1 := Lib.hid (B1'.out.below hb)
  clear hb HC1 B1' c0 c1 c2 c3 c4
  have c0 := B1.out.c0
  have c2 := B1.out.c2
  have c3 := B1.out.c3
  cases h0 : smallN t
  · have F := Lib.hid (show modN t = false by rw [B.out, h0]; simp)
    go_wp2_with fail
    go_ret
    exact ⟨nretB F.out.symm, HC.out⟩
  cases h1 : t.kind == 1
  · have F := Lib.hid (show modN t = false by rw [B.out, h1]; rfl)
    have h1' : (t.kind != 1) = true := by rw [bne, h1]; rfl
    go_wp2_with fail
    go_ret
    exact ⟨nretB F.out.symm, HC.out⟩
  have h1' : (t.kind != 1) = false := by rw [bne, h1]; rfl
  cases h2 : nearL t.text.data.toList
  · have F := Lib.hid (show modN t = false by rw [B.out, h1, h2]; rfl)
    go_wp2_with fail
    go_ret
    exact ⟨nretB F.out.symm, HC.out⟩
  cases h3 : t.n == 0
  · have F := Lib.hid (show modN t = false by rw [B.out, h1, h2, h3]; rfl)
    have h3' : (t.n != 0) = true := by rw [bne, h3]; rfl
    go_wp2_with fail
    go_ret
    exact ⟨nretB F.out.symm, HC.out⟩
  have h3' : (t.n != 0) = false := by rw [bne, h3]; rfl
  have F := Lib.hid (show modN t = kidsR t.kids by rw [B.out, h0, h1, h2, h3]; rfl)
  have HM := Lib.hid (show ∀ k ∈ t.kids, smallN k = true from fun k hk => small_kid h0 hk)
  clear B
  go_wp2_with fail
  clear c0 c2 c3 h0 h1 h1' h2 h3 h3'
  go_loopw [5, 6] (fun i _ wr => ∃ k : Nat, k ≤ t.kids.length ∧ i = .int .i64 k ∧ Hid (Below w.heap.size w wr) ∧ Hid (Boxed w.heap.size t a cap wr) ∧ Hid (∀ j (hj : j < t.kids.length), j < k → t.kids[j].kind = 2) ∧ Hid (∀ j (hj : j < t.kids.length), j < k → bareN 2 t.kids[j] = true)) (fun i _ _ => t.kids.length - (intOf i).toNat)
  case atStart => exact ⟨0, by omega, rfl, HC, B1, fun j hj h => by omega, fun j hj h => by omega⟩
  case round =>
    obtain ⟨k, hk, rfl, HBr, HBx, HKd, HAll⟩ := hrel
    clear B1 HC
    have c3 := HBx.out.c3
    by_cases hgo : ∃ hlt : k < t.kids.length, t.kids[k].kind = 2
    · obtain ⟨hlt, hk2⟩ := hgo
      obtain ⟨b, off, x, cx, A⟩ := (HH.out.below (HBr.out.mono hn)).kid k hlt
      obtain ⟨hA, hb0, c0, c1, c2, c3', c4, hk1⟩ := A
      rw [hA] at c3
      clear hA
      have hxs := hk1.bounds.2.1
      have e2 : (t.kids[k].kind == 2) = true := by rw [hk2]; rfl
      have HK2 := Lib.hid hk2
      clear hk1 hk2
      cases hr : bareN 2 t.kids[k]
      · have F' := Lib.hid (show modN t = false by
          rw [F.out, imps_bad hlt (fun j hj hjk => ?_) hr]
          by_cases e : j = k
          · subst e; exact HK2.out
          · exact HKd.out j hj (by omega))
        go_wp2_with fail
        refine Calls.mono (rbare_any t.kids[k] x cx 2 wr hxs) ?_
        rintro e w4 ⟨rfl, hb⟩
        rw [hr]
        have HE := Lib.hid (HBr.out.trans (hb.mono HBr.out.size))
        clear hb
        go_wp2_with fail
        go_ret
        exact ⟨nretB F'.out.symm, HE.out⟩
      · have HR := Lib.hid hr
        go_wp2_with fail
        refine Calls.mono (rbare_any t.kids[k] x cx 2 wr hxs) ?_
        rintro e w4 ⟨rfl, hb⟩
        rw [hr]
        have HE := Lib.hid (HBr.out.trans (hb.mono HBr.out.size))
        have HX := Lib.hid (HBx.out.below hb)
        clear hb hr
        go_wp2_with fail
        go_roundw
        case rel =>
          refine ⟨k + 1, by omega, by go_num, HE, HX, fun j hj h => ?_, fun j hj h => ?_⟩
          · by_cases e : j = k
            · subst e; exact HK2.out
            · exact HKd.out j hj (by omega)
          · by_cases e : j = k
            · subst e; exact HR.out
            · exact HAll.out j hj (by omega)
        case measure => simp [intOf]; omega
    · have F2 := Lib.hid (show impsR t.kids = k from imps_of hk HKd.out fun hlt e => hgo ⟨hlt, e⟩)
      have F3 := Lib.hid (show modN t = (decide (k ≤ 100) && decide (t.kids.length - k ≤ 200) && (t.kids.drop k).all letN) by
        rw [F.out]
        unfold kidsR
        rw [F2.out, all_take fun j hj hjk => HAll.out j hj hjk]; rfl)
      rcases (show k < t.kids.length ∨ ¬ k < t.kids.length by omega) with hlt | hlt
      · obtain ⟨b, off, x, cx, A⟩ := (HH.out.below (HBr.out.mono hn)).kid k hlt
        obtain ⟨hA, hb0, c0, c1, c2, c3', c4, hk1⟩ := A
        rw [hA] at c3
        clear hA
        have e2 : (t.kids[k].kind == 2) = false := by rw [beq_eq_false_iff_ne]; exact fun e => hgo ⟨hlt, e⟩
        clear hk1
        clear hgo
        by_cases h1 : 100 < (k : Int)
        · have F' := Lib.hid (show modN t = false by rw [F3.out, decide_eq_false (show ¬ k ≤ 100 by omega)]; rfl)
          go_wp2_with fail
          go_ret
          exact ⟨nretB F'.out.symm, HBr.out⟩
        by_cases h2 : 200 < (t.kids.length : Int) - k
        · have F' := Lib.hid (show modN t = false by rw [F3.out, decide_eq_false (show ¬ t.kids.length - k ≤ 200 by omega)]; simp)
          go_wp2_with fail
          go_ret
          exact ⟨nretB F'.out.symm, HBr.out⟩
        have F4 := Lib.hid (show modN t = (t.kids.drop k).all letN by rw [F3.out, decide_eq_true (show k ≤ 100 by omega), decide_eq_true (show t.kids.length - k ≤ 200 by omega)]; rfl)
        go_wp2_with fail
        clear h1 h2 c3 F F3 F2 HKd HAll
        generalize hwr : wr = wo at HBr HBx ⊢
        clear hwr
        go_loopw [7, 8] (fun i _ wr => ∃ m : Nat, k ≤ m ∧ m ≤ t.kids.length ∧ i = .int .i64 m ∧ Hid (Below w.heap.size w wr) ∧ Hid (Boxed w.heap.size t a cap wr) ∧ Hid (∀ j (hj : j < t.kids.length), k ≤ j → j < m → letN t.kids[j] = true)) (fun i _ _ => t.kids.length - (intOf i).toNat)
        case atStart => exact ⟨k, Nat.le_refl _, by omega, rfl, HBr, HBx, fun j hj h h' => by omega⟩
        case round =>
          obtain ⟨m, hkm, hm, rfl, HBr', HBx', HAll⟩ := hrel
          clear HBr HBx
          have c3 := HBx'.out.c3
          by_cases hlt' : m < t.kids.length
          · obtain ⟨b, off, x, cx, A⟩ := (HH.out.below (HBr'.out.mono hn)).kid m hlt'
            obtain ⟨hA, hb0', d0, d1, d2, d3', d4, hk1⟩ := A
            have C := Lib.hid (rlet_any t.kids[m] x cx n₀ wr hk1 (Nat.le_trans hn HBr'.out.size) fun u hu => small_kid (HM.out _ (List.getElem_mem hlt')) hu)
            rw [hA] at c3
            clear hk1 hA
            cases hr : letN t.kids[m]
            · have F' := Lib.hid (show modN t = false by rw [F4.out, all_not (mem_drop hlt' hkm) hr])
              go_wp2_with fail
              refine Calls.mono C.out ?_
              rintro e w4 ⟨rfl, hb⟩
              rw [hr]
              have HE := Lib.hid (HBr'.out.trans (hb.mono HBr'.out.size))
              clear hb
              go_wp2_with fail
              go_ret
              exact ⟨nretB F'.out.symm, HE.out⟩
            · have HR := Lib.hid hr
              go_wp2_with fail
              refine Calls.mono C.out ?_
              rintro e w4 ⟨rfl, hb⟩
              rw [hr]
              have HE := Lib.hid (HBr'.out.trans (hb.mono HBr'.out.size))
              have HX := Lib.hid (HBx'.out.below hb)
              clear hb hr
              go_wp2_with fail
              go_roundw
              case rel =>
                refine ⟨m + 1, by omega, by omega, by go_num, HE, HX, fun j hj h h' => ?_⟩
                by_cases e : j = m
                · subst e; exact HR.out
                · exact HAll.out j hj h (by omega)
              case measure => simp [intOf]; omega
          · have F' := Lib.hid (show modN t = true by rw [F4.out, all_drop fun j hj h => HAll.out j hj h (by omega)])
            go_wp2_with fail
            go_ret
            exact ⟨nretB F'.out.symm, HBr'.out⟩
      · clear hgo
        by_cases h1 : 100 < (k : Int)
        · have F' := Lib.hid (show modN t = false by rw [F3.out, decide_eq_false (show ¬ k ≤ 100 by omega)]; rfl)
          go_wp2_with fail
          go_ret
          exact ⟨nretB F'.out.symm, HBr.out⟩
        by_cases h2 : 200 < (t.kids.length : Int) - k
        · exfalso; omega
        have F4 := Lib.hid (show modN t = (t.kids.drop k).all letN by rw [F3.out, decide_eq_true (show k ≤ 100 by omega), decide_eq_true (show t.kids.length - k ≤ 200 by omega)]; rfl)
        go_wp2_with fail
        clear h1 h2 c3 F F3 F2 HKd HAll
        generalize hwr : wr = wo at HBr HBx ⊢
        clear hwr
        go_loopw [7, 8] (fun i _ wr => ∃ m : Nat, k ≤ m ∧ m ≤ t.kids.length ∧ i = .int .i64 m ∧ Hid (Below w.heap.size w wr) ∧ Hid (Boxed w.heap.size t a cap wr) ∧ Hid (∀ j (hj : j < t.kids.length), k ≤ j → j < m → letN t.kids[j] = true)) (fun i _ _ => t.kids.length - (intOf i).toNat)
        case atStart => exact ⟨k, Nat.le_refl _, by omega, rfl, HBr, HBx, fun j hj h h' => by omega⟩
        case round =>
          obtain ⟨m, hkm, hm, rfl, HBr', HBx', HAll⟩ := hrel
          clear HBr HBx
          have c3 := HBx'.out.c3
          by_cases hlt' : m < t.kids.length
          · exfalso; omega
          · have F' := Lib.hid (show modN t = true by rw [F4.out, all_drop fun j hj h => HAll.out j hj h (by omega)])
            go_wp2_with fail
            go_ret
            exact ⟨nretB F'.out.symm, HBr'.out⟩

end Go.Proofs.YtcndknkdhlmdnaaGreatDoor
