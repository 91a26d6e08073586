/-
  Texts that the statements' proofs rest on, one behind another: ParN, ParO.
-/
import Derived.Test.YtcndknkdhlmdnaaGreatDoorM27

/-
  usanceref07's parser: pick STRING ( Expr , Expr , Expr ).
-/
namespace Go.Proofs.YtcndknkdhlmdnaaGreatDoor
open Go.RowKit
set_option maxRecDepth 100000


/-- a node of three kids -/
theorem lies_kid3 {av : Nat → Prop} {W : World} {t u v : Nd} {a a' a2 : Option Addr} {cp cp' cp2 b : Nat} {k p : Int} {s : List UInt8} {A : TypeId} (hk : (Lit.int .i64 k).wf = true) (hs : s.length ≤ 16384) (hp : (Lit.int .i64 p).wf = true) (hb : av b)
    (h : W.heap[b]? = some (.cells #[.int .i64 t.kind, .string t.text, .int .i64 t.n, .slice a t.kids.length cp, .int .i64 t.place, .int .i64 u.kind, .string u.text, .int .i64 u.n, .slice a' u.kids.length cp', .int .i64 u.place, .int .i64 v.kind, .string v.text, .int .i64 v.n, .slice a2 v.kids.length cp2, .int .i64 v.place] A (0, 0))) (hl : t.lies av W a cp) (hu : u.lies av W a' cp') (hv : v.lies av W a2 cp2) :
    (mkN k s 0 [t, u, v] p).lies av W (some ⟨b, 0, none⟩) 3 :=
  Nd.lies.mk' hk (by show s.toArray.size ≤ maxLen; unfold maxLen; simp; omega) rfl hp (Nat.le_refl _) (by unfold maxLen; decide) (lie_three hb h hl hu hv)
theorem depth_kid3 (k : Int) (s : List UInt8) (n p : Int) (t u v : Nd) : depthN (mkN k s n [t, u, v] p) = max (depthN t) (max (depthN u) (depthN v)) + 1 := by
  unfold mkN; rw [depthN, depthKs, depthKs, depthKs, depthKs, Nat.max_zero]
theorem go_len {σ : Sx} {nest : Nat} {m : Md} {t : Nd} {r : List Tk} (h : goX σ (rd m nest) = .ok (t, r)) : ∃ r0, σ = .ok r0 ∧ r.length ≤ r0.length := by
  obtain ⟨r0, e, h'⟩ := go_inv h
  exact ⟨r0, e, rd_len m nest r0 h'⟩

/-- what stands behind pick -/
def pickT (nest : Nat) (l : List Tk) (at' : Int) : Rd := kindT 7 l fun s r => wantT tOpen r fun r => (rd .expr nest r).then fun a r => wantT tComma r fun r => (rd .expr nest r).then fun b r => wantT tComma r fun r => (rd .expr nest r).then fun c r =>
  wantT tShut r fun r => made (mkN 15 s.text 0 [a, b, c] at') r

set_option maxHeartbeats 4000000 in
theorem ppicked_any (P g cap : Nat) (ts : List Tk) (he : Ends ts) (htk : ∀ t ∈ ts, TkOk t) (l : List Tk) (at' : Int) (hat : (Lit.int .i64 at').wf = true) (hE : ∀ r, r.length < l.length → CE P g cap ts r) (nest : Nat) (w : World) (hn : nest ≤ 300) (h : SP P g cap ts nest (.ok l) w) :
    Calls Tryz.prog 224 #[.pointer (some ⟨P, 0, none⟩), .int .i64 at'] w (RdP P g cap ts nest (pickT nest l at') w) := by
  have P0 := Lib.hid h
  have HP := Lib.hid (show w.heap.size ≠ P ∧ w.heap.size ≠ g from ⟨Nat.ne_of_gt h.blocks.1, Nat.ne_of_gt h.blocks.2⟩)
  have HEx := Lib.hid hE
  have HTK := Lib.hid htk
  have HAT := Lib.hid hat
  obtain ⟨X, hX⟩ : ∃ X, X = pickT nest l at' := ⟨_, rfl⟩
  rw [← hX]
  have HX := Lib.hid hX
  obtain ⟨W1, hW1⟩ : ∃ W, W = w.alloc (.cells #[.int .i64 0, .string ⟨#[]⟩, .int .i64 0, .slice none 0 0, .int .i64 0] 24) := ⟨_, rfl⟩
  have B1 := Lib.hid (show NBox w.heap.size nd0 none 0 W1 from hW1 ▸ NBox.make w nd0 none 0)
  have E1 := Lib.hid (show Below w.heap.size w W1 from hW1 ▸ nbelow1 _ _)
  have S1 := Lib.hid (grown_of (r := some P) E1.out)
  have P1 := Lib.hid (P0.out.below E1.out)
  clear h hE htk hat hX
  go_enter Tryz.func224, Tryz.ntmps224
  have C2 := Lib.hid (pkind_any P g cap ts nest (.ok l) 7 W1 hn P1.out he)
  go_wp2_with fail
  rw [← hW1]
  clear hW1
  (with_reducible refine Calls.mono C2.out ?_)
  rintro e W2 ⟨T, rfl, hs, hg, hT⟩
  have S2 := Lib.hid hg
  have P2 := Lib.hid hs
  clear hs hg C2
  have HT := Lib.hid (hT l rfl)
  clear hT
  have HT0 := Lib.hid (show TkOk T from HT.out ▸ HTK.out _ P1.out.mem)
  obtain ⟨σ1, hσ1⟩ : ∃ σ, σ = kindX 7 (.ok l) := ⟨_, rfl⟩
  rw [← hσ1] at P2
  have Q1 := Lib.hid hσ1
  clear hσ1
  obtain ⟨W3, hW3⟩ : ∃ W, W = W2.alloc (.cells #[.int .i64 T.kind, .string ⟨T.text.toArray⟩, .int .i64 T.n, .int .i64 T.pos] 39) := ⟨_, rfl⟩
  have B3 := Lib.hid (show TBox W2.heap.size T W3 from hW3 ▸ TBox.make W2 T)
  have E3 := Lib.hid (show Below W2.heap.size W2 W3 from hW3 ▸ nbelow1 _ _)
  have S3 := Lib.hid (grown_of (r := some P) E3.out)
  have P3 := Lib.hid (P2.out.below E3.out)
  have C4 := Lib.hid (pwant_any P g cap ts nest σ1 ⟨#[40]⟩ W3 hn P3.out he)
  unfold tkV
  go_wp2_with fail
  rw [← hW3]
  clear hW3
  (with_reducible refine Calls.mono C4.out ?_)
  rintro e W4 ⟨rfl, hs, hg⟩
  have S4 := Lib.hid hg
  have P4 := Lib.hid hs
  clear hs hg C4
  obtain ⟨τ0, hτ0⟩ : ∃ σ, σ = wantX tOpen σ1 := ⟨_, rfl⟩
  replace P4 := Lib.hid (show SP P g cap ts nest τ0 W4 from hτ0 ▸ P4.out)
  have R0 := Lib.hid hτ0
  clear hτ0
  have M0 := Lib.hid (show ∀ r, τ0 = .ok r → r.length < l.length from fun r hr => by have h1 := hr; rw [R0.out] at h1; obtain ⟨r1, e1, -, rfl⟩ := want_inv h1; rw [Q1.out] at e1; obtain ⟨r2, e2, e3, rfl⟩ := kind_inv e1; cases e2; have := stepL_le (stepL l); have := step_len e3 (by decide); omega)
  have C5 := Lib.hid (ppart_any P g cap ts nest τ0 W4 hn P4.out fun r hr => HEx.out r (M0.out r hr))
  go_wp2_with fail
  (with_reducible refine Calls.mono C5.out ?_)
  rintro e W5 ⟨k0, a0, c0, rfl, hs, hg, hk⟩
  have S5 := Lib.hid hg
  have P5 := Lib.hid hs
  clear hs hg C5
  obtain ⟨x0, hx0⟩ : ∃ x, x = goX τ0 (rd .expr nest) := ⟨_, rfl⟩
  rw [← hx0] at P5 hk
  have HK0 := Lib.hid hk
  have X0 := Lib.hid hx0
  have L0 := Lib.hid (show ∀ t r, x0 = .ok (t, r) → r.length < l.length from fun t r h => by rw [hx0] at h; obtain ⟨r0, e, hl⟩ := go_len h; have := M0.out r0 e; omega)
  clear hk hx0
  obtain ⟨W6, hW6⟩ : ∃ W, W = W5.alloc (.cells #[.int .i64 k0.kind, .string k0.text, .int .i64 k0.n, .slice a0 k0.kids.length c0, .int .i64 k0.place] 24) := ⟨_, rfl⟩
  have B6 := Lib.hid (show NBox W5.heap.size k0 a0 c0 W6 from hW6 ▸ NBox.make W5 k0 a0 c0)
  have E6 := Lib.hid (show Below W5.heap.size W5 W6 from hW6 ▸ nbelow1 _ _)
  have S6 := Lib.hid (grown_of (r := some P) E6.out)
  have P6 := Lib.hid (P5.out.below E6.out)
  have C7 := Lib.hid (pwant_any P g cap ts nest (outX x0) ⟨#[44]⟩ W6 hn P6.out he)
  unfold Nd.val
  go_wp2_with fail
  rw [← hW6]
  clear hW6
  (with_reducible refine Calls.mono C7.out ?_)
  rintro e W7 ⟨rfl, hs, hg⟩
  have S7 := Lib.hid hg
  have P7 := Lib.hid hs
  clear hs hg C7
  obtain ⟨τ1, hτ1⟩ : ∃ σ, σ = wantX tComma (outX x0) := ⟨_, rfl⟩
  replace P7 := Lib.hid (show SP P g cap ts nest τ1 W7 from hτ1 ▸ P7.out)
  have R1 := Lib.hid hτ1
  clear hτ1
  have M1 := Lib.hid (show ∀ r, τ1 = .ok r → r.length < l.length from fun r hr => by have h1 := hr; rw [R1.out] at h1; obtain ⟨r1, e1, -, rfl⟩ := want_inv h1; obtain ⟨t, e2⟩ := out_inv e1; have := L0.out t r1 e2; have := stepL_le r1; omega)
  have C8 := Lib.hid (ppart_any P g cap ts nest τ1 W7 hn P7.out fun r hr => HEx.out r (M1.out r hr))
  go_wp2_with fail
  (with_reducible refine Calls.mono C8.out ?_)
  rintro e W8 ⟨k1, a1, c1, rfl, hs, hg, hk⟩
  have S8 := Lib.hid hg
  have P8 := Lib.hid hs
  clear hs hg C8
  obtain ⟨x1, hx1⟩ : ∃ x, x = goX τ1 (rd .expr nest) := ⟨_, rfl⟩
  rw [← hx1] at P8 hk
  have HK1 := Lib.hid hk
  have X1 := Lib.hid hx1
  have L1 := Lib.hid (show ∀ t r, x1 = .ok (t, r) → r.length < l.length from fun t r h => by rw [hx1] at h; obtain ⟨r0, e, hl⟩ := go_len h; have := M1.out r0 e; omega)
  clear hk hx1
  obtain ⟨W9, hW9⟩ : ∃ W, W = W8.alloc (.cells #[.int .i64 k1.kind, .string k1.text, .int .i64 k1.n, .slice a1 k1.kids.length c1, .int .i64 k1.place] 24) := ⟨_, rfl⟩
  have B9 := Lib.hid (show NBox W8.heap.size k1 a1 c1 W9 from hW9 ▸ NBox.make W8 k1 a1 c1)
  have E9 := Lib.hid (show Below W8.heap.size W8 W9 from hW9 ▸ nbelow1 _ _)
  have S9 := Lib.hid (grown_of (r := some P) E9.out)
  have P9 := Lib.hid (P8.out.below E9.out)
  have C10 := Lib.hid (pwant_any P g cap ts nest (outX x1) ⟨#[44]⟩ W9 hn P9.out he)
  unfold Nd.val
  go_wp2_with fail
  rw [← hW9]
  clear hW9
  (with_reducible refine Calls.mono C10.out ?_)
  rintro e W10 ⟨rfl, hs, hg⟩
  have S10 := Lib.hid hg
  have P10 := Lib.hid hs
  clear hs hg C10
  obtain ⟨τ2, hτ2⟩ : ∃ σ, σ = wantX tComma (outX x1) := ⟨_, rfl⟩
  replace P10 := Lib.hid (show SP P g cap ts nest τ2 W10 from hτ2 ▸ P10.out)
  have R2 := Lib.hid hτ2
  clear hτ2
  have M2 := Lib.hid (show ∀ r, τ2 = .ok r → r.length < l.length from fun r hr => by have h1 := hr; rw [R2.out] at h1; obtain ⟨r1, e1, -, rfl⟩ := want_inv h1; obtain ⟨t, e2⟩ := out_inv e1; have := L1.out t r1 e2; have := stepL_le r1; omega)
  have C11 := Lib.hid (ppart_any P g cap ts nest τ2 W10 hn P10.out fun r hr => HEx.out r (M2.out r hr))
  go_wp2_with fail
  (with_reducible refine Calls.mono C11.out ?_)
  rintro e W11 ⟨k2, a2, c2, rfl, hs, hg, hk⟩
  have S11 := Lib.hid hg
  have P11 := Lib.hid hs
  clear hs hg C11
  obtain ⟨x2, hx2⟩ : ∃ x, x = goX τ2 (rd .expr nest) := ⟨_, rfl⟩
  rw [← hx2] at P11 hk
  have HK2 := Lib.hid hk
  have X2 := Lib.hid hx2
  have L2 := Lib.hid (show ∀ t r, x2 = .ok (t, r) → r.length < l.length from fun t r h => by rw [hx2] at h; obtain ⟨r0, e, hl⟩ := go_len h; have := M2.out r0 e; omega)
  clear hk hx2
  obtain ⟨W12, hW12⟩ : ∃ W, W = W11.alloc (.cells #[.int .i64 k2.kind, .string k2.text, .int .i64 k2.n, .slice a2 k2.kids.length c2, .int .i64 k2.place] 24) := ⟨_, rfl⟩
  have B12 := Lib.hid (show NBox W11.heap.size k2 a2 c2 W12 from hW12 ▸ NBox.make W11 k2 a2 c2)
  have E12 := Lib.hid (show Below W11.heap.size W11 W12 from hW12 ▸ nbelow1 _ _)
  have S12 := Lib.hid (grown_of (r := some P) E12.out)
  have P12 := Lib.hid (P11.out.below E12.out)
  have C13 := Lib.hid (pwant_any P g cap ts nest (outX x2) ⟨#[41]⟩ W12 hn P12.out he)
  unfold Nd.val
  go_wp2_with fail
  rw [← hW12]
  clear hW12
  (with_reducible refine Calls.mono C13.out ?_)
  rintro e W13 ⟨rfl, hs, hg⟩
  have S13 := Lib.hid hg
  have P13 := Lib.hid hs
  clear hs hg C13
  obtain ⟨τ3, hτ3⟩ : ∃ σ, σ = wantX tShut (outX x2) := ⟨_, rfl⟩
  replace P13 := Lib.hid (show SP P g cap ts nest τ3 W13 from hτ3 ▸ P13.out)
  have R3 := Lib.hid hτ3
  clear hτ3
  go_upto_region 9 with fail
  obtain ⟨⟨t0, t1, t2, t3⟩, -⟩ := (B3.out.grown (grown_trans (grown_trans (grown_trans (grown_trans (grown_trans (grown_trans (grown_trans (grown_trans (grown_trans S4.out S5.out) S6.out) S7.out) S8.out) S9.out) S10.out) S11.out) S12.out) S13.out) (Nat.ne_of_gt P2.out.blocks.1)).cells
  obtain ⟨⟨n00, n01, n02, n03, n04⟩, -⟩ := (B6.out.grown (grown_trans (grown_trans (grown_trans (grown_trans (grown_trans (grown_trans S7.out S8.out) S9.out) S10.out) S11.out) S12.out) S13.out) (Nat.ne_of_gt P5.out.blocks.1)).cells
  obtain ⟨⟨n10, n11, n12, n13, n14⟩, -⟩ := (B9.out.grown (grown_trans (grown_trans (grown_trans S10.out S11.out) S12.out) S13.out) (Nat.ne_of_gt P8.out.blocks.1)).cells
  obtain ⟨⟨n20, n21, n22, n23, n24⟩, -⟩ := (B12.out.grown S13.out (Nat.ne_of_gt P11.out.blocks.1)).cells
  obtain ⟨W14, hW14⟩ : ∃ W, W = W13.alloc (.cells #[.int .i64 k0.kind, .string k0.text, .int .i64 k0.n, .slice a0 k0.kids.length c0, .int .i64 k0.place, .int .i64 k1.kind, .string k1.text, .int .i64 k1.n, .slice a1 k1.kids.length c1, .int .i64 k1.place, .int .i64 k2.kind, .string k2.text, .int .i64 k2.n, .slice a2 k2.kids.length c2, .int .i64 k2.place] 24) := ⟨_, rfl⟩
  have E14 := Lib.hid (show Below W13.heap.size W13 W14 from hW14 ▸ nbelow1 _ _)
  have S14 := Lib.hid (grown_of (r := some P) E14.out)
  have P14 := Lib.hid (P13.out.below E14.out)
  have B14 := Lib.hid (show W14.heap[W13.heap.size]? = some (.cells #[.int .i64 k0.kind, .string k0.text, .int .i64 k0.n, .slice a0 k0.kids.length c0, .int .i64 k0.place, .int .i64 k1.kind, .string k1.text, .int .i64 k1.n, .slice a1 k1.kids.length c1, .int .i64 k1.place, .int .i64 k2.kind, .string k2.text, .int .i64 k2.n, .slice a2 k2.kids.length c2, .int .i64 k2.place] 24 (0, 0)) from by rw [hW14]; exact at_new _ rfl)
  have hlt := Lib.hid (show W13.heap.size < W14.heap.size from by rw [hW14]; simp)
  have HD := Lib.hid (show ∀ r, τ3 = .ok r → depthN (mkN 15 T.text 0 [k0, k1, k2] at') ≤ 101 ∧ (mkN 15 T.text 0 [k0, k1, k2] at').lies (Fr W1.heap.size W14.heap.size) W14 (some ⟨W13.heap.size, 0, none⟩) 3 from fun r hr => by
    rw [R3.out] at hr; obtain ⟨r3, e3, -, -⟩ := want_inv hr; obtain ⟨v3, y3⟩ := out_inv e3; obtain ⟨-, hl2, hd2⟩ := HK2.out v3 r3 y3
    rw [X2.out] at y3; obtain ⟨r2, e2, -⟩ := go_inv y3; rw [R2.out] at e2; obtain ⟨s2, f2, -, -⟩ := want_inv e2; obtain ⟨v2, y2⟩ := out_inv f2; obtain ⟨-, hl1, hd1⟩ := HK1.out v2 s2 y2
    rw [X1.out] at y2; obtain ⟨r1, e1, -⟩ := go_inv y2; rw [R1.out] at e1; obtain ⟨s1, f1, -, -⟩ := want_inv e1; obtain ⟨v1, y1⟩ := out_inv f1; obtain ⟨-, hl0, hd0⟩ := HK0.out v1 s1 y1
    have hP1 : P < W1.heap.size := P1.out.blocks.1
    have q0 : W1.heap.size ≤ W4.heap.size := (grown_trans (grown_trans S2.out S3.out) S4.out).size
    have q1 : W1.heap.size ≤ W7.heap.size := (grown_trans (grown_trans (grown_trans (grown_trans (grown_trans S2.out S3.out) S4.out) S5.out) S6.out) S7.out).size
    have q2 : W1.heap.size ≤ W10.heap.size := (grown_trans (grown_trans (grown_trans (grown_trans (grown_trans (grown_trans (grown_trans (grown_trans S2.out S3.out) S4.out) S5.out) S6.out) S7.out) S8.out) S9.out) S10.out).size
    refine ⟨by rw [depth_kid3]; omega, lies_kid3 rfl HT0.out.2.2 HAT.out ⟨(grown_trans (grown_trans (grown_trans (grown_trans (grown_trans (grown_trans (grown_trans (grown_trans (grown_trans (grown_trans (grown_trans S2.out S3.out) S4.out) S5.out) S6.out) S7.out) S8.out) S9.out) S10.out) S11.out) S12.out) S13.out).size, hlt.out⟩ B14.out (lies_move hl0 ((KeepsV.refl _ _).grown (grown_trans (grown_trans (grown_trans (grown_trans (grown_trans (grown_trans (grown_trans (grown_trans S6.out S7.out) S8.out) S9.out) S10.out) S11.out) S12.out) S13.out) S14.out) fun b hb => ⟨hb.2, fun e => by subst e; have := hb.1; omega⟩) fun b hb => ⟨Nat.le_trans q0 hb.1, Nat.lt_of_lt_of_le hb.2 (grown_trans (grown_trans (grown_trans (grown_trans (grown_trans (grown_trans (grown_trans (grown_trans S6.out S7.out) S8.out) S9.out) S10.out) S11.out) S12.out) S13.out) S14.out).size⟩) (lies_move hl1 ((KeepsV.refl _ _).grown (grown_trans (grown_trans (grown_trans (grown_trans (grown_trans S9.out S10.out) S11.out) S12.out) S13.out) S14.out) fun b hb => ⟨hb.2, fun e => by subst e; have := hb.1; omega⟩) fun b hb => ⟨Nat.le_trans q1 hb.1, Nat.lt_of_lt_of_le hb.2 (grown_trans (grown_trans (grown_trans (grown_trans (grown_trans S9.out S10.out) S11.out) S12.out) S13.out) S14.out).size⟩) (lies_move hl2 ((KeepsV.refl _ _).grown (grown_trans (grown_trans S12.out S13.out) S14.out) fun b hb => ⟨hb.2, fun e => by subst e; have := hb.1; omega⟩) fun b hb => ⟨Nat.le_trans q2 hb.1, Nat.lt_of_lt_of_le hb.2 (grown_trans (grown_trans S12.out S13.out) S14.out).size⟩)⟩)
  have CM := Lib.hid (pmade_s P g cap ts nest τ3 15 T.text 0 [k0, k1, k2] at' (some ⟨W13.heap.size, 0, none⟩) 3 3 rfl W14 hn P14.out fun r hr => ⟨(HD.out r hr).1, _, fun b hb => hb.2, (HD.out r hr).2⟩)
  obtain ⟨⟨u0, u1, u2, u3⟩, -⟩ := (B3.out.grown (grown_trans (grown_trans (grown_trans (grown_trans (grown_trans (grown_trans (grown_trans (grown_trans (grown_trans (grown_trans S4.out S5.out) S6.out) S7.out) S8.out) S9.out) S10.out) S11.out) S12.out) S13.out) S14.out) (Nat.ne_of_gt P2.out.blocks.1)).cells
  subst hW14
  go_wp2_with fail
  (with_reducible refine Calls.mono CM.out ?_)
  rintro e W15 ⟨rfl, hs, hg⟩
  have S15 := Lib.hid hg
  have P15 := Lib.hid hs
  clear hs hg CM t0 t1 t2 t3 u0 u1 u2 u3 n00 n01 n02 n03 n04 n10 n11 n12 n13 n14 n20 n21 n22 n23 n24
  have BR := Lib.hid (B1.out.grown (grown_trans (grown_trans (grown_trans (grown_trans (grown_trans (grown_trans (grown_trans (grown_trans (grown_trans (grown_trans (grown_trans (grown_trans (grown_trans S2.out S3.out) S4.out) S5.out) S6.out) S7.out) S8.out) S9.out) S10.out) S11.out) S12.out) S13.out) S14.out) S15.out) HP.out.1)
  obtain ⟨⟨z0, z1, z2, z3, z4⟩, ⟨f0, f1, f2, f3, f4⟩⟩ := BR.out.cells
  have hsz : w.heap.size < W15.heap.size := BR.out.lt
  rw [show (mkN 15 T.text 0 [k0, k1, k2] at').val (some ⟨W13.heap.size, 0, none⟩) 3 = .agg #[.int .i64 15, .string ⟨List.toArray T.text⟩, .int .i64 0, .slice (some ⟨W13.heap.size, 0, none⟩) 3 3, .int .i64 at'] from rfl]
  go_wp2_with fail
  refine bodyPost_ret (v := (mkN 15 T.text 0 [k0, k1, k2] at').val (some ⟨W13.heap.size, 0, none⟩) 3) (by simp [results, Tryz.results224, go_sem, Nd.val, mkN, Nd.kind, Nd.text, Nd.n, Nd.kids, Nd.place, z0, z1, z2, z3, z4]) rfl ?_
  have hX : X = goX τ3 (made (mkN 15 T.text 0 [k0, k1, k2] at')) := by
    rw [HX.out]
    show goX (.ok l) (fun r => kindT 7 r _) = _
    rw [kind_go (.ok l) 7 _ T (fun r h => by cases h; exact HT.out), ← Q1.out]
    rw [want_go, ← R0.out, go_then, ← X0.out, then_go (t := k0) (fun t' r h => (HK0.out t' r h).1), want_go, ← R1.out, go_then, ← X1.out, then_go (t := k1) (fun t' r h => (HK1.out t' r h).1), want_go, ← R2.out, go_then, ← X2.out, then_go (t := k2) (fun t' r h => (HK2.out t' r h).1), want_go, ← R3.out]
  have hO : outX X = madeX (mkN 15 T.text 0 [k0, k1, k2] at') τ3 := by rw [hX, out_made]
  refine RdP.fin (by rw [hO]; exact P15.out) (grown_trans (grown_trans (grown_trans (grown_trans (grown_trans (grown_trans (grown_trans (grown_trans (grown_trans (grown_trans (grown_trans (grown_trans (grown_trans (grown_trans S1.out S2.out) S3.out) S4.out) S5.out) S6.out) S7.out) S8.out) S9.out) S10.out) S11.out) S12.out) S13.out) S14.out) S15.out) HP.out (Nat.le_refl _) fun t' r' hx => ?_
  rw [hX] at hx
  obtain ⟨e1, e2, e3⟩ := is_made _ _ hx
  have hP1 : P < W1.heap.size := P1.out.blocks.1
  have hw1 : w.heap.size < W1.heap.size := B1.out.lt
  refine ⟨e1, ⟨_, fun c hc => ⟨fun e => by subst e; have := hc.1; omega, by have := hc.1; omega, Nat.lt_of_lt_of_le hc.2 S15.out.size⟩, lies_move (HD.out r' e2).2 ((KeepsV.refl _ _).grown S15.out fun b hb => ⟨hb.2, fun e => by subst e; have := hb.1; omega⟩) fun b hb => hb⟩, e3⟩

end Go.Proofs.YtcndknkdhlmdnaaGreatDoor

/-
  usanceref07's parser: an expression.
-/
namespace Go.Proofs.YtcndknkdhlmdnaaGreatDoor
open Go.RowKit
set_option maxRecDepth 100000

set_option maxHeartbeats 4000000 in
theorem pexpr_any (P g cap : Nat) (ts : List Tk) (he : Ends ts) (htk : ∀ t ∈ ts, TkOk t) (l : List Tk) (hC : CC P g cap ts 0 l) (hE : ∀ r, r.length < l.length → CE P g cap ts r) : CE P g cap ts l := by
  intro nest w hn h
  have P0 := Lib.hid h
  have HP := Lib.hid (show (w.heap.size ≠ P ∧ w.heap.size ≠ g) ∧ (w.heap.size + 1 ≠ P ∧ w.heap.size + 1 ≠ g) by have := h.blocks; omega)
  have HEx := Lib.hid hE
  have HC := Lib.hid hC
  have HTK := Lib.hid htk
  obtain ⟨X, hX⟩ : ∃ X, X = rd .expr nest l := ⟨_, rfl⟩
  rw [← hX]
  have HX := Lib.hid (hX.trans (rd_eq .expr nest l))
  obtain ⟨W1, hW1⟩ : ∃ V, V = (w.alloc (.cells #[.int .i64 0, .string ⟨#[]⟩, .int .i64 0, .slice none 0 0, .int .i64 0] 24)).alloc (.cells #[.int .i64 0, .string ⟨#[]⟩, .int .i64 0, .slice none 0 0, .int .i64 0] 24) := ⟨_, rfl⟩
  have E1 := Lib.hid (show Below w.heap.size w W1 from hW1 ▸ (nbelow1 w _).trans ((nbelow1 _ _).mono (nbelow1 w _).size))
  have S1 := Lib.hid (grown_of (r := some P) E1.out)
  have B1 := Lib.hid (show NBox w.heap.size nd0 none 0 W1 from hW1 ▸ (NBox.make w nd0 none 0).below (nbelow1 _ _))
  have A1 := Lib.hid (show NBox (w.heap.size + 1) nd0 none 0 W1 by
    have := NBox.make (w.alloc (.cells #[.int .i64 0, .string ⟨#[]⟩, .int .i64 0, .slice none 0 0, .int .i64 0] 24)) nd0 none 0
    rw [hW1]
    simpa [nd0, Nd.kind, Nd.text, Nd.n, Nd.kids, Nd.place] using this)
  have P1 := Lib.hid (h.below E1.out)
  clear h hE hC htk hX
  go_enter Tryz.func96, Tryz.ntmps96
  have C2 := Lib.hid (penter_any P g cap ts nest l W1 hn P1.out)
  go_wp2_with fail
  rw [← hW1]
  clear hW1
  (with_reducible refine Calls.mono C2.out ?_)
  rintro e W2 ⟨rfl, hs, hg⟩
  have S2 := Lib.hid hg
  have P2 := Lib.hid hs
  clear hs hg C2
  by_cases hk : 300 < nest + 1
  · have R := Lib.hid (show X = .error (75, (hd l).pos) from HX.out.trans (if_pos hk))
    have E : enterX nest (.ok l) = .error (75, (hd l).pos) := if_pos hk
    have hs2 := P2.out
    rw [E] at hs2
    obtain ⟨-, i, n, hp, -, -⟩ := hs2.error
    obtain ⟨⟨p0, p1, p2, p3, p4⟩, -⟩ := hp.cells
    have hpl := hp.plt
    have B2 := Lib.hid (B1.out.grown S2.out HP.out.1.1)
    have A2 := Lib.hid (A1.out.grown S2.out HP.out.2.1)
    obtain ⟨⟨z0, z1, z2, z3, z4⟩, ⟨f0, f1, f2, f3, f4⟩⟩ := B2.out.cells
    obtain ⟨⟨n0, n1, n2, n3, n4⟩, -⟩ := A2.out.cells
    have hsz : w.heap.size < W2.heap.size ∧ w.heap.size + 1 < W2.heap.size := ⟨B2.out.lt, A2.out.lt⟩
    have HS2 := Lib.hid (hs2.mono (Nat.le_succ nest))
    clear hk E hs2 hp
    go_wp2_with fail
    refine bodyPost_ret (v := nd0.val none 0) (by simp [results, Tryz.results96, go_sem, Nd.val, z0, z1, z2, z3, z4]) rfl ?_
    rw [R.out]
    exact RdP.fin (x := .error (75, (hd l).pos)) HS2.out (grown_trans S1.out S2.out) HP.out.1 (Nat.le_refl _) (fun _ _ h => by cases h)
  have E : enterX nest (.ok l) = .ok l := if_neg hk
  have HX1 := Lib.hid (HX.out.trans (if_neg hk))
  replace P2 := Lib.hid (show SP P g cap ts (nest + 1) (.ok l) W2 from E ▸ P2.out)
  obtain ⟨i, -, hp⟩ := P2.out.ok
  obtain ⟨⟨p0, p1, p2, p3, p4⟩, -⟩ := hp.cells
  have hpl := hp.plt
  have hn1 := Lib.hid (show nest + 1 ≤ 300 by omega)
  have C3 := Lib.hid (pis_s P g cap ts (nest + 1) (.ok l) ⟨#[105, 102]⟩ W2 P2.out)
  clear hk E hp HX
  go_wp2_with fail
  (with_reducible refine Calls.mono C3.out ?_)
  rintro e W3 ⟨b, rfl, hb, hbt⟩
  have HT1 := Lib.hid (show b = isT tIf l from hbt l rfl)
  have S3 := Lib.hid (grown_of (r := some P) hb)
  have P3 := Lib.hid (P2.out.below hb)
  clear hbt hb p0 p1 p2 p3 p4 hpl C3
  cases b
  case false =>
    have R := Lib.hid (show X = rd (.chain 0) (nest + 1) l from HX1.out.trans (if_neg (by rw [← HT1.out]; decide)))
    have C4 := Lib.hid (HC.out (nest + 1) W3 hn1.out P3.out)
    rw [← R.out] at C4
    go_wp2_with fail
    (with_reducible refine Calls.mono C4.out ?_)
    rintro e w5 ⟨t, a, cp, rfl, hs5, hg5, hk5⟩
    have G5 := Lib.hid (grown_trans (grown_trans (grown_trans S1.out S2.out) S3.out) hg5)
    have J1 := Lib.hid (grown_trans (grown_trans S2.out S3.out) hg5)
    have F1 := Lib.hid ((B1.out.grown J1.out HP.out.1.1).oput (c := w.heap.size + 1) (by omega) t a cp)
    have A5 := Lib.hid (A1.out.grown J1.out HP.out.2.1)
    have F2 := Lib.hid (A5.out.put t a cp)
    have HS6 := Lib.hid (hs5.put HP.out.2.1 HP.out.2.2 t a cp)
    have G6 := Lib.hid (grown_put G5.out (show w.heap.size ≤ w.heap.size + 1 by omega) t a cp)
    have HK5 := Lib.hid hk5
    have hsz3 := Lib.hid (show W1.heap.size ≤ W3.heap.size from (grown_trans S2.out S3.out).size)
    obtain ⟨⟨z0, z1, z2, z3, z4⟩, ⟨f0, f1, f2, f3, f4⟩⟩ := A5.out.cells
    have hsz5 : w.heap.size + 1 < w5.heap.size := A5.out.lt
    clear hs5 hg5 hk5 C4
    unfold Nd.val
    obtain ⟨W6, hW6⟩ : ∃ W, W = put5 w5 (w.heap.size + 1) t a cp := ⟨_, rfl⟩
    rw [← hW6] at F1 F2 HS6 G6
    go_upto_region 8 with fail
    have hW6' := hW6
    unfold put5 at hW6'
    rw [← hW6']
    clear hW6' z0 z1 z2 z3 z4 f0 f1 f2 f3 f4
    have HW6 := Lib.hid hW6
    clear hW6
    obtain ⟨m, hm1, hm2, p2, q2, hs7⟩ := HS6.out.nest
    obtain ⟨W7, hW7⟩ : ∃ W, W = W6.setCell ⟨P, 2, none⟩ (.int .i64 (m - 1)) := ⟨_, rfl⟩
    have J1 := Lib.hid (show NBox w.heap.size nd0 none 0 W7 from hW7 ▸ F1.out.set HP.out.1.1 _ _)
    have J2 := Lib.hid (show NBox (w.heap.size + 1) t a cp W7 from hW7 ▸ F2.out.set HP.out.2.1 _ _)
    have HS7 := Lib.hid (show SP P g cap ts nest _ W7 from hW7 ▸ hs7)
    have G7 := Lib.hid (show w.grownBy W7 (some P) from hW7 ▸ grown_trans G6.out (grown_set _ _ _ _))
    have hpl := HS6.out.blocks.1
    clear hs7
    go_upto_region 9 with fail
    rw [← hW7]
    have HW7 := Lib.hid hW7
    clear hW7 p2 q2 hpl
    obtain ⟨⟨z0, z1, z2, z3, z4⟩, ⟨f0, f1, f2, f3, f4⟩⟩ := J1.out.cells
    obtain ⟨⟨n0, n1, n2, n3, n4⟩, -⟩ := J2.out.cells
    have hsz : w.heap.size < W7.heap.size ∧ w.heap.size + 1 < W7.heap.size := ⟨J1.out.lt, J2.out.lt⟩
    go_wp2_with fail
    refine bodyPost_ret (v := t.val a cp) (by simp [results, Tryz.results96, go_sem, Nd.val, z0, z1, z2, z3, z4]) rfl ?_
    refine RdP.fin HS7.out G7.out HP.out.1 (Nat.le_refl _) fun t' r' hx => ?_
    obtain ⟨e, hl, hd⟩ := HK5.out t' r' hx
    have hA := A1.out.lt
    have hb0 := P3.out.blocks.1
    have hsz7 : w5.heap.size = W7.heap.size := by rw [HW7.out, HW6.out]; simp [World.setCell, size_put]
    have h3 := hsz3.out
    have k1 : KeepsV (Fr W3.heap.size w5.heap.size) w5 W7 := by
      rw [HW7.out, HW6.out]
      exact ((KeepsV.refl _ w5).put (fun b hb e => by subst e; have := hb.1; omega) _ _ _).set (fun b hb e => by subst e; have := hb.1; omega) _ _
    exact ⟨e, ⟨_, fun c hc => ⟨fun e => by subst e; have := hc.1; omega, by have := hc.1; omega, by have := hc.2; omega⟩, lies_move hl k1 fun b hb => hb⟩, hd⟩
  have HT2 := Lib.hid (isT_len HT1.out.symm)
  have HR := Lib.hid (show X = (rd .expr (nest + 1) (stepL l)).then fun a r => wantT tThen r fun r => (rd .expr (nest + 1) r).then fun b r => wantT tElse r fun r => (rd .expr (nest + 1) r).then fun c r => made (mkN 14 [] 0 [a, b, c] (hd l).pos) r from HX1.out.trans (if_pos HT1.out.symm))
  have C4 := Lib.hid (pstep_s P g cap ts (nest + 1) (.ok l) W3 P3.out he)
  go_wp2_with fail
  (with_reducible refine Calls.mono C4.out ?_)
  rintro e W4 ⟨T, rfl, hs, hg, hT⟩
  have S4 := Lib.hid hg
  have P4 := Lib.hid hs
  clear hs hg C4
  have HT := Lib.hid (hT l rfl)
  clear hT
  have HT0 := Lib.hid (show TkOk T from HT.out ▸ HTK.out _ P3.out.mem)
  obtain ⟨W5, hW5⟩ : ∃ W, W = W4.alloc (.cells #[.int .i64 T.kind, .string ⟨T.text.toArray⟩, .int .i64 T.n, .int .i64 T.pos] 39) := ⟨_, rfl⟩
  have B5 := Lib.hid (show TBox W4.heap.size T W5 from hW5 ▸ TBox.make W4 T)
  have E5 := Lib.hid (show Below W4.heap.size W4 W5 from hW5 ▸ nbelow1 _ _)
  have S5 := Lib.hid (grown_of (r := some P) E5.out)
  have P5 := Lib.hid (P4.out.below E5.out)
  have C6 := Lib.hid (HEx.out (stepL l) (by have := HT2.out; omega) (nest + 1) W5 hn1.out P5.out)
  unfold tkV
  go_wp2_with fail
  rw [← hW5]
  clear hW5
  (with_reducible refine Calls.mono C6.out ?_)
  rintro e W6 ⟨k0, a0, c0, rfl, hs, hg, hk⟩
  have S6 := Lib.hid hg
  have P6 := Lib.hid hs
  clear hs hg C6
  have HK0 := Lib.hid hk
  obtain ⟨x0, hx0⟩ : ∃ x, x = rd .expr (nest + 1) (stepL l) := ⟨_, rfl⟩
  rw [← hx0] at P6 HK0 HR
  have L0 := Lib.hid (show ∀ t r, x0 = .ok (t, r) → r.length < l.length from fun t r h => by rw [hx0] at h; have := rd_len _ _ _ h; have := HT2.out; omega)
  clear hk hx0
  obtain ⟨W7, hW7⟩ : ∃ W, W = W6.alloc (.cells #[.int .i64 k0.kind, .string k0.text, .int .i64 k0.n, .slice a0 k0.kids.length c0, .int .i64 k0.place] 24) := ⟨_, rfl⟩
  have B7 := Lib.hid (show NBox W6.heap.size k0 a0 c0 W7 from hW7 ▸ NBox.make W6 k0 a0 c0)
  have E7 := Lib.hid (show Below W6.heap.size W6 W7 from hW7 ▸ nbelow1 _ _)
  have S7 := Lib.hid (grown_of (r := some P) E7.out)
  have P7 := Lib.hid (P6.out.below E7.out)
  have C8 := Lib.hid (pwant_any P g cap ts (nest + 1) (outX x0) ⟨#[116, 104, 101, 110]⟩ W7 hn1.out P7.out he)
  unfold Nd.val
  go_wp2_with fail
  rw [← hW7]
  clear hW7
  (with_reducible refine Calls.mono C8.out ?_)
  rintro e W8 ⟨rfl, hs, hg⟩
  have S8 := Lib.hid hg
  have P8 := Lib.hid hs
  clear hs hg C8
  obtain ⟨τ0, hτ0⟩ : ∃ σ, σ = wantX tThen (outX x0) := ⟨_, rfl⟩
  replace P8 := Lib.hid (show SP P g cap ts (nest + 1) τ0 W8 from hτ0 ▸ P8.out)
  have R0 := Lib.hid hτ0
  clear hτ0
  have M1 := Lib.hid (show ∀ r, τ0 = .ok r → r.length < l.length from fun r hr => by have h1 := hr; rw [R0.out] at h1; obtain ⟨r1, e1, -, rfl⟩ := want_inv h1; obtain ⟨t, e2⟩ := out_inv e1; have := L0.out t r1 e2; have := stepL_le r1; omega)
  have C9 := Lib.hid (ppart_any P g cap ts (nest + 1) τ0 W8 hn1.out P8.out fun r hr => HEx.out r (M1.out r hr))
  go_wp2_with fail
  (with_reducible refine Calls.mono C9.out ?_)
  rintro e W9 ⟨k1, a1, c1, rfl, hs, hg, hk⟩
  have S9 := Lib.hid hg
  have P9 := Lib.hid hs
  clear hs hg C9
  obtain ⟨x1, hx1⟩ : ∃ x, x = goX τ0 (rd .expr (nest + 1)) := ⟨_, rfl⟩
  rw [← hx1] at P9 hk
  have HK1 := Lib.hid hk
  have X1 := Lib.hid hx1
  have L1 := Lib.hid (show ∀ t r, x1 = .ok (t, r) → r.length < l.length from fun t r h => by rw [hx1] at h; obtain ⟨r0, e, hl⟩ := go_len h; have := M1.out r0 e; omega)
  clear hk hx1
  obtain ⟨W10, hW10⟩ : ∃ W, W = W9.alloc (.cells #[.int .i64 k1.kind, .string k1.text, .int .i64 k1.n, .slice a1 k1.kids.length c1, .int .i64 k1.place] 24) := ⟨_, rfl⟩
  have B10 := Lib.hid (show NBox W9.heap.size k1 a1 c1 W10 from hW10 ▸ NBox.make W9 k1 a1 c1)
  have E10 := Lib.hid (show Below W9.heap.size W9 W10 from hW10 ▸ nbelow1 _ _)
  have S10 := Lib.hid (grown_of (r := some P) E10.out)
  have P10 := Lib.hid (P9.out.below E10.out)
  have C11 := Lib.hid (pwant_any P g cap ts (nest + 1) (outX x1) ⟨#[101, 108, 115, 101]⟩ W10 hn1.out P10.out he)
  unfold Nd.val
  go_wp2_with fail
  rw [← hW10]
  clear hW10
  (with_reducible refine Calls.mono C11.out ?_)
  rintro e W11 ⟨rfl, hs, hg⟩
  have S11 := Lib.hid hg
  have P11 := Lib.hid hs
  clear hs hg C11
  obtain ⟨τ1, hτ1⟩ : ∃ σ, σ = wantX tElse (outX x1) := ⟨_, rfl⟩
  replace P11 := Lib.hid (show SP P g cap ts (nest + 1) τ1 W11 from hτ1 ▸ P11.out)
  have R1 := Lib.hid hτ1
  clear hτ1
  have M2 := Lib.hid (show ∀ r, τ1 = .ok r → r.length < l.length from fun r hr => by have h1 := hr; rw [R1.out] at h1; obtain ⟨r1, e1, -, rfl⟩ := want_inv h1; obtain ⟨t, e2⟩ := out_inv e1; have := L1.out t r1 e2; have := stepL_le r1; omega)
  have C12 := Lib.hid (ppart_any P g cap ts (nest + 1) τ1 W11 hn1.out P11.out fun r hr => HEx.out r (M2.out r hr))
  go_wp2_with fail
  (with_reducible refine Calls.mono C12.out ?_)
  rintro e W12 ⟨k2, a2, c2, rfl, hs, hg, hk⟩
  have S12 := Lib.hid hg
  have P12 := Lib.hid hs
  clear hs hg C12
  obtain ⟨x2, hx2⟩ : ∃ x, x = goX τ1 (rd .expr (nest + 1)) := ⟨_, rfl⟩
  rw [← hx2] at P12 hk
  have HK2 := Lib.hid hk
  have X2 := Lib.hid hx2
  have L2 := Lib.hid (show ∀ t r, x2 = .ok (t, r) → r.length < l.length from fun t r h => by rw [hx2] at h; obtain ⟨r0, e, hl⟩ := go_len h; have := M2.out r0 e; omega)
  clear hk hx2
  obtain ⟨W13, hW13⟩ : ∃ W, W = W12.alloc (.cells #[.int .i64 k2.kind, .string k2.text, .int .i64 k2.n, .slice a2 k2.kids.length c2, .int .i64 k2.place] 24) := ⟨_, rfl⟩
  have B13 := Lib.hid (show NBox W12.heap.size k2 a2 c2 W13 from hW13 ▸ NBox.make W12 k2 a2 c2)
  have E13 := Lib.hid (show Below W12.heap.size W12 W13 from hW13 ▸ nbelow1 _ _)
  have S13 := Lib.hid (grown_of (r := some P) E13.out)
  have P13 := Lib.hid (P12.out.below E13.out)
  unfold Nd.val
  go_upto_region 16 with fail
  rw [← hW13]
  clear hW13
  obtain ⟨m, hm1, hm2, p2, q2, hs⟩ := P13.out.nest
  have hpl := P13.out.blocks.1
  obtain ⟨W14, hW14⟩ : ∃ W, W = W13.setCell ⟨P, 2, none⟩ (.int .i64 (m - 1)) := ⟨_, rfl⟩
  have S14 := Lib.hid (show W13.grownBy W14 (some P) from hW14 ▸ grown_set _ _ _ _)
  have P14 := Lib.hid (show SP P g cap ts nest (outX x2) W14 from hW14 ▸ hs)
  go_upto_region 17 with fail
  rw [← hW14]
  clear hW14 hs p2 q2 hpl hm1 hm2
  obtain ⟨⟨t0, t1, t2, t3⟩, -⟩ := (B5.out.grown (grown_trans (grown_trans (grown_trans (grown_trans (grown_trans (grown_trans (grown_trans (grown_trans S6.out S7.out) S8.out) S9.out) S10.out) S11.out) S12.out) S13.out) S14.out) (Nat.ne_of_gt P4.out.blocks.1)).cells
  obtain ⟨⟨n00, n01, n02, n03, n04⟩, -⟩ := (B7.out.grown (grown_trans (grown_trans (grown_trans (grown_trans (grown_trans (grown_trans S8.out S9.out) S10.out) S11.out) S12.out) S13.out) S14.out) (Nat.ne_of_gt P6.out.blocks.1)).cells
  obtain ⟨⟨n10, n11, n12, n13, n14⟩, -⟩ := (B10.out.grown (grown_trans (grown_trans (grown_trans S11.out S12.out) S13.out) S14.out) (Nat.ne_of_gt P9.out.blocks.1)).cells
  obtain ⟨⟨n20, n21, n22, n23, n24⟩, -⟩ := (B13.out.grown S14.out (Nat.ne_of_gt P12.out.blocks.1)).cells
  obtain ⟨W15, hW15⟩ : ∃ W, W = W14.alloc (.cells #[.int .i64 k0.kind, .string k0.text, .int .i64 k0.n, .slice a0 k0.kids.length c0, .int .i64 k0.place, .int .i64 k1.kind, .string k1.text, .int .i64 k1.n, .slice a1 k1.kids.length c1, .int .i64 k1.place, .int .i64 k2.kind, .string k2.text, .int .i64 k2.n, .slice a2 k2.kids.length c2, .int .i64 k2.place] 24) := ⟨_, rfl⟩
  have E15 := Lib.hid (show Below W14.heap.size W14 W15 from hW15 ▸ nbelow1 _ _)
  have S15 := Lib.hid (grown_of (r := some P) E15.out)
  have P15 := Lib.hid (P14.out.below E15.out)
  have B15 := Lib.hid (show W15.heap[W14.heap.size]? = some (.cells #[.int .i64 k0.kind, .string k0.text, .int .i64 k0.n, .slice a0 k0.kids.length c0, .int .i64 k0.place, .int .i64 k1.kind, .string k1.text, .int .i64 k1.n, .slice a1 k1.kids.length c1, .int .i64 k1.place, .int .i64 k2.kind, .string k2.text, .int .i64 k2.n, .slice a2 k2.kids.length c2, .int .i64 k2.place] 24 (0, 0)) from by rw [hW15]; exact at_new _ rfl)
  have hlt := Lib.hid (show W14.heap.size < W15.heap.size from by rw [hW15]; simp)
  have HD := Lib.hid (show ∀ r, (outX x2) = .ok r → depthN (mkN 14 [] 0 [k0, k1, k2] T.pos) ≤ 101 ∧ (mkN 14 [] 0 [k0, k1, k2] T.pos).lies (Fr W1.heap.size W15.heap.size) W15 (some ⟨W14.heap.size, 0, none⟩) 3 from fun r hr => by
    obtain ⟨v3, y3⟩ := out_inv hr; obtain ⟨-, hl2, hd2⟩ := HK2.out v3 r y3
    rw [X2.out] at y3; obtain ⟨r2, e2, -⟩ := go_inv y3; rw [R1.out] at e2; obtain ⟨s2, f2, -, -⟩ := want_inv e2; obtain ⟨v2, y2⟩ := out_inv f2; obtain ⟨-, hl1, hd1⟩ := HK1.out v2 s2 y2
    rw [X1.out] at y2; obtain ⟨r1, e1, -⟩ := go_inv y2; rw [R0.out] at e1; obtain ⟨s1, f1, -, -⟩ := want_inv e1; obtain ⟨v1, y1⟩ := out_inv f1; obtain ⟨-, hl0, hd0⟩ := HK0.out v1 s1 y1
    have hP1 : P < W1.heap.size := P1.out.blocks.1
    have q0 : W1.heap.size ≤ W5.heap.size := (grown_trans (grown_trans (grown_trans S2.out S3.out) S4.out) S5.out).size
    have q1 : W1.heap.size ≤ W8.heap.size := (grown_trans (grown_trans (grown_trans (grown_trans (grown_trans (grown_trans S2.out S3.out) S4.out) S5.out) S6.out) S7.out) S8.out).size
    have q2 : W1.heap.size ≤ W11.heap.size := (grown_trans (grown_trans (grown_trans (grown_trans (grown_trans (grown_trans (grown_trans (grown_trans (grown_trans S2.out S3.out) S4.out) S5.out) S6.out) S7.out) S8.out) S9.out) S10.out) S11.out).size
    refine ⟨by rw [depth_kid3]; omega, lies_kid3 rfl (by decide) HT0.out.2.1 ⟨(grown_trans (grown_trans (grown_trans (grown_trans (grown_trans (grown_trans (grown_trans (grown_trans (grown_trans (grown_trans (grown_trans (grown_trans S2.out S3.out) S4.out) S5.out) S6.out) S7.out) S8.out) S9.out) S10.out) S11.out) S12.out) S13.out) S14.out).size, hlt.out⟩ B15.out (lies_move hl0 ((KeepsV.refl _ _).grown (grown_trans (grown_trans (grown_trans (grown_trans (grown_trans (grown_trans (grown_trans (grown_trans S7.out S8.out) S9.out) S10.out) S11.out) S12.out) S13.out) S14.out) S15.out) fun b hb => ⟨hb.2, fun e => by subst e; have := hb.1; omega⟩) fun b hb => ⟨Nat.le_trans q0 hb.1, Nat.lt_of_lt_of_le hb.2 (grown_trans (grown_trans (grown_trans (grown_trans (grown_trans (grown_trans (grown_trans (grown_trans S7.out S8.out) S9.out) S10.out) S11.out) S12.out) S13.out) S14.out) S15.out).size⟩) (lies_move hl1 ((KeepsV.refl _ _).grown (grown_trans (grown_trans (grown_trans (grown_trans (grown_trans S10.out S11.out) S12.out) S13.out) S14.out) S15.out) fun b hb => ⟨hb.2, fun e => by subst e; have := hb.1; omega⟩) fun b hb => ⟨Nat.le_trans q1 hb.1, Nat.lt_of_lt_of_le hb.2 (grown_trans (grown_trans (grown_trans (grown_trans (grown_trans S10.out S11.out) S12.out) S13.out) S14.out) S15.out).size⟩) (lies_move hl2 ((KeepsV.refl _ _).grown (grown_trans (grown_trans S13.out S14.out) S15.out) fun b hb => ⟨hb.2, fun e => by subst e; have := hb.1; omega⟩) fun b hb => ⟨Nat.le_trans q2 hb.1, Nat.lt_of_lt_of_le hb.2 (grown_trans (grown_trans S13.out S14.out) S15.out).size⟩)⟩)
  have CM := Lib.hid (pmade_s P g cap ts nest (outX x2) 14 [] 0 [k0, k1, k2] T.pos (some ⟨W14.heap.size, 0, none⟩) 3 3 rfl W15 hn P15.out fun r hr => ⟨(HD.out r hr).1, _, fun b hb => hb.2, (HD.out r hr).2⟩)
  obtain ⟨⟨u0, u1, u2, u3⟩, -⟩ := (B5.out.grown (grown_trans (grown_trans (grown_trans (grown_trans (grown_trans (grown_trans (grown_trans (grown_trans (grown_trans S6.out S7.out) S8.out) S9.out) S10.out) S11.out) S12.out) S13.out) S14.out) S15.out) (Nat.ne_of_gt P4.out.blocks.1)).cells
  subst hW15
  go_wp2_with fail
  (with_reducible refine Calls.mono CM.out ?_)
  rintro e W16 ⟨rfl, hs, hg⟩
  have S16 := Lib.hid hg
  have P16 := Lib.hid hs
  clear hs hg CM t0 t1 t2 t3 u0 u1 u2 u3 n00 n01 n02 n03 n04 n10 n11 n12 n13 n14 n20 n21 n22 n23 n24
  have BR := Lib.hid (B1.out.grown (grown_trans (grown_trans (grown_trans (grown_trans (grown_trans (grown_trans (grown_trans (grown_trans (grown_trans (grown_trans (grown_trans (grown_trans (grown_trans (grown_trans S2.out S3.out) S4.out) S5.out) S6.out) S7.out) S8.out) S9.out) S10.out) S11.out) S12.out) S13.out) S14.out) S15.out) S16.out) HP.out.1.1)
  obtain ⟨⟨z0, z1, z2, z3, z4⟩, ⟨f0, f1, f2, f3, f4⟩⟩ := BR.out.cells
  have hsz : w.heap.size < W16.heap.size := BR.out.lt
  rw [show (mkN 14 [] 0 [k0, k1, k2] T.pos).val (some ⟨W14.heap.size, 0, none⟩) 3 = .agg #[.int .i64 14, .string ⟨List.toArray []⟩, .int .i64 0, .slice (some ⟨W14.heap.size, 0, none⟩) 3 3, .int .i64 T.pos] from rfl]
  go_wp2_with fail
  refine bodyPost_ret (v := (mkN 14 [] 0 [k0, k1, k2] T.pos).val (some ⟨W14.heap.size, 0, none⟩) 3) (by simp [results, Tryz.results96, go_sem, Nd.val, mkN, Nd.kind, Nd.text, Nd.n, Nd.kids, Nd.place, z0, z1, z2, z3, z4]) rfl ?_
  have hX : X = goX (outX x2) (made (mkN 14 [] 0 [k0, k1, k2] T.pos)) := by
    rw [HR.out, HT.out]
    rw [then_go (t := k0) (fun t' r h => (HK0.out t' r h).1), want_go, ← R0.out, go_then, ← X1.out, then_go (t := k1) (fun t' r h => (HK1.out t' r h).1), want_go, ← R1.out, go_then, ← X2.out, then_go (t := k2) (fun t' r h => (HK2.out t' r h).1)]
  have hO : outX X = madeX (mkN 14 [] 0 [k0, k1, k2] T.pos) (outX x2) := by rw [hX, out_made]
  refine RdP.fin (by rw [hO]; exact P16.out) (grown_trans (grown_trans (grown_trans (grown_trans (grown_trans (grown_trans (grown_trans (grown_trans (grown_trans (grown_trans (grown_trans (grown_trans (grown_trans (grown_trans (grown_trans S1.out S2.out) S3.out) S4.out) S5.out) S6.out) S7.out) S8.out) S9.out) S10.out) S11.out) S12.out) S13.out) S14.out) S15.out) S16.out) HP.out.1 (Nat.le_refl _) fun t' r' hx => ?_
  rw [hX] at hx
  obtain ⟨e1, e2, e3⟩ := is_made _ _ hx
  have hP1 : P < W1.heap.size := P1.out.blocks.1
  have hw1 : w.heap.size < W1.heap.size := B1.out.lt
  refine ⟨e1, ⟨_, fun c hc => ⟨fun e => by subst e; have := hc.1; omega, by have := hc.1; omega, Nat.lt_of_lt_of_le hc.2 S16.out.size⟩, lies_move (HD.out r' e2).2 ((KeepsV.refl _ _).grown S16.out fun b hb => ⟨hb.2, fun e => by subst e; have := hb.1; omega⟩) fun b hb => hb⟩, e3⟩

end Go.Proofs.YtcndknkdhlmdnaaGreatDoor
