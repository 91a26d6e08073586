/-
  Texts that the statements' proofs rest on, one behind another: SxO, SxP.
-/
import Derived.Test.YtcndknkdhlmdnaaGreatDoorS16

/-
  The program's parser: an atom that is a feed.
-/
namespace Go.Proofs.YtcndknkdhlmdnaaGreatDoor
open Go.RowKit
set_option maxRecDepth 100000

theorem qtk_text (k n p : Int) (s : ByteArray) (w : World) : (Instr.field 96 (.agg #[.int .i64 k, .string s, .int .i64 n, .int .i64 p]) 1).run Tryz.prog w = .ok (.string s) w := by kernel_rfl
set_option maxHeartbeats 8000000 in
theorem qatom_feed (P g cap : Nat) (ts : List Tk) (he : Ends ts) (htk : ∀ t ∈ ts, TkOk t) (nest : Nat) (l : List Tk) (w : World) (h : SQ P g cap ts nest l w) (hN : (hd l).kind ≠ 6 ∧ (hd l).kind ≠ 5 ∧ (hd l).kind ≠ 4 ∧ (hd l).kind ≠ 1 ∧ (hd l).kind ≠ 3) (hT : isT tTrue l = false) (hF : isT tFalse l = false) (hD : isT tFeed l = true) : Calls Tryz.prog 236 #[.pointer (some ⟨P, 0, none⟩)] w (QP P g cap ts nest (kindT 7 (stepL l) fun s r => .ok (mkN 9 s.text 0 [] (hd l).pos, r)) w) := by
  have HT0 := Lib.hid (htk _ h.mem)
  have HB := Lib.hid h.blocks
  have HE := Lib.hid he
  obtain ⟨a, hl, hp⟩ := h
  have h : SQ P g cap ts nest l w := ⟨a, hl, hp⟩
  have hpos := hp.pos
  have hPlt := hp.plt
  have hg0 := hp.lt
  have D := Lib.hid (show hd l = ts[a]'hpos by rw [hl, hd_drop hpos])
  obtain ⟨⟨p0, p1⟩, -⟩ := hp.cells
  obtain ⟨t0, t1, t2, t3⟩ := hp.tok
  have hL : 0 < ts.length - a := by omega
  generalize ts[a]'hpos = T at t0 t1 t2 t3 D
  generalize ts.length - a = Ln at p0 hL
  generalize cap - a = C at p0
  generalize a * 4 = off at p0 t0 t1 t2 t3
  rw [D.out] at HT0
  obtain ⟨W3, hW3⟩ : ∃ W, W = ((w.alloc (.cells #[.pointer (some ⟨P, 0, none⟩)] 65)).alloc (.cells #[.int .i64 0, .string ⟨#[]⟩, .int .i64 0, .slice none 0 0, .int .i64 0, .int .i64 0] 67)).alloc (.cells #[.int .i64 T.kind, .string ⟨T.text.toArray⟩, .int .i64 T.n, .int .i64 T.pos] 96) := ⟨_, rfl⟩
  have B3 := Lib.hid (show Below w.heap.size w W3 from hW3 ▸ (qbelow2 w _ _).alloc (qbelow2 w _ _).size _)
  have hz3 := Lib.hid (show W3.heap.size = w.heap.size + 3 by rw [hW3]; simp)
  have hpc := Lib.hid (show W3.cell? ⟨w.heap.size, 0, none⟩ = some (.pointer (some ⟨P, 0, none⟩)) by
    rw [hW3]
    exact ((qbelow2 (w.alloc (.cells #[.pointer (some ⟨P, 0, none⟩)] 65)) _ _).cell (p := ⟨w.heap.size, 0, none⟩) (by simp)).trans (by simp))
  have Z3 := Lib.hid (show T6 (w.heap.size + 1) 0 ⟨#[]⟩ 0 none 0 0 0 0 W3 from hW3 ▸ by
    have := T6.make (w.alloc (.cells #[.pointer (some ⟨P, 0, none⟩)] 65)) 0 ⟨#[]⟩ 0 none 0 0 0 0
    rw [World.size_alloc] at this
    exact this.below (nbelow1 _ _))
  have Q3 := Lib.hid (show QT (w.heap.size + 1 + 1) T W3 from hW3 ▸ by
    have := QT.make ((w.alloc (.cells #[.pointer (some ⟨P, 0, none⟩)] 65)).alloc (.cells #[.int .i64 0, .string ⟨#[]⟩, .int .i64 0, .slice none 0 0, .int .i64 0, .int .i64 0] 67)) T
    rw [World.size_alloc, World.size_alloc] at this
    exact this)
  have S3 := Lib.hid (h.below B3.out)
  have G3 := Lib.hid (show w.grownBy W3 (some P) from grown_of B3.out)
  have HC := Lib.hid (show ∀ W : World, W3.grownBy W (some P) → W.cell? ⟨w.heap.size, 0, none⟩ = some (.pointer (some ⟨P, 0, none⟩)) ∧ T6 (w.heap.size + 1) 0 ⟨#[]⟩ 0 none 0 0 0 0 W ∧ QT (w.heap.size + 1 + 1) T W from fun W hg =>
    ⟨(World.cell?_of_block (hg.block w.heap.size (by have := hz3.out; omega) (fun e => by have := Option.some.inj e; omega))).trans hpc.out, Z3.out.grown hg (fun e => by have := Option.some.inj e; omega), Q3.out.grown hg (fun e => by have := Option.some.inj e; omega)⟩)
  have eg : Enters 244 := enters_of Tryz.func244 (by kernel_rfl) rfl
  unfold Enters at eg
  rw [D.out] at hN
  have e6 : (T.kind == 6) = false := beq_eq_false_iff_ne.2 (by omega)
  have e5 : (T.kind == 5) = false := beq_eq_false_iff_ne.2 (by omega)
  have e4 : (T.kind == 4) = false := beq_eq_false_iff_ne.2 (by omega)
  have e1 : (T.kind == 1) = false := beq_eq_false_iff_ne.2 (by omega)
  have e3 : (T.kind == 3) = false := beq_eq_false_iff_ne.2 (by omega)
  clear hN
  obtain ⟨X, hX⟩ : ∃ X, X = (kindT 7 (stepL l) fun s r => .ok (mkN 9 s.text 0 [] (hd l).pos, r) : Rd) := ⟨_, rfl⟩
  rw [← hX]
  rw [D.out] at hX
  have HTK := Lib.hid htk
  rw [show (kindT 7 (stepL l) fun s r => .ok (mkN 9 s.text 0 [] T.pos, r) : Rd) = goX (kindX 7 (.ok (stepL l))) (fun r => .ok (mkN 9 (hd (stepL l)).text 0 [] T.pos, r)) from kind_go (.ok (stepL l)) 7 (fun s r => .ok (mkN 9 s.text 0 [] T.pos, r)) (hd (stepL l)) (fun r h => by cases h; rfl)] at hX
  clear hp h he htk hl hpos
  go_enter Tryz.func236, Tryz.ntmps236
  go_upto_region 2 with fail
  rw [← hW3]
  clear hW3 t0 t1 t2 t3 p0 p1 hL
  obtain ⟨⟨t0, t1, t2, t3⟩, -⟩ := Q3.out.cells
  have htl := Q3.out.lt
  have hp3 := hpc.out
  have C4 := Lib.hid (show Calls Tryz.prog 82 #[.pointer (some ⟨P, 0, none⟩), .string ⟨#[116, 114, 117, 101]⟩] W3 (fun e w' => e = .returned (.bool false) ∧ Below W3.heap.size W3 w') by
    have := qis_s P g cap ts nest l ⟨#[116, 114, 117, 101]⟩ W3 S3.out
    rwa [show isT (⟨#[116, 114, 117, 101]⟩ : ByteArray).data.toList l = false from hT] at this)
  go_wp2_with fail
  (with_reducible refine Calls.mono C4.out ?_)
  rintro e w4 ⟨rfl, hb⟩
  have GW4 := Lib.hid (show W3.grownBy w4 (some P) from grown_of hb)
  have S4 := Lib.hid (S3.out.below hb)
  clear hb C4 hp3 t0 t1 t2 t3 htl
  have hp4 := (HC.out w4 GW4.out).1
  obtain ⟨⟨t0, t1, t2, t3⟩, -⟩ := (HC.out w4 GW4.out).2.2.cells
  have htl := (HC.out w4 GW4.out).2.2.lt
  have C5 := Lib.hid (show Calls Tryz.prog 82 #[.pointer (some ⟨P, 0, none⟩), .string ⟨#[102, 97, 108, 115, 101]⟩] w4 (fun e w' => e = .returned (.bool false) ∧ Below w4.heap.size w4 w') by
    have := qis_s P g cap ts nest l ⟨#[102, 97, 108, 115, 101]⟩ w4 S4.out
    rwa [show isT (⟨#[102, 97, 108, 115, 101]⟩ : ByteArray).data.toList l = false from hF] at this)
  go_wp2_with fail
  (with_reducible refine Calls.mono C5.out ?_)
  rintro e w5 ⟨rfl, hb⟩
  have GW5 := Lib.hid (show W3.grownBy w5 (some P) from grown_trans GW4.out (grown_of hb))
  have S5 := Lib.hid (S4.out.below hb)
  clear hb C5 hp4 t0 t1 t2 t3 htl
  have hp5 := (HC.out w5 GW5.out).1
  obtain ⟨⟨t0, t1, t2, t3⟩, -⟩ := (HC.out w5 GW5.out).2.2.cells
  have htl := (HC.out w5 GW5.out).2.2.lt
  have C6 := Lib.hid (show Calls Tryz.prog 122 #[.pointer (some ⟨P, 0, none⟩), .string ⟨#[102, 101, 101, 100]⟩] w5 (fun e w' => e = .returned (.bool true) ∧ SQ P g cap ts nest (stepL l) w' ∧ w5.grownBy w' (some P)) by
    have := qtake_any P g cap ts nest l ⟨#[102, 101, 101, 100]⟩ w5 S5.out HE.out
    rw [show isT (⟨#[102, 101, 101, 100]⟩ : ByteArray).data.toList l = true from hD] at this
    simpa using this)
  go_wp2_with fail
  (with_reducible refine Calls.mono C6.out ?_)
  rintro e w6 ⟨rfl, hs, hg⟩
  have GW6 := Lib.hid (show W3.grownBy w6 (some P) from grown_trans GW5.out hg)
  have S6 := Lib.hid hs
  clear hs hg C6 hp5 t0 t1 t2 t3 htl
  have hp6 := (HC.out w6 GW6.out).1
  obtain ⟨⟨t0, t1, t2, t3⟩, -⟩ := (HC.out w6 GW6.out).2.2.cells
  have htl := (HC.out w6 GW6.out).2.2.lt
  obtain ⟨T2, hT2⟩ : ∃ T2, T2 = hd (stepL l) := ⟨_, rfl⟩
  have BD := Lib.hid (show Below w6.heap.size w6 w6.drew from bdrew (Below.refl _ _))
  have GD := Lib.hid (show W3.grownBy w6.drew (some P) from grown_trans GW6.out (grown_of BD.out))
  have CK := Lib.hid (show Calls Tryz.prog 93 #[.pointer (some ⟨P, 0, none⟩), .int .i64 7] w6.drew (TkQ P g cap ts nest T2 (kindX 7 (.ok (stepL l))) w6.drew) by
    rw [hT2]
    exact qkind_any P g cap ts nest (stepL l) 7 w6.drew (S6.out.below BD.out) HE.out)
  have HT2 := Lib.hid (show TkOk T2 by rw [hT2]; exact HTK.out _ S6.out.mem)
  rw [← hT2] at hX
  have HX := Lib.hid hX
  have hfd := qtk_text T2.kind T2.n T2.pos ⟨T2.text.toArray⟩
  clear hT2 hX
  generalize kindX 7 (.ok (stepL l)) = σ at CK HX
  go_upto_region 18 with fail
  refine wp_region_till (S := (fun cur => cur.cell? ⟨w.heap.size, 0, none⟩ = some (.pointer (some ⟨P, 0, none⟩)) ∧ (cur.cell? ⟨w.heap.size + 1 + 1, 0, none⟩ = some (.int .i64 T.kind) ∧ cur.cell? ⟨w.heap.size + 1 + 1, 1, none⟩ = some (.string ⟨T.text.toArray⟩) ∧ cur.cell? ⟨w.heap.size + 1 + 1, 2, none⟩ = some (.int .i64 T.n) ∧ cur.cell? ⟨w.heap.size + 1 + 1, 3, none⟩ = some (.int .i64 T.pos)))) (z := 8) (by kernel_rfl) ?_ (fun hHeld => ?_)
  · exact ⟨(HC.out w6.drew GD.out).1, (HC.out w6.drew GD.out).2.2.cells.1⟩
  refine AnyTill.take (i := 0) (v := ?_) (op_at rfl) (by kernel_rfl) (by kernel_rfl) (by kernel_rfl) (by kernel_rfl) (fun _ _ _ h => h) (Or.inl ⟨by rfl, ?_⟩) (by assumption) ?_
  rotate_left
  · (intro w hSw; (try dsimp only at hSw); go_simp; try with_reducible rfl)
  try simp only [Act.put, List.setIfInBounds_toArray, List.set_cons_zero, List.set_cons_succ]
  refine AnyTill.take (i := 1) (v := ?_) (op_at rfl) (by kernel_rfl) (by kernel_rfl) (by kernel_rfl) (by kernel_rfl) (fun _ _ _ h => h) (Or.inl ⟨by rfl, ?_⟩) (by assumption) ?_
  rotate_left
  · (intro w hSw; (try dsimp only at hSw); go_simp; try with_reducible rfl)
  try simp only [Act.put, List.setIfInBounds_toArray, List.set_cons_zero, List.set_cons_succ]
  refine AnyTill.take (i := 4) (v := ?_) (op_at rfl) (by kernel_rfl) (by kernel_rfl) (by kernel_rfl) (by kernel_rfl) (fun _ _ _ h => h) (Or.inl ⟨by rfl, ?_⟩) (by assumption) ?_
  rotate_left
  · (intro w hSw; (try dsimp only at hSw); go_simp; try with_reducible rfl)
  try simp only [Act.put, List.setIfInBounds_toArray, List.set_cons_zero, List.set_cons_succ]
  refine AnyTill.take (i := 5) (v := ?_) (op_at rfl) (by kernel_rfl) (by kernel_rfl) (by kernel_rfl) (by kernel_rfl) (fun _ _ _ h => h) (Or.inl ⟨by rfl, ?_⟩) (by assumption) ?_
  rotate_left
  · (intro w hSw; (try dsimp only at hSw); go_simp; try with_reducible rfl)
  try simp only [Act.put, List.setIfInBounds_toArray, List.set_cons_zero, List.set_cons_succ]
  refine AnyTill.next (i := 2) (by kernel_rfl) (op_at rfl) (by decide) (fun K hK => ?_)
  go_simp
  (with_reducible refine Calls.mono CK.out ?_)
  intro e w9 hq
  cases σ with
  | error q =>
    obtain ⟨k0, p0⟩ := q
    obtain ⟨rfl, hg⟩ := hq
    refine And.intro rfl ?_
    rw [HX.out]
    exact ⟨rfl, grown_trans G3.out (grown_trans GD.out hg)⟩
  | ok q =>
  obtain ⟨rfl, hs, hg⟩ := hq
  have S9 := Lib.hid hs
  have GW9 := Lib.hid (show W3.grownBy w9 (some P) from grown_trans GD.out hg)
  have HX2 := Lib.hid (show X = .ok (mkN 9 T2.text 0 [] T.pos, q) by rw [HX.out]; rfl)
  clear hs hg CK
  unfold tkV
  go_wp2_with fail
  refine hK.out _ _ ?_ (fun hHeld => ?_)
  · exact ⟨(HC.out w9 GW9.out).1, (HC.out w9 GW9.out).2.2.cells.1⟩
  clear hK K
  try simp only [Act.put, List.setIfInBounds_toArray, List.set_cons_zero, List.set_cons_succ]
  refine AnyTill.take (i := 3) (v := ?_) (op_at rfl) (by kernel_rfl) (by kernel_rfl) (by kernel_rfl) (by kernel_rfl) (fun _ _ _ h => h) (Or.inl ⟨by rfl, ?_⟩) (by assumption) ?_
  rotate_left
  · (intro w hSw; (try dsimp only at hSw); go_simp; try with_reducible rfl)
  try simp only [Act.put, List.setIfInBounds_toArray, List.set_cons_zero, List.set_cons_succ]
  refine AnyTill.take (i := 6) (v := ?_) (op_at rfl) (by kernel_rfl) (by kernel_rfl) (by kernel_rfl) (by kernel_rfl) (fun _ _ _ h => h) (Or.inl ⟨by rfl, ?_⟩) (by assumption) ?_
  rotate_left
  · (intro w hSw; (try dsimp only at hSw); go_simp; try with_reducible rfl)
  try simp only [Act.put, List.setIfInBounds_toArray, List.set_cons_zero, List.set_cons_succ]
  have C5 := Lib.hid (show Calls Tryz.prog 86 #[.pointer (some ⟨P, 0, none⟩), .agg #[.int .i64 9, .string ⟨T2.text.toArray⟩, .int .i64 0, .slice none 0 0, .int .i64 T.pos], .slice none 0 0] w9 (MadeQ 9 T2.text 0 T.pos [] w9) from
    qmade_any P 9 T2.text 0 T.pos none 0 [] w9 (by decide) (fun h => absurd rfl h) (fun e he => (by cases he)))
  refine AnyTill.next (i := 7) (by kernel_rfl) (op_at rfl) (by decide) (fun K hK => ?_)
  go_simp
  (with_reducible refine Calls.mono C5.out ?_)
  intro e wy hm
  have HMR := Lib.hid (show MadeR (made (mkN 9 T2.text 0 [] T.pos) q) (fun _ => False) w9 e wy from hm.use rfl (by have := HT2.out.2.2; omega) rfl HT0.out.2.1 (fun c hc => hc.elim) (fun e he => (by cases he)) q)
  have hmd : made (mkN 9 T2.text 0 [] T.pos) q = .ok (mkN 9 T2.text 0 [] T.pos, q) := made_ok (by unfold mkN; rw [depthN, depthKs]; decide)
  rw [hmd] at HMR
  clear hm C5
  obtain ⟨hb8, a4, c4, rfl, hl3, hd3⟩ := HMR.out
  have By := Lib.hid hb8
  have HL4 := Lib.hid hl3
  have HD4 := Lib.hid hd3
  have GWy := Lib.hid (show W3.grownBy wy (some P) from grown_trans GW9.out (grown_of hb8))
  have Zy := Lib.hid (HC.out wy GWy.out).2.1
  obtain ⟨t4, ht4⟩ : ∃ t, t = mkN 9 T2.text 0 [] T.pos := ⟨_, rfl⟩
  rw [← ht4] at HL4 HD4 ⊢
  have HT4 := Lib.hid ht4
  clear hmd hl3 hd3 hb8 HMR ht4
  unfold trV
  go_wp2_with fail
  refine hK.out _ _ ?_ (fun hHeld => ?_)
  · exact ⟨(HC.out wy GWy.out).1, (HC.out wy GWy.out).2.2.cells.1⟩
  clear hK K
  try simp only [Act.put, List.setIfInBounds_toArray, List.set_cons_zero, List.set_cons_succ]
  obtain ⟨⟨z0, z1, z2, z3, z4, z5⟩, ⟨f0, f1, f2, f3, f4, f5⟩⟩ := Zy.out.cells
  have hzl := Zy.out.lt
  refine AnyTill.last (z := 8) (by kernel_rfl) (op_at rfl) (by kernel_rfl) (fun K hK => ?_)
  go_simp
  refine hK.out _ _ ?_
  clear hK K
  go_wp2_with fail
  refine bodyPost_ret (v := trV t4 a4 c4) (by simp [results, Tryz.results236, go_sem, trV, z0, z1, z2, z3, z4, z5]) rfl ?_
  rw [HX2.out, ← HT4.out]
  have hb := HB.out
  have h4 := (HC.out w9 GW9.out).2.1.lt
  exact QP.fin (S9.out.below By.out) (grown_trans G3.out GWy.out) (by omega) (by omega) HL4.out (fun c hc => by
    rcases hc with hc | hc
    · exact hc.elim
    · have := hc.1; have := hc.2; omega) HD4.out
end Go.Proofs.YtcndknkdhlmdnaaGreatDoor

/-
  The program's parser: an atom that is a pick.
-/
namespace Go.Proofs.YtcndknkdhlmdnaaGreatDoor
open Go.RowKit
set_option maxRecDepth 100000

theorem put5_grown {b : Nat} (W : World) (t : Nd) (a : Option Addr) (cp : Nat) : W.grownBy (put5 W b t a cp) (some b) :=
  grown_trans (grown_trans (grown_trans (grown_trans (grown_set W b 0 _) (grown_set _ b 1 _)) (grown_set _ b 2 _)) (grown_set _ b 3 _)) (grown_set _ b 4 _)
set_option maxHeartbeats 8000000 in
theorem qatom_pick (P g cap : Nat) (ts : List Tk) (he : Ends ts) (htk : ∀ t ∈ ts, TkOk t) (nest : Nat) (l : List Tk) (w : World) (h : SQ P g cap ts nest l w) (hN : (hd l).kind ≠ 6 ∧ (hd l).kind ≠ 5 ∧ (hd l).kind ≠ 4 ∧ (hd l).kind ≠ 1 ∧ (hd l).kind ≠ 3) (hT : isT tTrue l = false) (hF : isT tFalse l = false) (hD : isT tFeed l = false) (hn : nest ≤ 300) (hK : isT tPick l = true) (hE : ∀ r, r.length < l.length → CQ 55 .expr P g cap ts r) : Calls Tryz.prog 236 #[.pointer (some ⟨P, 0, none⟩)] w (QP P g cap ts nest (kindT 7 (stepL l) fun s r => wantT tOpen r fun r => (rd .expr nest r).then fun a r => wantT tComma r fun r => (rd .expr nest r).then fun b r => wantT tComma r fun r => (rd .expr nest r).then fun c r => wantT tShut r fun r => made (mkN 15 s.text 0 [a, b, c] (hd l).pos) r) w) := by
  have HT0 := Lib.hid (htk _ h.mem)
  have HB := Lib.hid h.blocks
  have HE := Lib.hid he
  obtain ⟨a, hl, hp⟩ := h
  have h : SQ P g cap ts nest l w := ⟨a, hl, hp⟩
  have hpos := hp.pos
  have hPlt := hp.plt
  have hg0 := hp.lt
  have D := Lib.hid (show hd l = ts[a]'hpos by rw [hl, hd_drop hpos])
  obtain ⟨⟨p0, p1⟩, -⟩ := hp.cells
  obtain ⟨t0, t1, t2, t3⟩ := hp.tok
  have hL : 0 < ts.length - a := by omega
  generalize ts[a]'hpos = T at t0 t1 t2 t3 D
  generalize ts.length - a = Ln at p0 hL
  generalize cap - a = C at p0
  generalize a * 4 = off at p0 t0 t1 t2 t3
  rw [D.out] at HT0
  obtain ⟨W3, hW3⟩ : ∃ W, W = ((w.alloc (.cells #[.pointer (some ⟨P, 0, none⟩)] 65)).alloc (.cells #[.int .i64 0, .string ⟨#[]⟩, .int .i64 0, .slice none 0 0, .int .i64 0, .int .i64 0] 67)).alloc (.cells #[.int .i64 T.kind, .string ⟨T.text.toArray⟩, .int .i64 T.n, .int .i64 T.pos] 96) := ⟨_, rfl⟩
  have B3 := Lib.hid (show Below w.heap.size w W3 from hW3 ▸ (qbelow2 w _ _).alloc (qbelow2 w _ _).size _)
  have hz3 := Lib.hid (show W3.heap.size = w.heap.size + 3 by rw [hW3]; simp)
  have hpc := Lib.hid (show W3.cell? ⟨w.heap.size, 0, none⟩ = some (.pointer (some ⟨P, 0, none⟩)) by
    rw [hW3]
    exact ((qbelow2 (w.alloc (.cells #[.pointer (some ⟨P, 0, none⟩)] 65)) _ _).cell (p := ⟨w.heap.size, 0, none⟩) (by simp)).trans (by simp))
  have Z3 := Lib.hid (show T6 (w.heap.size + 1) 0 ⟨#[]⟩ 0 none 0 0 0 0 W3 from hW3 ▸ by
    have := T6.make (w.alloc (.cells #[.pointer (some ⟨P, 0, none⟩)] 65)) 0 ⟨#[]⟩ 0 none 0 0 0 0
    rw [World.size_alloc] at this
    exact this.below (nbelow1 _ _))
  have Q3 := Lib.hid (show QT (w.heap.size + 1 + 1) T W3 from hW3 ▸ by
    have := QT.make ((w.alloc (.cells #[.pointer (some ⟨P, 0, none⟩)] 65)).alloc (.cells #[.int .i64 0, .string ⟨#[]⟩, .int .i64 0, .slice none 0 0, .int .i64 0, .int .i64 0] 67)) T
    rw [World.size_alloc, World.size_alloc] at this
    exact this)
  have S3 := Lib.hid (h.below B3.out)
  have G3 := Lib.hid (show w.grownBy W3 (some P) from grown_of B3.out)
  have HC := Lib.hid (show ∀ W : World, W3.grownBy W (some P) → W.cell? ⟨w.heap.size, 0, none⟩ = some (.pointer (some ⟨P, 0, none⟩)) ∧ T6 (w.heap.size + 1) 0 ⟨#[]⟩ 0 none 0 0 0 0 W ∧ QT (w.heap.size + 1 + 1) T W from fun W hg =>
    ⟨(World.cell?_of_block (hg.block w.heap.size (by have := hz3.out; omega) (fun e => by have := Option.some.inj e; omega))).trans hpc.out, Z3.out.grown hg (fun e => by have := Option.some.inj e; omega), Q3.out.grown hg (fun e => by have := Option.some.inj e; omega)⟩)
  have eg : Enters 244 := enters_of Tryz.func244 (by kernel_rfl) rfl
  unfold Enters at eg
  rw [D.out] at hN
  have e6 : (T.kind == 6) = false := beq_eq_false_iff_ne.2 (by omega)
  have e5 : (T.kind == 5) = false := beq_eq_false_iff_ne.2 (by omega)
  have e4 : (T.kind == 4) = false := beq_eq_false_iff_ne.2 (by omega)
  have e1 : (T.kind == 1) = false := beq_eq_false_iff_ne.2 (by omega)
  have e3 : (T.kind == 3) = false := beq_eq_false_iff_ne.2 (by omega)
  clear hN
  obtain ⟨X, hX⟩ : ∃ X, X = (kindT 7 (stepL l) fun s r => wantT tOpen r fun r => (rd .expr nest r).then fun a r => wantT tComma r fun r => (rd .expr nest r).then fun b r => wantT tComma r fun r => (rd .expr nest r).then fun c r => wantT tShut r fun r => made (mkN 15 s.text 0 [a, b, c] (hd l).pos) r : Rd) := ⟨_, rfl⟩
  rw [← hX]
  rw [D.out] at hX
  have HTK := Lib.hid htk
  have HEx := Lib.hid hE
  clear hE
  rw [show (kindT 7 (stepL l) fun s r => wantT tOpen r fun r => (rd .expr nest r).then fun a r => wantT tComma r fun r => (rd .expr nest r).then fun b r => wantT tComma r fun r => (rd .expr nest r).then fun c r => wantT tShut r fun r => made (mkN 15 s.text 0 [a, b, c] T.pos) r : Rd) = goX (kindX 7 (.ok (stepL l))) (fun r => wantT tOpen r fun r => (rd .expr nest r).then fun a r => wantT tComma r fun r => (rd .expr nest r).then fun b r => wantT tComma r fun r => (rd .expr nest r).then fun c r => wantT tShut r fun r => made (mkN 15 (hd (stepL l)).text 0 [a, b, c] T.pos) r) from kind_go (.ok (stepL l)) 7 (fun s => fun r => wantT tOpen r fun r => (rd .expr nest r).then fun a r => wantT tComma r fun r => (rd .expr nest r).then fun b r => wantT tComma r fun r => (rd .expr nest r).then fun c r => wantT tShut r fun r => made (mkN 15 s.text 0 [a, b, c] T.pos) r) (hd (stepL l)) (fun r h => by cases h; rfl)] at hX
  clear hp h he htk hl hpos
  go_enter Tryz.func236, Tryz.ntmps236
  go_upto_region 2 with fail
  rw [← hW3]
  clear hW3 t0 t1 t2 t3 p0 p1 hL
  obtain ⟨⟨t0, t1, t2, t3⟩, -⟩ := Q3.out.cells
  have htl := Q3.out.lt
  have hp3 := hpc.out
  have C4 := Lib.hid (show Calls Tryz.prog 82 #[.pointer (some ⟨P, 0, none⟩), .string ⟨#[116, 114, 117, 101]⟩] W3 (fun e w' => e = .returned (.bool false) ∧ Below W3.heap.size W3 w') by
    have := qis_s P g cap ts nest l ⟨#[116, 114, 117, 101]⟩ W3 S3.out
    rwa [show isT (⟨#[116, 114, 117, 101]⟩ : ByteArray).data.toList l = false from hT] at this)
  go_wp2_with fail
  (with_reducible refine Calls.mono C4.out ?_)
  rintro e w4 ⟨rfl, hb⟩
  have GW4 := Lib.hid (show W3.grownBy w4 (some P) from grown_of hb)
  have S4 := Lib.hid (S3.out.below hb)
  clear hb C4 hp3 t0 t1 t2 t3 htl
  have hp4 := (HC.out w4 GW4.out).1
  obtain ⟨⟨t0, t1, t2, t3⟩, -⟩ := (HC.out w4 GW4.out).2.2.cells
  have htl := (HC.out w4 GW4.out).2.2.lt
  have C5 := Lib.hid (show Calls Tryz.prog 82 #[.pointer (some ⟨P, 0, none⟩), .string ⟨#[102, 97, 108, 115, 101]⟩] w4 (fun e w' => e = .returned (.bool false) ∧ Below w4.heap.size w4 w') by
    have := qis_s P g cap ts nest l ⟨#[102, 97, 108, 115, 101]⟩ w4 S4.out
    rwa [show isT (⟨#[102, 97, 108, 115, 101]⟩ : ByteArray).data.toList l = false from hF] at this)
  go_wp2_with fail
  (with_reducible refine Calls.mono C5.out ?_)
  rintro e w5 ⟨rfl, hb⟩
  have GW5 := Lib.hid (show W3.grownBy w5 (some P) from grown_trans GW4.out (grown_of hb))
  have S5 := Lib.hid (S4.out.below hb)
  clear hb C5 hp4 t0 t1 t2 t3 htl
  have hp5 := (HC.out w5 GW5.out).1
  obtain ⟨⟨t0, t1, t2, t3⟩, -⟩ := (HC.out w5 GW5.out).2.2.cells
  have htl := (HC.out w5 GW5.out).2.2.lt
  have C6 := Lib.hid (show Calls Tryz.prog 122 #[.pointer (some ⟨P, 0, none⟩), .string ⟨#[102, 101, 101, 100]⟩] w5 (fun e w' => e = .returned (.bool false) ∧ SQ P g cap ts nest (l) w' ∧ w5.grownBy w' (some P)) by
    have := qtake_any P g cap ts nest l ⟨#[102, 101, 101, 100]⟩ w5 S5.out HE.out
    rw [show isT (⟨#[102, 101, 101, 100]⟩ : ByteArray).data.toList l = false from hD] at this
    simpa using this)
  go_wp2_with fail
  (with_reducible refine Calls.mono C6.out ?_)
  rintro e w6 ⟨rfl, hs, hg⟩
  have GW6 := Lib.hid (show W3.grownBy w6 (some P) from grown_trans GW5.out hg)
  have S6 := Lib.hid hs
  clear hs hg C6 hp5 t0 t1 t2 t3 htl
  have hp6 := (HC.out w6 GW6.out).1
  obtain ⟨⟨t0, t1, t2, t3⟩, -⟩ := (HC.out w6 GW6.out).2.2.cells
  have htl := (HC.out w6 GW6.out).2.2.lt
  have C7 := Lib.hid (show Calls Tryz.prog 122 #[.pointer (some ⟨P, 0, none⟩), .string ⟨#[112, 105, 99, 107]⟩] w6 (fun e w' => e = .returned (.bool true) ∧ SQ P g cap ts nest (stepL l) w' ∧ w6.grownBy w' (some P)) by
    have := qtake_any P g cap ts nest l ⟨#[112, 105, 99, 107]⟩ w6 S6.out HE.out
    rw [show isT (⟨#[112, 105, 99, 107]⟩ : ByteArray).data.toList l = true from hK] at this
    simpa using this)
  go_wp2_with fail
  (with_reducible refine Calls.mono C7.out ?_)
  rintro e w7 ⟨rfl, hs, hg⟩
  have GW7 := Lib.hid (show W3.grownBy w7 (some P) from grown_trans GW6.out hg)
  have S7 := Lib.hid hs
  clear hs hg C7 hp6 t0 t1 t2 t3 htl
  have hp7 := (HC.out w7 GW7.out).1
  obtain ⟨⟨t0, t1, t2, t3⟩, -⟩ := (HC.out w7 GW7.out).2.2.cells
  have htl := (HC.out w7 GW7.out).2.2.lt
  obtain ⟨T2, hT2⟩ : ∃ T2, T2 = hd (stepL l) := ⟨_, rfl⟩
  have BD := Lib.hid (show Below w7.heap.size w7 w7.drew from bdrew (Below.refl _ _))
  have GD := Lib.hid (show W3.grownBy w7.drew (some P) from grown_trans GW7.out (grown_of BD.out))
  have SD := Lib.hid (S7.out.below BD.out)
  have CK := Lib.hid (show ∀ W, SQ P g cap ts nest (stepL l) W → Calls Tryz.prog 93 #[.pointer (some ⟨P, 0, none⟩), .int .i64 7] W (TkQ P g cap ts nest T2 (kindX 7 (.ok (stepL l))) W) from fun W hs => by
    rw [hT2]
    exact qkind_any P g cap ts nest (stepL l) 7 W hs HE.out)
  have HT2 := Lib.hid (show TkOk T2 by rw [hT2]; exact HTK.out _ S7.out.mem)
  rw [← hT2] at hX
  have HX := Lib.hid hX
  have HLK := Lib.hid (show ∀ r, kindX 7 (.ok (stepL l)) = .ok r → r.length + 1 = (stepL l).length from fun r h => by
    obtain ⟨r', h1, h2, rfl⟩ := kind_inv h
    cases h1
    exact step_len h2 (by decide))
  have hfd := qtk_text T2.kind T2.n T2.pos ⟨T2.text.toArray⟩
  have h73 := Lib.hid GW7.out.size
  clear hT2 hX
  generalize kindX 7 (.ok (stepL l)) = σ at CK HX HLK
  go_upto_region 20 with fail
  go_cut [5] from 71 (fun s5 wx => ∃ (r : List Tk) (nb : Nat), s5 = .pointer (some ⟨nb, 0, none⟩) ∧ Hid (σ = .ok r ∧ SQ P g cap ts nest r wx ∧ W3.grownBy wx (some P) ∧ W3.heap.size ≤ nb ∧ NBox nb (.mk 15 ⟨T2.text.toArray⟩ 0 [] T.pos) none 0 wx))
  case first =>
    refine wp_region_till (S := (fun cur => cur.cell? ⟨w.heap.size, 0, none⟩ = some (.pointer (some ⟨P, 0, none⟩)) ∧ (cur.cell? ⟨w.heap.size + 1 + 1, 0, none⟩ = some (.int .i64 T.kind) ∧ cur.cell? ⟨w.heap.size + 1 + 1, 1, none⟩ = some (.string ⟨T.text.toArray⟩) ∧ cur.cell? ⟨w.heap.size + 1 + 1, 2, none⟩ = some (.int .i64 T.n) ∧ cur.cell? ⟨w.heap.size + 1 + 1, 3, none⟩ = some (.int .i64 T.pos)))) (z := 7) (by kernel_rfl) ?_ (fun hHeld => ?_)
    · exact ⟨(HC.out w7.drew GD.out).1, (HC.out w7.drew GD.out).2.2.cells.1⟩
    refine AnyTill.take (i := 0) (v := ?_) (op_at rfl) (by kernel_rfl) (by kernel_rfl) (by kernel_rfl) (by kernel_rfl) (fun _ _ _ h => h) (Or.inl ⟨by rfl, ?_⟩) (by assumption) ?_
    rotate_left
    · (intro w hSw; (try dsimp only at hSw); go_simp; try with_reducible rfl)
    try simp only [Act.put, List.setIfInBounds_toArray, List.set_cons_zero, List.set_cons_succ]
    refine AnyTill.take (i := 3) (v := ?_) (op_at rfl) (by kernel_rfl) (by kernel_rfl) (by kernel_rfl) (by kernel_rfl) (fun _ _ _ h => h) (Or.inl ⟨by rfl, ?_⟩) (by assumption) ?_
    rotate_left
    · (intro w hSw; (try dsimp only at hSw); go_simp; try with_reducible rfl)
    try simp only [Act.put, List.setIfInBounds_toArray, List.set_cons_zero, List.set_cons_succ]
    refine AnyTill.take (i := 4) (v := ?_) (op_at rfl) (by kernel_rfl) (by kernel_rfl) (by kernel_rfl) (by kernel_rfl) (fun _ _ _ h => h) (Or.inl ⟨by rfl, ?_⟩) (by assumption) ?_
    rotate_left
    · (intro w hSw; (try dsimp only at hSw); go_simp; try with_reducible rfl)
    try simp only [Act.put, List.setIfInBounds_toArray, List.set_cons_zero, List.set_cons_succ]
    refine AnyTill.two (i := 1) (j := 6) (by kernel_rfl) (op_at rfl) (op_at rfl) (by decide) (by decide) (fun K hK => ?_) (fun K hK => ?_)
    · go_simp
      (with_reducible refine Calls.mono (CK.out w7.drew SD.out) ?_)
      intro e w9 hq
      cases σ with
      | error q =>
        obtain ⟨k0, p0⟩ := q
        obtain ⟨rfl, hg⟩ := hq
        refine And.intro rfl ?_
        rw [HX.out]
        exact ⟨rfl, grown_trans G3.out (grown_trans GD.out hg)⟩
      | ok q =>
      obtain ⟨rfl, hs, hg⟩ := hq
      have S9 := Lib.hid hs
      have GW9 := Lib.hid (show W3.grownBy w9 (some P) from grown_trans GD.out hg)
      clear hs hg
      unfold tkV
      go_wp2_with fail
      refine hK.out _ _ ?_ (fun hHeld => ?_)
      · exact ⟨(HC.out w9 GW9.out).1, (HC.out w9 GW9.out).2.2.cells.1⟩
      clear hK K
      try simp only [Act.put, List.setIfInBounds_toArray, List.set_cons_zero, List.set_cons_succ]
      refine AnyTill.take (i := 2) (v := ?_) (op_at rfl) (by kernel_rfl) (by kernel_rfl) (by kernel_rfl) (by kernel_rfl) (fun _ _ _ h => h) (Or.inl ⟨by rfl, ?_⟩) (by assumption) ?_
      rotate_left
      · (intro w hSw; (try dsimp only at hSw); go_simp; try with_reducible rfl)
      try simp only [Act.put, List.setIfInBounds_toArray, List.set_cons_zero, List.set_cons_succ]
      refine AnyTill.take (i := 5) (v := ?_) (op_at rfl) (by kernel_rfl) (by kernel_rfl) (by kernel_rfl) (by kernel_rfl) (fun _ _ _ h => h) (Or.inl ⟨by rfl, ?_⟩) (by assumption) ?_
      rotate_left
      · (intro w hSw; (try dsimp only at hSw); go_simp; try with_reducible rfl)
      try simp only [Act.put, List.setIfInBounds_toArray, List.set_cons_zero, List.set_cons_succ]
      refine AnyTill.next (i := 6) (by kernel_rfl) (op_at rfl) (by decide) (fun K hK => ?_)
      go_simp
      obtain ⟨Wn, hWn⟩ : ∃ W, W = w9.alloc (.cells #[.int .i64 0, .string ⟨#[]⟩, .int .i64 0, .slice none 0 0, .int .i64 0] 24) := ⟨_, rfl⟩
      have Bn := Lib.hid (show Below w9.heap.size w9 Wn from hWn ▸ nbelow1 _ _)
      have NZ := Lib.hid (show NBox w9.heap.size nd0 none 0 Wn from hWn ▸ NBox.make w9 nd0 none 0)
      have GWn := Lib.hid (show W3.grownBy Wn (some P) from grown_trans GW9.out (grown_of Bn.out))
      have Sn := Lib.hid (S9.out.below Bn.out)
      have hnb := Lib.hid (show W3.heap.size ≤ w9.heap.size from GW9.out.size)
      rw [← hWn]
      clear hWn
      refine hK.out _ _ ?_ (fun hHeld => ?_)
      · exact ⟨(HC.out Wn GWn.out).1, (HC.out Wn GWn.out).2.2.cells.1⟩
      clear hK K
      try simp only [Act.put, List.setIfInBounds_toArray, List.set_cons_zero, List.set_cons_succ]
      obtain ⟨⟨y0, y1, y2, y3, y4⟩, ⟨q0, q1, q2, q3, q4⟩⟩ := NZ.out.cells
      have hyl := NZ.out.lt
      simp only [nd0, Nd.kind, Nd.text, Nd.n, Nd.kids, Nd.place, List.length_nil] at y0 y1 y2 y3 y4
      refine AnyTill.last (z := 7) (by kernel_rfl) (op_at rfl) (by kernel_rfl) (fun K hK => ?_)
      go_simp
      refine hK.out _ _ ?_
      clear hK K
      go_wp2_with fail
      go_meet
      case rel =>
        have hput := put5_grown (b := w9.heap.size) Wn (.mk 15 ⟨T2.text.toArray⟩ 0 [] T.pos) none 0
        refine ⟨q, w9.heap.size, rfl, rfl, Sn.out.keeps (fun d hd => ?_) hput.size, ?_, hnb.out, NBox.put NZ.out (.mk 15 ⟨T2.text.toArray⟩ 0 [] T.pos) none 0⟩
        · have hbl := Sn.out.blocks
          have hbb := HB.out
          have hz := hz3.out
          have hn := hnb.out
          rcases hd with rfl | rfl
          · exact hput.block _ hbl.1 (fun e => by have := Option.some.inj e; omega)
          · exact hput.block _ hbl.2.1 (fun e => by have := Option.some.inj e; omega)
        · exact grown_new GWn.out hput (by have := hnb.out; omega)
    · go_simp
      obtain ⟨Wn, hWn⟩ : ∃ W, W = (w7.alloc (.cells #[.int .i64 0, .string ⟨#[]⟩, .int .i64 0, .slice none 0 0, .int .i64 0] 24)).drew := ⟨_, rfl⟩
      have Bn := Lib.hid (show Below w7.heap.size w7 Wn from hWn ▸ bdrew (nbelow1 _ _))
      have NZ0 := Lib.hid (show NBox w7.heap.size nd0 none 0 Wn from hWn ▸ NBox.make w7 nd0 none 0)
      have GWn := Lib.hid (show W3.grownBy Wn (some P) from grown_trans GW7.out (grown_of Bn.out))
      have Sn := Lib.hid (S7.out.below Bn.out)
      have hnb := Lib.hid (show W3.heap.size ≤ w7.heap.size from GW7.out.size)
      rw [← hWn]
      clear hWn
      refine hK.out _ _ ?_ (fun hHeld => ?_)
      · exact ⟨(HC.out Wn GWn.out).1, (HC.out Wn GWn.out).2.2.cells.1⟩
      clear hK K
      try simp only [Act.put, List.setIfInBounds_toArray, List.set_cons_zero, List.set_cons_succ]
      refine AnyTill.next (i := 1) (by kernel_rfl) (op_at rfl) (by decide) (fun K hK => ?_)
      go_simp
      (with_reducible refine Calls.mono (CK.out Wn Sn.out) ?_)
      intro e w9 hq
      cases σ with
      | error q =>
        obtain ⟨k0, p0⟩ := q
        obtain ⟨rfl, hg⟩ := hq
        refine And.intro rfl ?_
        rw [HX.out]
        exact ⟨rfl, grown_trans G3.out (grown_trans GWn.out hg)⟩
      | ok q =>
      obtain ⟨rfl, hs, hg⟩ := hq
      have S9 := Lib.hid hs
      have GW9 := Lib.hid (show W3.grownBy w9 (some P) from grown_trans GWn.out hg)
      have NZ := Lib.hid (NZ0.out.grown hg (by have := HB.out; have := hz3.out; have := hnb.out; omega))
      clear hs hg
      unfold tkV
      go_wp2_with fail
      refine hK.out _ _ ?_ (fun hHeld => ?_)
      · exact ⟨(HC.out w9 GW9.out).1, (HC.out w9 GW9.out).2.2.cells.1⟩
      clear hK K
      try simp only [Act.put, List.setIfInBounds_toArray, List.set_cons_zero, List.set_cons_succ]
      refine AnyTill.take (i := 2) (v := ?_) (op_at rfl) (by kernel_rfl) (by kernel_rfl) (by kernel_rfl) (by kernel_rfl) (fun _ _ _ h => h) (Or.inl ⟨by rfl, ?_⟩) (by assumption) ?_
      rotate_left
      · (intro w hSw; (try dsimp only at hSw); go_simp; try with_reducible rfl)
      try simp only [Act.put, List.setIfInBounds_toArray, List.set_cons_zero, List.set_cons_succ]
      refine AnyTill.take (i := 5) (v := ?_) (op_at rfl) (by kernel_rfl) (by kernel_rfl) (by kernel_rfl) (by kernel_rfl) (fun _ _ _ h => h) (Or.inl ⟨by rfl, ?_⟩) (by assumption) ?_
      rotate_left
      · (intro w hSw; (try dsimp only at hSw); go_simp; try with_reducible rfl)
      try simp only [Act.put, List.setIfInBounds_toArray, List.set_cons_zero, List.set_cons_succ]
      obtain ⟨⟨y0, y1, y2, y3, y4⟩, ⟨q0, q1, q2, q3, q4⟩⟩ := NZ.out.cells
      have hyl := NZ.out.lt
      simp only [nd0, Nd.kind, Nd.text, Nd.n, Nd.kids, Nd.place, List.length_nil] at y0 y1 y2 y3 y4
      refine AnyTill.last (z := 7) (by kernel_rfl) (op_at rfl) (by kernel_rfl) (fun K hK => ?_)
      go_simp
      refine hK.out _ _ ?_
      clear hK K
      go_wp2_with fail
      go_meet
      case rel =>
        have hput := put5_grown (b := w7.heap.size) w9 (.mk 15 ⟨T2.text.toArray⟩ 0 [] T.pos) none 0
        refine ⟨q, w7.heap.size, rfl, rfl, S9.out.keeps (fun d hd => ?_) hput.size, ?_, hnb.out, NBox.put NZ.out (.mk 15 ⟨T2.text.toArray⟩ 0 [] T.pos) none 0⟩
        · have hbl := S9.out.blocks
          have hbb := HB.out
          have hz := hz3.out
          have hn := hnb.out
          rcases hd with rfl | rfl
          · exact hput.block _ hbl.1 (fun e => by have := Option.some.inj e; omega)
          · exact hput.block _ hbl.2.1 (fun e => by have := Option.some.inj e; omega)
        · exact grown_new GW9.out hput (by have := hnb.out; omega)
  case rest =>
  obtain ⟨r0, nb, rfl, HCUT⟩ := hcut
  clear CK hfd hp7 t0 t1 t2 t3 htl
  have HS0 := Lib.hid HCUT.out.1
  have S10 := Lib.hid HCUT.out.2.1
  have GW10 := Lib.hid HCUT.out.2.2.1
  have hnb := Lib.hid HCUT.out.2.2.2.1
  have NB := Lib.hid HCUT.out.2.2.2.2
  have hr0 := Lib.hid (HLK.out r0 HS0.out)
  have HX0 := Lib.hid (show X = wantT tOpen r0 fun r => (rd .expr nest r).then fun a r => wantT tComma r fun r => (rd .expr nest r).then fun b r => wantT tComma r fun r => (rd .expr nest r).then fun c r => wantT tShut r fun r => made (mkN 15 T2.text 0 [a, b, c] T.pos) r by rw [HX.out, HS0.out]; rfl)
  have HLl := Lib.hid (isT_len hK)
  have hp10 := (HC.out wc GW10.out).1
  clear HX HLK
  have C11 := Lib.hid (show Calls Tryz.prog 85 #[.pointer (some ⟨P, 0, none⟩), .string ⟨#[40]⟩] wc (WantR P g cap ts nest tOpen r0 wc) from qwant_s P g cap ts nest r0 ⟨#[40]⟩ tOpen rfl wc S10.out HE.out)
  go_wp2_with fail
  (with_reducible refine Calls.mono C11.out ?_)
  rintro e w11 ⟨hg, hq⟩
  have H11 := Lib.hid hg
  have GW11 := Lib.hid (show W3.grownBy w11 (some P) from grown_trans GW10.out hg)
  cases hw11 : isT tOpen r0
  case false =>
    obtain rfl := hq.2 hw11
    refine And.intro rfl ?_
    rw [HX0.out, want_no hw11]
    exact ⟨rfl, grown_trans G3.out GW11.out⟩
  case true =>
  obtain ⟨rfl, hs⟩ := hq.1 hw11
  have S11 := Lib.hid hs
  have HX11 := Lib.hid (show X = (rd .expr nest (stepL r0)).then fun a r => wantT tComma r fun r => (rd .expr nest r).then fun b r => wantT tComma r fun r => (rd .expr nest r).then fun c r => wantT tShut r fun r => made (mkN 15 T2.text 0 [a, b, c] T.pos) r from HX0.out.trans (want_yes hw11))
  have hl11 := Lib.hid (isT_len hw11)
  have hp11 := (HC.out w11 GW11.out).1
  clear hs hg hq hw11 C11 hp10
  have C12 := Lib.hid (HEx.out (stepL r0) (by have := HLl.out; have := hr0.out; have := hl11.out; omega) nest w11 hn S11.out)
  have HR12 := Lib.hid (fun t q (h : rd .expr nest (stepL r0) = .ok (t, q)) => rd_len .expr nest (stepL r0) h)
  generalize rd .expr nest (stepL r0) = x at C12 HX11 HR12
  go_wp2_with fail
  (with_reducible refine Calls.mono C12.out ?_)
  intro e w12 hq
  cases x with
  | error q =>
    obtain ⟨k0, p0⟩ := q
    obtain ⟨rfl, hg⟩ := hq
    refine And.intro rfl ?_
    rw [HX11.out]
    exact ⟨rfl, grown_trans G3.out (grown_trans GW11.out hg)⟩
  | ok q =>
  obtain ⟨t1, r1⟩ := q
  obtain ⟨a1, c1, rfl, hs, hg, hl2, hdp⟩ := hq
  have H12 := Lib.hid hg
  have hr1 := Lib.hid (HR12.out t1 r1 rfl)
  have HX12 := Lib.hid (show X = wantT tComma r1 fun r => (rd .expr nest r).then fun b r => wantT tComma r fun r => (rd .expr nest r).then fun c r => wantT tShut r fun r => made (mkN 15 T2.text 0 [t1, b, c] T.pos) r from HX11.out)
  have S12' := Lib.hid hs
  have GW12' := Lib.hid (show W3.grownBy w12 (some P) from grown_trans GW11.out hg)
  have HL1 := Lib.hid hl2
  have HD1 := Lib.hid hdp
  obtain ⟨Wb1, hWb⟩ : ∃ W, W = w12.alloc (.cells #[.int .i64 t1.kind, .string t1.text, .int .i64 t1.n, .slice a1 t1.kids.length c1, .int .i64 t1.place, .int .i64 (depthN t1)] 67) := ⟨_, rfl⟩
  have Bb1 := Lib.hid (show Below w12.heap.size w12 Wb1 from hWb ▸ nbelow1 _ _)
  have Tb1 := Lib.hid (show T6 w12.heap.size t1.kind t1.text t1.n a1 t1.kids.length c1 t1.place (depthN t1) Wb1 from hWb ▸ T6.make w12 _ _ _ _ _ _ _ _)
  have S12 := Lib.hid (S12'.out.below Bb1.out)
  have GW12 := Lib.hid (show W3.grownBy Wb1 (some P) from grown_trans GW12'.out (grown_of Bb1.out))
  have hp12 := (HC.out Wb1 GW12.out).1
  clear hs hg hl2 hdp C12 HR12 hp11
  unfold trV
  go_upto_region 23 with fail
  rw [← hWb]
  clear hWb
  have C13 := Lib.hid (show Calls Tryz.prog 85 #[.pointer (some ⟨P, 0, none⟩), .string ⟨#[44]⟩] Wb1 (WantR P g cap ts nest tComma r1 Wb1) from qwant_s P g cap ts nest r1 ⟨#[44]⟩ tComma rfl Wb1 S12.out HE.out)
  go_wp2_with fail
  (with_reducible refine Calls.mono C13.out ?_)
  rintro e w13 ⟨hg, hq⟩
  have H13 := Lib.hid hg
  have GW13 := Lib.hid (show W3.grownBy w13 (some P) from grown_trans GW12.out hg)
  cases hw13 : isT tComma r1
  case false =>
    obtain rfl := hq.2 hw13
    refine And.intro rfl ?_
    rw [HX12.out, want_no hw13]
    exact ⟨rfl, grown_trans G3.out GW13.out⟩
  case true =>
  obtain ⟨rfl, hs⟩ := hq.1 hw13
  have S13 := Lib.hid hs
  have HX13 := Lib.hid (show X = (rd .expr nest (stepL r1)).then fun b r => wantT tComma r fun r => (rd .expr nest r).then fun c r => wantT tShut r fun r => made (mkN 15 T2.text 0 [t1, b, c] T.pos) r from HX12.out.trans (want_yes hw13))
  have hl13 := Lib.hid (isT_len hw13)
  have hp13 := (HC.out w13 GW13.out).1
  clear hs hg hq hw13 C13 hp12
  have C14 := Lib.hid (HEx.out (stepL r1) (by have := HLl.out; have := hr0.out; have := hl11.out; have := hr1.out; have := hl13.out; omega) nest w13 hn S13.out)
  have HR14 := Lib.hid (fun t q (h : rd .expr nest (stepL r1) = .ok (t, q)) => rd_len .expr nest (stepL r1) h)
  generalize rd .expr nest (stepL r1) = x at C14 HX13 HR14
  go_wp2_with fail
  (with_reducible refine Calls.mono C14.out ?_)
  intro e w14 hq
  cases x with
  | error q =>
    obtain ⟨k0, p0⟩ := q
    obtain ⟨rfl, hg⟩ := hq
    refine And.intro rfl ?_
    rw [HX13.out]
    exact ⟨rfl, grown_trans G3.out (grown_trans GW13.out hg)⟩
  | ok q =>
  obtain ⟨t2, r2⟩ := q
  obtain ⟨a2, c2, rfl, hs, hg, hl2, hdp⟩ := hq
  have H14 := Lib.hid hg
  have hr2 := Lib.hid (HR14.out t2 r2 rfl)
  have HX14 := Lib.hid (show X = wantT tComma r2 fun r => (rd .expr nest r).then fun c r => wantT tShut r fun r => made (mkN 15 T2.text 0 [t1, t2, c] T.pos) r from HX13.out)
  have S14' := Lib.hid hs
  have GW14' := Lib.hid (show W3.grownBy w14 (some P) from grown_trans GW13.out hg)
  have HL2 := Lib.hid hl2
  have HD2 := Lib.hid hdp
  obtain ⟨Wb2, hWb⟩ : ∃ W, W = w14.alloc (.cells #[.int .i64 t2.kind, .string t2.text, .int .i64 t2.n, .slice a2 t2.kids.length c2, .int .i64 t2.place, .int .i64 (depthN t2)] 67) := ⟨_, rfl⟩
  have Bb2 := Lib.hid (show Below w14.heap.size w14 Wb2 from hWb ▸ nbelow1 _ _)
  have Tb2 := Lib.hid (show T6 w14.heap.size t2.kind t2.text t2.n a2 t2.kids.length c2 t2.place (depthN t2) Wb2 from hWb ▸ T6.make w14 _ _ _ _ _ _ _ _)
  have S14 := Lib.hid (S14'.out.below Bb2.out)
  have GW14 := Lib.hid (show W3.grownBy Wb2 (some P) from grown_trans GW14'.out (grown_of Bb2.out))
  have hp14 := (HC.out Wb2 GW14.out).1
  clear hs hg hl2 hdp C14 HR14 hp13
  unfold trV
  go_upto_region 25 with fail
  rw [← hWb]
  clear hWb
  have C15 := Lib.hid (show Calls Tryz.prog 85 #[.pointer (some ⟨P, 0, none⟩), .string ⟨#[44]⟩] Wb2 (WantR P g cap ts nest tComma r2 Wb2) from qwant_s P g cap ts nest r2 ⟨#[44]⟩ tComma rfl Wb2 S14.out HE.out)
  go_wp2_with fail
  (with_reducible refine Calls.mono C15.out ?_)
  rintro e w15 ⟨hg, hq⟩
  have H15 := Lib.hid hg
  have GW15 := Lib.hid (show W3.grownBy w15 (some P) from grown_trans GW14.out hg)
  cases hw15 : isT tComma r2
  case false =>
    obtain rfl := hq.2 hw15
    refine And.intro rfl ?_
    rw [HX14.out, want_no hw15]
    exact ⟨rfl, grown_trans G3.out GW15.out⟩
  case true =>
  obtain ⟨rfl, hs⟩ := hq.1 hw15
  have S15 := Lib.hid hs
  have HX15 := Lib.hid (show X = (rd .expr nest (stepL r2)).then fun c r => wantT tShut r fun r => made (mkN 15 T2.text 0 [t1, t2, c] T.pos) r from HX14.out.trans (want_yes hw15))
  have hl15 := Lib.hid (isT_len hw15)
  have hp15 := (HC.out w15 GW15.out).1
  clear hs hg hq hw15 C15 hp14
  have C16 := Lib.hid (HEx.out (stepL r2) (by have := HLl.out; have := hr0.out; have := hl11.out; have := hr1.out; have := hl13.out; have := hr2.out; have := hl15.out; omega) nest w15 hn S15.out)
  have HR16 := Lib.hid (fun t q (h : rd .expr nest (stepL r2) = .ok (t, q)) => rd_len .expr nest (stepL r2) h)
  generalize rd .expr nest (stepL r2) = x at C16 HX15 HR16
  go_wp2_with fail
  (with_reducible refine Calls.mono C16.out ?_)
  intro e w16 hq
  cases x with
  | error q =>
    obtain ⟨k0, p0⟩ := q
    obtain ⟨rfl, hg⟩ := hq
    refine And.intro rfl ?_
    rw [HX15.out]
    exact ⟨rfl, grown_trans G3.out (grown_trans GW15.out hg)⟩
  | ok q =>
  obtain ⟨t3, r3⟩ := q
  obtain ⟨a3, c3, rfl, hs, hg, hl2, hdp⟩ := hq
  have H16 := Lib.hid hg
  have hr3 := Lib.hid (HR16.out t3 r3 rfl)
  have HX16 := Lib.hid (show X = wantT tShut r3 fun r => made (mkN 15 T2.text 0 [t1, t2, t3] T.pos) r from HX15.out)
  have S16' := Lib.hid hs
  have GW16' := Lib.hid (show W3.grownBy w16 (some P) from grown_trans GW15.out hg)
  have HL3 := Lib.hid hl2
  have HD3 := Lib.hid hdp
  obtain ⟨Wb3, hWb⟩ : ∃ W, W = w16.alloc (.cells #[.int .i64 t3.kind, .string t3.text, .int .i64 t3.n, .slice a3 t3.kids.length c3, .int .i64 t3.place, .int .i64 (depthN t3)] 67) := ⟨_, rfl⟩
  have Bb3 := Lib.hid (show Below w16.heap.size w16 Wb3 from hWb ▸ nbelow1 _ _)
  have Tb3 := Lib.hid (show T6 w16.heap.size t3.kind t3.text t3.n a3 t3.kids.length c3 t3.place (depthN t3) Wb3 from hWb ▸ T6.make w16 _ _ _ _ _ _ _ _)
  have S16 := Lib.hid (S16'.out.below Bb3.out)
  have GW16 := Lib.hid (show W3.grownBy Wb3 (some P) from grown_trans GW16'.out (grown_of Bb3.out))
  have hp16 := (HC.out Wb3 GW16.out).1
  clear hs hg hl2 hdp C16 HR16 hp15
  unfold trV
  go_upto_region 27 with fail
  rw [← hWb]
  clear hWb
  have C17 := Lib.hid (show Calls Tryz.prog 85 #[.pointer (some ⟨P, 0, none⟩), .string ⟨#[41]⟩] Wb3 (WantR P g cap ts nest tShut r3 Wb3) from qwant_s P g cap ts nest r3 ⟨#[41]⟩ tShut rfl Wb3 S16.out HE.out)
  go_wp2_with fail
  (with_reducible refine Calls.mono C17.out ?_)
  rintro e w17 ⟨hg, hq⟩
  have H17 := Lib.hid hg
  have GW17 := Lib.hid (show W3.grownBy w17 (some P) from grown_trans GW16.out hg)
  cases hw17 : isT tShut r3
  case false =>
    obtain rfl := hq.2 hw17
    refine And.intro rfl ?_
    rw [HX16.out, want_no hw17]
    exact ⟨rfl, grown_trans G3.out GW17.out⟩
  case true =>
  obtain ⟨rfl, hs⟩ := hq.1 hw17
  have S17 := Lib.hid hs
  have HX17 := Lib.hid (show X = made (mkN 15 T2.text 0 [t1, t2, t3] T.pos) (stepL r3) from HX16.out.trans (want_yes hw17))
  have hl17 := Lib.hid (isT_len hw17)
  have hp17 := (HC.out w17 GW17.out).1
  clear hs hg hq hw17 C17 hp16
  have h34 := Lib.hid (show Wb3.grownBy w17 (some P) from H17.out)
  have h24 := Lib.hid (show Wb2.grownBy w17 (some P) from grown_trans H15.out (grown_trans H16.out (grown_trans (grown_of Bb3.out) h34.out)))
  have h14 := Lib.hid (show Wb1.grownBy w17 (some P) from grown_trans H13.out (grown_trans H14.out (grown_trans (grown_of Bb2.out) h24.out)))
  have h04 := Lib.hid (show wc.grownBy w17 (some P) from grown_trans H11.out (grown_trans H12.out (grown_trans (grown_of Bb1.out) h14.out)))
  have hsz := Lib.hid (show P < w.heap.size ∧ W3.heap.size = w.heap.size + 3 ∧ W3.heap.size ≤ nb ∧ nb < wc.heap.size ∧ wc.heap.size ≤ w11.heap.size ∧ w11.heap.size ≤ w12.heap.size ∧ w12.heap.size < Wb1.heap.size ∧ Wb1.heap.size ≤ w13.heap.size ∧ w13.heap.size ≤ w14.heap.size ∧ w14.heap.size < Wb2.heap.size ∧ Wb2.heap.size ≤ w15.heap.size ∧ w15.heap.size ≤ w16.heap.size ∧ w16.heap.size < Wb3.heap.size ∧ Wb3.heap.size ≤ w17.heap.size from
    ⟨HB.out.1, hz3.out, hnb.out, NB.out.lt, H11.out.size, H12.out.size, Tb1.out.lt, H13.out.size, H14.out.size, Tb2.out.lt, H15.out.size, H16.out.size, Tb3.out.lt, H17.out.size⟩)
  have NB' := Lib.hid (NB.out.grown h04.out (by have := hsz.out; omega))
  have U1 := Lib.hid (Tb1.out.grown h14.out (fun e => by have := Option.some.inj e; have := hsz.out; omega))
  have U2 := Lib.hid (Tb2.out.grown h24.out (fun e => by have := Option.some.inj e; have := hsz.out; omega))
  have U3 := Lib.hid (Tb3.out.grown h34.out (fun e => by have := Option.some.inj e; have := hsz.out; omega))
  have V1 := Lib.hid (lies_later (av' := fun c => W3.heap.size ≤ c ∧ c < w17.heap.size) HL1.out (grown_trans (grown_of Bb1.out) h14.out) fun c hc => ⟨hc.2, by have := hc.1; have := hsz.out; omega, by have := hc.1; have := hsz.out; omega, by have := hc.2; have := hsz.out; omega⟩)
  have V2 := Lib.hid (lies_later (av' := fun c => W3.heap.size ≤ c ∧ c < w17.heap.size) HL2.out (grown_trans (grown_of Bb2.out) h24.out) fun c hc => ⟨hc.2, by have := hc.1; have := hsz.out; omega, by have := hc.1; have := hsz.out; omega, by have := hc.2; have := hsz.out; omega⟩)
  have V3 := Lib.hid (lies_later (av' := fun c => W3.heap.size ≤ c ∧ c < w17.heap.size) HL3.out (grown_trans (grown_of Bb3.out) h34.out) fun c hc => ⟨hc.2, by have := hc.1; have := hsz.out; omega, by have := hc.1; have := hsz.out; omega, by have := hc.2; have := hsz.out; omega⟩)
  obtain ⟨⟨n0, n1, n2, n3, n4⟩, -⟩ := NB'.out.cells
  simp only [Nd.kind, Nd.text, Nd.n, Nd.kids, Nd.place, List.length_nil] at n0 n1 n2 n3 n4
  obtain ⟨⟨x10, x11, x12, x13, x14, x15⟩, -⟩ := U1.out.cells
  obtain ⟨⟨x20, x21, x22, x23, x24, x25⟩, -⟩ := U2.out.cells
  obtain ⟨⟨x30, x31, x32, x33, x34, x35⟩, -⟩ := U3.out.cells
  have hnl := NB'.out.lt
  have hu1 := U1.out.lt
  have hu2 := U2.out.lt
  have hu3 := U3.out.lt
  obtain ⟨Wx, hWx⟩ : ∃ W, W = w17.alloc (.cells #[.int .i64 t1.kind, .string t1.text, .int .i64 t1.n, .slice a1 t1.kids.length c1, .int .i64 t1.place, .int .i64 (depthN t1), .int .i64 t2.kind, .string t2.text, .int .i64 t2.n, .slice a2 t2.kids.length c2, .int .i64 t2.place, .int .i64 (depthN t2), .int .i64 t3.kind, .string t3.text, .int .i64 t3.n, .slice a3 t3.kids.length c3, .int .i64 t3.place, .int .i64 (depthN t3)] 67) := ⟨_, rfl⟩
  have Rx := Lib.hid (show TRow Wx w17.heap.size 0 [(t1, a1, c1), (t2, a2, c2), (t3, a3, c3)] from hWx ▸ trow3 w17 _ (t1, a1, c1) (t2, a2, c2) (t3, a3, c3))
  have Bx := Lib.hid (show Below w17.heap.size w17 Wx from hWx ▸ nbelow1 _ _)
  have hzx := Lib.hid (show Wx.heap.size = w17.heap.size + 1 by rw [hWx]; simp)
  have Cx := Lib.hid (show Calls Tryz.prog 86 #[.pointer (some ⟨P, 0, none⟩), .agg #[.int .i64 15, .string ⟨T2.text.toArray⟩, .int .i64 0, .slice none 0 0, .int .i64 T.pos], .slice (some ⟨w17.heap.size, 0, none⟩) 3 3] Wx (MadeQ 15 T2.text 0 T.pos [(t1, a1, c1), (t2, a2, c2), (t3, a3, c3)] Wx) from
    qmade_any P 15 T2.text 0 T.pos (some ⟨w17.heap.size, 0, none⟩) 3 [(t1, a1, c1), (t2, a2, c2), (t3, a3, c3)] Wx (by show 3 ≤ 8; decide) (fun _ => ⟨w17.heap.size, 0, rfl, by have := hzx.out; omega, Rx.out⟩) (fun e he => by
      rcases List.mem_cons.1 he with rfl | he
      · exact HD1.out
      rcases List.mem_cons.1 he with rfl | he
      · exact HD2.out
      obtain rfl := List.mem_singleton.1 he; exact HD3.out))
  go_wp2_with fail
  rw [← hWx]
  clear hWx
  (with_reducible refine Calls.mono Cx.out ?_)
  intro e wy hm
  have HMR := Lib.hid (show MadeR (made (mkN 15 T2.text 0 [t1, t2, t3] T.pos) (stepL r3)) (fun c => W3.heap.size ≤ c ∧ c < w17.heap.size) Wx e wy from by
    refine hm.use rfl (by have := HT2.out.2.2; omega) rfl HT0.out.2.1 (fun c hc => by have := hzx.out; omega) (fun e he => ?_) (stepL r3)
    rcases List.mem_cons.1 he with rfl | he
    · exact lies_move V1.out (fun c hc => Bx.out.block c hc.2) fun c hc => hc
    rcases List.mem_cons.1 he with rfl | he
    · exact lies_move V2.out (fun c hc => Bx.out.block c hc.2) fun c hc => hc
    · obtain rfl := List.mem_singleton.1 he
      exact lies_move V3.out (fun c hc => Bx.out.block c hc.2) fun c hc => hc)
  clear hm Cx
  obtain ⟨hb8, hm⟩ := HMR.out
  have By := Lib.hid hb8
  have GWy := Lib.hid (show W3.grownBy wy (some P) from grown_trans GW17.out (grown_of (Bx.out.trans (hb8.mono Bx.out.size))))
  cases hmd : made (mkN 15 T2.text 0 [t1, t2, t3] T.pos) (stepL r3) with
  | error z =>
    obtain ⟨k0, p0⟩ := z
    rw [hmd] at hm
    obtain rfl := hm
    refine And.intro rfl ?_
    rw [HX17.out, hmd]
    exact ⟨rfl, grown_trans G3.out GWy.out⟩
  | ok z =>
  obtain ⟨t4, q2⟩ := z
  have hq2 : q2 = stepL r3 := made_rest hmd
  subst hq2
  rw [hmd] at hm
  obtain ⟨a4, c4, rfl, hl3, hd3⟩ := hm
  have HMD := Lib.hid hmd
  have HL4 := Lib.hid hl3
  have HD4 := Lib.hid hd3
  have Zy := Lib.hid (HC.out wy GWy.out).2.1
  obtain ⟨⟨z0, z1, z2, z3, z4, z5⟩, ⟨f0, f1, f2, f3, f4, f5⟩⟩ := Zy.out.cells
  have hzl := Zy.out.lt
  clear hmd hl3 hd3 hb8
  unfold trV
  go_wp2_with fail
  refine bodyPost_ret (v := trV t4 a4 c4) (by simp [results, Tryz.results236, go_sem, trV, z0, z1, z2, z3, z4, z5]) rfl ?_
  rw [HX17.out, HMD.out]
  have h1 := hzx.out
  have h2 := By.out.size
  have hb := HB.out
  have h4 := hsz.out
  exact QP.fin ((S17.out.below Bx.out).below By.out) (grown_trans G3.out GWy.out) (by omega) (by omega) HL4.out (fun c hc => by
    rcases hc with hc | hc
    · have := hc.1; have := hc.2; omega
    · have := hc.1; have := hc.2; omega) HD4.out
end Go.Proofs.YtcndknkdhlmdnaaGreatDoor
