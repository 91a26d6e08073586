/-
  Texts that the statements' proofs rest on, one behind another: ParE, ParG, ParH, ParI.
-/
import Derived.Test.YtcndknkdhlmdnaaGreatDoorM25
import Derived.Test.YtcndknkdhlmdnaaGreatDoorM12
import Derived.Deep.Cut

/-
  usanceref07's parser: a token of a kind; one nest more; a node, unless it is too deep.
-/
namespace Go.Proofs.YtcndknkdhlmdnaaGreatDoor
open Go.RowKit
set_option maxRecDepth 100000

set_option maxHeartbeats 2000000 in
theorem penter_any (P g cap : Nat) (ts : List Tk) (nest : Nat) (r : List Tk) (w : World) (hn : nest ≤ 300) (h : SP P g cap ts nest (.ok r) w) :
    Calls Tryz.prog 133 #[.pointer (some ⟨P, 0, none⟩)] w (DoneP P g cap ts (nest + 1) (enterX nest (.ok r)) w) := by
  obtain ⟨a, rfl, hp⟩ := h.ok
  obtain ⟨⟨p0, p1, p2, p3, p4⟩, ⟨g0, g1, g2, g3, g4⟩⟩ := hp.cells
  have HG := Lib.hid (grown_set w P 2 (.int .i64 ((nest : Int) + 1)))
  have H1 := Lib.hid (hp.set_nest ((nest : Int) + 1))
  have R := Lib.hid (show enterX nest (.ok (ts.drop a)) = if 300 < nest + 1 then .error (75, (hd (ts.drop a)).pos) else .ok (ts.drop a) from rfl)
  have D := Lib.hid (hd_at hp.pos)
  have C1 := Lib.hid (plook_any P g cap ts a _ 0 0 _ H1.out)
  have hpos := hp.pos
  generalize ts[a]'hpos = T at C1 D
  clear h hp
  go_enter Tryz.func133, Tryz.ntmps133
  by_cases hb : 300 < nest + 1
  · have hb' : (300 : Int) < (nest : Int) + 1 := by omega
    have R2 := Lib.hid (show enterX nest (.ok (ts.drop a)) = .error (75, (hd (ts.drop a)).pos) by rw [R.out, if_pos hb])
    clear hb
    go_wp2_with fail
    (with_reducible refine Calls.mono C1.out ?_)
    rintro e w2 ⟨rfl, hb⟩
    have H2 := Lib.hid (H1.out.below hb)
    have HB2 := Lib.hid hb
    clear hb
    have C3 := Lib.hid (pfail_any P g cap ts a _ w2 75 T.pos H2.out)
    unfold tkV
    have hfd := tk_field T.kind T.n T.pos ⟨T.text.toArray⟩
    go_wp2_with fail
    (with_reducible refine Calls.mono C3.out ?_)
    rintro e w3 ⟨rfl, hp, hg⟩
    go_wp2_with fail
    (first | (refine bodyPost_end (results_none rfl _ _ _) rfl ?_) | (refine bodyPost_ret (results_none rfl _ _ _) rfl ?_))
    refine ⟨rfl, ?_, grown_trans HG.out (grown_trans (grown_of HB2.out) hg)⟩
    rw [R2.out, D.out]
    exact SP.of_error hp (by decide) (by omega) (by omega)
  · have hb' : ¬ (300 : Int) < (nest : Int) + 1 := by omega
    have R2 := Lib.hid (show enterX nest (.ok (ts.drop a)) = .ok (ts.drop a) by rw [R.out, if_neg hb])
    clear hb
    go_wp2_with fail
    (first | (refine bodyPost_end (results_none rfl _ _ _) rfl ?_) | (refine bodyPost_ret (results_none rfl _ _ _) rfl ?_))
    refine ⟨rfl, ?_, HG.out⟩
    rw [R2.out]
    exact SP.of_ok (by have := H1.out; rw [Int.natCast_add]; exact this) rfl

/-- a call that hands back a token, and leaves the parser so -/
def TkP (P g cap : Nat) (ts : List Tk) (nest : Nat) (σ σ' : Sx) (w : World) (e : Ending) (w' : World) : Prop := ∃ t : Tk, e = .returned (tkV t) ∧ SP P g cap ts nest σ' w' ∧ w.grownBy w' (some P) ∧ ∀ r, σ = .ok r → t = hd r
set_option maxHeartbeats 2000000 in
theorem pkind_any (P g cap : Nat) (ts : List Tk) (nest : Nat) (σ : Sx) (k : Int) (w : World) (hn : nest ≤ 300) (h : SP P g cap ts nest σ w) (he : Ends ts) :
    Calls Tryz.prog 129 #[.pointer (some ⟨P, 0, none⟩), .int .i64 k] w (TkP P g cap ts nest σ (kindX k σ) w) := by
  obtain ⟨V, hV⟩ : ∃ V, V = w.alloc (.cells #[.int .i64 0, .string ⟨#[]⟩, .int .i64 0, .int .i64 0] 39) := ⟨_, rfl⟩
  have HBV := Lib.hid (show Below w.heap.size w V from hV ▸ nbelow1 _ _)
  have hsV := Lib.hid (show V.heap.size = w.heap.size + 1 by rw [hV]; simp)
  have Z0 := Lib.hid (show Zero w.heap.size V from hV ▸ Zero.make w)
  have hwl : w.heap.size < V.heap.size := by rw [hsV.out]; omega
  have hS := Lib.hid (h.below HBV.out)
  have hb0 := Lib.hid h.blocks
  cases σ with
  | error q =>
    obtain ⟨c, p⟩ := q
    obtain ⟨hk, a, n, hp, h1, h2⟩ := hS.out.error
    have C := Lib.hid (plook_any P g cap ts a n c p V hp)
    have ek : (c != 0) = true := bne_iff_ne.2 hk
    have HK := Lib.hid hk
    have H := Lib.hid hp
    have hpos := hp.pos
    generalize ts[a]'hpos = T at C
    clear h hp hk
    go_enter Tryz.func129, Tryz.ntmps129
    go_wp2_with fail
    rw [← hV]
    clear hV
    (with_reducible refine Calls.mono C.out ?_)
    rintro e w1 ⟨rfl, hb⟩
    have H1 := Lib.hid (H.out.below hb)
    obtain ⟨⟨p0, p1, p2, p3, p4⟩, -⟩ := H1.out.cells
    obtain ⟨c0, c1, c2, c3, f0, f1, f2, f3⟩ := (Z0.out.below hb).cells
    have hpl := H1.out.plt
    have hwl1 : w.heap.size < w1.heap.size := Nat.lt_of_lt_of_le hwl hb.size
    have HB := Lib.hid hb
    clear hb
    unfold tkV
    go_wp2_with fail
    refine bodyPost_ret (v := tkV T) (by simp [results, Tryz.results129, go_sem, tkV, c0, c1, c2, c3, hwl1]) rfl ?_
    have HF := ((below4 (Below.refl w.heap.size w1) (.int .i64 T.kind) (.string ⟨T.text.toArray⟩) (.int .i64 T.n) (.int .i64 T.pos)).alloc (by simpa using (HBV.out.trans (HB.out.mono HBV.out.size)).size) (.cells #[.int .i64 T.kind, .string ⟨T.text.toArray⟩, .int .i64 T.n, .int .i64 T.pos] 39))
    exact ⟨T, rfl, (SP.of_error H1.out HK.out h1 h2).later HF hb0.out.1 hb0.out.2, pgrown_below (grown_of (HBV.out.trans (HB.out.mono HBV.out.size))) HF, fun _ h => by cases h⟩
  | ok r =>
    obtain ⟨a, rfl, hp⟩ := hS.out.ok
    have C := Lib.hid (plook_any P g cap ts a nest 0 0 V hp)
    have H := Lib.hid hp
    have hpos := hp.pos
    have D := Lib.hid (hd_at hpos)
    generalize ts[a]'hpos = T at C D
    clear h hp
    go_enter Tryz.func129, Tryz.ntmps129
    go_wp2_with fail
    rw [← hV]
    clear hV
    (with_reducible refine Calls.mono C.out ?_)
    rintro e w1 ⟨rfl, hb⟩
    have H1 := Lib.hid (H.out.below hb)
    obtain ⟨⟨p0, p1, p2, p3, p4⟩, -⟩ := H1.out.cells
    have hpl := H1.out.plt
    have hwl1 : w.heap.size < w1.heap.size := Nat.lt_of_lt_of_le hwl hb.size
    have HZ1 := Lib.hid (Z0.out.below hb)
    have HB := Lib.hid (HBV.out.trans (hb.mono HBV.out.size))
    clear hb
    obtain ⟨W2, hW2⟩ : ∃ W, W = w1.alloc (.cells #[.int .i64 T.kind, .string ⟨T.text.toArray⟩, .int .i64 T.n, .int .i64 T.pos] 39) := ⟨_, rfl⟩
    have HB2 := Lib.hid (show Below w1.heap.size w1 W2 from hW2 ▸ nbelow1 _ _)
    have HZ2 := Lib.hid (HZ1.out.below HB2.out)
    have HT2 := Lib.hid (show TBox w1.heap.size T W2 from hW2 ▸ TBox.make w1 T)
    have H2 := Lib.hid (H1.out.below HB2.out)
    have HS2 := Lib.hid (HB.out.trans (HB2.out.mono HB.out.size))
    unfold tkV
    by_cases hk : T.kind = k
    · have e0 : (T.kind != k) = false := by rw [hk]; exact bne_self_eq_false k
      have R := Lib.hid (show kindX k (.ok (ts.drop a)) = .ok (stepL (ts.drop a)) from if_pos (D.out ▸ hk))
      have C2 := Lib.hid (pstep_any P g cap ts a nest 0 0 W2 H2.out he)
      clear hk
      go_wp2_with fail
      rw [← hW2]
      (with_reducible refine Calls.mono C2.out ?_)
      rintro e w3 ⟨a', ⟨hpa, rfl⟩, hp3, hs, hg, -⟩
      have hDT := D.out
      rw [hd_at hpa] at hDT
      subst hDT
      have hne : w.heap.size ≠ P := Nat.ne_of_gt hb0.out.1
      have hwl3 : w.heap.size < w3.heap.size := Nat.lt_of_lt_of_le hwl1 (Nat.le_trans HB2.out.size hg.size)
      have HZ3 := ((hg.block w.heap.size (Nat.lt_of_lt_of_le hwl1 HB2.out.size) (fun e => hne (Option.some.inj e))).trans HZ2.out)
      obtain ⟨c0, c1, c2, c3, f0, f1, f2, f3⟩ := Zero.cells HZ3
      have H3 := Lib.hid hp3
      have G3 := Lib.hid (grown_trans (grown_of HS2.out) hg)
      clear hW2 hp3 hg HZ3
      unfold tkV
      go_wp2_with fail
      refine bodyPost_ret (v := tkV (ts[a]'hpa)) (by simp [results, Tryz.results129, go_sem, tkV, c0, c1, c2, c3]) rfl ?_
      have HF := (below4 (Below.refl w.heap.size w3) (.int .i64 (ts[a]'hpa).kind) (.string ⟨(ts[a]'hpa).text.toArray⟩) (.int .i64 (ts[a]'hpa).n) (.int .i64 (ts[a]'hpa).pos))
      refine ⟨_, rfl, ?_, pgrown_below G3.out HF, fun r h => ?_⟩
      · rw [R.out, hs]
        exact (SP.of_ok H3.out rfl).later HF hb0.out.1 hb0.out.2
      · cases h
        exact (hd_at hpa).symm
    · have e0 : (T.kind != k) = true := bne_iff_ne.2 hk
      have R := Lib.hid (show kindX k (.ok (ts.drop a)) = .error (74, T.pos) by
        show (if (hd (ts.drop a)).kind = k then Except.ok (stepL (ts.drop a)) else .error (74, (hd (ts.drop a)).pos) : Sx) = _
        rw [D.out, if_neg hk])
      have C2 := Lib.hid (pfail_any P g cap ts a nest W2 74 T.pos H2.out)
      clear hk
      go_wp2_with fail
      rw [← hW2]
      (with_reducible refine Calls.mono C2.out ?_)
      rintro e w3 ⟨rfl, hp3, hg⟩
      have hne : w.heap.size ≠ P := Nat.ne_of_gt hb0.out.1
      have hne1 : w1.heap.size ≠ P := Nat.ne_of_gt hpl
      have hwl3 : w.heap.size < w3.heap.size := Nat.lt_of_lt_of_le hwl1 (Nat.le_trans HB2.out.size hg.size)
      have HZ3 := ((hg.block w.heap.size (Nat.lt_of_lt_of_le hwl1 HB2.out.size) (fun e => hne (Option.some.inj e))).trans HZ2.out)
      obtain ⟨c0, c1, c2, c3, f0, f1, f2, f3⟩ := Zero.cells HZ3
      obtain ⟨⟨t0, t1, t2, t3⟩, -⟩ := (HT2.out.grown hg hne1).cells
      have hwl4 : w1.heap.size < w3.heap.size := (HT2.out.grown hg hne1).lt
      have H3 := Lib.hid hp3
      have G3 := Lib.hid (grown_trans (grown_of HS2.out) hg)
      clear hW2 hp3 hg HZ3
      go_wp2_with fail
      refine bodyPost_ret (v := tkV T) (by simp [results, Tryz.results129, go_sem, tkV, c0, c1, c2, c3]) rfl ?_
      have HF := (below4 (Below.refl w.heap.size w3) (.int .i64 T.kind) (.string ⟨T.text.toArray⟩) (.int .i64 T.n) (.int .i64 T.pos))
      refine ⟨T, rfl, ?_, pgrown_below G3.out HF, fun r h => ?_⟩
      · rw [R.out]
        exact (SP.of_error H3.out (by decide) (Int.le_refl _) (by omega)).later HF hb0.out.1 hb0.out.2
      · cases h
        exact D.out.symm

end Go.Proofs.YtcndknkdhlmdnaaGreatDoor

/-
  usanceref07's parser: a node, unless it is too deep; what stands next, told by where the reading stands.
-/
namespace Go.Proofs.YtcndknkdhlmdnaaGreatDoor
open Go.RowKit
set_option maxRecDepth 100000

/-- what made hands back -/
def MadeP (P g cap : Nat) (ts : List Tk) (nest : Nat) (σ : Sx) (t : Nd) (a : Option Addr) (cp : Nat) (w : World) (e : Ending) (w' : World) : Prop := e = .returned (t.val a cp) ∧ SP P g cap ts nest (madeX t σ) w' ∧ w.grownBy w' (some P)
set_option maxHeartbeats 2000000 in
theorem pmade_any (P g cap : Nat) (ts : List Tk) (nest : Nat) (σ : Sx) (t : Nd) (a : Option Addr) (cp : Nat) (w : World) (hn : nest ≤ 300) (h : SP P g cap ts nest σ w) (hd : ∀ r, σ = .ok r → depthN t ≤ 101 ∧ ∃ av : Nat → Prop, (∀ b, av b → b < w.heap.size) ∧ t.lies av w a cp) :
    Calls Tryz.prog 136 #[.pointer (some ⟨P, 0, none⟩), t.val a cp] w (MadeP P g cap ts nest σ t a cp w) := by
  obtain ⟨V, hV⟩ : ∃ V, V = (w.alloc (.cells #[.int .i64 t.kind, .string t.text, .int .i64 t.n, .slice a t.kids.length cp, .int .i64 t.place] 24)).alloc (.cells #[.int .i64 0, .string ⟨#[]⟩, .int .i64 0, .slice none 0 0, .int .i64 0] 24) := ⟨_, rfl⟩
  have HBV := Lib.hid (show Below w.heap.size w V from hV ▸ (nbelow1 w _).trans ((nbelow1 _ _).mono (nbelow1 w _).size))
  have hsV := Lib.hid (show V.heap.size = w.heap.size + 2 by rw [hV]; simp)
  have N0 := Lib.hid (show NBox w.heap.size t a cp V from hV ▸ (NBox.make w t a cp).below (nbelow1 _ _))
  have N1 := Lib.hid (show NBox (w.heap.size + 1) nd0 none 0 V by
    have := NBox.make (w.alloc (.cells #[.int .i64 t.kind, .string t.text, .int .i64 t.n, .slice a t.kids.length cp, .int .i64 t.place] 24)) nd0 none 0
    rw [hV]
    simpa [nd0, Nd.kind, Nd.text, Nd.n, Nd.kids, Nd.place] using this)
  have hS := Lib.hid (h.below HBV.out)
  have hb0 := Lib.hid h.blocks
  unfold Nd.val
  cases σ with
  | error q =>
    obtain ⟨c, p⟩ := q
    obtain ⟨hk, i, n, hp, h1, h2⟩ := hS.out.error
    have ek : (c == 0) = false := beq_eq_false_iff_ne.2 hk
    have HK := Lib.hid hk
    obtain ⟨⟨p0, p1, p2, p3, p4⟩, -⟩ := hp.cells
    have hpl := hp.plt
    obtain ⟨⟨c0, c1, c2, c3, c4⟩, -⟩ := N0.out.cells
    obtain ⟨⟨z0, z1, z2, z3, z4⟩, ⟨f0, f1, f2, f3, f4⟩⟩ := N1.out.cells
    have HW := Lib.hid h
    clear h hd hp hk
    subst hV
    go_enter Tryz.func136, Tryz.ntmps136
    go_wp2_with fail
    refine bodyPost_ret (v := t.val a cp) (by simp [results, Tryz.results136, go_sem, Nd.val]) rfl ?_
    have HF := ((nbelow1 w (.cells #[.int .i64 t.kind, .string t.text, .int .i64 t.n, .slice a t.kids.length cp, .int .i64 t.place] 24)).alloc (nbelow1 _ _).size (.cells #[.int .i64 t.kind, .string t.text, .int .i64 t.n, .slice a t.kids.length cp, .int .i64 t.place] 24))
    exact ⟨rfl, HW.out.below HF, grown_of HF⟩
  | ok r =>
    obtain ⟨hd1, av, hav, hl⟩ := hd r rfl
    obtain ⟨i, rfl, hp⟩ := hS.out.ok
    obtain ⟨⟨p0, p1, p2, p3, p4⟩, -⟩ := hp.cells
    have hpl := hp.plt
    obtain ⟨⟨c0, c1, c2, c3, c4⟩, -⟩ := N0.out.cells
    have C := Lib.hid (rDepth_any t a cp w.heap.size V (Nd.lies.hold t (lies_move hl (fun b hb => HBV.out.block b (hav b hb)) hav)) HBV.out.size (by omega))
    have hsz : w.heap.size < V.heap.size ∧ w.heap.size + 1 < V.heap.size := by rw [hsV.out]; omega
    have hpP : w.heap.size + 1 ≠ P ∧ w.heap.size + 1 ≠ g := ⟨by have := hb0.out.1; omega, by have := hb0.out.2; omega⟩
    clear h hd hl hav hp
    go_enter Tryz.func136, Tryz.ntmps136
    subst hV
    by_cases hk : 100 < depthN t
    · have hk' : (100 : Int) < (depthN t : Int) := by omega
      have R := Lib.hid (show madeX t (.ok (ts.drop i)) = .error (75, t.place) from if_pos hk)
      clear hk
      go_wp2_with fail
      (with_reducible refine Calls.mono C.out ?_)
      rintro e w2 ⟨rfl, hb⟩
      have H2 := Lib.hid (hS.out.below hb)
      have HN2 := Lib.hid (N0.out.below hb)
      have HM2 := Lib.hid (N1.out.below hb)
      have HG := Lib.hid (HBV.out.trans (hb.mono HBV.out.size))
      obtain ⟨⟨c0, c1, c2, c3, c4⟩, -⟩ := HN2.out.cells
      obtain ⟨i', hi', hp2⟩ := H2.out.ok
      have C2 := Lib.hid (pfail_any P g cap ts i' nest w2 75 t.place hp2)
      have hsz2 : w.heap.size < w2.heap.size ∧ w.heap.size + 1 < w2.heap.size := ⟨HN2.out.lt, HM2.out.lt⟩
      clear hb hp2 hi' p0 p1 p2 p3 p4 hpl
      go_wp2_with fail
      (with_reducible refine Calls.mono C2.out ?_)
      rintro e w3 ⟨rfl, hp3, hg⟩
      have HN3 := Lib.hid (HN2.out.grown hg (Nat.ne_of_gt hb0.out.1))
      have HM3 := Lib.hid (HM2.out.grown hg hpP.1)
      obtain ⟨⟨c0, c1, c2, c3, c4⟩, -⟩ := HN3.out.cells
      obtain ⟨⟨z0, z1, z2, z3, z4⟩, ⟨f0, f1, f2, f3, f4⟩⟩ := HM3.out.cells
      have H3 := Lib.hid hp3
      have G3 := Lib.hid (grown_trans (grown_of HG.out) hg)
      have hsz3 : w.heap.size < w3.heap.size ∧ w.heap.size + 1 < w3.heap.size := ⟨HN3.out.lt, HM3.out.lt⟩
      clear hp3 hg
      go_wp2_with fail
      refine bodyPost_ret (v := t.val a cp) (by simp [results, Tryz.results136, go_sem, Nd.val, z0, z1, z2, z3, z4]) rfl ⟨rfl, ?_, grown_put G3.out (Nat.le_succ _) t a cp⟩
      rw [R.out]
      exact (SP.of_error H3.out (by decide) (Int.le_refl _) (by omega)).put hpP.1 hpP.2 t a cp
    · have hk' : ¬ (100 : Int) < (depthN t : Int) := by omega
      have R := Lib.hid (show madeX t (.ok (ts.drop i)) = .ok (ts.drop i) from if_neg hk)
      clear hk
      go_wp2_with fail
      (with_reducible refine Calls.mono C.out ?_)
      rintro e w2 ⟨rfl, hb⟩
      have H2 := Lib.hid (hS.out.below hb)
      have HN2 := Lib.hid (N0.out.below hb)
      have HM2 := Lib.hid (N1.out.below hb)
      have HG := Lib.hid (HBV.out.trans (hb.mono HBV.out.size))
      obtain ⟨⟨c0, c1, c2, c3, c4⟩, -⟩ := HN2.out.cells
      obtain ⟨⟨z0, z1, z2, z3, z4⟩, ⟨f0, f1, f2, f3, f4⟩⟩ := HM2.out.cells
      have hsz2 : w.heap.size < w2.heap.size ∧ w.heap.size + 1 < w2.heap.size := ⟨HN2.out.lt, HM2.out.lt⟩
      clear hb p0 p1 p2 p3 p4 hpl
      go_wp2_with fail
      refine bodyPost_ret (v := t.val a cp) (by simp [results, Tryz.results136, go_sem, Nd.val, z0, z1, z2, z3, z4]) rfl ⟨rfl, ?_, grown_put (grown_of HG.out) (Nat.le_succ _) t a cp⟩
      rw [R.out]
      exact H2.out.put hpP.1 hpP.2 t a cp

end Go.Proofs.YtcndknkdhlmdnaaGreatDoor

/-
  usanceref07's parser: what stands next, told by where the reading stands; what the parts of the parser do.
-/
namespace Go.Proofs.YtcndknkdhlmdnaaGreatDoor
open Go.RowKit
set_option maxRecDepth 100000

def stepX (σ : Sx) : Sx := match σ with
  | .ok r => .ok (stepL r)
  | .error e => .error e
/-- a token of bounds that memory may hold -/
def TkOk (t : Tk) : Prop := (Lit.int .i64 t.n).wf = true ∧ (Lit.int .i64 t.pos).wf = true ∧ t.text.length ≤ 16384
section
variable (P g cap : Nat) (ts : List Tk)
theorem SP.mem {P g cap : Nat} {ts : List Tk} {nest : Nat} {l : List Tk} {w : World} (h : SP P g cap ts nest (.ok l) w) : hd l ∈ ts := by
  obtain ⟨a, rfl, hp⟩ := h.ok
  rw [hd_at hp.pos]; exact List.getElem_mem _
theorem plook_s (nest : Nat) (σ : Sx) (w : World) (h : SP P g cap ts nest σ w) :
    Calls Tryz.prog 97 #[.pointer (some ⟨P, 0, none⟩)] w fun e w' => ∃ t : Tk, e = .returned (tkV t) ∧ Below w.heap.size w w' ∧ ∀ r, σ = .ok r → t = hd r := by
  obtain ⟨a, n, c, f, hp, hr⟩ := h
  refine (plook_any P g cap ts a n c f w hp).mono ?_
  rintro e w' ⟨rfl, hb⟩
  refine ⟨_, rfl, hb, fun r hs => ?_⟩
  subst hs
  rw [hr.1, hd_at hp.pos]
theorem pis_s (nest : Nat) (σ : Sx) (x : ByteArray) (w : World) (h : SP P g cap ts nest σ w) :
    Calls Tryz.prog 130 #[.pointer (some ⟨P, 0, none⟩), .string x] w fun e w' => ∃ b : Bool, e = .returned (.bool b) ∧ Below w.heap.size w w' ∧ ∀ r, σ = .ok r → b = isT x.data.toList r := by
  obtain ⟨a, n, c, f, hp, hr⟩ := h
  refine (pis_any P g cap ts a n c f x w hp).mono ?_
  rintro e w' ⟨rfl, hb⟩
  refine ⟨_, rfl, hb, fun r hs => ?_⟩
  subst hs
  rw [hr.1]
theorem pstep_s (nest : Nat) (σ : Sx) (w : World) (h : SP P g cap ts nest σ w) (he : Ends ts) :
    Calls Tryz.prog 131 #[.pointer (some ⟨P, 0, none⟩)] w (TkP P g cap ts nest σ (stepX σ) w) := by
  obtain ⟨a, n, c, f, hp, hr⟩ := h
  refine (pstep_any P g cap ts a n c f w hp he).mono ?_
  rintro e w' ⟨a', ⟨ha, rfl⟩, hp', hs, hg, -⟩
  refine ⟨_, rfl, ⟨a', n, c, f, hp', ?_⟩, hg, fun r h => ?_⟩
  · cases σ with
    | ok r =>
      obtain ⟨rfl, h1, h2, h3⟩ := hr
      exact ⟨hs, h1, h2, h3⟩
    | error e => exact hr
  · subst h
    rw [hr.1, hd_at ha]

/-! ### what the parser's parts do -/
def CE (l : List Tk) : Prop := ∀ (nest : Nat) (w : World), nest ≤ 300 → SP P g cap ts nest (.ok l) w → Calls Tryz.prog 96 #[.pointer (some ⟨P, 0, none⟩)] w (RdP P g cap ts nest (rd .expr nest l) w)
def CC (lv : Nat) (l : List Tk) : Prop := ∀ (nest : Nat) (w : World), nest ≤ 300 → SP P g cap ts nest (.ok l) w → Calls Tryz.prog 134 #[.pointer (some ⟨P, 0, none⟩), .int .i64 lv] w (RdP P g cap ts nest (rd (.chain lv) nest l) w)
def CN (l : List Tk) : Prop := ∀ (nest : Nat) (w : World), nest ≤ 300 → SP P g cap ts nest (.ok l) w → Calls Tryz.prog 185 #[.pointer (some ⟨P, 0, none⟩)] w (RdP P g cap ts nest (rd .not nest l) w)
def CU (l : List Tk) : Prop := ∀ (nest : Nat) (w : World), nest ≤ 300 → SP P g cap ts nest (.ok l) w → Calls Tryz.prog 186 #[.pointer (some ⟨P, 0, none⟩)] w (RdP P g cap ts nest (rd .unary nest l) w)
def CA (l : List Tk) : Prop := ∀ (nest : Nat) (w : World), nest ≤ 300 → SP P g cap ts nest (.ok l) w → Calls Tryz.prog 210 #[.pointer (some ⟨P, 0, none⟩)] w (RdP P g cap ts nest (rd .atom nest l) w)
def CL (lv : Nat) (l : List Tk) : Prop := ∀ (nest : Nat) (w : World), nest ≤ 300 → SP P g cap ts nest (.ok l) w → Calls Tryz.prog 158 #[.pointer (some ⟨P, 0, none⟩), .int .i64 lv] w (RdP P g cap ts nest (rd (lower lv) nest l) w)
end
theorem nd0_val : nd0.val none 0 = .agg #[.int .i64 0, .string ⟨#[]⟩, .int .i64 0, .slice none 0 0, .int .i64 0] := rfl
/-- what was read, once it is written over the result's cell -/
theorem RdP.fin {P g cap : Nat} {ts : List Tk} {nest : Nat} {x : Rd} {w w2 : World} {b : Nat} {t : Nd} {a : Option Addr} {cp : Nat} (hs : SP P g cap ts nest (outX x) w2) (hg : w.grownBy w2 (some P)) (hP : b ≠ P ∧ b ≠ g) (hb : w.heap.size ≤ b)
    (hk : ∀ t' r, x = .ok (t', r) → t' = t ∧ (∃ av : Nat → Prop, (∀ c, av c → c ≠ b ∧ w.heap.size ≤ c ∧ c < w2.heap.size) ∧ t.lies av w2 a cp) ∧ depthN t ≤ 100) : RdP P g cap ts nest x w (.returned (t.val a cp)) (put5 w2 b t a cp) := by
  refine ⟨t, a, cp, rfl, hs.put hP.1 hP.2 t a cp, grown_put hg hb t a cp, fun t' r hx => ?_⟩
  obtain ⟨e, ⟨av, hav, hl⟩, hd⟩ := hk t' r hx
  exact ⟨e, lies_move hl ((KeepsV.refl _ _).put (fun c hc => (hav c hc).1) t a cp) (fun c hc => ⟨(hav c hc).2.1, by rw [size_put]; exact (hav c hc).2.2⟩), hd⟩

set_option maxHeartbeats 2000000 in
theorem ppart_any (P g cap : Nat) (ts : List Tk) (nest : Nat) (σ : Sx) (w : World) (hn : nest ≤ 300) (h : SP P g cap ts nest σ w) (hc : ∀ r, σ = .ok r → CE P g cap ts r) :
    Calls Tryz.prog 135 #[.pointer (some ⟨P, 0, none⟩)] w (RdP P g cap ts nest (goX σ (rd .expr nest)) w) := by
  obtain ⟨V, hV⟩ : ∃ V, V = w.alloc (.cells #[.int .i64 0, .string ⟨#[]⟩, .int .i64 0, .slice none 0 0, .int .i64 0] 24) := ⟨_, rfl⟩
  have HBV := Lib.hid (show Below w.heap.size w V from hV ▸ nbelow1 w _)
  have N1 := Lib.hid (show NBox w.heap.size nd0 none 0 V from hV ▸ NBox.make w nd0 none 0)
  have hS := Lib.hid (h.below HBV.out)
  have hb0 := Lib.hid h.blocks
  have hpP : w.heap.size ≠ P ∧ w.heap.size ≠ g := ⟨Nat.ne_of_gt hb0.out.1, Nat.ne_of_gt hb0.out.2⟩
  have HP := Lib.hid hpP
  cases σ with
  | error q =>
    obtain ⟨c, p⟩ := q
    obtain ⟨hk, i, n, hp, h1, h2⟩ := hS.out.error
    have ek : (c != 0) = true := bne_iff_ne.2 hk
    have HK := Lib.hid hk
    obtain ⟨⟨p0, p1, p2, p3, p4⟩, -⟩ := hp.cells
    have hpl := hp.plt
    have HW := Lib.hid h
    clear h hc hp hk hpP
    subst hV
    go_enter Tryz.func135, Tryz.ntmps135
    go_wp2_with fail
    refine bodyPost_ret (v := nd0.val none 0) (by simp [results, Tryz.results135, go_sem, nd0_val]) rfl ?_
    have HF := nbelow1 w (.cells #[.int .i64 0, .string ⟨#[]⟩, .int .i64 0, .slice none 0 0, .int .i64 0] 24)
    exact RdP.err nd0 none 0 rfl (HW.out.below HF) (grown_of HF)
  | ok r =>
    obtain ⟨i, hi, hp⟩ := hS.out.ok
    obtain ⟨⟨p0, p1, p2, p3, p4⟩, -⟩ := hp.cells
    have hpl := hp.plt
    have C := Lib.hid (hc r rfl nest V hn hS.out)
    clear h hc hp hpP hi
    subst hV
    go_enter Tryz.func135, Tryz.ntmps135
    go_wp2_with fail
    (with_reducible refine Calls.mono C.out ?_)
    rintro e w2 ⟨t, a, cp, rfl, hs, hg, hk⟩
    have HS2 := Lib.hid hs
    have HG2 := Lib.hid hg
    have HK := Lib.hid hk
    obtain ⟨⟨z0, z1, z2, z3, z4⟩, ⟨f0, f1, f2, f3, f4⟩⟩ := (N1.out.grown hg HP.out.1).cells
    have hsz : w.heap.size < w2.heap.size := (N1.out.grown hg HP.out.1).lt
    clear hs hg hk p0 p1 p2 p3 p4 hpl
    unfold Nd.val
    go_wp2_with fail
    refine bodyPost_ret (v := t.val a cp) (by simp [results, Tryz.results135, go_sem, Nd.val, z0, z1, z2, z3, z4]) rfl ?_
    refine RdP.fin HS2.out (grown_trans (grown_of HBV.out) HG2.out) HP.out (Nat.le_refl _) fun t' r' hx => ?_
    obtain ⟨e, hl, hd⟩ := HK.out t' r' hx
    exact ⟨e, ⟨_, fun c hc => ⟨fun e => by subst e; have := hc.1; simp at this; omega, Nat.le_trans HBV.out.size hc.1, hc.2⟩, hl⟩, hd⟩

end Go.Proofs.YtcndknkdhlmdnaaGreatDoor

/-
  usanceref07's parser: a not, a -, ahead of what stands behind it.
-/
namespace Go.Proofs.YtcndknkdhlmdnaaGreatDoor
open Go.RowKit
set_option maxRecDepth 100000

theorem wf_12 : (Lit.int .i64 12).wf = true := rfl
theorem wf_0 : (Lit.int .i64 0).wf = true := rfl
/-- a node of one kid, over a token -/
theorem lies_kid1 {av : Nat → Prop} {W : World} {t : Nd} {a : Option Addr} {cp b : Nat} {k : Int} {T : Tk} {A : TypeId} (hk : (Lit.int .i64 k).wf = true) (hT : TkOk T) (hb : av b) (h : W.heap[b]? = some (.cells #[.int .i64 t.kind, .string t.text, .int .i64 t.n, .slice a t.kids.length cp, .int .i64 t.place] A (0, 0))) (hl : t.lies av W a cp) :
    (mkN k T.text 0 [t] T.pos).lies av W (some ⟨b, 0, none⟩) 1 :=
  Nd.lies.mk' hk (by have := hT.2.2; show T.text.toArray.size ≤ maxLen; unfold maxLen; simp; omega) rfl hT.2.1 (Nat.le_refl _) (by unfold maxLen; decide) (lie_one hb h hl)
theorem depth_kid1 (k : Int) (s : List UInt8) (n p : Int) (t : Nd) : depthN (mkN k s n [t] p) = depthN t + 1 := by
  unfold mkN; rw [depthN, depthKs, depthKs, Nat.max_zero]

theorem NBox.oput {b c : Nat} {t : Nd} {a : Option Addr} {cp : Nat} {W : World} (h : NBox b t a cp W) (hc : b ≠ c) (t' : Nd) (a' : Option Addr) (cp' : Nat) : NBox b t a cp (put5 W c t' a' cp') := ((((h.set hc _ _).set hc _ _).set hc _ _).set hc _ _).set hc _ _
theorem TBox.oput {b c : Nat} {t : Tk} {W : World} (h : TBox b t W) (hc : b ≠ c) (t' : Nd) (a' : Option Addr) (cp' : Nat) : TBox b t (put5 W c t' a' cp') := ((((h.set hc _ _).set hc _ _).set hc _ _).set hc _ _).set hc _ _
theorem pmade_s (P g cap : Nat) (ts : List Tk) (nest : Nat) (σ : Sx) (k : Int) (s : List UInt8) (n : Int) (ks : List Nd) (p : Int) (a : Option Addr) (len cp : Nat) (hlen : ks.length = len) (w : World) (hn : nest ≤ 300) (h : SP P g cap ts nest σ w)
    (hd : ∀ r, σ = .ok r → depthN (mkN k s n ks p) ≤ 101 ∧ ∃ av : Nat → Prop, (∀ b, av b → b < w.heap.size) ∧ (mkN k s n ks p).lies av w a cp) :
    Calls Tryz.prog 136 #[.pointer (some ⟨P, 0, none⟩), .agg #[.int .i64 k, .string ⟨s.toArray⟩, .int .i64 n, .slice a len cp, .int .i64 p]] w (MadeP P g cap ts nest σ (mkN k s n ks p) a cp w) := by
  subst hlen
  exact pmade_any P g cap ts nest σ (mkN k s n ks p) a cp w hn h hd

set_option maxHeartbeats 2000000 in
theorem pprefix_any (P g cap : Nat) (ts : List Tk) (he : Ends ts) (htk : ∀ t ∈ ts, TkOk t) (u : Bool) (l : List Tk) (nest : Nat) (w : World) (hn : nest ≤ 300) (h : SP P g cap ts nest (.ok l) w) (hc : (u = true → CU P g cap ts (stepL l)) ∧ (u = false → CN P g cap ts (stepL l))) :
    Calls Tryz.prog 209 #[.pointer (some ⟨P, 0, none⟩), .bool u] w (RdP P g cap ts nest (nestT nest l ((rd (if u = true then .unary else .not) (nest + 1) (stepL l)).then fun t r => made (mkN 12 (hd l).text 0 [t] (hd l).pos) r)) w) := by
  obtain ⟨V, hV⟩ : ∃ V, V = (w.alloc (.cells #[.int .i64 0, .string ⟨#[]⟩, .int .i64 0, .slice none 0 0, .int .i64 0] 24)).alloc (.cells #[.int .i64 0, .string ⟨#[]⟩, .int .i64 0, .slice none 0 0, .int .i64 0] 24) := ⟨_, rfl⟩
  have HBV := Lib.hid (show Below w.heap.size w V from hV ▸ (nbelow1 w _).trans ((nbelow1 _ _).mono (nbelow1 w _).size))
  have hsV := Lib.hid (show V.heap.size = w.heap.size + 2 by rw [hV]; simp)
  have N1 := Lib.hid (show NBox w.heap.size nd0 none 0 V from hV ▸ (NBox.make w nd0 none 0).below (nbelow1 _ _))
  have N2 := Lib.hid (show NBox (w.heap.size + 1) nd0 none 0 V by
    have := NBox.make (w.alloc (.cells #[.int .i64 0, .string ⟨#[]⟩, .int .i64 0, .slice none 0 0, .int .i64 0] 24)) nd0 none 0
    rw [hV]
    simpa [nd0, Nd.kind, Nd.text, Nd.n, Nd.kids, Nd.place] using this)
  have hS := Lib.hid (h.below HBV.out)
  have hb0 := Lib.hid h.blocks
  have HP := Lib.hid (show (w.heap.size ≠ P ∧ w.heap.size ≠ g) ∧ (w.heap.size + 1 ≠ P ∧ w.heap.size + 1 ≠ g) by have := hb0.out; omega)
  have C1 := Lib.hid (penter_any P g cap ts nest l V hn hS.out)
  have HC := Lib.hid hc
  have HT0 := Lib.hid (htk _ h.mem)
  obtain ⟨X, hX⟩ : ∃ X, X = nestT nest l ((rd (if u = true then .unary else .not) (nest + 1) (stepL l)).then fun t r => made (mkN 12 (hd l).text 0 [t] (hd l).pos) r) := ⟨_, rfl⟩
  rw [← hX]
  have HX := Lib.hid hX
  clear h hc htk hX
  go_enter Tryz.func209, Tryz.ntmps209
  go_wp2_with fail
  rw [← hV]
  clear hV
  (with_reducible refine Calls.mono C1.out ?_)
  rintro e w2 ⟨rfl, hs2, hg2⟩
  have B1 := Lib.hid (N1.out.grown hg2 HP.out.1.1)
  have B2 := Lib.hid (N2.out.grown hg2 HP.out.2.1)
  have G2 := Lib.hid (grown_trans (grown_of HBV.out) hg2)
  have hsz : w.heap.size < w2.heap.size ∧ w.heap.size + 1 < w2.heap.size := ⟨B1.out.lt, B2.out.lt⟩
  clear hg2
  by_cases hk : 300 < nest + 1
  · have R := Lib.hid (show X = .error (75, (hd l).pos) from HX.out.trans (if_pos hk))
    have E : enterX nest (.ok l) = .error (75, (hd l).pos) := if_pos hk
    rw [E] at hs2
    obtain ⟨-, i, n, hp, -, -⟩ := hs2.error
    obtain ⟨⟨p0, p1, p2, p3, p4⟩, -⟩ := hp.cells
    have hpl := hp.plt
    obtain ⟨⟨z0, z1, z2, z3, z4⟩, ⟨f0, f1, f2, f3, f4⟩⟩ := B1.out.cells
    obtain ⟨⟨n0, n1, n2, n3, n4⟩, -⟩ := B2.out.cells
    have HS2 := Lib.hid (hs2.mono (Nat.le_succ nest))
    clear hk E hs2 hp
    go_wp2_with fail
    refine bodyPost_ret (v := nd0.val none 0) (by simp [results, Tryz.results209, go_sem, Nd.val, z0, z1, z2, z3, z4]) rfl ?_
    rw [R.out]
    exact RdP.fin (x := .error (75, (hd l).pos)) HS2.out G2.out HP.out.1 (Nat.le_refl _) (fun _ _ h => by cases h)
  · have R := Lib.hid (show X = ((rd (if u = true then .unary else .not) (nest + 1) (stepL l)).then fun t r => made (mkN 12 (hd l).text 0 [t] (hd l).pos) r) from HX.out.trans (if_neg hk))
    have E : enterX nest (.ok l) = .ok l := if_neg hk
    rw [E] at hs2
    obtain ⟨i, -, hp⟩ := hs2.ok
    obtain ⟨⟨p0, p1, p2, p3, p4⟩, -⟩ := hp.cells
    have hpl := hp.plt
    have C2 := Lib.hid (pstep_s P g cap ts (nest + 1) (.ok l) w2 hs2 he)
    have hn1 := Lib.hid (show nest + 1 ≤ 300 by omega)
    clear hk E hs2 hp
    go_wp2_with fail
    (with_reducible refine Calls.mono C2.out ?_)
    rintro e w3 ⟨T, rfl, hs3, hg3, hT⟩
    have HT := Lib.hid (hT l rfl)
    clear hT
    have D1 := Lib.hid (B1.out.grown hg3 HP.out.1.1)
    have D2 := Lib.hid (B2.out.grown hg3 HP.out.2.1)
    have G3 := Lib.hid (grown_trans G2.out hg3)
    obtain ⟨W4, hW4⟩ : ∃ W, W = w3.alloc (.cells #[.int .i64 T.kind, .string ⟨T.text.toArray⟩, .int .i64 T.n, .int .i64 T.pos] 39) := ⟨_, rfl⟩
    have HB4 := Lib.hid (show Below w3.heap.size w3 W4 from hW4 ▸ nbelow1 _ _)
    have T4 := Lib.hid (show TBox w3.heap.size T W4 from hW4 ▸ TBox.make w3 T)
    have HS4 := Lib.hid (SP.below hs3 HB4.out)
    have E1 := Lib.hid (D1.out.below HB4.out)
    have E2 := Lib.hid (D2.out.below HB4.out)
    have G4 := Lib.hid (pgrown_below G3.out (HB4.out.mono G3.out.size))
    have hP3 := Lib.hid (show w3.heap.size ≠ P ∧ w3.heap.size ≠ g by have := hs3.blocks; omega)
    have hsz4 := Lib.hid (show w.heap.size + 1 < w3.heap.size from D2.out.lt)
    clear hs3 hg3 p0 p1 p2 p3 p4 hpl
    unfold tkV
    cases u
    case' false =>
      have C3 := Lib.hid (HC.out.2 rfl (nest + 1) W4 hn1.out HS4.out)
      have R' := Lib.hid (show X = Rd.then (rd .not (nest + 1) (stepL l)) (fun t r => made (mkN 12 (hd l).text 0 [t] (hd l).pos) r) from R.out)
      generalize rd .not (nest + 1) (stepL l) = y at R' C3
    case' true =>
      have C3 := Lib.hid (HC.out.1 rfl (nest + 1) W4 hn1.out HS4.out)
      have R' := Lib.hid (show X = Rd.then (rd .unary (nest + 1) (stepL l)) (fun t r => made (mkN 12 (hd l).text 0 [t] (hd l).pos) r) from R.out)
      generalize rd .unary (nest + 1) (stepL l) = y at R' C3
    all_goals
      clear R HX
      go_wp2_with fail
      rw [← hW4]
      clear hW4
      (with_reducible refine Calls.mono C3.out ?_)
      rintro e w5 ⟨t, a, cp, rfl, hs5, hg5, hk5⟩
      unfold Nd.val
      clear C3
      have F1 := Lib.hid ((E1.out.grown hg5 HP.out.1.1).oput (c := w.heap.size + 1) (by omega) t a cp)
      have F2 := Lib.hid ((E2.out.grown hg5 HP.out.2.1).put t a cp)
      have F3 := Lib.hid ((T4.out.grown hg5 hP3.out.1).oput (c := w.heap.size + 1) (by have := hsz4.out; omega) t a cp)
      have HS6 := Lib.hid (hs5.put HP.out.2.1 HP.out.2.2 t a cp)
      have G6 := Lib.hid (grown_put (grown_trans G4.out hg5) (show w.heap.size ≤ w.heap.size + 1 by omega) t a cp)
      have HK5 := Lib.hid hk5
      have hsz5 := Lib.hid (show W4.heap.size ≤ w5.heap.size from hg5.size)
      obtain ⟨⟨z0, z1, z2, z3, z4⟩, ⟨f0, f1, f2, f3, f4⟩⟩ := (E2.out.grown hg5 HP.out.2.1).cells
      clear hs5 hg5 hk5
      obtain ⟨W6, hW6⟩ : ∃ W, W = put5 w5 (w.heap.size + 1) t a cp := ⟨_, rfl⟩
      rw [← hW6] at F1 F2 F3 HS6 G6
      go_upto_region 9 with fail
      have hW6' := hW6
      unfold put5 at hW6'
      rw [← hW6']
      clear hW6' z0 z1 z2 z3 z4 f0 f1 f2 f3 f4
      have HW6 := Lib.hid hW6
      clear hW6
      obtain ⟨m, hm1, hm2, p2, q2, hs7⟩ := HS6.out.nest
      obtain ⟨W7, hW7⟩ : ∃ W, W = W6.setCell ⟨P, 2, none⟩ (.int .i64 (m - 1)) := ⟨_, rfl⟩
      have J1 := Lib.hid (show NBox w.heap.size nd0 none 0 W7 from hW7 ▸ F1.out.set HP.out.1.1 _ _)
      have J2 := Lib.hid (show NBox (w.heap.size + 1) t a cp W7 from hW7 ▸ F2.out.set HP.out.2.1 _ _)
      have J3 := Lib.hid (show TBox w3.heap.size T W7 from hW7 ▸ F3.out.set hP3.out.1 _ _)
      have HS7 := Lib.hid (show SP P g cap ts nest _ W7 from hW7 ▸ hs7)
      have G7 := Lib.hid (show w.grownBy W7 (some P) from hW7 ▸ grown_trans G6.out (grown_set _ _ _ _))
      have hpl := HS6.out.blocks.1
      clear hs7
      go_upto_region 10 with fail
      rw [← hW7]
      have HW7 := Lib.hid hW7
      clear hW7 p2 q2 hpl
      obtain ⟨⟨t0, t1, t2, t3⟩, -⟩ := J3.out.cells
      obtain ⟨⟨n0, n1, n2, n3, n4⟩, -⟩ := J2.out.cells
      obtain ⟨W8, hW8⟩ : ∃ W, W = W7.alloc (.cells #[.int .i64 t.kind, .string t.text, .int .i64 t.n, .slice a t.kids.length cp, .int .i64 t.place] 24) := ⟨_, rfl⟩
      have HB8 := Lib.hid (show Below W7.heap.size W7 W8 from hW8 ▸ nbelow1 _ _)
      have K1 := Lib.hid (J1.out.below HB8.out)
      have K3 := Lib.hid (J3.out.below HB8.out)
      have K4 := Lib.hid (show NBox W7.heap.size t a cp W8 from hW8 ▸ NBox.make W7 t a cp)
      have HS8 := Lib.hid (HS7.out.below HB8.out)
      have G8 := Lib.hid (pgrown_below G7.out (HB8.out.mono G7.out.size))
      have hsz7 := Lib.hid (show w5.heap.size = W7.heap.size by rw [HW7.out, HW6.out]; simp [World.setCell, size_put])
      have hbw := Lib.hid (show P < W4.heap.size ∧ w3.heap.size < W4.heap.size from ⟨HS4.out.blocks.1, T4.out.lt⟩)
      have HD := Lib.hid (show ∀ r, outX y = .ok r → depthN (mkN 12 T.text 0 [t] T.pos) ≤ 101 ∧ (mkN 12 T.text 0 [t] T.pos).lies (Fr W4.heap.size W8.heap.size) W8 (some ⟨W7.heap.size, 0, none⟩) 1 from fun r hr => by
        obtain ⟨t', ht'⟩ := out_inv hr
        obtain ⟨rfl, hl, hd⟩ := HK5.out t' r ht'
        refine ⟨by rw [depth_kid1]; omega, lies_kid1 rfl (HT.out ▸ HT0.out) ⟨by have := hsz5.out; have := hsz7.out; omega, K4.out.lt⟩ K4.out (lies_move hl ?_ fun b hb => ⟨hb.1, by have := hsz7.out; have := HB8.out.size; have := hb.2; omega⟩)⟩
        have k1 : KeepsV (Fr W4.heap.size w5.heap.size) w5 W7 := by
          rw [HW7.out, HW6.out]
          exact ((KeepsV.refl _ w5).put (fun b hb e => by subst e; have := hb.1; have := hbw.out.2; have := hsz4.out; omega) _ _ _).set (fun b hb e => by subst e; have := hb.1; have := hbw.out.1; omega) _ _
        exact k1.trans fun b hb => HB8.out.block b (by have := hb.2; have := hsz7.out; omega))
      have C4 := Lib.hid (pmade_s P g cap ts nest (outX y) 12 T.text 0 [t] T.pos (some ⟨W7.heap.size, 0, none⟩) 1 1 rfl W8 hn HS8.out fun r hr => ⟨(HD.out r hr).1, _, fun b hb => hb.2, (HD.out r hr).2⟩)
      obtain ⟨⟨u0, u1, u2, u3⟩, -⟩ := K3.out.cells
      subst hW8
      go_wp2_with fail
      (with_reducible refine Calls.mono C4.out ?_)
      rintro e w9 ⟨rfl, hs9, hg9⟩
      have hB7 : w.heap.size < W7.heap.size := J1.out.lt
      obtain ⟨⟨z0, z1, z2, z3, z4⟩, ⟨f0, f1, f2, f3, f4⟩⟩ := (K1.out.grown hg9 HP.out.1.1).cells
      have hsz9 : w.heap.size < w9.heap.size := (K1.out.grown hg9 HP.out.1.1).lt
      have HS9 := Lib.hid hs9
      have G9 := Lib.hid (grown_trans G8.out hg9)
      have HG9 := Lib.hid hg9
      clear hs9 hg9 t0 t1 t2 t3 n0 n1 n2 n3 n4 u0 u1 u2 u3
      rw [show (mkN 12 T.text 0 [t] T.pos).val (some ⟨W7.heap.size, 0, none⟩) 1 = .agg #[.int .i64 12, .string ⟨T.text.toArray⟩, .int .i64 0, .slice (some ⟨W7.heap.size, 0, none⟩) 1 1, .int .i64 T.pos] from rfl]
      go_wp2_with fail
      refine bodyPost_ret (v := (mkN 12 T.text 0 [t] T.pos).val (some ⟨W7.heap.size, 0, none⟩) 1) (by simp [results, Tryz.results209, go_sem, Nd.val, mkN, Nd.kind, Nd.text, Nd.n, Nd.kids, Nd.place, z0, z1, z2, z3, z4]) rfl ?_
      have hX : X = goX (outX y) (made (mkN 12 T.text 0 [t] T.pos)) := by
        rw [R'.out, then_go (t := t) (fun t' r h => (HK5.out t' r h).1), HT.out]
      have hO : outX X = madeX (mkN 12 T.text 0 [t] T.pos) (outX y) := by rw [hX, out_made]
      refine RdP.fin (by rw [hO]; exact HS9.out) G9.out HP.out.1 (Nat.le_refl _) fun t' r hx => ?_
      rw [hX] at hx
      obtain ⟨e1, e2, e3⟩ := is_made _ _ hx
      refine ⟨e1, ⟨_, fun c hc => ⟨?_, ?_, Nat.lt_of_lt_of_le hc.2 HG9.out.size⟩, lies_move (HD.out r e2).2 ((KeepsV.refl _ _).grown HG9.out fun b hb => ⟨hb.2, ?_⟩) fun b hb => hb⟩, e3⟩
      · rintro rfl
        have := hc.1; have := hbw.out.2; have := hsz4.out; omega
      · have := hc.1; have := hbw.out.2; have := hsz4.out; omega
      · rintro rfl
        have := hb.1; have := hbw.out.1; omega

end Go.Proofs.YtcndknkdhlmdnaaGreatDoor
