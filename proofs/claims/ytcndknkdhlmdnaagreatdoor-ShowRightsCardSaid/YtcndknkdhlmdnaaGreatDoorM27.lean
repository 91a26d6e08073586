/-
  Texts that the statements' proofs rest on, one behind another: ParJ, ParK, ParL, ParM.
-/
import Derived.Test.YtcndknkdhlmdnaaGreatDoorM26

/-
  usanceref07's parser: a unary expression; what a chain's parts are.
-/
namespace Go.Proofs.YtcndknkdhlmdnaaGreatDoor
open Go.RowKit
set_option maxRecDepth 100000

set_option maxHeartbeats 2000000 in
theorem punary_any (P g cap : Nat) (ts : List Tk) (he : Ends ts) (htk : ∀ t ∈ ts, TkOk t) (l : List Tk) (hA : CA P g cap ts l) (hU : isT tMinus l = true → CU P g cap ts (stepL l)) : CU P g cap ts l := by
  intro nest w hn h
  obtain ⟨V, hV⟩ : ∃ V, V = w.alloc (.cells #[.int .i64 0, .string ⟨#[]⟩, .int .i64 0, .slice none 0 0, .int .i64 0] 24) := ⟨_, rfl⟩
  have HBV := Lib.hid (show Below w.heap.size w V from hV ▸ nbelow1 w _)
  have N1 := Lib.hid (show NBox w.heap.size nd0 none 0 V from hV ▸ NBox.make w nd0 none 0)
  have hS := Lib.hid (h.below HBV.out)
  have hb0 := Lib.hid h.blocks
  have HP := Lib.hid (show w.heap.size ≠ P ∧ w.heap.size ≠ g from ⟨Nat.ne_of_gt hb0.out.1, Nat.ne_of_gt hb0.out.2⟩)
  have C1 := Lib.hid (pis_s P g cap ts nest (.ok l) ⟨#[45]⟩ V hS.out)
  have HA := Lib.hid hA
  have HU := Lib.hid hU
  have HTK := Lib.hid htk
  obtain ⟨X, hX⟩ : ∃ X, X = rd .unary nest l := ⟨_, rfl⟩
  rw [← hX]
  have HX := Lib.hid (hX.trans (rd_eq .unary nest l))
  clear hX h hA hU htk
  go_enter Tryz.func186, Tryz.ntmps186
  go_wp2_with fail
  rw [← hV]
  have HVs := Lib.hid (show w.heap.size < V.heap.size from N1.out.lt)
  clear hV
  (with_reducible refine Calls.mono C1.out ?_)
  rintro e w2 ⟨b, rfl, hb, hbt⟩
  have HT := Lib.hid (hbt l rfl)
  have HS2 := Lib.hid (hS.out.below hb)
  have N2 := Lib.hid (N1.out.below hb)
  have G2 := Lib.hid (grown_of (r := some P) (HBV.out.trans (hb.mono HBV.out.size)))
  clear hbt hb
  cases b
  case' true =>
    have R := Lib.hid (show X = nestT nest l ((rd (if true = true then .unary else .not) (nest + 1) (stepL l)).then fun t r => made (mkN 12 (hd l).text 0 [t] (hd l).pos) r) from HX.out.trans (if_pos HT.out.symm))
    have C3 := Lib.hid (pprefix_any P g cap ts he HTK.out true l nest w2 hn HS2.out ⟨fun _ => HU.out HT.out.symm, fun h => by cases h⟩)
    rw [← R.out] at C3
  case' false =>
    have R := Lib.hid (show X = rd .atom nest l from HX.out.trans (if_neg (by rw [show isT tMinus l = false from HT.out.symm]; decide)))
    have C3 := Lib.hid (HA.out nest w2 hn HS2.out)
    rw [← R.out] at C3
  all_goals
    go_wp2_with fail
    (with_reducible refine Calls.mono C3.out ?_)
    rintro e w3 ⟨t, a, cp, rfl, hs, hg, hk⟩
    have HS3 := Lib.hid hs
    have G3 := Lib.hid (grown_trans G2.out hg)
    have HK := Lib.hid hk
    obtain ⟨⟨z0, z1, z2, z3, z4⟩, ⟨f0, f1, f2, f3, f4⟩⟩ := (N2.out.grown hg HP.out.1).cells
    have hsz : w.heap.size < w3.heap.size := (N2.out.grown hg HP.out.1).lt
    have hsz2 := Lib.hid N2.out.lt
    clear hs hg hk
    unfold Nd.val
    go_wp2_with fail
    refine bodyPost_ret (v := t.val a cp) (by simp [results, Tryz.results186, go_sem, Nd.val, z0, z1, z2, z3, z4]) rfl ?_
    refine RdP.fin HS3.out G3.out HP.out (Nat.le_refl _) fun t' r' hx => ?_
    obtain ⟨e, hl, hd⟩ := HK.out t' r' hx
    exact ⟨e, ⟨_, fun c hc => ⟨fun e => by subst e; have := hc.1; have := hsz2.out; omega, by have := hc.1; have := hsz2.out; omega, hc.2⟩, hl⟩, hd⟩

set_option maxHeartbeats 2000000 in
theorem plower_any (P g cap : Nat) (ts : List Tk) (lv : Nat) (hlv : lv ≤ 3) (l : List Tk) (h0 : lv = 0 → CC P g cap ts 1 l) (h1 : lv = 1 → CN P g cap ts l) (h2 : lv = 2 → CC P g cap ts 3 l) (h3 : lv = 3 → CU P g cap ts l) : CL P g cap ts lv l := by
  intro nest w hn h
  obtain ⟨V, hV⟩ : ∃ V, V = w.alloc (.cells #[.int .i64 0, .string ⟨#[]⟩, .int .i64 0, .slice none 0 0, .int .i64 0] 24) := ⟨_, rfl⟩
  have HBV := Lib.hid (show Below w.heap.size w V from hV ▸ nbelow1 w _)
  have N1 := Lib.hid (show NBox w.heap.size nd0 none 0 V from hV ▸ NBox.make w nd0 none 0)
  have hS := Lib.hid (h.below HBV.out)
  have hb0 := Lib.hid h.blocks
  have HP := Lib.hid (show w.heap.size ≠ P ∧ w.heap.size ≠ g from ⟨Nat.ne_of_gt hb0.out.1, Nat.ne_of_gt hb0.out.2⟩)
  have G1 := Lib.hid (grown_of (r := some P) HBV.out)
  have H0 := Lib.hid h0
  have H1 := Lib.hid h1
  have H2 := Lib.hid h2
  have H3 := Lib.hid h3
  have hsz2 := Lib.hid N1.out.lt
  obtain ⟨X, hX⟩ : ∃ X, X = rd (lower lv) nest l := ⟨_, rfl⟩
  rw [← hX]
  have HX := Lib.hid hX
  clear hX h h0 h1 h2 h3
  have hc : lv = 0 ∨ lv = 1 ∨ lv = 2 ∨ lv = 3 := by omega
  clear hlv
  rcases hc with rfl | rfl | rfl | rfl
  case' inl =>
    have C3 := Lib.hid (H0.out rfl nest V hn hS.out)
    rw [show rd (.chain 1) nest l = X from HX.out.symm] at C3
  case' inr.inl =>
    have C3 := Lib.hid (H1.out rfl nest V hn hS.out)
    rw [show rd .not nest l = X from HX.out.symm] at C3
  case' inr.inr.inl =>
    have C3 := Lib.hid (H2.out rfl nest V hn hS.out)
    rw [show rd (.chain 3) nest l = X from HX.out.symm] at C3
  case' inr.inr.inr =>
    have C3 := Lib.hid (H3.out rfl nest V hn hS.out)
    rw [show rd .unary nest l = X from HX.out.symm] at C3
  all_goals
    clear H0 H1 H2 H3 HX
    go_enter Tryz.func158, Tryz.ntmps158
    go_wp2_with fail
    rw [← hV]
    clear hV
    (with_reducible refine Calls.mono C3.out ?_)
    rintro e w3 ⟨t, a, cp, rfl, hs, hg, hk⟩
    have HS3 := Lib.hid hs
    have G3 := Lib.hid (grown_trans G1.out hg)
    have HK := Lib.hid hk
    obtain ⟨⟨z0, z1, z2, z3, z4⟩, ⟨f0, f1, f2, f3, f4⟩⟩ := (N1.out.grown hg HP.out.1).cells
    have hsz : w.heap.size < w3.heap.size := (N1.out.grown hg HP.out.1).lt
    clear hs hg hk
    unfold Nd.val
    go_wp2_with fail
    refine bodyPost_ret (v := t.val a cp) (by simp [results, Tryz.results158, go_sem, Nd.val, z0, z1, z2, z3, z4]) rfl ?_
    refine RdP.fin HS3.out G3.out HP.out (Nat.le_refl _) fun t' r' hx => ?_
    obtain ⟨e, hl, hd⟩ := HK.out t' r' hx
    exact ⟨e, ⟨_, fun c hc => ⟨fun e => by subst e; have := hc.1; have := hsz2.out; omega, by have := hc.1; have := hsz2.out; omega, hc.2⟩, hl⟩, hd⟩

end Go.Proofs.YtcndknkdhlmdnaaGreatDoor

/-
  usanceref07's parser: Not.
-/
namespace Go.Proofs.YtcndknkdhlmdnaaGreatDoor
open Go.RowKit
set_option maxRecDepth 100000

/-- a node of two kids, over a token -/
theorem lies_kid2 {av : Nat → Prop} {W : World} {t u : Nd} {a a' : Option Addr} {cp cp' b : Nat} {k : Int} {T : Tk} {A : TypeId} (hk : (Lit.int .i64 k).wf = true) (hT : TkOk T) (hb : av b)
    (h : W.heap[b]? = some (.cells #[.int .i64 t.kind, .string t.text, .int .i64 t.n, .slice a t.kids.length cp, .int .i64 t.place, .int .i64 u.kind, .string u.text, .int .i64 u.n, .slice a' u.kids.length cp', .int .i64 u.place] A (0, 0))) (hl : t.lies av W a cp) (hu : u.lies av W a' cp') :
    (mkN k T.text 0 [t, u] T.pos).lies av W (some ⟨b, 0, none⟩) 2 :=
  Nd.lies.mk' hk (by have := hT.2.2; show T.text.toArray.size ≤ maxLen; unfold maxLen; simp; omega) rfl hT.2.1 (Nat.le_refl _) (by unfold maxLen; decide) (lie_two hb h hl hu)
theorem depth_kid2 (k : Int) (s : List UInt8) (n p : Int) (t u : Nd) : depthN (mkN k s n [t, u] p) = max (depthN t) (depthN u) + 1 := by
  unfold mkN; rw [depthN, depthKs, depthKs, depthKs, Nat.max_zero]
theorem any_cmp (l : List Tk) : anyT cmpT l = (isT [60] l || (isT [60, 61] l || isT [61] l)) := by
  show (isT [60] l || (isT [60, 61] l || (isT [61] l || false))) = _
  rw [Bool.or_false]

set_option maxHeartbeats 4000000 in
theorem pnot_any (P g cap : Nat) (ts : List Tk) (he : Ends ts) (htk : ∀ t ∈ ts, TkOk t) (l : List Tk) (hC : CC P g cap ts 2 l) (hC2 : ∀ r, r.length < l.length → CC P g cap ts 2 r) (hN : isT tNot l = true → CN P g cap ts (stepL l)) : CN P g cap ts l := by
  intro nest w hn h
  obtain ⟨V, hV⟩ : ∃ V, V = w.alloc (.cells #[.int .i64 0, .string ⟨#[]⟩, .int .i64 0, .slice none 0 0, .int .i64 0] 24) := ⟨_, rfl⟩
  have HBV := Lib.hid (show Below w.heap.size w V from hV ▸ nbelow1 w _)
  have N1 := Lib.hid (show NBox w.heap.size nd0 none 0 V from hV ▸ NBox.make w nd0 none 0)
  have hS := Lib.hid (h.below HBV.out)
  have hb0 := Lib.hid h.blocks
  have HP := Lib.hid (show w.heap.size ≠ P ∧ w.heap.size ≠ g from ⟨Nat.ne_of_gt hb0.out.1, Nat.ne_of_gt hb0.out.2⟩)
  have C1 := Lib.hid (pis_s P g cap ts nest (.ok l) ⟨#[110, 111, 116]⟩ V hS.out)
  have HC := Lib.hid hC
  have HC2 := Lib.hid hC2
  have HN := Lib.hid hN
  have HTK := Lib.hid htk
  obtain ⟨X, hX⟩ : ∃ X, X = rd .not nest l := ⟨_, rfl⟩
  rw [← hX]
  have HX := Lib.hid (hX.trans (rd_eq .not nest l))
  clear hX h hC hC2 hN htk
  go_enter Tryz.func185, Tryz.ntmps185
  go_wp2_with fail
  rw [← hV]
  have HVs := Lib.hid (show w.heap.size < V.heap.size from N1.out.lt)
  clear hV
  (with_reducible refine Calls.mono C1.out ?_)
  rintro e w2 ⟨b, rfl, hb, hbt⟩
  have HT := Lib.hid (hbt l rfl)
  have HS2 := Lib.hid (hS.out.below hb)
  have N2 := Lib.hid (N1.out.below hb)
  have G2 := Lib.hid (grown_of (r := some P) (HBV.out.trans (hb.mono HBV.out.size)))
  clear hbt hb
  cases b
  case true =>
    have R := Lib.hid (show X = nestT nest l ((rd (if false = true then .unary else .not) (nest + 1) (stepL l)).then fun t r => made (mkN 12 (hd l).text 0 [t] (hd l).pos) r) from HX.out.trans (if_pos HT.out.symm))
    have C3 := Lib.hid (pprefix_any P g cap ts he HTK.out false l nest w2 hn HS2.out ⟨fun h => (by cases h), fun _ => HN.out HT.out.symm⟩)
    rw [← R.out] at C3
    go_wp2_with fail
    (with_reducible refine Calls.mono C3.out ?_)
    rintro e w3 ⟨t, a, cp, rfl, hs, hg, hk⟩
    have HS3 := Lib.hid hs
    have G3 := Lib.hid (grown_trans G2.out hg)
    have HK := Lib.hid hk
    obtain ⟨⟨z0, z1, z2, z3, z4⟩, ⟨f0, f1, f2, f3, f4⟩⟩ := (N2.out.grown hg HP.out.1).cells
    have hsz : w.heap.size < w3.heap.size := (N2.out.grown hg HP.out.1).lt
    have hsz2 := Lib.hid N2.out.lt
    clear hs hg hk
    unfold Nd.val
    go_wp2_with fail
    refine bodyPost_ret (v := t.val a cp) (by simp [results, Tryz.results185, go_sem, Nd.val, z0, z1, z2, z3, z4]) rfl ?_
    refine RdP.fin HS3.out G3.out HP.out (Nat.le_refl _) fun t' r' hx => ?_
    obtain ⟨e, hl, hd⟩ := HK.out t' r' hx
    exact ⟨e, ⟨_, fun c hc => ⟨fun e => by subst e; have := hc.1; have := hsz2.out; omega, by have := hc.1; have := hsz2.out; omega, hc.2⟩, hl⟩, hd⟩
  case false =>
    have R := Lib.hid (show X = (rd (.chain 2) nest l).then fun a r => if anyT cmpT r = true then (rd (.chain 2) nest (stepL r)).then fun b r' => made (mkN 13 (hd r).text 0 [a, b] (hd r).pos) r' else .ok (a, r) from
      HX.out.trans (if_neg (by rw [show isT tNot l = false from HT.out.symm]; decide)))
    have C3 := Lib.hid (HC.out nest w2 hn HS2.out)
    have HL := Lib.hid (fun t r (h : rd (.chain 2) nest l = .ok (t, r)) => rd_len (.chain 2) nest l h)
    generalize rd (.chain 2) nest l = y at R C3 HL
    clear HX HT
    go_wp2_with fail
    (with_reducible refine Calls.mono C3.out ?_)
    rintro e w3 ⟨t, a, cp, rfl, hs, hg, hk⟩
    have N3 := Lib.hid (N2.out.grown hg HP.out.1)
    have G3 := Lib.hid (grown_trans G2.out hg)
    have hsz2 := Lib.hid N2.out.lt
    have HK := Lib.hid hk
    have HG23 := Lib.hid (show w2.heap.size ≤ w3.heap.size from hg.size)
    have hP3 := Lib.hid (show w3.heap.size ≠ P ∧ w3.heap.size ≠ g ∧ w.heap.size < w3.heap.size by have := hs.blocks; have := N3.out.lt; omega)
    obtain ⟨W4, hW4⟩ : ∃ W, W = w3.alloc (.cells #[.int .i64 t.kind, .string t.text, .int .i64 t.n, .slice a t.kids.length cp, .int .i64 t.place] 24) := ⟨_, rfl⟩
    have HB4 := Lib.hid (show Below w3.heap.size w3 W4 from hW4 ▸ nbelow1 _ _)
    have M4 := Lib.hid (show NBox w3.heap.size t a cp W4 from hW4 ▸ NBox.make w3 t a cp)
    have N4 := Lib.hid (N3.out.below HB4.out)
    have HS4 := Lib.hid (SP.below hs HB4.out)
    have G4 := Lib.hid (pgrown_below G3.out (HB4.out.mono G3.out.size))
    have K4 := Lib.hid (grown_of (r := some P) HB4.out)
    have D1 := Lib.hid (pis_s P g cap ts nest (outX y) ⟨#[60]⟩ W4 HS4.out)
    clear hs hg hk
    unfold Nd.val
    go_wp2_with fail
    rw [← hW4]
    clear hW4 C3
    (with_reducible refine Calls.mono D1.out ?_)
    rintro e w5 ⟨b1, rfl, hb, hb1⟩
    have HT1 := Lib.hid hb1
    have HS5 := Lib.hid (HS4.out.below hb)
    have N5 := Lib.hid (N4.out.below hb)
    have M5 := Lib.hid (M4.out.below hb)
    have G5 := Lib.hid (pgrown_below G4.out (hb.mono G4.out.size))
    have K5 := Lib.hid (pgrown_below K4.out (hb.mono K4.out.size))
    have D2 := Lib.hid (pis_s P g cap ts nest (outX y) ⟨#[60, 61]⟩ w5 HS5.out)
    clear hb hb1
    go_wp2_with fail
    (with_reducible refine Calls.mono D2.out ?_)
    rintro e w6 ⟨b2, rfl, hb, hb2⟩
    have HT2 := Lib.hid hb2
    have HS6 := Lib.hid (HS5.out.below hb)
    have N6 := Lib.hid (N5.out.below hb)
    have M6 := Lib.hid (M5.out.below hb)
    have G6 := Lib.hid (pgrown_below G5.out (hb.mono G5.out.size))
    have K6 := Lib.hid (pgrown_below K5.out (hb.mono K5.out.size))
    have D3 := Lib.hid (pis_s P g cap ts nest (outX y) ⟨#[61]⟩ w6 HS6.out)
    clear hb hb2
    go_wp2_with fail
    (with_reducible refine Calls.mono D3.out ?_)
    rintro e w7 ⟨b3, rfl, hb, hb3⟩
    have HT3 := Lib.hid hb3
    have HS7 := Lib.hid (HS6.out.below hb)
    have N7 := Lib.hid (N6.out.below hb)
    have M7 := Lib.hid (M6.out.below hb)
    have G7 := Lib.hid (pgrown_below G6.out (hb.mono G6.out.size))
    have K7 := Lib.hid (pgrown_below K6.out (hb.mono K6.out.size))
    clear hb hb3 D1 D2 D3 HS4 HS5 HS6
    obtain ⟨c, p3, hc⟩ := HS7.out.bad
    have hpl := HS7.out.blocks.1
    have hsz7 : w.heap.size < w7.heap.size ∧ w3.heap.size < w7.heap.size := ⟨N7.out.lt, M7.out.lt⟩
    have HCc := Lib.hid hc
    clear hc
    have hcase : (c ≠ 0) ∨ (c = 0 ∧ b1 = false ∧ b2 = false ∧ b3 = false) ∨ (c = 0 ∧ b1 = true) ∨ (c = 0 ∧ b1 = false ∧ b2 = true) ∨ (c = 0 ∧ b1 = false ∧ b2 = false ∧ b3 = true) := by
      by_cases h : c = 0
      · cases b1 <;> cases b2 <;> cases b3 <;> simp [h]
      · exact .inl h
    rcases hcase with h | ⟨rfl, rfl, rfl, rfl⟩ | hh
    case inl =>
      have ek : (c != 0) = true := bne_iff_ne.2 h
      obtain ⟨⟨z0, z1, z2, z3, z4⟩, ⟨f0, f1, f2, f3, f4⟩⟩ := N7.out.cells
      obtain ⟨⟨n0, n1, n2, n3, n4⟩, -⟩ := M7.out.cells
      have HE := Lib.hid (show ∃ k p, y = .error (k, p) from by
        cases y with
        | error e => exact ⟨e.1, e.2, rfl⟩
        | ok p => exact absurd (HCc.out.2 ⟨p.2, rfl⟩) h)
      clear h
      go_wp2_with fail
      refine bodyPost_ret (v := t.val a cp) (by simp [results, Tryz.results185, go_sem, Nd.val, z0, z1, z2, z3, z4]) rfl ?_
      obtain ⟨k, p, rfl⟩ := HE.out
      have hx : X = .error (k, p) := R.out
      rw [hx]
      exact RdP.fin (x := .error (k, p)) HS7.out G7.out HP.out (Nat.le_refl _) (fun _ _ h => by cases h)
    case inr.inl =>
      obtain ⟨⟨z0, z1, z2, z3, z4⟩, ⟨f0, f1, f2, f3, f4⟩⟩ := N7.out.cells
      obtain ⟨⟨n0, n1, n2, n3, n4⟩, -⟩ := M7.out.cells
      go_wp2_with fail
      refine bodyPost_ret (v := t.val a cp) (by simp [results, Tryz.results185, go_sem, Nd.val, z0, z1, z2, z3, z4]) rfl ?_
      obtain ⟨r, hr⟩ := HCc.out.1 trivial
      obtain ⟨t', hy⟩ := out_inv hr
      have ht' := (HK.out t' r hy).1
      subst ht'
      have hx : X = y := by
        rw [R.out, hy]
        show (if anyT cmpT r = true then _ else _) = _
        rw [if_neg]
        rw [any_cmp, show isT [60] r = false from (HT1.out r hr).symm, show isT [60, 61] r = false from (HT2.out r hr).symm, show isT [61] r = false from (HT3.out r hr).symm]; decide
      rw [hx]
      refine RdP.fin HS7.out G7.out HP.out (Nat.le_refl _) fun t2 r2 h2 => ?_
      obtain ⟨e, hl, hd⟩ := HK.out t2 r2 h2
      exact ⟨e, ⟨Fr w2.heap.size w3.heap.size, fun c hc => ⟨fun e => by subst e; have := hc.1; have := hsz2.out; omega, by have := hc.1; have := hsz2.out; omega, Nat.lt_of_lt_of_le hc.2 K7.out.size⟩, lies_move hl ((KeepsV.refl _ _).grown K7.out fun b hb => ⟨hb.2, fun e => by subst e; have := hb.1; have := HS2.out.blocks.1; omega⟩) fun b hb => hb⟩, hd⟩
    case inr.inr =>
      have HA := Lib.hid (show c = 0 ∧ (b1 = true ∨ b2 = true ∨ b3 = true) by rcases hh with ⟨h, h'⟩ | ⟨h, -, h'⟩ | ⟨h, -, -, h'⟩ <;> simp [h, h'])
      obtain ⟨r, hr⟩ := HCc.out.1 HA.out.1
      obtain ⟨t', hy⟩ := out_inv hr
      have HY := Lib.hid hy
      have ht' := (HK.out t' r hy).1
      subst ht'
      have HAny := Lib.hid (show anyT cmpT r = true by
        rw [any_cmp, show isT [60] r = b1 from (HT1.out r hr).symm, show isT [60, 61] r = b2 from (HT2.out r hr).symm, show isT [61] r = b3 from (HT3.out r hr).symm]
        rcases HA.out.2 with h | h | h <;> simp [h])
      have HS7' := Lib.hid (show SP P g cap ts nest (.ok r) w7 from hr ▸ HS7.out)
      have HR := Lib.hid (show X = (rd (.chain 2) nest (stepL r)).then fun b r' => made (mkN 13 (hd r).text 0 [t', b] (hd r).pos) r' by
        rw [R.out, hy]
        show (if anyT cmpT r = true then _ else _) = _
        rw [if_pos HAny.out])
      have D4 := Lib.hid (pstep_s P g cap ts nest (.ok r) w7 HS7'.out he)
      have HT0 := Lib.hid (HTK.out _ HS7'.out.mem)
      have HC5 := Lib.hid (HC2.out (stepL r) (by have := HL.out _ _ hy; have := anyT_len HAny.out; omega))
      clear hr hy HCc HT1 HT2 HT3
      rcases hh with ⟨rfl, rfl⟩ | ⟨rfl, rfl, rfl⟩ | ⟨rfl, rfl, rfl, rfl⟩
      all_goals
        go_wp2_with fail
        (with_reducible refine Calls.mono D4.out ?_)
        rintro e w8 ⟨T, rfl, hs, hg, hT⟩
        have HT := Lib.hid (hT r rfl)
        have N8 := Lib.hid (N7.out.grown hg HP.out.1)
        have M8 := Lib.hid (M7.out.grown hg hP3.out.1)
        have G8 := Lib.hid (grown_trans G7.out hg)
        have K8 := Lib.hid (grown_trans K7.out hg)
        have hP8 := Lib.hid (show w8.heap.size ≠ P ∧ w8.heap.size ≠ g by have := hs.blocks; omega)
        obtain ⟨W9, hW9⟩ : ∃ W, W = w8.alloc (.cells #[.int .i64 T.kind, .string ⟨T.text.toArray⟩, .int .i64 T.n, .int .i64 T.pos] 39) := ⟨_, rfl⟩
        have HB9 := Lib.hid (show Below w8.heap.size w8 W9 from hW9 ▸ nbelow1 _ _)
        have T9 := Lib.hid (show TBox w8.heap.size T W9 from hW9 ▸ TBox.make w8 T)
        have HS9 := Lib.hid (SP.below hs HB9.out)
        have N9 := Lib.hid (N8.out.below HB9.out)
        have M9 := Lib.hid (M8.out.below HB9.out)
        have G9 := Lib.hid (pgrown_below G8.out (HB9.out.mono G8.out.size))
        have K9 := Lib.hid (pgrown_below K8.out (HB9.out.mono K8.out.size))
        have C5 := Lib.hid (HC5.out nest W9 hn HS9.out)
        generalize rd (.chain 2) nest (stepL r) = y2 at HR C5
        clear hs hg hT p3 hpl
        unfold tkV
        go_wp2_with fail
        rw [← hW9]
        clear hW9
        (with_reducible refine Calls.mono C5.out ?_)
        rintro e w10 ⟨u, a', cp', rfl, hs, hg, hk⟩
        have HK2 := Lib.hid hk
        have N10 := Lib.hid (N9.out.grown hg HP.out.1)
        have M10 := Lib.hid (M9.out.grown hg hP3.out.1)
        have T10 := Lib.hid (T9.out.grown hg hP8.out.1)
        have G10 := Lib.hid (grown_trans G9.out hg)
        have K10 := Lib.hid (grown_trans K9.out hg)
        have hsz9 := Lib.hid (show W9.heap.size ≤ w10.heap.size from hg.size)
        have hP9 := Lib.hid (show P < W9.heap.size from HS9.out.blocks.1)
        have hP10 := Lib.hid (show w10.heap.size ≠ P ∧ w10.heap.size ≠ g by have := hs.blocks; omega)
        obtain ⟨W11, hW11⟩ : ∃ W, W = w10.alloc (.cells #[.int .i64 u.kind, .string u.text, .int .i64 u.n, .slice a' u.kids.length cp', .int .i64 u.place] 24) := ⟨_, rfl⟩
        have HB11 := Lib.hid (show Below w10.heap.size w10 W11 from hW11 ▸ nbelow1 _ _)
        have U11 := Lib.hid (show NBox w10.heap.size u a' cp' W11 from hW11 ▸ NBox.make w10 u a' cp')
        have HS11 := Lib.hid (SP.below hs HB11.out)
        have N11 := Lib.hid (N10.out.below HB11.out)
        have M11 := Lib.hid (M10.out.below HB11.out)
        have T11 := Lib.hid (T10.out.below HB11.out)
        have G11 := Lib.hid (pgrown_below G10.out (HB11.out.mono G10.out.size))
        have K11 := Lib.hid (pgrown_below K10.out (HB11.out.mono K10.out.size))
        clear hs hg hk
        unfold Nd.val
        go_upto_region 12 with fail
        rw [← hW11]
        clear hW11
        obtain ⟨⟨t0, t1, t2, t3⟩, -⟩ := T11.out.cells
        obtain ⟨⟨n0, n1, n2, n3, n4⟩, -⟩ := M11.out.cells
        obtain ⟨⟨m0, m1, m2, m3, m4⟩, -⟩ := U11.out.cells
        obtain ⟨W12, hW12⟩ : ∃ W, W = W11.alloc (.cells #[.int .i64 t'.kind, .string t'.text, .int .i64 t'.n, .slice a t'.kids.length cp, .int .i64 t'.place, .int .i64 u.kind, .string u.text, .int .i64 u.n, .slice a' u.kids.length cp', .int .i64 u.place] 24) := ⟨_, rfl⟩
        have HB12 := Lib.hid (show Below W11.heap.size W11 W12 from hW12 ▸ nbelow1 _ _)
        have A12 := Lib.hid (show W12.heap[W11.heap.size]? = some (.cells #[.int .i64 t'.kind, .string t'.text, .int .i64 t'.n, .slice a t'.kids.length cp, .int .i64 t'.place, .int .i64 u.kind, .string u.text, .int .i64 u.n, .slice a' u.kids.length cp', .int .i64 u.place] 24 (0, 0)) from by
          rw [hW12]; show (W11.heap.push _)[W11.heap.size]? = _; simp)
        have N12 := Lib.hid (N11.out.below HB12.out)
        have T12 := Lib.hid (T11.out.below HB12.out)
        have HS12 := Lib.hid (HS11.out.below HB12.out)
        have G12 := Lib.hid (pgrown_below G11.out (HB12.out.mono G11.out.size))
        have K12 := Lib.hid (pgrown_below K11.out (HB12.out.mono K11.out.size))
        have B1012 := Lib.hid (HB11.out.trans (HB12.out.mono HB11.out.size))
        have hlt12 := Lib.hid (show W11.heap.size < W12.heap.size from by rw [hW12]; simp)
        have HD := Lib.hid (show ∀ r, outX y2 = .ok r → depthN (mkN 13 T.text 0 [t', u] T.pos) ≤ 101 ∧ (mkN 13 T.text 0 [t', u] T.pos).lies (Fr w2.heap.size W12.heap.size) W12 (some ⟨W11.heap.size, 0, none⟩) 2 from fun r hr => by
          obtain ⟨u', hu'⟩ := out_inv hr
          obtain ⟨rfl, hl, hd⟩ := HK2.out u' r hu'
          obtain ⟨-, hl0, hd0⟩ := HK.out _ _ HY.out
          have hle : w2.heap.size ≤ W9.heap.size := Nat.le_trans HG23.out K9.out.size
          refine ⟨by rw [depth_kid2]; omega, lies_kid2 rfl (HT.out ▸ HT0.out) ⟨?_, hlt12.out⟩ A12.out (lies_move hl0 ((KeepsV.refl _ _).grown K12.out fun b hb => ⟨hb.2, fun e => by subst e; have := hb.1; have := HS2.out.blocks.1; omega⟩) fun b hb => ⟨hb.1, Nat.lt_of_lt_of_le hb.2 K12.out.size⟩)
            (lies_move hl (fun b hb => B1012.out.block b hb.2) fun b hb => ⟨Nat.le_trans hle hb.1, Nat.lt_of_lt_of_le hb.2 B1012.out.size⟩)⟩
          have := B1012.out.size
          have := HB11.out.size
          have := hsz9.out
          omega)
        have C6 := Lib.hid (pmade_s P g cap ts nest (outX y2) 13 T.text 0 [t', u] T.pos (some ⟨W11.heap.size, 0, none⟩) 2 2 rfl W12 hn HS12.out fun r hr => ⟨(HD.out r hr).1, _, fun b hb => hb.2, (HD.out r hr).2⟩)
        obtain ⟨⟨u0, u1, u2, u3⟩, -⟩ := T12.out.cells
        subst hW12
        go_wp2_with fail
        (with_reducible refine Calls.mono C6.out ?_)
        rintro e w13 ⟨rfl, hs, hg⟩
        obtain ⟨⟨z0, z1, z2, z3, z4⟩, ⟨f0, f1, f2, f3, f4⟩⟩ := (N12.out.grown hg HP.out.1).cells
        have hsz13 : w.heap.size < w13.heap.size := (N12.out.grown hg HP.out.1).lt
        have HS13 := Lib.hid hs
        have G13 := Lib.hid (grown_trans G12.out hg)
        have HG13 := Lib.hid hg
        clear hs hg t0 t1 t2 t3 n0 n1 n2 n3 n4 m0 m1 m2 m3 m4 u0 u1 u2 u3
        rw [show (mkN 13 T.text 0 [t', u] T.pos).val (some ⟨W11.heap.size, 0, none⟩) 2 = .agg #[.int .i64 13, .string ⟨T.text.toArray⟩, .int .i64 0, .slice (some ⟨W11.heap.size, 0, none⟩) 2 2, .int .i64 T.pos] from rfl]
        go_wp2_with fail
        refine bodyPost_ret (v := (mkN 13 T.text 0 [t', u] T.pos).val (some ⟨W11.heap.size, 0, none⟩) 2) (by simp [results, Tryz.results185, go_sem, Nd.val, mkN, Nd.kind, Nd.text, Nd.n, Nd.kids, Nd.place, z0, z1, z2, z3, z4]) rfl ?_
        have hX : X = goX (outX y2) (made (mkN 13 T.text 0 [t', u] T.pos)) := by
          rw [HR.out, then_go (t := u) (fun t' r h => (HK2.out t' r h).1), HT.out]
        have hO : outX X = madeX (mkN 13 T.text 0 [t', u] T.pos) (outX y2) := by rw [hX, out_made]
        refine RdP.fin (by rw [hO]; exact HS13.out) G13.out HP.out (Nat.le_refl _) fun t2 r2 hx => ?_
        rw [hX] at hx
        obtain ⟨e1, e2, e3⟩ := is_made _ _ hx
        refine ⟨e1, ⟨_, fun c hc => ⟨?_, ?_, Nat.lt_of_lt_of_le hc.2 HG13.out.size⟩, lies_move (HD.out r2 e2).2 ((KeepsV.refl _ _).grown HG13.out fun b hb => ⟨hb.2, ?_⟩) fun b hb => hb⟩, e3⟩
        · rintro rfl
          have := hc.1; have := hsz2.out; omega
        · have := hc.1; have := hsz2.out; omega
        · rintro rfl
          have := hb.1; have := HS2.out.blocks.1; omega

end Go.Proofs.YtcndknkdhlmdnaaGreatDoor

/-
  usanceref07's signs.
-/
namespace Go.Proofs.YtcndknkdhlmdnaaGreatDoor
open Go.RowKit
set_option maxRecDepth 100000

/-- a chain's signs, in a block -/
def SignsIn (lv : Nat) (b : Nat) (w : World) : Prop := ∀ i (hi : i < (signsT lv).length), w.cell? ⟨b, i, none⟩ = some (.string ⟨(signsT lv)[i].toArray⟩)
theorem SignsIn.keep {lv b : Nat} {w w' : World} (h : SignsIn lv b w) (hb : w'.heap[b]? = w.heap[b]?) : SignsIn lv b w' := fun i hi => (World.cell?_of_block hb).trans (h i hi)
theorem signs_in1 {lv b : Nat} {w : World} {x : List UInt8} {T : TypeId} (hs : signsT lv = [x]) (h : w.heap[b]? = some (.cells #[.string ⟨x.toArray⟩] T (0, 0))) : SignsIn lv b w := by
  unfold SignsIn
  rw [hs]
  intro i hi
  obtain rfl : i = 0 := by simp at hi; omega
  simp [World.cell?, h]
theorem signs_in2 {lv b : Nat} {w : World} {x y : List UInt8} {T : TypeId} (hs : signsT lv = [x, y]) (h : w.heap[b]? = some (.cells #[.string ⟨x.toArray⟩, .string ⟨y.toArray⟩] T (0, 0))) : SignsIn lv b w := by
  unfold SignsIn
  rw [hs]
  intro i hi
  rcases (show i = 0 ∨ i = 1 by simp at hi; omega) with rfl | rfl <;> simp [World.cell?, h]

theorem at_new {W : World} {b : Nat} (o : Obj) (hb : b = W.heap.size) : (W.alloc o).heap[b]? = some o := by
  subst hb; show (W.heap.push o)[W.heap.size]? = _; simp
theorem at_old {W : World} {b : Nat} (o : Obj) (hb : b < W.heap.size) : (W.alloc o).heap[b]? = W.heap[b]? := by
  show (W.heap.push o)[b]? = _
  rw [Array.getElem?_push, if_neg (Nat.ne_of_lt hb)]
set_option maxHeartbeats 2000000 in
theorem psigns_any (lv : Nat) (hlv : lv ≤ 3) (w : World) :
    Calls Tryz.prog 159 #[.int .i64 lv] w fun e w' => ∃ b, e = .returned (.slice (some ⟨b, 0, none⟩) (signsT lv).length (signsT lv).length) ∧ Below w.heap.size w w' ∧ (w.heap.size ≤ b ∧ b < w'.heap.size) ∧ SignsIn lv b w' := by
  have hc : lv = 0 ∨ lv = 1 ∨ lv = 2 ∨ lv = 3 := by omega
  clear hlv
  rcases hc with rfl | rfl | rfl | rfl
  all_goals
    go_enter Tryz.func159, Tryz.ntmps159
    go_wp2_with fail
    go_ret
    refine ⟨_, rfl, ((((nbelow1 w _).alloc (by simp only [World.size_alloc]; omega) _).alloc (by simp only [World.size_alloc]; omega) _).alloc (by simp only [World.size_alloc]; omega) _).alloc (by simp only [World.size_alloc]; omega) _, ⟨by omega, by simp only [World.size_alloc]; omega⟩, ?_⟩
  · exact signs_in1 rfl ((at_old _ (by simp only [World.size_alloc]; omega)).trans ((at_old _ (by simp only [World.size_alloc]; omega)).trans ((at_old _ (by simp only [World.size_alloc]; omega)).trans ((at_old _ (by simp only [World.size_alloc]; omega)).trans (at_new _ rfl)))))
  · exact signs_in1 rfl ((at_old _ (by simp only [World.size_alloc]; omega)).trans ((at_old _ (by simp only [World.size_alloc]; omega)).trans ((at_old _ (by simp only [World.size_alloc]; omega)).trans (at_new _ (by simp only [World.size_alloc])))))
  · exact signs_in2 rfl ((at_old _ (by simp only [World.size_alloc]; omega)).trans ((at_old _ (by simp only [World.size_alloc]; omega)).trans (at_new _ (by simp only [World.size_alloc]))))
  · exact signs_in2 rfl ((at_old _ (by simp only [World.size_alloc]; omega)).trans (at_new _ (by simp only [World.size_alloc])))

end Go.Proofs.YtcndknkdhlmdnaaGreatDoor

/-
  usanceref07's parser: a chain.
-/
namespace Go.Proofs.YtcndknkdhlmdnaaGreatDoor
open Go.RowKit
set_option maxRecDepth 100000

theorem any_take_succ (ws : List (List UInt8)) (r : List Tk) (k : Nat) (hk : k < ws.length) : (ws.take (k + 1)).any (fun w => isT w r) = ((ws.take k).any (fun w => isT w r) || isT ws[k] r) := by
  rw [List.take_succ_eq_append_getElem hk, List.any_append, List.any_cons, List.any_nil, Bool.or_false]
/-- where a chain's loop stands -/
def ChainI (P g cap : Nat) (ts : List Tk) (nest lv : Nat) (l : List Tk) (X : Rd) (lo : Nat) (b5 : Nat) (wr : World) (t : Nd) (a : Option Addr) (cp : Nat) (y : Rd) : Prop :=
  NBox b5 t a cp wr ∧ SP P g cap ts nest (outX y) wr ∧ (X = y.then fun t r => rd (.loop lv t) nest r) ∧ ∀ t' r, y = .ok (t', r) → t' = t ∧ (∃ av : Nat → Prop, (∀ c, av c → lo ≤ c ∧ c < wr.heap.size ∧ c ≠ b5) ∧ t.lies av wr a cp) ∧ depthN t ≤ 100 ∧ r.length ≤ l.length
theorem loop_eq (lv : Nat) (t : Nd) (nest : Nat) (r : List Tk) : rd (.loop lv t) nest r = if anyT (signsT lv) r = true then (rd (lower lv) nest (stepL r)).then fun m r' => (made (mkN 13 (hd r).text 0 [t, m] (hd r).pos) r').then fun t r => rd (.loop lv t) nest r else .ok (t, r) := rd_eq (.loop lv t) nest r

set_option maxHeartbeats 4000000 in
theorem pchain_any (P g cap : Nat) (ts : List Tk) (he : Ends ts) (htk : ∀ t ∈ ts, TkOk t) (lv : Nat) (hlv : lv ≤ 3) (l : List Tk) (hL : CL P g cap ts lv l) (hL2 : ∀ r, r.length < l.length → CL P g cap ts lv r) : CC P g cap ts lv l := by
  intro nest w hn h
  obtain ⟨V, hV⟩ : ∃ V, V = w.alloc (.cells #[.int .i64 0, .string ⟨#[]⟩, .int .i64 0, .slice none 0 0, .int .i64 0] 24) := ⟨_, rfl⟩
  have HBV := Lib.hid (show Below w.heap.size w V from hV ▸ nbelow1 w _)
  have N1 := Lib.hid (show NBox w.heap.size nd0 none 0 V from hV ▸ NBox.make w nd0 none 0)
  have hS := Lib.hid (h.below HBV.out)
  have hb0 := Lib.hid h.blocks
  have HP := Lib.hid (show w.heap.size ≠ P ∧ w.heap.size ≠ g from ⟨Nat.ne_of_gt hb0.out.1, Nat.ne_of_gt hb0.out.2⟩)
  have HL2 := Lib.hid hL2
  have HTK := Lib.hid htk
  have HLV := Lib.hid hlv
  have HE := Lib.hid he
  obtain ⟨X, hX⟩ : ∃ X, X = rd (.chain lv) nest l := ⟨_, rfl⟩
  rw [← hX]
  have HX := Lib.hid (show X = (rd (lower lv) nest l).then fun t r => rd (.loop lv t) nest r from hX.trans (rd_eq (.chain lv) nest l))
  have C1 := Lib.hid (hL nest V hn hS.out)
  have HLen := Lib.hid (fun t r (h : rd (lower lv) nest l = .ok (t, r)) => rd_len (lower lv) nest l h)
  generalize rd (lower lv) nest l = y at HX C1 HLen
  have HVs := Lib.hid (show w.heap.size < V.heap.size from N1.out.lt)
  have HPV := Lib.hid (show P < V.heap.size from hS.out.blocks.1)
  clear hX h hL hL2 htk hlv he
  go_enter Tryz.func134, Tryz.ntmps134
  go_wp2_with fail
  rw [← hV]
  clear hV
  (with_reducible refine Calls.mono C1.out ?_)
  rintro e w2 ⟨t, a, cp, rfl, hs, hg, hk⟩
  have N2 := Lib.hid (N1.out.grown hg HP.out.1)
  have G2 := Lib.hid (grown_trans (grown_of HBV.out) hg)
  have HK := Lib.hid hk
  have hP2 := Lib.hid (show w2.heap.size ≠ P ∧ w2.heap.size ≠ g ∧ w.heap.size < w2.heap.size ∧ V.heap.size ≤ w2.heap.size by have := hs.blocks; have := N2.out.lt; have := hg.size; omega)
  obtain ⟨W3, hW3⟩ : ∃ W, W = w2.alloc (.cells #[.int .i64 t.kind, .string t.text, .int .i64 t.n, .slice a t.kids.length cp, .int .i64 t.place] 24) := ⟨_, rfl⟩
  have HB3 := Lib.hid (show Below w2.heap.size w2 W3 from hW3 ▸ nbelow1 _ _)
  have M3 := Lib.hid (show NBox w2.heap.size t a cp W3 from hW3 ▸ NBox.make w2 t a cp)
  have N3 := Lib.hid (N2.out.below HB3.out)
  have G3 := Lib.hid (pgrown_below G2.out (HB3.out.mono G2.out.size))
  have I3 := Lib.hid (show ChainI P g cap ts nest lv l X V.heap.size w2.heap.size W3 t a cp y from ⟨M3.out, SP.below hs HB3.out, HX.out, fun t' r hy => by
    obtain ⟨e, hl, hd⟩ := HK.out t' r hy
    exact ⟨e, ⟨Fr V.heap.size w2.heap.size, fun c hc => ⟨hc.1, Nat.lt_of_lt_of_le hc.2 HB3.out.size, Nat.ne_of_lt hc.2⟩, lies_move hl (fun b hb => HB3.out.block b hb.2) fun b hb => hb⟩, hd, HLen.out t' r hy⟩⟩)
  clear hs hg hk
  unfold Nd.val
  go_upto_region 2 with fail
  rw [← hW3]
  have HW3 := Lib.hid (show W3.heap.size ≤ W3.heap.size from Nat.le_refl _)
  clear hW3 C1
  go_loopw [6, 7, 8, 9, 10, 11] (fun _ _ _ _ _ _ wr => ∃ (t : Nd) (a : Option Addr) (cp : Nat) (y : Rd), Hid (ChainI P g cap ts nest lv l X V.heap.size w2.heap.size wr t a cp y) ∧ Hid (NBox w.heap.size nd0 none 0 wr) ∧ Hid (w.grownBy wr (some P)) ∧ Hid (W3.heap.size ≤ wr.heap.size)) (fun _ _ _ _ _ _ wr => farW P ts wr)
  case atStart => exact ⟨t, a, cp, y, I3.out, N3.out, G3.out, HW3.out⟩
  case round =>
    obtain ⟨t, a, cp, y, HI, HN, HG, HW⟩ := hrel
    clear N1 N2 N3 M3 G2 G3 I3 HK HX HLen
    have HI0 := HI
    obtain ⟨M, hs, hX, hk⟩ := HI.out
    have hpl := hs.blocks.1
    cases y with
    | error q =>
      obtain ⟨k, p⟩ := q
      obtain ⟨hk0, i, n, hp, -, -⟩ := hs.error
      obtain ⟨⟨p0, p1, p2, p3, p4⟩, -⟩ := hp.cells
      have ek : (k == 0) = false := beq_eq_false_iff_ne.2 hk0
      have HS := Lib.hid hs
      obtain ⟨⟨z0, z1, z2, z3, z4⟩, ⟨f0, f1, f2, f3, f4⟩⟩ := HN.out.cells
      obtain ⟨⟨n0, n1, n2, n3, n4⟩, -⟩ := M.cells
      have hsz : w.heap.size < wr.heap.size ∧ w2.heap.size < wr.heap.size := ⟨HN.out.lt, M.lt⟩
      have HX := Lib.hid (show X = .error (k, p) from hX)
      clear HI HI0 M hs hX hk hk0 hp
      go_wp2_with fail
      refine bodyPost_ret (v := t.val a cp) (by simp [results, Tryz.results134, go_sem, Nd.val, z0, z1, z2, z3, z4]) rfl ?_
      rw [HX.out]
      exact RdP.fin (x := .error (k, p)) HS.out HG.out HP.out (Nat.le_refl _) (fun _ _ h => by cases h)
    | ok q =>
      obtain ⟨t', r⟩ := q
      obtain ⟨rfl, hlies, hd, hlen⟩ := hk t' r rfl
      have HS := Lib.hid (show SP P g cap ts nest (.ok r) wr from hs)
      obtain ⟨i, -, hp⟩ := HS.out.ok
      obtain ⟨⟨p0, p1, p2, p3, p4⟩, -⟩ := hp.cells
      have HX := Lib.hid (show X = rd (.loop lv t') nest r from hX)
      have HM := Lib.hid M
      have HLies := Lib.hid hlies
      have HD := Lib.hid hd
      have HLen := Lib.hid hlen
      have HFar := Lib.hid (show farW P ts wr = r.length + 1 from HS.out.far)
      have C2 := Lib.hid (psigns_any lv HLV.out wr)
      clear HI HI0 M hs hX hk hp hlies hd hlen
      go_wp2_with fail
      (with_reducible refine Calls.mono C2.out ?_)
      rintro e w4 ⟨b, rfl, hb, hbb, hsg⟩
      have HS4 := Lib.hid (HS.out.below hb)
      have HN4 := Lib.hid (HN.out.below hb)
      have HM4 := Lib.hid (HM.out.below hb)
      have HB4 := Lib.hid hb
      have HSG := Lib.hid (show ∀ i (hi : i < (signsT lv).length), w4.cell? ⟨b, i, none⟩ = some (.string ⟨(signsT lv)[i].toArray⟩) from hsg)
      have HSA := Lib.hid (show anyT (signsT lv) r = (signsT lv).any (fun w => isT w r) from rfl)
      have hsgl : b < w4.heap.size := hbb.2
      have HBB := Lib.hid hbb
      have HLQ := Lib.hid (loop_eq lv t' nest r)
      have HSL := Lib.hid (show (signsT lv).length ≤ 4 from by unfold signsT; split; decide; split; decide; split <;> decide)
      generalize signsT lv = sg at HSG HSA HLQ HSL ⊢
      have hsgm : sg.length ≤ 4 := HSL.out
      have G4 := Lib.hid (pgrown_below HG.out (HB4.out.mono HG.out.size))
      have HW4 := Lib.hid (Nat.le_trans HW.out HB4.out.size)
      have HL4 := Lib.hid (show ∃ av : Nat → Prop, (∀ c, av c → V.heap.size ≤ c ∧ c < w4.heap.size ∧ c ≠ w2.heap.size) ∧ t'.lies av w4 a cp from by
        obtain ⟨av, hav, hl⟩ := HLies.out
        exact ⟨av, fun c hc => ⟨(hav c hc).1, Nat.lt_of_lt_of_le (hav c hc).2.1 HB4.out.size, (hav c hc).2.2⟩, lies_move hl (fun b hb => HB4.out.block b (hav b hb).2.1) fun b hb => hb⟩)
      clear hb hsg hbb p0 p1 p2 p3 p4 hpl C2
      go_wp2_with fail
      go_loopw [6, 8, 9] (fun f i _ wi => ∃ (k : Nat), k ≤ sg.length ∧ i = .int .i64 k ∧ f = .bool ((sg.take k).any fun w => isT w r) ∧ Hid (Below w4.heap.size w4 wi)) (fun _ i _ _ => sg.length - (intOf i).toNat)
      case atStart => exact ⟨0, Nat.zero_le _, rfl, rfl, Below.refl _ _⟩
      case round =>
        obtain ⟨k, hk, rfl, rfl, HBi⟩ := hrel
        have HSi := Lib.hid (HS4.out.below HBi.out)
        by_cases hlt : k < sg.length
        · have hc0 := (HBi.out.cell (p := ⟨b, k, none⟩) hsgl).trans (HSG.out k hlt)
          have D1 := Lib.hid (pis_s P g cap ts nest (.ok r) ⟨sg[k].toArray⟩ wr HSi.out)
          have HTk := Lib.hid (any_take_succ sg r k hlt)
          generalize ((sg.take k).any fun w => isT w r) = f0 at HTk ⊢
          go_wp2_with fail
          (with_reducible refine Calls.mono D1.out ?_)
          rintro e w6 ⟨b1, rfl, hb, hb1⟩
          have HB6 := Lib.hid (HBi.out.trans (hb.mono HBi.out.size))
          have HT1 := Lib.hid (hb1 r rfl)
          clear hb hb1
          cases f0
          · go_wp2_with fail
            go_roundw
            case rel => exact ⟨k + 1, by omega, by go_num, by rw [HTk.out, HT1.out]; simp, HB6⟩
            case measure => simp [intOf]; omega
          · go_wp2_with fail
            go_roundw
            case rel => exact ⟨k + 1, by omega, by go_num, by rw [HTk.out]; simp, HB6⟩
            case measure => simp [intOf]; omega
        · have HF := Lib.hid (show ((sg.take k).any fun w => isT w r) = anyT sg r from by rw [List.take_of_length_le (by omega)]; rfl)
          have HNi := Lib.hid (HN4.out.below HBi.out)
          have HMi := Lib.hid (HM4.out.below HBi.out)
          have Gi := Lib.hid (pgrown_below G4.out (HBi.out.mono G4.out.size))
          have HWi := Lib.hid (Nat.le_trans HW4.out HBi.out.size)
          have HLi := Lib.hid (show ∃ av : Nat → Prop, (∀ c, av c → V.heap.size ≤ c ∧ c < wr.heap.size ∧ c ≠ w2.heap.size) ∧ t'.lies av wr a cp from by
            obtain ⟨av, hav, hl⟩ := HL4.out
            exact ⟨av, fun c hc => ⟨(hav c hc).1, Nat.lt_of_lt_of_le (hav c hc).2.1 HBi.out.size, (hav c hc).2.2⟩, lies_move hl (fun b hb => HBi.out.block b (hav b hb).2.1) fun b hb => hb⟩)
          generalize ((sg.take k).any fun w => isT w r) = B at HF ⊢
          clear HN4 HM4 HL4 HLies HN HM
          cases B
          · obtain ⟨⟨z0, z1, z2, z3, z4⟩, ⟨f0, f1, f2, f3, f4⟩⟩ := HNi.out.cells
            obtain ⟨⟨n0, n1, n2, n3, n4⟩, -⟩ := HMi.out.cells
            have hsz : w.heap.size < wr.heap.size ∧ w2.heap.size < wr.heap.size := ⟨HNi.out.lt, HMi.out.lt⟩
            go_wp2_with fail
            refine bodyPost_ret (v := t'.val a cp) (by simp [results, Tryz.results134, go_sem, Nd.val, z0, z1, z2, z3, z4]) rfl ?_
            have hx : X = .ok (t', r) := by rw [HX.out, HLQ.out, if_neg (by rw [← HF.out]; decide)]
            rw [hx]
            refine RdP.fin (x := .ok (t', r)) HSi.out Gi.out HP.out (Nat.le_refl _) fun t2 r2 h2 => ?_
            cases h2
            obtain ⟨av, hav, hl⟩ := HLi.out
            exact ⟨rfl, ⟨av, fun c hc => ⟨fun e => by subst e; have := (hav _ hc).1; have := HVs.out; omega, by have := (hav _ hc).1; have := HVs.out; omega, (hav c hc).2.1⟩, hl⟩, HD.out⟩
          · have HAny := Lib.hid (show anyT sg r = true from HF.out.symm)
            have D4 := Lib.hid (pstep_s P g cap ts nest (.ok r) wr HSi.out HE.out)
            have HT0 := Lib.hid (HTK.out _ HSi.out.mem)
            have hstep := anyT_len HAny.out
            have HC5 := Lib.hid (HL2.out (stepL r) (by have := HLen.out; omega))
            have HR := Lib.hid (show X = (rd (lower lv) nest (stepL r)).then fun m r' => (made (mkN 13 (hd r).text 0 [t', m] (hd r).pos) r').then fun t r => rd (.loop lv t) nest r from by
              rw [HX.out, HLQ.out, if_pos HAny.out])
            have HRL := Lib.hid (fun t q (h : rd (lower lv) nest (stepL r) = .ok (t, q)) => rd_len (lower lv) nest (stepL r) h)
            have HST := Lib.hid hstep
            clear hstep HF HX HLQ HSA
            go_wp2_with fail
            (with_reducible refine Calls.mono D4.out ?_)
            rintro e w8 ⟨T, rfl, hs, hg, hT⟩
            have HT := Lib.hid (hT r rfl)
            have N8 := Lib.hid (HNi.out.grown hg HP.out.1)
            have M8 := Lib.hid (HMi.out.grown hg hP2.out.1)
            have G8 := Lib.hid (grown_trans Gi.out hg)
            have K8 := Lib.hid hg
            have hP8 := Lib.hid (show w8.heap.size ≠ P ∧ w8.heap.size ≠ g by have := hs.blocks; omega)
            obtain ⟨W9, hW9⟩ : ∃ W, W = w8.alloc (.cells #[.int .i64 T.kind, .string ⟨T.text.toArray⟩, .int .i64 T.n, .int .i64 T.pos] 39) := ⟨_, rfl⟩
            have HB9 := Lib.hid (show Below w8.heap.size w8 W9 from hW9 ▸ nbelow1 _ _)
            have T9 := Lib.hid (show TBox w8.heap.size T W9 from hW9 ▸ TBox.make w8 T)
            have HS9 := Lib.hid (SP.below hs HB9.out)
            have N9 := Lib.hid (N8.out.below HB9.out)
            have M9 := Lib.hid (M8.out.below HB9.out)
            have G9 := Lib.hid (pgrown_below G8.out (HB9.out.mono G8.out.size))
            have K9 := Lib.hid (pgrown_below K8.out (HB9.out.mono K8.out.size))
            have C5 := Lib.hid (HC5.out nest W9 hn HS9.out)
            generalize rd (lower lv) nest (stepL r) = y2 at HR C5 HRL
            clear hs hg hT
            unfold tkV
            go_wp2_with fail
            rw [← hW9]
            clear hW9
            (with_reducible refine Calls.mono C5.out ?_)
            rintro e w10 ⟨u, a', cp', rfl, hs, hg, hk⟩
            have HK2 := Lib.hid hk
            have N10 := Lib.hid (N9.out.grown hg HP.out.1)
            have M10 := Lib.hid (M9.out.grown hg hP2.out.1)
            have T10 := Lib.hid (T9.out.grown hg hP8.out.1)
            have G10 := Lib.hid (grown_trans G9.out hg)
            have K10 := Lib.hid (grown_trans K9.out hg)
            have hsz9 := Lib.hid (show W9.heap.size ≤ w10.heap.size from hg.size)
            have hP9 := Lib.hid (show P < W9.heap.size from HS9.out.blocks.1)
            have hP10 := Lib.hid (show w10.heap.size ≠ P ∧ w10.heap.size ≠ g by have := hs.blocks; omega)
            obtain ⟨W11, hW11⟩ : ∃ W, W = w10.alloc (.cells #[.int .i64 u.kind, .string u.text, .int .i64 u.n, .slice a' u.kids.length cp', .int .i64 u.place] 24) := ⟨_, rfl⟩
            have HB11 := Lib.hid (show Below w10.heap.size w10 W11 from hW11 ▸ nbelow1 _ _)
            have U11 := Lib.hid (show NBox w10.heap.size u a' cp' W11 from hW11 ▸ NBox.make w10 u a' cp')
            have HS11 := Lib.hid (SP.below hs HB11.out)
            have N11 := Lib.hid (N10.out.below HB11.out)
            have M11 := Lib.hid (M10.out.below HB11.out)
            have T11 := Lib.hid (T10.out.below HB11.out)
            have G11 := Lib.hid (pgrown_below G10.out (HB11.out.mono G10.out.size))
            have K11 := Lib.hid (pgrown_below K10.out (HB11.out.mono K10.out.size))
            clear hs hg hk
            unfold Nd.val
            go_upto_region 13 with fail
            rw [← hW11]
            clear hW11
            obtain ⟨⟨t0, t1, t2, t3⟩, -⟩ := T11.out.cells
            obtain ⟨⟨n0, n1, n2, n3, n4⟩, -⟩ := M11.out.cells
            obtain ⟨⟨m0, m1, m2, m3, m4⟩, -⟩ := U11.out.cells
            obtain ⟨W12, hW12⟩ : ∃ W, W = W11.alloc (.cells #[.int .i64 t'.kind, .string t'.text, .int .i64 t'.n, .slice a t'.kids.length cp, .int .i64 t'.place, .int .i64 u.kind, .string u.text, .int .i64 u.n, .slice a' u.kids.length cp', .int .i64 u.place] 24) := ⟨_, rfl⟩
            have HB12 := Lib.hid (show Below W11.heap.size W11 W12 from hW12 ▸ nbelow1 _ _)
            have A12 := Lib.hid (show W12.heap[W11.heap.size]? = some (.cells #[.int .i64 t'.kind, .string t'.text, .int .i64 t'.n, .slice a t'.kids.length cp, .int .i64 t'.place, .int .i64 u.kind, .string u.text, .int .i64 u.n, .slice a' u.kids.length cp', .int .i64 u.place] 24 (0, 0)) from by
              rw [hW12]; exact at_new _ rfl)
            have N12 := Lib.hid (N11.out.below HB12.out)
            have M12 := Lib.hid (M11.out.below HB12.out)
            have T12 := Lib.hid (T11.out.below HB12.out)
            have HS12 := Lib.hid (HS11.out.below HB12.out)
            have G12 := Lib.hid (pgrown_below G11.out (HB12.out.mono G11.out.size))
            have K12 := Lib.hid (pgrown_below K11.out (HB12.out.mono K11.out.size))
            have B1012 := Lib.hid (HB11.out.trans (HB12.out.mono HB11.out.size))
            have hlt12 := Lib.hid (show W11.heap.size < W12.heap.size from by rw [hW12]; simp)
            have hVw := Lib.hid (show V.heap.size ≤ w2.heap.size ∧ w2.heap.size < W9.heap.size from ⟨hP2.out.2.2.2, M9.out.lt⟩)
            have HD2 := Lib.hid (show ∀ r, outX y2 = .ok r → depthN (mkN 13 T.text 0 [t', u] T.pos) ≤ 101 ∧ (mkN 13 T.text 0 [t', u] T.pos).lies (fun c => V.heap.size ≤ c ∧ c < W12.heap.size ∧ c ≠ w2.heap.size) W12 (some ⟨W11.heap.size, 0, none⟩) 2 from fun r hr => by
              obtain ⟨u', hu'⟩ := out_inv hr
              obtain ⟨rfl, hl, hd⟩ := HK2.out u' r hu'
              obtain ⟨av, hav, hl0⟩ := HLi.out
              have hd0 := HD.out
              have hB := B1012.out.size
              refine ⟨by rw [depth_kid2]; omega, lies_kid2 rfl (HT.out ▸ HT0.out) ?_ A12.out (lies_move hl0 ((KeepsV.refl _ _).grown K12.out fun b hb => ⟨(hav b hb).2.1, fun e => by subst e; have := (hav _ hb).1; have := HPV.out; omega⟩) fun b hb => ⟨(hav b hb).1, Nat.lt_of_lt_of_le (hav b hb).2.1 K12.out.size, (hav b hb).2.2⟩)
                (lies_move hl (fun b hb => B1012.out.block b hb.2) fun b hb => ?_)⟩
              · have := hlt12.out; have := HB11.out.size; have := hsz9.out; have := hVw.out
                exact ⟨by omega, by omega, by omega⟩
              · have := hb.1; have := hb.2; have := hVw.out
                exact ⟨by omega, by omega, by omega⟩)
            have C6 := Lib.hid (pmade_s P g cap ts nest (outX y2) 13 T.text 0 [t', u] T.pos (some ⟨W11.heap.size, 0, none⟩) 2 2 rfl W12 hn HS12.out fun r hr => ⟨(HD2.out r hr).1, _, fun b hb => hb.2.1, (HD2.out r hr).2⟩)
            obtain ⟨⟨u0, u1, u2, u3⟩, -⟩ := T12.out.cells
            subst hW12
            go_wp2_with fail
            (with_reducible refine Calls.mono C6.out ?_)
            rintro e w13 ⟨rfl, hs, hg⟩
            have M13 := Lib.hid (M12.out.grown hg hP2.out.1)
            obtain ⟨⟨z0, z1, z2, z3, z4⟩, ⟨f0, f1, f2, f3, f4⟩⟩ := M13.out.cells
            have hsz13 : w2.heap.size < w13.heap.size := M13.out.lt
            have HS13 := Lib.hid hs
            have N13 := Lib.hid (N12.out.grown hg HP.out.1)
            have G13 := Lib.hid (grown_trans G12.out hg)
            have HG13 := Lib.hid hg
            have HWK := Lib.hid (Nat.le_trans HWi.out (Nat.le_trans K12.out.size hg.size))
            clear hs hg t0 t1 t2 t3 n0 n1 n2 n3 n4 m0 m1 m2 m3 m4 u0 u1 u2 u3
            rw [show (mkN 13 T.text 0 [t', u] T.pos).val (some ⟨W11.heap.size, 0, none⟩) 2 = .agg #[.int .i64 13, .string ⟨T.text.toArray⟩, .int .i64 0, .slice (some ⟨W11.heap.size, 0, none⟩) 2 2, .int .i64 T.pos] from rfl]
            go_wp2_with fail
            have HO := Lib.hid (show outX (goX (outX y2) (made (mkN 13 T.text 0 [t', u] T.pos))) = madeX (mkN 13 T.text 0 [t', u] T.pos) (outX y2) from out_made _ _)
            have HSf := Lib.hid (show SP P g cap ts nest (outX (goX (outX y2) (made (mkN 13 T.text 0 [t', u] T.pos)))) (put5 w13 w2.heap.size (mkN 13 T.text 0 [t', u] T.pos) (some ⟨W11.heap.size, 0, none⟩) 2) from by
              rw [HO.out]; exact HS13.out.put hP2.out.1 hP2.out.2.1 _ _ _)
            have HY2 := Lib.hid (show ∀ t2 r2, goX (outX y2) (made (mkN 13 T.text 0 [t', u] T.pos)) = .ok (t2, r2) → r2.length < r.length from fun t2 r2 h => by
              obtain ⟨-, e2, -⟩ := is_made _ _ h
              obtain ⟨u', hu'⟩ := out_inv e2
              have := HRL.out u' r2 hu'
              have := HST.out
              omega)
            go_roundw
            case rel =>
              refine ⟨mkN 13 T.text 0 [t', u] T.pos, some ⟨W11.heap.size, 0, none⟩, 2, goX (outX y2) (made (mkN 13 T.text 0 [t', u] T.pos)), ⟨M13.out.put _ _ _, HSf.out, ?_, fun t2 r2 h => ?_⟩, N13.out.oput (Nat.ne_of_lt hP2.out.2.2.1) (mkN 13 T.text 0 [t', u] T.pos) (some ⟨W11.heap.size, 0, none⟩) 2, grown_put G13.out (Nat.le_of_lt hP2.out.2.2.1) (mkN 13 T.text 0 [t', u] T.pos) (some ⟨W11.heap.size, 0, none⟩) 2, ?_⟩
              · rw [HR.out, then_go (t := u) (fun t' r h => (HK2.out t' r h).1), ← HT.out]
                exact go_then (outX y2) (made (mkN 13 T.text 0 [t', u] T.pos)) _
              · obtain ⟨e1, e2, e3⟩ := is_made _ _ h
                refine ⟨e1, ⟨_, fun c hc => ⟨hc.1, ?_, hc.2.2⟩, lies_move (HD2.out r2 e2).2 (((KeepsV.refl _ _).grown HG13.out fun b hb => ⟨hb.2.1, ?_⟩).put (fun b hb => hb.2.2) (mkN 13 T.text 0 [t', u] T.pos) (some ⟨W11.heap.size, 0, none⟩) 2) fun b hb => hb⟩, e3, Nat.le_of_lt (Nat.lt_of_lt_of_le (HY2.out t2 r2 h) HLen.out)⟩
                · have := hc.2.1; have := HG13.out.size
                  refine Nat.lt_of_lt_of_le hc.2.1 ?_
                  show _ ≤ (put5 w13 w2.heap.size (mkN 13 T.text 0 [t', u] T.pos) (some ⟨W11.heap.size, 0, none⟩) 2).heap.size
                  rw [size_put]; exact HG13.out.size
                · rintro rfl
                  have := hb.1; have := HPV.out; omega
              · show _ ≤ (put5 w13 w2.heap.size (mkN 13 T.text 0 [t', u] T.pos) (some ⟨W11.heap.size, 0, none⟩) 2).heap.size
                rw [size_put]; exact HWK.out
            case measure =>
              rw [HFar.out]
              refine Nat.lt_of_le_of_lt (Nat.le_of_eq HSf.out.far) ?_
              cases hy : goX (outX y2) (made (mkN 13 T.text 0 [t', u] T.pos)) with
              | error e => exact Nat.succ_pos _
              | ok q => obtain ⟨t2, r2⟩ := q; have := HY2.out t2 r2 hy; show r2.length + 1 < r.length + 1; omega

end Go.Proofs.YtcndknkdhlmdnaaGreatDoor
