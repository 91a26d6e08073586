/-
  Texts that the statements' proofs rest on, one behind another: SxT.
-/
import Derived.Test.YtcndknkdhlmdnaaGreatDoorS18

/-
  The program's parser: a definition.
-/
namespace Go.Proofs.YtcndknkdhlmdnaaGreatDoor
open Go.RowKit
set_option maxRecDepth 100000

/-- what the reading of a node does -/
def NQ (P g cap : Nat) (ts : List Tk) (x : Rd) (w : World) (e : Ending) (w' : World) : Prop := match x with
  | .ok (t, r) => ∃ (a : Option Addr) (cp : Nat), e = .returned (t.val a cp) ∧ SQ P g cap ts 0 r w' ∧ w.grownBy w' (some P) ∧ t.lies (Fr w.heap.size w'.heap.size) w' a cp
  | .error (k, p) => e = flt k p ∧ w.grownBy w' (some P)
theorem param_len {r : List Tk} {t : Nd} {q : List Tk} (h : paramR r = .ok (t, q)) : q.length ≤ r.length := by
  unfold paramR kindT at h
  split at h
  · cases h; exact stepL_le r
  · cases h
theorem listR_rest {rdr : List Tk → Rd} : ∀ (f : Nat) (acc : List Nd) (l : List Tk) (u : Nd) (q : List Tk), (∀ l t q, rdr l = .ok (t, q) → q.length ≤ l.length) → listR rdr f acc l = .ok (u, q) → q.length ≤ l.length
  | 0, _, _, _, _, _, h => by rw [listR] at h; cases h
  | f + 1, acc, l, u, q, hr, h => by
    rw [listR] at h
    cases hx : rdr l with
    | error e => rw [hx] at h; cases h
    | ok p =>
      obtain ⟨t, r⟩ := p
      rw [hx] at h
      have h1 := hr l t r hx
      have h2 := stepL_le r
      replace h : (if isT tComma r = true then listR rdr f (acc ++ [t]) (stepL r) else wantT tShut r fun r => .ok (mkN 0 [] 0 (acc ++ [t]) 0, r)) = .ok (u, q) := h
      split at h
      · have := listR_rest f _ _ _ _ hr h; omega
      · unfold wantT at h
        split at h
        · cases h; omega
        · cases h
theorem qtr_node (t : Nd) (a : Option Addr) (c : Nat) (w : World) : (Instr.field 67 (.agg #[.int .i64 t.kind, .string t.text, .int .i64 t.n, .slice a t.kids.length c, .int .i64 t.place, .int .i64 (depthN t)]) 0).run Tryz.prog w = .ok (.agg #[.int .i64 t.kind, .string t.text, .int .i64 t.n, .slice a t.kids.length c, .int .i64 t.place]) w := by kernel_rfl
theorem let_fin {P g cap base nb rb : Nat} {ts : List Tk} {k p : Int} {s : List UInt8} {ks : List Nd} {L : List Ent} {ao : Option Addr} {cp : Nat} {r : List Tk} {w W : World} (hI : L.map (·.1) = ks ∧ W.heap[nb]? = some (.cells #[.int .i64 k, .string ⟨s.toArray⟩, .int .i64 0, .slice ao L.length cp, .int .i64 p] 24 (0, 0)) ∧ W.ownsRow base 24 5 (.slice ao L.length cp) L.length (entC L) ∧ ∀ e ∈ L, e.1.lies (fun c => base ≤ c ∧ c < W.heap.size ∧ (Value.slice ao L.length cp).ownBlock ≠ some c) W e.2.1 e.2.2)
    (hs : SQ P g cap ts 0 r W) (hg : w.grownBy W (some P)) (_hb : base ≤ W.heap.size) (hk : (Lit.int .i64 k).wf = true ∧ s.length ≤ 16384 ∧ (Lit.int .i64 p).wf = true) (h1 : w.heap.size ≤ rb ∧ rb < base) (_h2 : w.heap.size ≤ base) (h3 : rb ≠ P ∧ rb ≠ g) :
    NQ P g cap ts (.ok (mkN k s 0 ks p, r)) w (.returned ((mkN k s 0 ks p).val ao cp)) (put5 W rb (mkN k s 0 ks p) ao cp) := by
  obtain ⟨i1, i2, i3, i4⟩ := hI
  have hput := put5_grown (b := rb) W (mkN k s 0 ks p) ao cp
  have hsz := size_put W rb (mkN k s 0 ks p) ao cp
  have key : Nd.lie (fun c => base ≤ c ∧ c < W.heap.size) W ks ao 0 ∧ ks.length ≤ cp ∧ cp ≤ maxLen := by
    have hlt := i3.lt
    rw [← i1]
    rcases i3.2 with ⟨e, h0⟩ | ⟨g', cap', cur, e, hg', -, q1, q2, -⟩
    · obtain ⟨rfl, -, rfl⟩ := Value.slice.inj e
      have : L = [] := List.length_eq_zero_iff.1 h0
      subst this
      exact ⟨trivial, Nat.le_refl _, Nat.zero_le _⟩
    · obtain ⟨rfl, -, rfl⟩ := Value.slice.inj e
      exact ⟨lie_row i3 (hlt g' rfl) fun e he => lies_move (i4 e he) (KeepsV.refl _ _) fun c hc => ⟨hc.1, hc.2.1⟩, by rw [List.length_map]; exact q1, q2⟩
  have hl : (mkN k s 0 ks p).lies (fun c => base ≤ c ∧ c < W.heap.size) W ao cp := Nd.lies.mk' hk.1 (by show s.toArray.size ≤ maxLen; unfold maxLen; have := hk.2.1; simp; omega) rfl hk.2.2 key.2.1 key.2.2 key.1
  refine ⟨ao, cp, rfl, hs.keeps (fun c hc => ?_) hput.size, grown_new hg hput h1.1, lies_move hl (fun c hc => hput.block c hc.2 (fun e => by have := Option.some.inj e; have := hc.1; omega)) fun c hc => ⟨by have := hc.1; omega, by rw [hsz]; exact hc.2⟩⟩
  have hbl := hs.blocks
  rcases hc with rfl | rfl
  · exact hput.block _ hbl.1 (fun e => h3.1 (Option.some.inj e).symm)
  · exact hput.block _ hbl.2.1 (fun e => h3.2 (Option.some.inj e).symm)
set_option maxHeartbeats 16000000 in
theorem qlet_any (P g cap : Nat) (ts : List Tk) (he : Ends ts) (htk : ∀ t ∈ ts, TkOk t) (l : List Tk) : ∀ w, SQ P g cap ts 0 l w → Calls Tryz.prog 94 #[.pointer (some ⟨P, 0, none⟩)] w (NQ P g cap ts (letR l) w) := by
  intro w h
  obtain ⟨i0, hi, hz0, hz1, hz2⟩ := info_parts (show (Tryz.prog.info? 24).map (fun i => (i.zero, i.size, i.bytes)) = some (some (.agg #[.int .i64 0, .string ⟨#[]⟩, .int .i64 0, .slice none 0 0, .int .i64 0]), 5, 64) by kernel_rfl)
  have HI0 := Lib.hid (show _ ∧ _ ∧ _ ∧ _ from ⟨hi, hz0, hz1, hz2⟩)
  clear hi hz0 hz1 hz2
  have HB := Lib.hid h.blocks
  have HE := Lib.hid he
  have HTK := Lib.hid htk
  obtain ⟨X, hX⟩ : ∃ X, X = letR l := ⟨_, rfl⟩
  rw [← hX]
  rw [show letR l = wantT tLet l fun r => kindT 1 r fun t r => (paramsR r).then fun ps r => wantT tEq r fun r => (rd .expr 0 r).then fun x r => wantT tSemi r fun r => .ok (mkN 3 t.text 0 (ps.kids ++ [x]) t.pos, r) from rfl] at hX
  have HX := Lib.hid hX
  obtain ⟨W1, hW1⟩ : ∃ W, W = w.alloc (.cells #[.pointer (some ⟨P, 0, none⟩)] 65) := ⟨_, rfl⟩
  have B1 := Lib.hid (show Below w.heap.size w W1 from hW1 ▸ nbelow1 _ _)
  have hz1 := Lib.hid (show W1.heap.size = w.heap.size + 1 by rw [hW1]; simp)
  have hp1 := Lib.hid (show W1.cell? ⟨w.heap.size, 0, none⟩ = some (.pointer (some ⟨P, 0, none⟩)) by rw [hW1]; simp)
  obtain ⟨W2, hW2⟩ : ∃ W, W = W1.alloc (.cells #[.int .i64 0, .string ⟨#[]⟩, .int .i64 0, .slice none 0 0, .int .i64 0] 24) := ⟨_, rfl⟩
  have B2' := Lib.hid (show Below W1.heap.size W1 W2 from hW2 ▸ nbelow1 _ _)
  have B2 := Lib.hid (B1.out.trans (B2'.out.mono B1.out.size))
  have hz2 := Lib.hid (show W2.heap.size = w.heap.size + 2 by rw [hW2]; simp [hz1.out])
  have Z2 := Lib.hid (show NBox (w.heap.size + 1) nd0 none 0 W2 from hW2 ▸ (show w.heap.size + 1 = W1.heap.size by rw [hz1.out]) ▸ NBox.make W1 nd0 none 0)
  have HC := Lib.hid (show ∀ W : World, W2.grownBy W (some P) → W.cell? ⟨w.heap.size, 0, none⟩ = some (.pointer (some ⟨P, 0, none⟩)) ∧ NBox (w.heap.size + 1) nd0 none 0 W from fun W hg =>
    ⟨(World.cell?_of_block (hg.block w.heap.size (by have := hz2.out; omega) (fun e => by have := Option.some.inj e; have := HB.out; omega))).trans ((B2'.out.cell (p := ⟨w.heap.size, 0, none⟩) (by show w.heap.size < W1.heap.size; rw [hz1.out]; omega)).trans hp1.out), Z2.out.grown hg (by have := HB.out; omega)⟩)
  have S2 := Lib.hid (h.below B2.out)
  have G2 := Lib.hid (show w.grownBy W2 (some P) from grown_of B2.out)
  have hp2 := (HC.out W2 (grown_of (Below.refl _ _))).1
  clear h he htk hX
  go_enter Tryz.func94, Tryz.ntmps94
  go_upto_region 1 with fail
  rw [← hW1, ← hW2]
  clear hW1 hW2
  have C3 := Lib.hid (show Calls Tryz.prog 85 #[.pointer (some ⟨P, 0, none⟩), .string ⟨#[108, 101, 116]⟩] W2 (WantR P g cap ts 0 tLet l W2) from qwant_s P g cap ts 0 l ⟨#[108, 101, 116]⟩ tLet rfl W2 S2.out HE.out)
  go_wp2_with fail
  (with_reducible refine Calls.mono C3.out ?_)
  rintro e w3 ⟨hg, hq⟩
  have H3 := Lib.hid hg
  have G3 := Lib.hid (show w.grownBy w3 (some P) from grown_trans G2.out hg)
  cases hw3 : isT tLet l
  case false =>
    obtain rfl := hq.2 hw3
    refine And.intro rfl ?_
    rw [HX.out, want_no hw3]
    exact ⟨rfl, G3.out⟩
  case true =>
  obtain ⟨rfl, hs⟩ := hq.1 hw3
  have S3 := Lib.hid hs
  have HX3 := Lib.hid (show X = kindT 1 (stepL l) fun t r => (paramsR r).then fun ps r => wantT tEq r fun r => (rd .expr 0 r).then fun x r => wantT tSemi r fun r => .ok (mkN 3 t.text 0 (ps.kids ++ [x]) t.pos, r) from HX.out.trans (want_yes hw3))
  have hl3 := Lib.hid (isT_len hw3)
  clear hs hg hq hw3 C3
  have hp3 := (HC.out w3 H3.out).1
  have HT0 := Lib.hid (HTK.out _ S3.out.mem)
  have C4 := Lib.hid (qkind_any P g cap ts 0 (stepL l) 1 w3 S3.out HE.out)
  obtain ⟨T, hT⟩ : ∃ T, T = hd (stepL l) := ⟨_, rfl⟩
  have HX4 := Lib.hid (show X = goX (kindX 1 (.ok (stepL l))) (fun r => (paramsR r).then fun ps r => wantT tEq r fun r => (rd .expr 0 r).then fun x r => wantT tSemi r fun r => .ok (mkN 3 T.text 0 (ps.kids ++ [x]) T.pos, r)) from
    HX3.out.trans (kind_go (.ok (stepL l)) 1 (fun t r => (paramsR r).then fun ps r => wantT tEq r fun r => (rd .expr 0 r).then fun x r => wantT tSemi r fun r => .ok (mkN 3 t.text 0 (ps.kids ++ [x]) t.pos, r)) T (fun r h => by cases h; exact hT)))
  rw [← hT] at C4 HT0
  have HLK := Lib.hid (show ∀ r, kindX 1 (.ok (stepL l)) = .ok r → r.length + 1 = (stepL l).length from fun r h => by
    obtain ⟨r', h1, h2, rfl⟩ := kind_inv h
    cases h1
    exact step_len h2 (by decide))
  generalize kindX 1 (.ok (stepL l)) = σ at C4 HX4 HLK
  clear hT hp2
  go_wp2_with fail
  (with_reducible refine Calls.mono C4.out ?_)
  intro e w4 hq
  cases σ with
  | error q =>
    obtain ⟨k0, p0⟩ := q
    obtain ⟨rfl, hg⟩ := hq
    refine And.intro rfl ?_
    rw [HX4.out]
    exact ⟨rfl, grown_trans G3.out hg⟩
  | ok r1 =>
  obtain ⟨rfl, hs, hg⟩ := hq
  have HX5 := Lib.hid (show X = (paramsR r1).then fun ps r => wantT tEq r fun r => (rd .expr 0 r).then fun x r => wantT tSemi r fun r => .ok (mkN 3 T.text 0 (ps.kids ++ [x]) T.pos, r) from HX4.out)
  have hlk := Lib.hid (HLK.out r1 rfl)
  have S4 := Lib.hid hs
  have H4 := Lib.hid (grown_trans H3.out hg)
  clear hs hg C4 HX4 HLK hp3
  unfold tkV
  obtain ⟨W5, hW5⟩ : ∃ W, W = w4.alloc (.cells #[.int .i64 T.kind, .string ⟨T.text.toArray⟩, .int .i64 T.n, .int .i64 T.pos] 96) := ⟨_, rfl⟩
  have B5 := Lib.hid (show Below w4.heap.size w4 W5 from hW5 ▸ nbelow1 _ _)
  have hz5 := Lib.hid (show W5.heap.size = w4.heap.size + 1 by rw [hW5]; simp)
  have Q5 := Lib.hid (show QT w4.heap.size T W5 from hW5 ▸ QT.make w4 T)
  obtain ⟨⟨t0, t1, t2, t3⟩, -⟩ := Q5.out.cells
  have htl := Q5.out.lt
  go_upto_region 3 with fail
  rw [← hW5]
  clear hW5
  obtain ⟨sb, hsb⟩ : ∃ sb : ByteArray, sb = ⟨T.text.toArray⟩ := ⟨_, rfl⟩
  obtain ⟨W6, hW6⟩ : ∃ W, W = W5.alloc (.cells #[.int .i64 3, .string sb, .int .i64 0, .slice none 0 0, .int .i64 T.pos] 24) := ⟨_, rfl⟩
  have B6 := Lib.hid (show Below W5.heap.size W5 W6 from hW6 ▸ nbelow1 _ _)
  have hz6 := Lib.hid (show W6.heap.size = W5.heap.size + 1 by rw [hW6]; simp)
  have K6 := Lib.hid (show W6.heap[W5.heap.size]? = some (.cells #[.int .i64 3, .string sb, .int .i64 0, .slice none 0 0, .int .i64 T.pos] 24 (0, 0)) by rw [hW6]; show (W5.heap.push _)[W5.heap.size]? = _; simp)
  have B46 := Lib.hid (show Below w4.heap.size w4 W6 from B5.out.trans (B6.out.mono B5.out.size))
  have H6 := Lib.hid (grown_trans H4.out (grown_of B46.out))
  have S6 := Lib.hid (S4.out.below B46.out)
  have hp6 := (HC.out W6 H6.out).1
  have J6 := Lib.hid (show LetJ W6.heap.size W5.heap.size w.heap.size P 3 sb T.pos [] W6 from ⟨hp6, Nat.le_refl _, [], none, 0, rfl, K6.out, World.ownsRow_nil _ _ _ _, fun e he => (by cases he)⟩)
  have hnum := Lib.hid (show P < w.heap.size ∧ g < w.heap.size ∧ w.heap.size + 2 ≤ w4.heap.size ∧ W5.heap.size = w4.heap.size + 1 ∧ W6.heap.size = W5.heap.size + 1 from ⟨HB.out.1, HB.out.2.1, by have := H4.out.size; have := hz2.out; omega, hz5.out, hz6.out⟩)
  have G6 := Lib.hid (show w.grownBy W6 (some P) from grown_trans G2.out H6.out)
  have C6 := Lib.hid (show Calls Tryz.prog 82 #[.pointer (some ⟨P, 0, none⟩), .string ⟨#[40]⟩] W6 (fun e w' => e = .returned (.bool (isT tOpen r1)) ∧ Below W6.heap.size W6 w') from qis_s P g cap ts 0 r1 ⟨#[40]⟩ W6 S6.out)
  go_upto_region 4 with fail
  rw [← hsb, ← hW6]
  have HSB := Lib.hid hsb
  clear hW6 hsb t0 t1 t2 t3 htl
  obtain ⟨bo, hbo⟩ : ∃ b, b = isT tOpen r1 := ⟨_, rfl⟩
  rw [← hbo] at C6
  have HBO := Lib.hid hbo
  clear hbo
  go_upto_if 15 with (with_reducible refine Calls.mono C6.out ?_; rintro e w7 ⟨rfl, hb⟩; have B7 := Lib.hid hb; clear hb)
  have J7 := Lib.hid (show LetJ W6.heap.size W5.heap.size w.heap.size P 3 sb T.pos [] w7 from ⟨(HC.out w7 (grown_trans H6.out (grown_of B7.out))).1, J6.out.2.grown (P := P) (grown_of B7.out) (by have := hnum.out; omega) (by have := hnum.out; omega)⟩)
  have S7 := Lib.hid (S6.out.below B7.out)
  have hp7 := J7.out.1
  go_cut [] from 16 (fun wx => ∃ (ps : Nd) (r : List Tk), Hid (paramsR r1 = .ok (ps, r) ∧ SQ P g cap ts 0 r wx ∧ LetJ W6.heap.size W5.heap.size w.heap.size P 3 sb T.pos ps.kids wx ∧ Gx P W5.heap.size W6.heap.size W6 wx ∧ r.length ≤ r1.length ∧ ps.kids.length ≤ 8))
  case first =>
    cases bo
    · go_wp2_with fail
      go_meet
      case rel =>
        exact ⟨mkN 0 [] 0 [] 0, r1, by show paramsR r1 = _; unfold paramsR; rw [← HBO.out, if_neg (by decide)], S7.out, J7.out, Gx.of (grown_of B7.out), Nat.le_refl _, Nat.zero_le _⟩
    · have eg : Enters 127 := enters_of Tryz.func127 (by kernel_rfl) rfl
      have HLo := Lib.hid (isT_len HBO.out.symm)
      have C8 := Lib.hid (show Calls Tryz.prog 126 #[.pointer (some ⟨P, 0, none⟩), .int .i64 8, .func (.func 127) #[] #[.pointer (some ⟨w.heap.size, 0, none⟩), .pointer (some ⟨W5.heap.size, 0, none⟩)]] w7 (ListQ P g cap ts 0 W5.heap.size W6.heap.size (LetJ W6.heap.size W5.heap.size w.heap.size P 3 sb T.pos) (listR paramR 8 [] (stepL r1)) w7) from by
        have hnm := hnum.out
        exact qlist_any P g cap ts HE.out 0 r1 8 (by decide) 127 _ paramR W5.heap.size W6.heap.size (LetJ W6.heap.size W5.heap.size w.heap.size P 3 sb T.pos) w7 eg
          (fun acc W W' hj hg => ⟨(World.cell?_of_block (hg.block w.heap.size (by have := hj.2.1; omega) (fun e => by have := Option.some.inj e; omega))).trans hj.1, hj.2.grown hg (by omega) (by omega)⟩) (fun r t q h => param_len h)
          (fun acc r W hr ha hj hs hgx => qlet1_any P g cap ts HE.out HTK.out 0 W6.heap.size W5.heap.size w.heap.size sb T.pos acc r W hs hj (by omega) (by omega) (by omega) (by omega)) S7.out J7.out HBO.out.symm)
      have HPs := Lib.hid (show paramsR r1 = listR paramR 8 [] (stepL r1) by unfold paramsR; rw [← HBO.out, if_pos rfl])
      have HLR := Lib.hid (fun u q (h : listR paramR 8 [] (stepL r1) = .ok (u, q)) => And.intro (listR_len 8 [] _ u q h) (listR_rest 8 [] _ u q (fun _ _ _ h => param_len h) h))
      have HXp := Lib.hid (show X = (listR paramR 8 [] (stepL r1)).then fun ps r => wantT tEq r fun r => (rd .expr 0 r).then fun x r => wantT tSemi r fun r => .ok (mkN 3 T.text 0 (ps.kids ++ [x]) T.pos, r) by rw [HX5.out, HPs.out])
      generalize listR paramR 8 [] (stepL r1) = x at C8 HPs HLR HXp
      clear eg
      go_wp2_with fail
      (with_reducible refine Calls.mono C8.out ?_)
      intro e w8 hq
      obtain ⟨hgx, hq⟩ := hq
      cases x with
      | error q =>
        obtain ⟨k, p⟩ := q
        obtain rfl := hq
        refine And.intro rfl ?_
        rw [HXp.out]
        exact ⟨rfl, ((Gx.of (grown_of B7.out)).trans hgx).grown G6.out (by have := hnum.out; omega) (by have := hnum.out; omega)⟩
      | ok q =>
      obtain ⟨u, q⟩ := q
      obtain ⟨rfl, hs, hj⟩ := hq
      have HH := Lib.hid (show SQ P g cap ts 0 q w8 ∧ LetJ W6.heap.size W5.heap.size w.heap.size P 3 sb T.pos u.kids w8 ∧ Gx P W5.heap.size W6.heap.size W6 w8 from ⟨hs, hj, (Gx.of (grown_of B7.out)).trans hgx⟩)
      clear hs hj hgx C8
      go_wp2_with fail
      go_meet
      case rel =>
        have h1 := HLR.out u q rfl
        exact ⟨u, q, HPs.out, HH.out.1, HH.out.2.1, HH.out.2.2, by have := h1.2; have := HLo.out; omega, h1.1⟩
  case rest =>
  obtain ⟨ps, r2, HCUT⟩ := hcut
  have HX6 := Lib.hid (show X = wantT tEq r2 fun r => (rd .expr 0 r).then fun x r => wantT tSemi r fun r => .ok (mkN 3 T.text 0 (ps.kids ++ [x]) T.pos, r) by rw [HX5.out, HCUT.out.1]; rfl)
  have S8 := Lib.hid HCUT.out.2.1
  have J8 := Lib.hid HCUT.out.2.2.1
  have GX8 := Lib.hid HCUT.out.2.2.2.1
  have hr2 := Lib.hid HCUT.out.2.2.2.2.1
  have hps := Lib.hid HCUT.out.2.2.2.2.2
  have G8 := Lib.hid (show w.grownBy wc (some P) from GX8.out.grown G6.out (by have := hnum.out; omega) (by have := hnum.out; omega))
  have hpc := J8.out.1
  clear hp7 hp6
  have C9 := Lib.hid (show Calls Tryz.prog 85 #[.pointer (some ⟨P, 0, none⟩), .string ⟨#[61]⟩] wc (WantR P g cap ts 0 tEq r2 wc) from qwant_s P g cap ts 0 r2 ⟨#[61]⟩ tEq rfl wc S8.out HE.out)
  go_wp2_with fail
  (with_reducible refine Calls.mono C9.out ?_)
  rintro e w9 ⟨hg, hq⟩
  have H9 := Lib.hid hg
  have G9 := Lib.hid (show w.grownBy w9 (some P) from grown_trans G8.out hg)
  cases hw9 : isT tEq r2
  case false =>
    obtain rfl := hq.2 hw9
    refine And.intro rfl ?_
    rw [HX6.out, want_no hw9]
    exact ⟨rfl, G9.out⟩
  case true =>
  obtain ⟨rfl, hs⟩ := hq.1 hw9
  have S9 := Lib.hid hs
  have HX9 := Lib.hid (show X = (rd .expr 0 (stepL r2)).then fun x r => wantT tSemi r fun r => .ok (mkN 3 T.text 0 (ps.kids ++ [x]) T.pos, r) from HX6.out.trans (want_yes hw9))
  have hl9 := Lib.hid (isT_len hw9)
  clear hs hg hq hw9 C9
  have J9 := Lib.hid (show LetJ W6.heap.size W5.heap.size w.heap.size P 3 sb T.pos ps.kids w9 from ⟨(World.cell?_of_block (H9.out.block w.heap.size (by have := GX8.out.size; have := hnum.out; omega) (fun e => by have := Option.some.inj e; have := hnum.out; omega))).trans J8.out.1, J8.out.2.grown H9.out (by have := hnum.out; omega) (by have := hnum.out; omega)⟩)
  have BD := Lib.hid (show Below w9.heap.size w9 w9.drew from bdrew (Below.refl _ _))
  have hp9 := J9.out.1
  obtain ⟨hb4, L, ao, cp, j3, j4, j5, j6⟩ := J9.out.2
  have HM := Lib.hid j3
  have HK9 := Lib.hid j4
  have HO9 := Lib.hid j5
  have HL9 := Lib.hid j6
  have hb9 := Lib.hid hb4
  have hLl : L.length ≤ 8 := by have := hps.out; rw [← j3, List.length_map] at this; exact this
  have HOB := Lib.hid (show ∀ d, (Value.slice ao L.length cp).ownBlock = some d → W6.heap.size ≤ d ∧ d < w9.heap.size from fun d hd => HO9.out.lt d hd)
  have HSx := Lib.hid (show ∀ cur : World, cur.heap[W5.heap.size]? = some (.cells #[.int .i64 3, .string sb, .int .i64 0, .slice ao L.length cp, .int .i64 T.pos] 24 (0, 0)) → cur.cell? ⟨w.heap.size, 0, none⟩ = some (.pointer (some ⟨P, 0, none⟩)) → cur.cell? ⟨W5.heap.size, 3, none⟩ = some (.slice ao L.length cp) ∧ cur.cell? ⟨w.heap.size, 0, none⟩ = some (.pointer (some ⟨P, 0, none⟩)) from fun cur h1 h2 => ⟨by simp [World.cell?, h1], h2⟩)
  have HPc := Lib.hid hp9
  have CE := Lib.hid (show ∀ W, SQ P g cap ts 0 (stepL r2) W → Calls Tryz.prog 55 #[.pointer (some ⟨P, 0, none⟩)] W (QP P g cap ts 0 (rd .expr 0 (stepL r2)) W) from fun W hs => qexpr_all P g cap ts HE.out HTK.out (stepL r2) 0 W (by decide) hs)
  generalize rd .expr 0 (stepL r2) = x at CE HX9
  clear hpc j3 j4 j5 j6 hb4
  go_upto_region 7 with fail
  go_cut [] from 21 (fun wx => ∃ (t : Nd) (r3 : List Tk), Hid (X = (wantT tSemi r3 fun r => .ok (mkN 3 T.text 0 (ps.kids ++ [t]) T.pos, r)) ∧ Gx P W5.heap.size W6.heap.size w9 wx ∧ SQ P g cap ts 0 r3 wx ∧ LetJ W6.heap.size W5.heap.size w.heap.size P 3 sb T.pos (ps.kids ++ [t]) wx))
  case first =>
    refine wp_region_z (S := (fun cur => cur.cell? ⟨W5.heap.size, 3, none⟩ = some (.slice ao L.length cp) ∧ cur.cell? ⟨w.heap.size, 0, none⟩ = some (.pointer (some ⟨P, 0, none⟩)))) (Z := [7, 8, 9, 10, 11]) (by kernel_rfl) ?_ (fun hHeld => ?_)
    · exact HSx.out _ HK9.out HPc.out
    refine AnyZ.take (i := 0) (v := ?_) (op_at rfl) (by kernel_rfl) (by kernel_rfl) (by kernel_rfl) (by kernel_rfl) (fun _ _ _ h => h) (Or.inl ⟨by rfl, ?_⟩) (by assumption) ?_
    rotate_left
    · (intro w hSw; (try dsimp only at hSw); go_simp; try with_reducible rfl)
    try simp only [Act.put, List.setIfInBounds_toArray, List.set_cons_zero, List.set_cons_succ]
    refine AnyZ.take (i := 1) (v := ?_) (op_at rfl) (by kernel_rfl) (by kernel_rfl) (by kernel_rfl) (by kernel_rfl) (fun _ _ _ h => h) (Or.inl ⟨by rfl, ?_⟩) (by assumption) ?_
    rotate_left
    · (intro w hSw; (try dsimp only at hSw); go_simp; try with_reducible rfl)
    try simp only [Act.put, List.setIfInBounds_toArray, List.set_cons_zero, List.set_cons_succ]
    refine AnyZ.take (i := 2) (v := ?_) (op_at rfl) (by kernel_rfl) (by kernel_rfl) (by kernel_rfl) (by kernel_rfl) (fun _ _ _ h => h) (Or.inl ⟨by rfl, ?_⟩) (by assumption) ?_
    rotate_left
    · (intro w hSw; (try dsimp only at hSw); go_simp; try with_reducible rfl)
    try simp only [Act.put, List.setIfInBounds_toArray, List.set_cons_zero, List.set_cons_succ]
    refine AnyZ.take (i := 5) (v := ?_) (op_at rfl) (by kernel_rfl) (by kernel_rfl) (by kernel_rfl) (by kernel_rfl) (fun _ _ _ h => h) (Or.inl ⟨by rfl, ?_⟩) (by assumption) ?_
    rotate_left
    · (intro w hSw; (try dsimp only at hSw); go_simp; try with_reducible rfl)
    try simp only [Act.put, List.setIfInBounds_toArray, List.set_cons_zero, List.set_cons_succ]
    refine AnyZ.two (i := 3) (j := 6) (by kernel_rfl) (op_at rfl) (op_at rfl) (fun K hK => ?_) (fun K hK => ?_)
    · go_simp
      (with_reducible refine Calls.mono (CE.out w9.drew (S9.out.below BD.out)) ?_)
      intro e wa hq
      cases x with
      | error q =>
        obtain ⟨k0, p0⟩ := q
        obtain ⟨rfl, hg⟩ := hq
        refine And.intro rfl ?_
        rw [HX9.out]
        exact ⟨rfl, grown_trans G9.out (grown_trans (grown_of (r := some P) BD.out) hg)⟩
      | ok q =>
      obtain ⟨t, r3⟩ := q
      obtain ⟨a, c, rfl, hs, hg, hl2, hdp⟩ := hq
      have HX10 := Lib.hid (show X = wantT tSemi r3 fun r => .ok (mkN 3 T.text 0 (ps.kids ++ [t]) T.pos, r) from HX9.out)
      have Sa := Lib.hid hs
      have Ga := Lib.hid (show w9.grownBy wa (some P) from grown_trans (grown_of (r := some P) BD.out) hg)
      have Gp := Lib.hid hg
      have HLt := Lib.hid (show t.lies (Fr w9.heap.size wa.heap.size) wa a c from lies_move hl2 (KeepsV.refl _ _) fun d hd => ⟨Nat.le_trans ((grown_of (r := some P) BD.out)).size hd.1, hd.2⟩)
      have HKa := Lib.hid (show wa.heap[W5.heap.size]? = some (.cells #[.int .i64 3, .string sb, .int .i64 0, .slice ao L.length cp, .int .i64 T.pos] 24 (0, 0)) from (Ga.out.block _ (by have := hb9.out; have := hnum.out; omega) (fun e => by have := Option.some.inj e; have := hnum.out; omega)).trans HK9.out)
      have HPa := Lib.hid (show wa.cell? ⟨w.heap.size, 0, none⟩ = some (.pointer (some ⟨P, 0, none⟩)) from (World.cell?_of_block (Ga.out.block w.heap.size (by have := hb9.out; have := hnum.out; omega) (fun e => by have := Option.some.inj e; have := hnum.out; omega))).trans HPc.out)
      have Oa := Lib.hid (show wa.ownsRow W6.heap.size 24 5 (.slice ao L.length cp) L.length (entC L) from HO9.out.kept Ga.out (by
        cases hv : (Value.slice ao L.length cp).ownBlock with
        | none => exact .inl rfl
        | some c => exact .inr (fun e => by have := (HOB.out c hv).1; cases e; have := hnum.out; omega)))
      have HLa := Lib.hid (show ∀ e ∈ L, e.1.lies (fun c => W6.heap.size ≤ c ∧ c < wa.heap.size ∧ (Value.slice ao L.length cp).ownBlock ≠ some c) wa e.2.1 e.2.2 from fun e he => lies_move (HL9.out e he) (fun d hd => Ga.out.block d hd.2.1 (fun e => by have := Option.some.inj e; have := hd.1; have := hnum.out; omega)) fun d hd => ⟨hd.1, Nat.lt_of_lt_of_le hd.2.1 Ga.out.size, hd.2.2⟩)
      have hfd := qtr_node t a c
      clear hs hg hl2 hdp
      unfold trV
      go_wp2_with fail
      refine hK.out _ _ ?_ (fun hHeld => ?_)
      · exact HSx.out _ HKa.out HPa.out
      clear hK K
      try simp only [Act.put, List.setIfInBounds_toArray, List.set_cons_zero, List.set_cons_succ]
      refine AnyZ.take (i := 4) (v := ?_) (op_at rfl) (by kernel_rfl) (by kernel_rfl) (by kernel_rfl) (by kernel_rfl) (fun _ _ _ h => h) (Or.inl ⟨by rfl, ?_⟩) (by assumption) ?_
      rotate_left
      · (intro w hSw; (try dsimp only at hSw); go_simp; try with_reducible rfl)
      try simp only [Act.put, List.setIfInBounds_toArray, List.set_cons_zero, List.set_cons_succ]
      refine AnyZ.next (i := 6) (by kernel_rfl) (op_at rfl) (fun K hK => ?_)
      go_simp
      obtain ⟨Wz, hWz⟩ : ∃ W, W = wa.alloc (.cells #[.int .i64 0, .string ⟨#[]⟩, .int .i64 0, .slice none 0 0, .int .i64 0] 24) := ⟨_, rfl⟩
      have Bz := Lib.hid (show Below wa.heap.size wa Wz from hWz ▸ nbelow1 _ _)
      have N5 := Lib.hid (show ∀ i u, zero5[i]? = some u → Wz.cell? ((⟨wa.heap.size, 0, none⟩ : Addr).add i) = some u from hWz ▸ cells5_new wa _ _ _ _ _ _)
      have O5 := Lib.hid (show Wz.ownsRow W6.heap.size 24 5 (.slice ao L.length cp) L.length (entC L) from own_below Oa.out Bz.out)
      have HK5 := Lib.hid (show Wz.heap[W5.heap.size]? = some (.cells #[.int .i64 3, .string sb, .int .i64 0, .slice ao L.length cp, .int .i64 T.pos] 24 (0, 0)) from (Bz.out.block _ (Array.getElem?_eq_some_iff.1 HKa.out).1).trans HKa.out)
      have hbase5 := Lib.hid (show W6.heap.size ≤ Wz.heap.size from Nat.le_trans (Nat.le_trans hb9.out Ga.out.size) Bz.out.size)
      have HPz := Lib.hid ((Bz.out.cell (p := ⟨w.heap.size, 0, none⟩) (by show w.heap.size < wa.heap.size; have := hb9.out; have := Ga.out.size; have := hnum.out; omega)).trans HPa.out)
      rw [← hWz]
      clear hWz
      refine hK.out _ _ ?_ (fun hHeld => ?_)
      · exact HSx.out _ HK5.out HPz.out
      clear hK K
      try simp only [Act.put, List.setIfInBounds_toArray, List.set_cons_zero, List.set_cons_succ]
      refine AnyZ.nextZ (i := 7) (by kernel_rfl) (op_at rfl) (by kernel_rfl) (fun K hK => ?_)
      refine step_append_lies _ rfl _ _ 22 rfl W6.heap.size 24 i0 (.agg #[.int .i64 0, .string ⟨#[]⟩, .int .i64 0, .slice none 0 0, .int .i64 0]) 5 64 Tryz.underlying22 HI0.out.1 HI0.out.2.1 HI0.out.2.2.1 HI0.out.2.2.2 rfl (by decide) _ _ _ rfl O5.out ⟨wa.heap.size, 0, none⟩ 1 1 zero5 rfl rfl N5.out zero_one (by decide) (by unfold maxLen; omega) (by omega) hbase5.out _ rfl ?_
      intro gb cap' w6 hown' hgrow' hat hltg
      have HO6 := Lib.hid hown'
      have HG6 := Lib.hid hgrow'
      have HAT := Lib.hid hat
      have HN6 := Lib.hid (show w6.heap[W5.heap.size]? = some (.cells #[.int .i64 3, .string sb, .int .i64 0, .slice ao L.length cp, .int .i64 T.pos] 24 (0, 0)) from (hgrow'.block _ (by have := hbase5.out; have := hnum.out; omega) (fun e => by have := (HOB.out _ e.symm).1; have := hnum.out; omega)).trans HK5.out)
      have hgb := Lib.hid (HO6.out.lt gb rfl)
      obtain ⟨⟨s0, s1, s2, s3, s4⟩, ⟨q0, q1, q2, q3, q4⟩⟩ := own_slots (ent_length L) HO6.out
      have hgl := hgb.out.2
      have hnl6 : W5.heap.size < w6.heap.size := (Array.getElem?_eq_some_iff.1 HN6.out).1
      have hn3 : w6.cell? ⟨W5.heap.size, 3, none⟩ = some (.slice ao L.length cp) := by simp [World.cell?, HN6.out]
      have hf3 : w6.frozen? ⟨W5.heap.size, 3, none⟩ = false := by simp [World.frozen?, HN6.out]
      have hgn : ¬ gb = W5.heap.size := by have := hgb.out; have := hnum.out; omega
      have hng : ¬ W5.heap.size = gb := fun e => hgn e.symm
      clear hown' hgrow' hat
      refine hK.out _ _ ?_
      clear hK K
      try simp only [Act.put, List.setIfInBounds_toArray, List.set_cons_zero, List.set_cons_succ]
      refine AnyZ.pure (i := 8) (v := ?_) (op_at rfl) (by kernel_rfl) (by kernel_rfl) (by kernel_rfl) (by kernel_rfl) (fun _ _ _ h => h) (Or.inl ⟨by rfl, ?_⟩) ?_
      rotate_left
      · (intro w hSw; go_simp; rw [if_pos (show (L.length : Int) < (L.length : Int) + 1 by omega)])
      try simp only [Act.put, List.setIfInBounds_toArray, List.set_cons_zero, List.set_cons_succ]
      refine AnyZ.pure (i := 10) (v := ?_) (op_at rfl) (by kernel_rfl) (by kernel_rfl) (by kernel_rfl) (by kernel_rfl) (fun _ _ _ h => h) (Or.inl ⟨by rfl, ?_⟩) ?_
      rotate_left
      · (intro w hSw; go_simp; try with_reducible rfl)
      try simp only [Act.put, List.setIfInBounds_toArray, List.set_cons_zero, List.set_cons_succ]
      refine AnyZ.twoZ (i := 9) (j := 11) (by kernel_rfl) (op_at rfl) (op_at rfl) (by kernel_rfl) (by kernel_rfl) (fun K hK => ?_) (fun K hK => ?_)
      · go_simp
        refine hK.out _ _ ?_
        clear hK K
        try simp only [Act.put, List.setIfInBounds_toArray, List.set_cons_zero, List.set_cons_succ]
        refine AnyZ.nextZ (i := 11) (by kernel_rfl) (op_at rfl) (by kernel_rfl) (fun K hK => ?_)
        go_simp
        refine hK.out _ _ ?_
        clear hK K
        try simp only [Act.put, List.setIfInBounds_toArray, List.set_cons_zero, List.set_cons_succ]
        refine AnyZ.done (by kernel_rfl) ?_ _
        go_wp2_with fail
        go_meet
        case rel =>
          have hone := one_fin (P := P) (g := g) (cap := cap) (ts := ts) (nest := 0) (base := W6.heap.size) (nb := W5.heap.size) (pb := w.heap.size) (w := w9) (W4 := wa) (q := r3) (e := (t, a, c)) (av := Fr w9.heap.size wa.heap.size) (by have := hnum.out; omega) (by have := hnum.out; have := HB.out; omega) (by have := hnum.out; omega) Ga.out Sa.out HPa.out (Nat.le_trans hb9.out Ga.out.size) HM.out (fun d hd => ⟨(HOB.out d hd).1, Nat.lt_of_lt_of_le (HOB.out d hd).2 Ga.out.size⟩) HLa.out HLt.out (fun d hd => ⟨Nat.le_trans hb9.out hd.1, hd.2, fun e => by have := (HOB.out d e).2; have := hd.1; omega⟩) Bz.out HG6.out HAT.out Bz.out.size hgb.out (final_a HN6.out HO6.out (ent_length L) hgn (t, a, c))
          exact ⟨t, r3, HX10.out, hone.1, hone.2.2.1, hone.2.2.2⟩
      · go_simp
        refine hK.out _ _ ?_
        clear hK K
        try simp only [Act.put, List.setIfInBounds_toArray, List.set_cons_zero, List.set_cons_succ]
        refine AnyZ.nextZ (i := 9) (by kernel_rfl) (op_at rfl) (by kernel_rfl) (fun K hK => ?_)
        go_simp
        refine hK.out _ _ ?_
        clear hK K
        try simp only [Act.put, List.setIfInBounds_toArray, List.set_cons_zero, List.set_cons_succ]
        refine AnyZ.done (by kernel_rfl) ?_ _
        go_wp2_with fail
        go_meet
        case rel =>
          have hone := one_fin (P := P) (g := g) (cap := cap) (ts := ts) (nest := 0) (base := W6.heap.size) (nb := W5.heap.size) (pb := w.heap.size) (w := w9) (W4 := wa) (q := r3) (e := (t, a, c)) (av := Fr w9.heap.size wa.heap.size) (by have := hnum.out; omega) (by have := hnum.out; have := HB.out; omega) (by have := hnum.out; omega) Ga.out Sa.out HPa.out (Nat.le_trans hb9.out Ga.out.size) HM.out (fun d hd => ⟨(HOB.out d hd).1, Nat.lt_of_lt_of_le (HOB.out d hd).2 Ga.out.size⟩) HLa.out HLt.out (fun d hd => ⟨Nat.le_trans hb9.out hd.1, hd.2, fun e => by have := (HOB.out d e).2; have := hd.1; omega⟩) Bz.out HG6.out HAT.out Bz.out.size hgb.out (final_b HN6.out HO6.out (ent_length L) hgn (t, a, c))
          exact ⟨t, r3, HX10.out, hone.1, hone.2.2.1, hone.2.2.2⟩
    · go_simp
      obtain ⟨Wz, hWz⟩ : ∃ W, W = (w9.alloc (.cells #[.int .i64 0, .string ⟨#[]⟩, .int .i64 0, .slice none 0 0, .int .i64 0] 24)).drew := ⟨_, rfl⟩
      have Bz := Lib.hid (show Below w9.heap.size w9 Wz from hWz ▸ bdrew (nbelow1 _ _))
      have Nz := Lib.hid (show ∀ i u, zero5[i]? = some u → Wz.cell? ((⟨w9.heap.size, 0, none⟩ : Addr).add i) = some u from hWz ▸ cells5_new w9 _ _ _ _ _ _)
      have hzz := Lib.hid (show Wz.heap.size = w9.heap.size + 1 by rw [hWz]; show (w9.alloc _).heap.size = _; simp)
      have HKz := Lib.hid (show Wz.heap[W5.heap.size]? = some (.cells #[.int .i64 3, .string sb, .int .i64 0, .slice ao L.length cp, .int .i64 T.pos] 24 (0, 0)) from (Bz.out.block _ (Array.getElem?_eq_some_iff.1 HK9.out).1).trans HK9.out)
      have HPz := Lib.hid ((Bz.out.cell (p := ⟨w.heap.size, 0, none⟩) (by show w.heap.size < w9.heap.size; have := hb9.out; have := hnum.out; omega)).trans HPc.out)
      rw [← hWz]
      clear hWz
      refine hK.out _ _ ?_ (fun hHeld => ?_)
      · exact HSx.out _ HKz.out HPz.out
      clear hK K
      try simp only [Act.put, List.setIfInBounds_toArray, List.set_cons_zero, List.set_cons_succ]
      refine AnyZ.next (i := 3) (by kernel_rfl) (op_at rfl) (fun K hK => ?_)
      go_simp
      (with_reducible refine Calls.mono (CE.out Wz (S9.out.below Bz.out)) ?_)
      intro e wa hq
      cases x with
      | error q =>
        obtain ⟨k0, p0⟩ := q
        obtain ⟨rfl, hg⟩ := hq
        refine And.intro rfl ?_
        rw [HX9.out]
        exact ⟨rfl, grown_trans G9.out (grown_trans (grown_of (r := some P) Bz.out) hg)⟩
      | ok q =>
      obtain ⟨t, r3⟩ := q
      obtain ⟨a, c, rfl, hs, hg, hl2, hdp⟩ := hq
      have HX10 := Lib.hid (show X = wantT tSemi r3 fun r => .ok (mkN 3 T.text 0 (ps.kids ++ [t]) T.pos, r) from HX9.out)
      have Sa := Lib.hid hs
      have Ga := Lib.hid (show w9.grownBy wa (some P) from grown_trans (grown_of (r := some P) Bz.out) hg)
      have Gp := Lib.hid hg
      have HLt := Lib.hid (show t.lies (Fr w9.heap.size wa.heap.size) wa a c from lies_move hl2 (KeepsV.refl _ _) fun d hd => ⟨Nat.le_trans ((grown_of (r := some P) Bz.out)).size hd.1, hd.2⟩)
      have HKa := Lib.hid (show wa.heap[W5.heap.size]? = some (.cells #[.int .i64 3, .string sb, .int .i64 0, .slice ao L.length cp, .int .i64 T.pos] 24 (0, 0)) from (Ga.out.block _ (by have := hb9.out; have := hnum.out; omega) (fun e => by have := Option.some.inj e; have := hnum.out; omega)).trans HK9.out)
      have HPa := Lib.hid (show wa.cell? ⟨w.heap.size, 0, none⟩ = some (.pointer (some ⟨P, 0, none⟩)) from (World.cell?_of_block (Ga.out.block w.heap.size (by have := hb9.out; have := hnum.out; omega) (fun e => by have := Option.some.inj e; have := hnum.out; omega))).trans HPc.out)
      have Oa := Lib.hid (show wa.ownsRow W6.heap.size 24 5 (.slice ao L.length cp) L.length (entC L) from HO9.out.kept Ga.out (by
        cases hv : (Value.slice ao L.length cp).ownBlock with
        | none => exact .inl rfl
        | some c => exact .inr (fun e => by have := (HOB.out c hv).1; cases e; have := hnum.out; omega)))
      have HLa := Lib.hid (show ∀ e ∈ L, e.1.lies (fun c => W6.heap.size ≤ c ∧ c < wa.heap.size ∧ (Value.slice ao L.length cp).ownBlock ≠ some c) wa e.2.1 e.2.2 from fun e he => lies_move (HL9.out e he) (fun d hd => Ga.out.block d hd.2.1 (fun e => by have := Option.some.inj e; have := hd.1; have := hnum.out; omega)) fun d hd => ⟨hd.1, Nat.lt_of_lt_of_le hd.2.1 Ga.out.size, hd.2.2⟩)
      have hfd := qtr_node t a c
      clear hs hg hl2 hdp
      unfold trV
      go_wp2_with fail
      refine hK.out _ _ ?_ (fun hHeld => ?_)
      · exact HSx.out _ HKa.out HPa.out
      clear hK K
      try simp only [Act.put, List.setIfInBounds_toArray, List.set_cons_zero, List.set_cons_succ]
      refine AnyZ.take (i := 4) (v := ?_) (op_at rfl) (by kernel_rfl) (by kernel_rfl) (by kernel_rfl) (by kernel_rfl) (fun _ _ _ h => h) (Or.inl ⟨by rfl, ?_⟩) (by assumption) ?_
      rotate_left
      · (intro w hSw; (try dsimp only at hSw); go_simp; try with_reducible rfl)
      try simp only [Act.put, List.setIfInBounds_toArray, List.set_cons_zero, List.set_cons_succ]
      have O5 := Lib.hid Oa.out
      have HK5 := Lib.hid HKa.out
      have hbase5 := Lib.hid (show W6.heap.size ≤ wa.heap.size from Nat.le_trans hb9.out Ga.out.size)
      have N5 := Lib.hid (show ∀ i u, zero5[i]? = some u → wa.cell? ((⟨w9.heap.size, 0, none⟩ : Addr).add i) = some u from fun i u hu => by
        have := Nz.out i u hu
        rw [Go.WideShapes.add_plain] at this ⊢
        exact (World.cell?_of_block (Gp.out.block w9.heap.size (by have := hzz.out; omega) (fun e => by have := Option.some.inj e; have := hb9.out; have := hnum.out; omega))).trans this)
      refine AnyZ.nextZ (i := 7) (by kernel_rfl) (op_at rfl) (by kernel_rfl) (fun K hK => ?_)
      refine step_append_lies _ rfl _ _ 22 rfl W6.heap.size 24 i0 (.agg #[.int .i64 0, .string ⟨#[]⟩, .int .i64 0, .slice none 0 0, .int .i64 0]) 5 64 Tryz.underlying22 HI0.out.1 HI0.out.2.1 HI0.out.2.2.1 HI0.out.2.2.2 rfl (by decide) _ _ _ rfl O5.out ⟨w9.heap.size, 0, none⟩ 1 1 zero5 rfl rfl N5.out zero_one (by decide) (by unfold maxLen; omega) (by omega) hbase5.out _ rfl ?_
      intro gb cap' w6 hown' hgrow' hat hltg
      have HO6 := Lib.hid hown'
      have HG6 := Lib.hid hgrow'
      have HAT := Lib.hid hat
      have HN6 := Lib.hid (show w6.heap[W5.heap.size]? = some (.cells #[.int .i64 3, .string sb, .int .i64 0, .slice ao L.length cp, .int .i64 T.pos] 24 (0, 0)) from (hgrow'.block _ (by have := hbase5.out; have := hnum.out; omega) (fun e => by have := (HOB.out _ e.symm).1; have := hnum.out; omega)).trans HK5.out)
      have hgb := Lib.hid (HO6.out.lt gb rfl)
      obtain ⟨⟨s0, s1, s2, s3, s4⟩, ⟨q0, q1, q2, q3, q4⟩⟩ := own_slots (ent_length L) HO6.out
      have hgl := hgb.out.2
      have hnl6 : W5.heap.size < w6.heap.size := (Array.getElem?_eq_some_iff.1 HN6.out).1
      have hn3 : w6.cell? ⟨W5.heap.size, 3, none⟩ = some (.slice ao L.length cp) := by simp [World.cell?, HN6.out]
      have hf3 : w6.frozen? ⟨W5.heap.size, 3, none⟩ = false := by simp [World.frozen?, HN6.out]
      have hgn : ¬ gb = W5.heap.size := by have := hgb.out; have := hnum.out; omega
      have hng : ¬ W5.heap.size = gb := fun e => hgn e.symm
      clear hown' hgrow' hat
      refine hK.out _ _ ?_
      clear hK K
      try simp only [Act.put, List.setIfInBounds_toArray, List.set_cons_zero, List.set_cons_succ]
      refine AnyZ.pure (i := 8) (v := ?_) (op_at rfl) (by kernel_rfl) (by kernel_rfl) (by kernel_rfl) (by kernel_rfl) (fun _ _ _ h => h) (Or.inl ⟨by rfl, ?_⟩) ?_
      rotate_left
      · (intro w hSw; go_simp; rw [if_pos (show (L.length : Int) < (L.length : Int) + 1 by omega)])
      try simp only [Act.put, List.setIfInBounds_toArray, List.set_cons_zero, List.set_cons_succ]
      refine AnyZ.pure (i := 10) (v := ?_) (op_at rfl) (by kernel_rfl) (by kernel_rfl) (by kernel_rfl) (by kernel_rfl) (fun _ _ _ h => h) (Or.inl ⟨by rfl, ?_⟩) ?_
      rotate_left
      · (intro w hSw; go_simp; try with_reducible rfl)
      try simp only [Act.put, List.setIfInBounds_toArray, List.set_cons_zero, List.set_cons_succ]
      refine AnyZ.twoZ (i := 9) (j := 11) (by kernel_rfl) (op_at rfl) (op_at rfl) (by kernel_rfl) (by kernel_rfl) (fun K hK => ?_) (fun K hK => ?_)
      · go_simp
        refine hK.out _ _ ?_
        clear hK K
        try simp only [Act.put, List.setIfInBounds_toArray, List.set_cons_zero, List.set_cons_succ]
        refine AnyZ.nextZ (i := 11) (by kernel_rfl) (op_at rfl) (by kernel_rfl) (fun K hK => ?_)
        go_simp
        refine hK.out _ _ ?_
        clear hK K
        try simp only [Act.put, List.setIfInBounds_toArray, List.set_cons_zero, List.set_cons_succ]
        refine AnyZ.done (by kernel_rfl) ?_ _
        go_wp2_with fail
        go_meet
        case rel =>
          have hone := one_fin (P := P) (g := g) (cap := cap) (ts := ts) (nest := 0) (base := W6.heap.size) (nb := W5.heap.size) (pb := w.heap.size) (w := w9) (W4 := wa) (q := r3) (e := (t, a, c)) (av := Fr w9.heap.size wa.heap.size) (by have := hnum.out; omega) (by have := hnum.out; have := HB.out; omega) (by have := hnum.out; omega) Ga.out Sa.out HPa.out (Nat.le_trans hb9.out Ga.out.size) HM.out (fun d hd => ⟨(HOB.out d hd).1, Nat.lt_of_lt_of_le (HOB.out d hd).2 Ga.out.size⟩) HLa.out HLt.out (fun d hd => ⟨Nat.le_trans hb9.out hd.1, hd.2, fun e => by have := (HOB.out d e).2; have := hd.1; omega⟩) (Below.refl wa.heap.size wa) HG6.out HAT.out (Below.refl wa.heap.size wa).size hgb.out (final_a HN6.out HO6.out (ent_length L) hgn (t, a, c))
          exact ⟨t, r3, HX10.out, hone.1, hone.2.2.1, hone.2.2.2⟩
      · go_simp
        refine hK.out _ _ ?_
        clear hK K
        try simp only [Act.put, List.setIfInBounds_toArray, List.set_cons_zero, List.set_cons_succ]
        refine AnyZ.nextZ (i := 9) (by kernel_rfl) (op_at rfl) (by kernel_rfl) (fun K hK => ?_)
        go_simp
        refine hK.out _ _ ?_
        clear hK K
        try simp only [Act.put, List.setIfInBounds_toArray, List.set_cons_zero, List.set_cons_succ]
        refine AnyZ.done (by kernel_rfl) ?_ _
        go_wp2_with fail
        go_meet
        case rel =>
          have hone := one_fin (P := P) (g := g) (cap := cap) (ts := ts) (nest := 0) (base := W6.heap.size) (nb := W5.heap.size) (pb := w.heap.size) (w := w9) (W4 := wa) (q := r3) (e := (t, a, c)) (av := Fr w9.heap.size wa.heap.size) (by have := hnum.out; omega) (by have := hnum.out; have := HB.out; omega) (by have := hnum.out; omega) Ga.out Sa.out HPa.out (Nat.le_trans hb9.out Ga.out.size) HM.out (fun d hd => ⟨(HOB.out d hd).1, Nat.lt_of_lt_of_le (HOB.out d hd).2 Ga.out.size⟩) HLa.out HLt.out (fun d hd => ⟨Nat.le_trans hb9.out hd.1, hd.2, fun e => by have := (HOB.out d e).2; have := hd.1; omega⟩) (Below.refl wa.heap.size wa) HG6.out HAT.out (Below.refl wa.heap.size wa).size hgb.out (final_b HN6.out HO6.out (ent_length L) hgn (t, a, c))
          exact ⟨t, r3, HX10.out, hone.1, hone.2.2.1, hone.2.2.2⟩
  case rest =>
  obtain ⟨t, r3, HC2⟩ := hcut
  have HX10 := Lib.hid HC2.out.1
  have GX10 := Lib.hid HC2.out.2.1
  have S10 := Lib.hid HC2.out.2.2.1
  have J10 := Lib.hid HC2.out.2.2.2
  have G10 := Lib.hid (show w.grownBy wc (some P) from GX10.out.grown G9.out (by have := hnum.out; omega) (by have := hnum.out; omega))
  have hp10 := J10.out.1
  clear hp9
  have C11 := Lib.hid (show Calls Tryz.prog 85 #[.pointer (some ⟨P, 0, none⟩), .string ⟨#[59]⟩] wc (WantR P g cap ts 0 tSemi r3 wc) from qwant_s P g cap ts 0 r3 ⟨#[59]⟩ tSemi rfl wc S10.out HE.out)
  go_wp2_with fail
  (with_reducible refine Calls.mono C11.out ?_)
  rintro e w11 ⟨hg, hq⟩
  have H11 := Lib.hid hg
  have G11 := Lib.hid (show w.grownBy w11 (some P) from grown_trans G10.out hg)
  cases hw11 : isT tSemi r3
  case false =>
    obtain rfl := hq.2 hw11
    refine And.intro rfl ?_
    rw [HX10.out, want_no hw11]
    exact ⟨rfl, G11.out⟩
  case true =>
  obtain ⟨rfl, hs⟩ := hq.1 hw11
  have S11 := Lib.hid hs
  have HX11 := Lib.hid (show X = .ok (mkN 3 T.text 0 (ps.kids ++ [t]) T.pos, stepL r3) from HX10.out.trans (want_yes hw11))
  have hl11 := Lib.hid (isT_len hw11)
  clear hs hg hq hw11 C11
  have J11 := Lib.hid (J10.out.2.grown H11.out (by have := hnum.out; omega) (by have := hnum.out; omega))
  obtain ⟨hb, L2, ao2, cp2, i3, i4, i5, i6⟩ := J11.out
  have hsz := Lib.hid (show W6.heap.size ≤ w11.heap.size from hb)
  have HZ := Lib.hid (show NBox (w.heap.size + 1) nd0 none 0 w11 from by
    have hn := hnum.out
    have h1 := HCUT.out.2.2.2.1.size
    have h9 := H9.out.size
    have hx := GX10.out.size
    have q1 := GX8.out.block (w.heap.size + 1) (by omega) (by omega) (by omega) (by omega)
    have q2 := H9.out.block (w.heap.size + 1) (by omega) (fun e => by have := Option.some.inj e; omega)
    have q3 := GX10.out.block (w.heap.size + 1) (by omega) (by omega) (by omega) (by omega)
    have q4 := H11.out.block (w.heap.size + 1) (by omega) (fun e => by have := Option.some.inj e; omega)
    exact q4.trans (q3.trans (q2.trans (q1.trans (HC.out W6 H6.out).2))))
  have HI := Lib.hid (And.intro i3 (And.intro i4 (And.intro i5 i6)))
  have n0 : w11.cell? ⟨W5.heap.size, 0, none⟩ = some (.int .i64 3) := by simp [World.cell?, i4]
  have n1 : w11.cell? ⟨W5.heap.size, 1, none⟩ = some (.string sb) := by simp [World.cell?, i4]
  have n2 : w11.cell? ⟨W5.heap.size, 2, none⟩ = some (.int .i64 0) := by simp [World.cell?, i4]
  have n3 : w11.cell? ⟨W5.heap.size, 3, none⟩ = some (.slice ao2 L2.length cp2) := by simp [World.cell?, i4]
  have n4 : w11.cell? ⟨W5.heap.size, 4, none⟩ = some (.int .i64 T.pos) := by simp [World.cell?, i4]
  have hnl : W5.heap.size < w11.heap.size := (Array.getElem?_eq_some_iff.1 i4).1
  obtain ⟨⟨z0, z1, z2, z3, z4⟩, ⟨f0, f1, f2, f3, f4⟩⟩ := HZ.out.cells
  simp only [nd0, Nd.kind, Nd.text, Nd.n, Nd.kids, Nd.place, List.length_nil] at z0 z1 z2 z3 z4
  have hzl := HZ.out.lt
  clear i3 i4 i5 i6 hb hp10
  go_wp2_with fail
  have hlen : L2.length = (ps.kids ++ [t]).length := by rw [← HI.out.1, List.length_map]
  refine bodyPost_ret (v := (mkN 3 T.text 0 (ps.kids ++ [t]) T.pos).val ao2 cp2) (by rw [hlen, HSB.out]; simp [results, Tryz.results94, go_sem, Nd.val, mkN, Nd.kind, Nd.text, Nd.n, Nd.kids, Nd.place, z0, z1, z2, z3, z4]) rfl ?_
  rw [HX11.out, hlen, HSB.out]
  exact let_fin (base := W6.heap.size) (nb := W5.heap.size) (rb := w.heap.size + 1) (HSB.out ▸ HI.out) S11.out G11.out hsz.out ⟨rfl, by have := HT0.out.2.2; omega, HT0.out.2.1⟩ (by have := hnum.out; omega) (by have := hnum.out; omega) (by have := HB.out; omega)
end Go.Proofs.YtcndknkdhlmdnaaGreatDoor
