/-
  Texts that the statements' proofs rest on, one behind another: SxU.
-/
import Derived.Test.YtcndknkdhlmdnaaGreatDoorS19
import Derived.Test.YtcndknkdhlmdnaaGreatDoorS02

/-
  The program's parser: a module.
-/
namespace Go.Proofs.YtcndknkdhlmdnaaGreatDoor
open Go.RowKit
set_option maxRecDepth 100000

theorem imports_no {f : Nat} {acc : List Nd} {l : List Tk} (h : isT tImport l = false) : importsR f acc l = .ok (mkN 0 [] 0 acc 0, l) := by
  cases f <;> (rw [importsR, h]; exact if_neg (by decide))
theorem lets_no {f : Nat} {acc : List Nd} {l : List Tk} (h : isT tLet l = false) : letsR f acc l = .ok (mkN 0 [] 0 acc 0, l) := by
  cases f <;> (rw [letsR, h]; exact if_neg (by decide))
theorem import_lies {T : Tk} (h : TkOk T) (av : Nat → Prop) (W : World) : (mkN 2 T.text 0 [] T.pos).lies av W none 0 :=
  Nd.lies.mk' rfl (by show T.text.toArray.size ≤ maxLen; unfold maxLen; have := h.2.2; simp; omega) rfl h.2.1 (Nat.le_refl _) (Nat.zero_le _) trivial
/-- where the reading of a module stands -/
def ModI (P g cap : Nat) (ts : List Tk) (base nb : Nat) (s : ByteArray) (p : Int) (W0 : World) (E : Nat → List Nd → List Tk → Prop) (n : Nat) (acc : List Nd) (r : List Tk) (wr : World) : Prop :=
  SQ P g cap ts 0 r wr ∧ NodeJ base nb 1 s p acc wr ∧ Gx P nb base W0 wr ∧ E n acc r
/-- one kid of a module more -/
theorem mod_more {P g cap : Nat} {ts : List Tk} {base nb gb cap' x n : Nat} {s : ByteArray} {p : Int} {W0 : World} {E : Nat → List Nd → List Tk → Prop} {L : List Ent} {ao : Option Addr} {cp : Nat} {acc : List Nd} {e : Ent} {q : List Tk} {w4 W5 w6 : World} (hn : P < x ∧ g < x ∧ x + 1 ≤ nb ∧ base = nb + 1)
    (hM : L.map (·.1) = acc) (hL : ∀ e ∈ L, e.1.lies (fun c => base ≤ c ∧ c < w4.heap.size ∧ (Value.slice ao L.length cp).ownBlock ≠ some c) w4 e.2.1 e.2.2) (hb : base ≤ w4.heap.size) (hOB : ∀ d, (Value.slice ao L.length cp).ownBlock = some d → base ≤ d ∧ d < w4.heap.size) (hGx : Gx P nb base W0 w4) (hS : SQ P g cap ts 0 q w4)
    {av : Nat → Prop} (hE : e.1.lies av w4 e.2.1 e.2.2) (hav : ∀ c, av c → base ≤ c ∧ c < w4.heap.size ∧ (Value.slice ao L.length cp).ownBlock ≠ some c) (B5 : Below w4.heap.size w4 W5) (hG6 : W5.grownBy w6 (Value.slice ao L.length cp).ownBlock) (hat : (Value.slice ao L.length cp).ownBlock = some gb ∨ gb = W5.heap.size)
    (hO6 : w6.ownsRow base 24 5 (.slice (some ⟨gb, 0, none⟩) (L.length + 1) cap') (L.length + 1) (entC L ++ ndC e)) (hN6 : w6.heap[nb]? = some (.cells #[.int .i64 1, .string s, .int .i64 0, .slice ao L.length cp, .int .i64 p] 24 (0, 0))) (hEq : E n (acc ++ [e.1]) q) :
    ModI P g cap ts base nb s p W0 E n (acc ++ [e.1]) q (w6.setCell ⟨nb, 3, none⟩ (.slice (some ⟨gb, 0, none⟩) (L.length + 1) cap')) := by
  have h5 := B5.size
  have h6 := hG6.size
  have hgb := hO6.lt gb rfl
  have hlow : ∀ d, d < base → (Value.slice ao L.length cp).ownBlock ≠ some d := fun d hd e => by have := (hOB d e).1; omega
  have h1 : ∀ d, d < w4.heap.size → (Value.slice ao L.length cp).ownBlock ≠ some d → w6.heap[d]? = w4.heap[d]? := fun d hd hne => (hG6.block d (by omega) (fun e => hne e.symm)).trans (B5.block d hd)
  have hset : ∀ d, d ≠ nb → (w6.setCell ⟨nb, 3, none⟩ (.slice (some ⟨gb, 0, none⟩) (L.length + 1) cap')).heap[d]? = w6.heap[d]? := fun d hd => Below.heap_setCell _ _ _ _ hd
  have h2 : ∀ d, d < base → d ≠ nb → (w6.setCell ⟨nb, 3, none⟩ (.slice (some ⟨gb, 0, none⟩) (L.length + 1) cap')).heap[d]? = w4.heap[d]? := fun d hd hn => (hset d hn).trans (h1 d (by omega) (hlow d hd))
  have hsz : (w6.setCell ⟨nb, 3, none⟩ (.slice (some ⟨gb, 0, none⟩) (L.length + 1) cap')).heap.size = w6.heap.size := by simp [World.setCell]
  refine ⟨hS.keeps (fun d hd => ?_) (by omega), ?_, ?_, hEq⟩
  · rcases hd with rfl | rfl
    · exact h2 _ (by omega) (by omega)
    · exact h2 _ (by omega) (by omega)
  · rw [← hM]
    exact NodeJ.snoc hb (by omega) hL hE hav h1 hat h5 (by omega) (fun d h1 _ => hset d h1) hsz (heap_set hN6 3 _) (own_heap hO6 (hset gb (by omega)))
  · exact hGx.trans ⟨(grown_set w6 nb 3 _).os.trans (hG6.os.trans B5.os), (grown_set w6 nb 3 _).tape.trans (hG6.tape.trans B5.tape), (grown_set w6 nb 3 _).output.trans (hG6.output.trans B5.output), by omega, fun d hdB _ _ hdk => h2 d hdB hdk⟩
set_option maxHeartbeats 16000000 in
theorem qmodule_any (P g cap : Nat) (ts : List Tk) (he : Ends ts) (htk : ∀ t ∈ ts, TkOk t) (l : List Tk) : ∀ w, SQ P g cap ts 0 l w → Calls Tryz.prog 57 #[.pointer (some ⟨P, 0, none⟩)] w (NQ P g cap ts (modR l) w) := by
  intro w h
  obtain ⟨i0, hi, hz0, hz1, hz2⟩ := info_parts (show (Tryz.prog.info? 24).map (fun i => (i.zero, i.size, i.bytes)) = some (some (.agg #[.int .i64 0, .string ⟨#[]⟩, .int .i64 0, .slice none 0 0, .int .i64 0]), 5, 64) by kernel_rfl)
  have HI0 := Lib.hid (show _ ∧ _ ∧ _ ∧ _ from ⟨hi, hz0, hz1, hz2⟩)
  clear hi hz0 hz1 hz2
  have HB := Lib.hid h.blocks
  have HE := Lib.hid he
  have HTK := Lib.hid htk
  obtain ⟨X, hX⟩ : ∃ X, X = modR l := ⟨_, rfl⟩
  rw [← hX]
  rw [show modR l = wantT tModule l fun r => kindT 1 r fun t r => wantT tSemi r fun r => (importsR 100 [] r).then fun is r => (letsR 200 is.kids r).then fun ls r => .ok (mkN 1 t.text 0 ls.kids (hd l).pos, r) from rfl] at hX
  have HA0 := Lib.hid (htk _ h.mem).2.1
  obtain ⟨W1, hW1⟩ : ∃ W, W = w.alloc (.cells #[.int .i64 0, .string ⟨#[]⟩, .int .i64 0, .slice none 0 0, .int .i64 0] 24) := ⟨_, rfl⟩
  have B1 := Lib.hid (show Below w.heap.size w W1 from hW1 ▸ nbelow1 _ _)
  have hz1 := Lib.hid (show W1.heap.size = w.heap.size + 1 by rw [hW1]; simp)
  have Z1 := Lib.hid (show NBox w.heap.size nd0 none 0 W1 from hW1 ▸ NBox.make w nd0 none 0)
  have S1 := Lib.hid (h.below B1.out)
  have G1 := Lib.hid (show w.grownBy W1 (some P) from grown_of B1.out)
  obtain ⟨a, hla, hp⟩ := S1.out
  have hpos := hp.pos
  have D := Lib.hid (show hd l = ts[a]'hpos by rw [hla, hd_drop hpos])
  obtain ⟨⟨p0, p1⟩, -⟩ := hp.cells
  obtain ⟨t0, t1, t2, t3⟩ := hp.tok
  have hL : 0 < ts.length - a := by omega
  generalize ts[a]'hpos = T0 at t0 t1 t2 t3 D
  generalize ts.length - a = Ln at p0 hL
  generalize cap - a = C at p0
  generalize a * 4 = off at p0 t0 t1 t2 t3
  rw [D.out] at hX HA0
  obtain ⟨at0, hat0⟩ : ∃ x, x = T0.pos := ⟨_, rfl⟩
  rw [← hat0] at hX t3 HA0
  have HX := Lib.hid hX
  clear h he htk hX hp hla hpos hat0
  go_enter Tryz.func57, Tryz.ntmps57
  go_upto_region 1 with fail
  rw [← hW1]
  clear hW1
  go_upto_region 2 with fail
  clear t0 t1 t2 t3 p0 p1 hL
  have C3 := Lib.hid (show Calls Tryz.prog 85 #[.pointer (some ⟨P, 0, none⟩), .string ⟨#[109, 111, 100, 117, 108, 101]⟩] W1 (WantR P g cap ts 0 tModule l W1) from qwant_s P g cap ts 0 l ⟨#[109, 111, 100, 117, 108, 101]⟩ tModule rfl W1 S1.out HE.out)
  go_wp2_with fail
  (with_reducible refine Calls.mono C3.out ?_)
  rintro e w3 ⟨hg, hq⟩
  have H3 := Lib.hid hg
  have G3 := Lib.hid (show w.grownBy w3 (some P) from grown_trans G1.out hg)
  cases hw3 : isT tModule l
  case false =>
    obtain rfl := hq.2 hw3
    refine And.intro rfl ?_
    rw [HX.out, want_no hw3]
    exact ⟨rfl, G3.out⟩
  case true =>
  obtain ⟨rfl, hs⟩ := hq.1 hw3
  have S3 := Lib.hid hs
  have HX3 := Lib.hid (show X = kindT 1 (stepL l) fun t r => wantT tSemi r fun r => (importsR 100 [] r).then fun is r => (letsR 200 is.kids r).then fun ls r => .ok (mkN 1 t.text 0 ls.kids at0, r) from HX.out.trans (want_yes hw3))
  have hl3 := Lib.hid (isT_len hw3)
  clear hs hg hq hw3 C3
  have HT0 := Lib.hid (HTK.out _ S3.out.mem)
  have C4 := Lib.hid (qkind_any P g cap ts 0 (stepL l) 1 w3 S3.out HE.out)
  obtain ⟨T, hT⟩ : ∃ T, T = hd (stepL l) := ⟨_, rfl⟩
  have HX4 := Lib.hid (show X = goX (kindX 1 (.ok (stepL l))) (fun r => wantT tSemi r fun r => (importsR 100 [] r).then fun is r => (letsR 200 is.kids r).then fun ls r => .ok (mkN 1 T.text 0 ls.kids at0, r)) from
    HX3.out.trans (kind_go (.ok (stepL l)) 1 (fun t r => wantT tSemi r fun r => (importsR 100 [] r).then fun is r => (letsR 200 is.kids r).then fun ls r => .ok (mkN 1 t.text 0 ls.kids at0, r)) T (fun r h => by cases h; exact hT)))
  rw [← hT] at C4 HT0
  generalize kindX 1 (.ok (stepL l)) = σ at C4 HX4
  have hfd := qtk_text T.kind T.n T.pos ⟨T.text.toArray⟩
  clear hT
  go_wp2_with fail
  (with_reducible refine Calls.mono C4.out ?_)
  intro e w4 hq
  cases σ with
  | error q =>
    obtain ⟨k0, p0⟩ := q
    obtain ⟨rfl, hg⟩ := hq
    refine And.intro rfl ?_
    rw [HX4.out]
    exact ⟨rfl, grown_trans G3.out hg⟩
  | ok r1 =>
  obtain ⟨rfl, hs, hg⟩ := hq
  have HX5 := Lib.hid (show X = wantT tSemi r1 fun r => (importsR 100 [] r).then fun is r => (letsR 200 is.kids r).then fun ls r => .ok (mkN 1 T.text 0 ls.kids at0, r) from HX4.out)
  have S4 := Lib.hid hs
  have H4 := Lib.hid (show W1.grownBy w4 (some P) from grown_trans H3.out hg)
  clear hs hg C4 HX4
  unfold tkV
  obtain ⟨sb, hsb⟩ : ∃ sb : ByteArray, sb = ⟨T.text.toArray⟩ := ⟨_, rfl⟩
  obtain ⟨W6, hW6⟩ : ∃ W, W = w4.alloc (.cells #[.int .i64 1, .string sb, .int .i64 0, .slice none 0 0, .int .i64 at0] 24) := ⟨_, rfl⟩
  have B6 := Lib.hid (show Below w4.heap.size w4 W6 from hW6 ▸ nbelow1 _ _)
  have hz6 := Lib.hid (show W6.heap.size = w4.heap.size + 1 by rw [hW6]; simp)
  have K6 := Lib.hid (show W6.heap[w4.heap.size]? = some (.cells #[.int .i64 1, .string sb, .int .i64 0, .slice none 0 0, .int .i64 at0] 24 (0, 0)) by rw [hW6]; show (w4.heap.push _)[w4.heap.size]? = _; simp)
  have H6 := Lib.hid (grown_trans H4.out (grown_of B6.out))
  have S6 := Lib.hid (S4.out.below B6.out)
  have J6 := Lib.hid (show NodeJ W6.heap.size w4.heap.size 1 sb at0 [] W6 from ⟨Nat.le_refl _, [], none, 0, rfl, K6.out, World.ownsRow_nil _ _ _ _, fun e he => (by cases he)⟩)
  have hnum := Lib.hid (show P < w.heap.size ∧ g < w.heap.size ∧ w.heap.size + 1 ≤ w4.heap.size ∧ W6.heap.size = w4.heap.size + 1 from ⟨HB.out.1, HB.out.2.1, by have := H4.out.size; have := hz1.out; omega, hz6.out⟩)
  have G6 := Lib.hid (show w.grownBy W6 (some P) from grown_trans G1.out H6.out)
  go_upto_region 4 with fail
  rw [← hsb, ← hW6]
  have HSB := Lib.hid hsb
  clear hW6 hsb hfd
  have C7 := Lib.hid (show Calls Tryz.prog 85 #[.pointer (some ⟨P, 0, none⟩), .string ⟨#[59]⟩] W6 (WantR P g cap ts 0 tSemi r1 W6) from qwant_s P g cap ts 0 r1 ⟨#[59]⟩ tSemi rfl W6 S6.out HE.out)
  go_wp2_with fail
  (with_reducible refine Calls.mono C7.out ?_)
  rintro e w7 ⟨hg, hq⟩
  have H7 := Lib.hid hg
  have G7 := Lib.hid (show w.grownBy w7 (some P) from grown_trans G6.out hg)
  cases hw7 : isT tSemi r1
  case false =>
    obtain rfl := hq.2 hw7
    refine And.intro rfl ?_
    rw [HX5.out, want_no hw7]
    exact ⟨rfl, G7.out⟩
  case true =>
  obtain ⟨rfl, hs⟩ := hq.1 hw7
  have S7 := Lib.hid hs
  have HX7 := Lib.hid (show X = (importsR 100 [] (stepL r1)).then fun is r => (letsR 200 is.kids r).then fun ls r => .ok (mkN 1 T.text 0 ls.kids at0, r) from HX5.out.trans (want_yes hw7))
  have hl7 := Lib.hid (isT_len hw7)
  clear hs hg hq hw7 C7
  have I7 := Lib.hid (show ModI P g cap ts W6.heap.size w4.heap.size sb at0 W6 (fun n acc r => X = (importsR (100 - n) acc r).then fun is r => (letsR 200 is.kids r).then fun ls r => .ok (mkN 1 T.text 0 ls.kids at0, r)) 0 [] (stepL r1) w7 from
    ⟨S7.out, J6.out.grown H7.out (by have := hnum.out; omega) (by have := hnum.out; omega), Gx.of H7.out, HX7.out⟩)
  go_upto_block 0 with fail
  go_wp2_with fail
  go_loopw [5] (fun v wr => ∃ (acc : List Nd) (r : List Tk), v = .int .i64 acc.length ∧ acc.length ≤ 100 ∧ Hid (ModI P g cap ts W6.heap.size w4.heap.size sb at0 W6 (fun n acc r => X = (importsR (100 - n) acc r).then fun is r => (letsR 200 is.kids r).then fun ls r => .ok (mkN 1 T.text 0 ls.kids at0, r)) acc.length acc r wr)) (fun v _ => (100 - (intOf v).toNat))
  case atStart => exact ⟨[], _, rfl, Nat.zero_le _, I7.out⟩
  case round =>
    obtain ⟨acc, r, rfl, ha, HI⟩ := hrel
    clear I7
    have hnm := hnum.out
    have Gr := Lib.hid (show w.grownBy wr (some P) from HI.out.2.2.1.grown G6.out (by omega) (by omega))
    have C8 := Lib.hid (show Calls Tryz.prog 82 #[.pointer (some ⟨P, 0, none⟩), .string ⟨#[105, 109, 112, 111, 114, 116]⟩] wr (fun e w' => e = .returned (.bool (isT tImport r)) ∧ Below wr.heap.size wr w') from qis_s P g cap ts 0 r ⟨#[105, 109, 112, 111, 114, 116]⟩ wr HI.out.1)
    obtain ⟨b, hb⟩ : ∃ b, b = isT tImport r := ⟨_, rfl⟩
    rw [← hb] at C8
    have HBr := Lib.hid hb
    clear hb
    cases b
    case true =>
      by_cases hk : acc.length = 100
      · have e0 : ((acc.length : Int) == 100) = true := by rw [hk]; rfl
        have HXe := Lib.hid (show X = .error (76, (hd r).pos) by
          rw [HI.out.2.2.2, hk, Nat.sub_self, importsR, ← HBr.out, if_pos rfl]; rfl)
        clear hk
        go_wp2_with fail
        (with_reducible refine Calls.mono C8.out ?_)
        rintro e w8 ⟨rfl, hb⟩
        obtain ⟨a, rfl, hp⟩ := HI.out.1.below hb
        have hpos := hp.pos
        have D := Lib.hid (hd_drop hpos)
        obtain ⟨⟨p0, p1⟩, -⟩ := hp.cells
        obtain ⟨t0, t1, t2, t3⟩ := hp.tok
        have hL : 0 < ts.length - a := by omega
        have C9 := Lib.hid (qfail_any P 76 (ts[a]'hpos).pos w8)
        have B8 := Lib.hid hb
        generalize ts[a]'hpos = Tx at t0 t1 t2 t3 D C9
        generalize ts.length - a = Ln2 at p0 hL
        generalize cap - a = C2 at p0
        generalize a * 4 = off2 at p0 t0 t1 t2 t3
        clear hp hpos hb
        go_wp2_with fail
        (with_reducible refine Calls.mono C9.out ?_)
        rintro e w9 ⟨rfl, rfl⟩
        refine And.intro rfl ?_
        rw [HXe.out, D.out]
        exact ⟨rfl, grown_trans Gr.out (grown_of B8.out)⟩
      · have e0 : ((acc.length : Int) == 100) = false := beq_eq_false_iff_ne.2 (by omega)
        obtain ⟨f, hf⟩ : ∃ f, 100 - acc.length = f + 1 := ⟨100 - acc.length - 1, by omega⟩
        have hf2 : 100 - (acc.length + 1) = f := by omega
        have HXn := Lib.hid (show X = (kindT 1 (stepL r) fun t q => wantT tSemi q fun q => importsR f (acc ++ [mkN 2 t.text 0 [] t.pos]) q).then fun is r => (letsR 200 is.kids r).then fun ls r => .ok (mkN 1 T.text 0 ls.kids at0, r) by
          rw [HI.out.2.2.2, hf, importsR, ← HBr.out, if_pos rfl])
        have HF2 := Lib.hid hf2
        have hlt : acc.length < 100 := by omega
        clear hk hf hf2
        go_wp2_with fail
        (with_reducible refine Calls.mono C8.out ?_)
        rintro e w8 ⟨rfl, hb⟩
        have S8 := Lib.hid (HI.out.1.below hb)
        have C9 := Lib.hid (qstep_s P g cap ts 0 r w8 S8.out HE.out)
        have B8 := Lib.hid hb
        clear hb C8
        go_wp2_with fail
        (with_reducible refine Calls.mono C9.out ?_)
        rintro e w9 ⟨rfl, hs, hg⟩
        have S9 := Lib.hid hs
        have H9 := Lib.hid (show wr.grownBy w9 (some P) from grown_trans (grown_of B8.out) hg)
        have HT1 := Lib.hid (HTK.out _ hs.mem)
        have C10 := Lib.hid (qkind_any P g cap ts 0 (stepL r) 1 w9 hs HE.out)
        obtain ⟨Tx, hT⟩ : ∃ T, T = hd (stepL r) := ⟨_, rfl⟩
        have HX10 := Lib.hid (show X = (goX (kindX 1 (.ok (stepL r))) (fun q => wantT tSemi q fun q => importsR f (acc ++ [mkN 2 Tx.text 0 [] Tx.pos]) q)).then fun is r => (letsR 200 is.kids r).then fun ls r => .ok (mkN 1 T.text 0 ls.kids at0, r) from
          HXn.out.trans (congrArg (fun y => Rd.then y _) (kind_go (.ok (stepL r)) 1 (fun t q => wantT tSemi q fun q => importsR f (acc ++ [mkN 2 t.text 0 [] t.pos]) q) Tx (fun r h => by cases h; exact hT))))
        rw [← hT] at C10 HT1
        generalize kindX 1 (.ok (stepL r)) = σ at C10 HX10
        clear hs hg C9 HXn hT
        unfold tkV
        go_wp2_with fail
        (with_reducible refine Calls.mono C10.out ?_)
        intro e w10 hq
        cases σ with
        | error q =>
          obtain ⟨k0, p0⟩ := q
          obtain ⟨rfl, hg⟩ := hq
          refine And.intro rfl ?_
          rw [HX10.out]
          exact ⟨rfl, grown_trans Gr.out (grown_trans H9.out hg)⟩
        | ok r2 =>
        obtain ⟨rfl, hs, hg⟩ := hq
        have HX11 := Lib.hid (show X = (wantT tSemi r2 fun q => importsR f (acc ++ [mkN 2 Tx.text 0 [] Tx.pos]) q).then fun is r => (letsR 200 is.kids r).then fun ls r => .ok (mkN 1 T.text 0 ls.kids at0, r) from HX10.out)
        have S10 := Lib.hid hs
        have H10 := Lib.hid (show wr.grownBy w10 (some P) from grown_trans H9.out hg)
        clear hs hg C10 HX10
        unfold tkV
        obtain ⟨Wt, hWt⟩ : ∃ W, W = w10.alloc (.cells #[.int .i64 Tx.kind, .string ⟨Tx.text.toArray⟩, .int .i64 Tx.n, .int .i64 Tx.pos] 96) := ⟨_, rfl⟩
        have Bt := Lib.hid (show Below w10.heap.size w10 Wt from hWt ▸ nbelow1 _ _)
        have Qt := Lib.hid (show QT w10.heap.size Tx Wt from hWt ▸ QT.make w10 Tx)
        have Ht := Lib.hid (show wr.grownBy Wt (some P) from grown_trans H10.out (grown_of Bt.out))
        have Cw := Lib.hid (show Calls Tryz.prog 85 #[.pointer (some ⟨P, 0, none⟩), .string ⟨#[59]⟩] Wt (WantR P g cap ts 0 tSemi r2 Wt) from qwant_s P g cap ts 0 r2 ⟨#[59]⟩ tSemi rfl Wt (S10.out.below Bt.out) HE.out)
        go_upto_region 12 with fail
        rw [← hWt]
        clear hWt
        go_wp2_with fail
        (with_reducible refine Calls.mono Cw.out ?_)
        rintro e w11 ⟨hg, hq⟩
        have H11 := Lib.hid (show wr.grownBy w11 (some P) from grown_trans Ht.out hg)
        cases hw : isT tSemi r2
        case false =>
          obtain rfl := hq.2 hw
          refine And.intro rfl ?_
          rw [HX11.out, want_no hw]
          exact ⟨rfl, grown_trans Gr.out H11.out⟩
        case true =>
        obtain ⟨rfl, hs⟩ := hq.1 hw
        have S11 := Lib.hid hs
        have HX12 := Lib.hid (show X = (importsR f (acc ++ [mkN 2 Tx.text 0 [] Tx.pos]) (stepL r2)).then fun is r => (letsR 200 is.kids r).then fun ls r => .ok (mkN 1 T.text 0 ls.kids at0, r) by rw [HX11.out, want_yes hw])
        have Q11 := Lib.hid (Qt.out.grown hg (fun e => by have := Option.some.inj e; have := H10.out.size; have := HI.out.2.2.1.size; omega))
        have J11 := Lib.hid (HI.out.2.1.grown H11.out (by omega) (by omega))
        have GX11 := Lib.hid (HI.out.2.2.1.trans (Gx.of H11.out))
        obtain ⟨hb4, L, ao, cp, j3, j4, j5, j6⟩ := J11.out
        have HK := Lib.hid (show _ ∧ _ ∧ _ ∧ _ from ⟨j3, j4, j5, j6⟩)
        have hbs := Lib.hid hb4
        have hLl : L.length ≤ 100 := by rw [← j3, List.length_map] at ha; exact ha
        have hnc : w11.cell? ⟨w4.heap.size, 3, none⟩ = some (.slice ao L.length cp) := by simp [World.cell?, j4]
        have hnl : w4.heap.size < w11.heap.size := (Array.getElem?_eq_some_iff.1 j4).1
        obtain ⟨⟨t0, t1, t2, t3⟩, -⟩ := Q11.out.cells
        have htl := Q11.out.lt
        obtain ⟨Wa, hWa⟩ : ∃ W, W = w11.alloc (.cells #[.int .i64 2, .string ⟨Tx.text.toArray⟩, .int .i64 0, .slice none 0 0, .int .i64 Tx.pos] 24) := ⟨_, rfl⟩
        have Ba := Lib.hid (show Below w11.heap.size w11 Wa from hWa ▸ nbelow1 _ _)
        have Na := Lib.hid (show ∀ i u, (ndC (mkN 2 Tx.text 0 [] Tx.pos, none, 0))[i]? = some u → Wa.cell? ((⟨w11.heap.size, 0, none⟩ : Addr).add i) = some u from hWa ▸ cells5_new w11 _ _ _ _ _ _)
        have Oa := Lib.hid (show Wa.ownsRow W6.heap.size 24 5 (.slice ao L.length cp) L.length (entC L) from own_below j5 Ba.out)
        have hba := Lib.hid (show W6.heap.size ≤ Wa.heap.size from Nat.le_trans hb4 Ba.out.size)
        have HOB := Lib.hid (show ∀ d, (Value.slice ao L.length cp).ownBlock = some d → W6.heap.size ≤ d ∧ d < w11.heap.size from fun d hd => j5.lt d hd)
        have HF := Lib.hid (show ∀ w6, Wa.grownBy w6 (Value.slice ao L.length cp).ownBlock → w6.heap[w4.heap.size]? = some (.cells #[.int .i64 1, .string sb, .int .i64 0, .slice ao L.length cp, .int .i64 at0] 24 (0, 0)) from fun w6 hg6 =>
          (hg6.block _ (by have := Ba.out.size; omega) (fun e => by have := (HOB.out _ e.symm).1; omega)).trans ((Ba.out.block _ hnl).trans HK.out.2.1))
        clear hs hg hq hw Cw j3 j4 j5 j6 hb4
        go_upto_region 7 with (at_builtin; rw [← hWa]; refine wpList_append_lies _ rfl _ _ 22 rfl W6.heap.size 24 i0 (.agg #[.int .i64 0, .string ⟨#[]⟩, .int .i64 0, .slice none 0 0, .int .i64 0]) 5 64 Tryz.underlying22 HI0.out.1 HI0.out.2.1 HI0.out.2.2.1 HI0.out.2.2.2 rfl (by decide) _ _ _ rfl Oa.out ⟨w11.heap.size, 0, none⟩ 1 1 (ndC (mkN 2 Tx.text 0 [] Tx.pos, none, 0)) rfl rfl Na.out (nd_one _) (by decide) (by unfold maxLen; omega) (by omega) hba.out _ rfl ?_; intro gb cap' w6 hown' hgrow' hat hltg; have HO6 := Lib.hid hown'; have HG6 := Lib.hid hgrow'; have HAT := Lib.hid hat; have HN6 := Lib.hid (HF.out w6 hgrow'); have hn3 : w6.cell? ⟨w4.heap.size, 3, none⟩ = some (.slice ao L.length cp) := (by simp [World.cell?, HN6.out]); have hf3 : w6.frozen? ⟨w4.heap.size, 3, none⟩ = false := (by simp [World.frozen?, HN6.out]); have hn6 : w4.heap.size < w6.heap.size := (Array.getElem?_eq_some_iff.1 HN6.out).1; clear hown' hgrow' hat hnc t0 t1 t2 t3)
        clear hWa
        go_wp2_with fail
        go_roundw
        case rel =>
          refine ⟨acc ++ [mkN 2 Tx.text 0 [] Tx.pos], stepL r2, by rw [List.length_append]; rfl, by rw [List.length_append]; simp; omega, mod_more (P := P) (e := (mkN 2 Tx.text 0 [] Tx.pos, none, 0)) (av := fun _ => False) hnm HK.out.1 HK.out.2.2.2 hbs.out HOB.out GX11.out S11.out (import_lies HT1.out _ _) (fun c hc => hc.elim) Ba.out HG6.out HAT.out HO6.out HN6.out ?_⟩
          rw [HX12.out, ← HF2.out, List.length_append]; rfl
        case measure => simp [intOf]; omega
    case false =>
      have HXn := Lib.hid (show X = (letsR 200 acc r).then fun ls r => .ok (mkN 1 T.text 0 ls.kids at0, r) by
        rw [HI.out.2.2.2, imports_no HBr.out.symm]; rfl)
      go_wp2_with fail
      (with_reducible refine Calls.mono C8.out ?_)
      rintro e w8 ⟨rfl, hb⟩
      have I8 := Lib.hid (show ModI P g cap ts W6.heap.size w4.heap.size sb at0 W6 (fun n ac q => X = (letsR (200 - n) ac q).then fun ls r => .ok (mkN 1 T.text 0 ls.kids at0, r)) 0 acc r w8 from
        ⟨HI.out.1.below hb, HI.out.2.1.grown (P := P) (grown_of hb) (by omega) (by omega), HI.out.2.2.1.trans (Gx.of (grown_of hb)), HXn.out⟩)
      clear hb C8 HI Gr HXn HBr
      have hk0 : acc.length ≤ 100 := ha
      go_upto_block 2 with fail
      go_wp2_with fail
      go_loopw [7] (fun v wr => ∃ (j : Nat) (ac : List Nd) (q : List Tk), v = .int .i64 j ∧ j ≤ 200 ∧ ac.length ≤ 100 + j ∧ Hid (ModI P g cap ts W6.heap.size w4.heap.size sb at0 W6 (fun n ac q => X = (letsR (200 - n) ac q).then fun ls r => .ok (mkN 1 T.text 0 ls.kids at0, r)) j ac q wr)) (fun v _ => (200 - (intOf v).toNat))
      case atStart => exact ⟨0, acc, r, rfl, Nat.zero_le _, hk0, I8.out⟩
      case round =>
        obtain ⟨j, ac, q, rfl, hj, hac, HI⟩ := hrel
        clear I8
        have Gr := Lib.hid (show w.grownBy wr (some P) from HI.out.2.2.1.grown G6.out (by omega) (by omega))
        have C8 := Lib.hid (show Calls Tryz.prog 82 #[.pointer (some ⟨P, 0, none⟩), .string ⟨#[108, 101, 116]⟩] wr (fun e w' => e = .returned (.bool (isT tLet q)) ∧ Below wr.heap.size wr w') from qis_s P g cap ts 0 q ⟨#[108, 101, 116]⟩ wr HI.out.1)
        obtain ⟨b, hb⟩ : ∃ b, b = isT tLet q := ⟨_, rfl⟩
        rw [← hb] at C8
        have HBr := Lib.hid hb
        clear hb
        cases b
        case true =>
          by_cases hk : j = 200
          · have e0 : ((j : Int) == 200) = true := by rw [hk]; rfl
            have HXe := Lib.hid (show X = .error (76, (hd q).pos) by
              rw [HI.out.2.2.2, hk, Nat.sub_self, letsR, ← HBr.out, if_pos rfl]; rfl)
            clear hk
            go_wp2_with fail
            (with_reducible refine Calls.mono C8.out ?_)
            rintro e w8 ⟨rfl, hb⟩
            obtain ⟨a, rfl, hp⟩ := HI.out.1.below hb
            have hpos := hp.pos
            have D := Lib.hid (hd_drop hpos)
            obtain ⟨⟨p0, p1⟩, -⟩ := hp.cells
            obtain ⟨t0, t1, t2, t3⟩ := hp.tok
            have hL : 0 < ts.length - a := by omega
            have C9 := Lib.hid (qfail_any P 76 (ts[a]'hpos).pos w8)
            have B8 := Lib.hid hb
            generalize ts[a]'hpos = Tx at t0 t1 t2 t3 D C9
            generalize ts.length - a = Ln2 at p0 hL
            generalize cap - a = C2 at p0
            generalize a * 4 = off2 at p0 t0 t1 t2 t3
            clear hp hpos hb
            go_wp2_with fail
            (with_reducible refine Calls.mono C9.out ?_)
            rintro e w9 ⟨rfl, rfl⟩
            refine And.intro rfl ?_
            rw [HXe.out, D.out]
            exact ⟨rfl, grown_trans Gr.out (grown_of B8.out)⟩
          · have e0 : ((j : Int) == 200) = false := beq_eq_false_iff_ne.2 (by omega)
            obtain ⟨f, hf⟩ : ∃ f, 200 - j = f + 1 := ⟨200 - j - 1, by omega⟩
            have hf2 : 200 - (j + 1) = f := by omega
            have HXn := Lib.hid (show X = ((letR q).then fun t q => letsR f (ac ++ [t]) q).then fun ls r => .ok (mkN 1 T.text 0 ls.kids at0, r) by
              rw [HI.out.2.2.2, hf, letsR, ← HBr.out, if_pos rfl])
            have HF2 := Lib.hid hf2
            have hlt : j < 200 := by omega
            clear hk hf hf2
            go_wp2_with fail
            (with_reducible refine Calls.mono C8.out ?_)
            rintro e w8 ⟨rfl, hb⟩
            have S8 := Lib.hid (HI.out.1.below hb)
            have J8 := Lib.hid (HI.out.2.1.grown (P := P) (grown_of hb) (by omega) (by omega))
            have GX8 := Lib.hid (HI.out.2.2.1.trans (Gx.of (grown_of hb)))
            have G8 := Lib.hid (grown_trans Gr.out (grown_of hb))
            obtain ⟨hb4, L, ao, cp, j3, j4, j5, j6⟩ := J8.out
            have HK := Lib.hid (show _ ∧ _ ∧ _ ∧ _ from ⟨j3, j4, j5, j6⟩)
            have hbs := Lib.hid hb4
            have hLl : L.length ≤ 300 := by rw [← j3, List.length_map] at hac; omega
            have hnc : w8.cell? ⟨w4.heap.size, 3, none⟩ = some (.slice ao L.length cp) := by simp [World.cell?, j4]
            have HNC := Lib.hid hnc
            have hnl : w4.heap.size < w8.heap.size := (Array.getElem?_eq_some_iff.1 j4).1
            have BD := Lib.hid (show Below w8.heap.size w8 w8.drew from bdrew (Below.refl _ _))
            have CL := Lib.hid (qlet_any P g cap ts HE.out HTK.out q w8.drew (S8.out.below BD.out))
            generalize letR q = x at CL HXn
            clear hb C8 hb4 j3 j4 j5 j6 hnc
            go_upto_region 19 with fail
            refine wp_region_z (S := (fun cur => cur.cell? ⟨w4.heap.size, 3, none⟩ = some (.slice ao L.length cp))) (Z := [0, 2, 5, 6, 7]) (by kernel_rfl) ?_ (fun hHeld => ?_)
            · exact HNC.out
            refine AnyZ.pure (i := 0) (v := ?_) (op_at rfl) (by kernel_rfl) (by kernel_rfl) (by kernel_rfl) (by kernel_rfl) (fun _ _ _ h => h) (Or.inl ⟨by rfl, ?_⟩) ?_
            rotate_left
            · (intro w hSw; go_simp; try with_reducible rfl)
            try simp only [Act.put, List.setIfInBounds_toArray, List.set_cons_zero, List.set_cons_succ]
            refine AnyZ.pure (i := 2) (v := ?_) (op_at rfl) (by kernel_rfl) (by kernel_rfl) (by kernel_rfl) (by kernel_rfl) (fun _ _ _ h => h) (Or.inl ⟨by rfl, ?_⟩) ?_
            rotate_left
            · (intro w hSw; go_simp; try with_reducible rfl)
            try simp only [Act.put, List.setIfInBounds_toArray, List.set_cons_zero, List.set_cons_succ]
            refine AnyZ.takeL (i := 1) (v := ?_) (op_at rfl) (by kernel_rfl) (by kernel_rfl) (by kernel_rfl) (by kernel_rfl) (fun _ _ _ h => h) (Or.inl ⟨by rfl, ?_⟩) (by assumption) ?_
            rotate_left
            · (intro w hSw; (try dsimp only at hSw); go_simp; try with_reducible rfl)
            try simp only [Act.put, List.setIfInBounds_toArray, List.set_cons_zero, List.set_cons_succ]
            refine AnyZ.next (i := 3) (by kernel_rfl) (op_at rfl) (fun K hK => ?_)
            go_simp
            (with_reducible refine Calls.mono CL.out ?_)
            intro e wa hq
            cases x with
            | error z =>
              obtain ⟨k0, p0⟩ := z
              obtain ⟨rfl, hg⟩ := hq
              refine And.intro rfl ?_
              rw [HXn.out]
              exact ⟨rfl, grown_trans G8.out (grown_trans (grown_of BD.out) hg)⟩
            | ok z =>
            obtain ⟨t, q2⟩ := z
            obtain ⟨a, c, rfl, hs, hg, hl2⟩ := hq
            have HX9 := Lib.hid (show X = (letsR f (ac ++ [t]) q2).then fun ls r => .ok (mkN 1 T.text 0 ls.kids at0, r) from HXn.out)
            have Sa := Lib.hid hs
            have Ga := Lib.hid (show w8.grownBy wa (some P) from grown_trans (grown_of BD.out) hg)
            have HLt := Lib.hid (show t.lies (Fr w8.heap.size wa.heap.size) wa a c from hl2)
            have HKa := Lib.hid (show wa.heap[w4.heap.size]? = some (.cells #[.int .i64 1, .string sb, .int .i64 0, .slice ao L.length cp, .int .i64 at0] 24 (0, 0)) from (Ga.out.block _ hnl (fun e => by have := Option.some.inj e; omega)).trans HK.out.2.1)
            have Oa := Lib.hid (show wa.ownsRow W6.heap.size 24 5 (.slice ao L.length cp) L.length (entC L) from HK.out.2.2.1.kept Ga.out (by
              cases hv : (Value.slice ao L.length cp).ownBlock with
              | none => exact .inl rfl
              | some c => exact .inr (fun e => by have := (HK.out.2.2.1.lt c hv).1; cases e; omega)))
            have HOB := Lib.hid (show ∀ d, (Value.slice ao L.length cp).ownBlock = some d → W6.heap.size ≤ d ∧ d < w8.heap.size from fun d hd => HK.out.2.2.1.lt d hd)
            have HLa := Lib.hid (show ∀ e ∈ L, e.1.lies (fun c => W6.heap.size ≤ c ∧ c < wa.heap.size ∧ (Value.slice ao L.length cp).ownBlock ≠ some c) wa e.2.1 e.2.2 from fun e he => lies_move (HK.out.2.2.2 e he) (fun d hd => Ga.out.block d hd.2.1 (fun e => by have := Option.some.inj e; have := hd.1; omega)) fun d hd => ⟨hd.1, Nat.lt_of_lt_of_le hd.2.1 Ga.out.size, hd.2.2⟩)
            have HNa := Lib.hid (show wa.cell? ⟨w4.heap.size, 3, none⟩ = some (.slice ao L.length cp) by simp [World.cell?, HKa.out])
            clear hs hg hl2 CL
            unfold Nd.val
            go_wp2_with fail
            refine hK.out _ _ ?_ (fun hHeld => ?_)
            · exact HNa.out
            clear hK K
            try simp only [Act.put, List.setIfInBounds_toArray, List.set_cons_zero, List.set_cons_succ]
            refine AnyZ.next (i := 4) (by kernel_rfl) (op_at rfl) (fun K hK => ?_)
            go_simp
            obtain ⟨Wz, hWz⟩ : ∃ W, W = wa.alloc (.cells #[.int .i64 t.kind, .string t.text, .int .i64 t.n, .slice a t.kids.length c, .int .i64 t.place] 24) := ⟨_, rfl⟩
            have Bz := Lib.hid (show Below wa.heap.size wa Wz from hWz ▸ nbelow1 _ _)
            have Nz := Lib.hid (show ∀ i u, (ndC (t, a, c))[i]? = some u → Wz.cell? ((⟨wa.heap.size, 0, none⟩ : Addr).add i) = some u from hWz ▸ cells5_new wa _ _ _ _ _ _)
            have Oz := Lib.hid (show Wz.ownsRow W6.heap.size 24 5 (.slice ao L.length cp) L.length (entC L) from own_below Oa.out Bz.out)
            have hbz := Lib.hid (show W6.heap.size ≤ Wz.heap.size from Nat.le_trans (Nat.le_trans hbs.out Ga.out.size) Bz.out.size)
            have HKz := Lib.hid (show Wz.heap[w4.heap.size]? = some (.cells #[.int .i64 1, .string sb, .int .i64 0, .slice ao L.length cp, .int .i64 at0] 24 (0, 0)) from (Bz.out.block _ (by have := Ga.out.size; omega)).trans HKa.out)
            have HNz := Lib.hid (show Wz.cell? ⟨w4.heap.size, 3, none⟩ = some (.slice ao L.length cp) by simp [World.cell?, HKz.out])
            rw [← hWz]
            clear hWz
            refine hK.out _ _ ?_ (fun hHeld => ?_)
            · exact HNz.out
            clear hK K
            try simp only [Act.put, List.setIfInBounds_toArray, List.set_cons_zero, List.set_cons_succ]
            refine AnyZ.nextZ (i := 5) (by kernel_rfl) (op_at rfl) (by kernel_rfl) (fun K hK => ?_)
            refine step_append_lies _ rfl _ _ 22 rfl W6.heap.size 24 i0 (.agg #[.int .i64 0, .string ⟨#[]⟩, .int .i64 0, .slice none 0 0, .int .i64 0]) 5 64 Tryz.underlying22 HI0.out.1 HI0.out.2.1 HI0.out.2.2.1 HI0.out.2.2.2 rfl (by decide) _ _ _ rfl Oz.out ⟨wa.heap.size, 0, none⟩ 1 1 (ndC (t, a, c)) rfl rfl Nz.out (nd_one _) (by decide) (by unfold maxLen; omega) (by omega) hbz.out _ rfl ?_
            intro gb cap' w6 hown' hgrow' hat hltg
            have HO6 := Lib.hid hown'
            have HG6 := Lib.hid hgrow'
            have HAT := Lib.hid hat
            have HN6 := Lib.hid (show w6.heap[w4.heap.size]? = some (.cells #[.int .i64 1, .string sb, .int .i64 0, .slice ao L.length cp, .int .i64 at0] 24 (0, 0)) from (hgrow'.block _ (by have := hbz.out; omega) (fun e => by have := (HOB.out _ e.symm).1; omega)).trans HKz.out)
            have hn3 : w6.cell? ⟨w4.heap.size, 3, none⟩ = some (.slice ao L.length cp) := by simp [World.cell?, HN6.out]
            have hf3 : w6.frozen? ⟨w4.heap.size, 3, none⟩ = false := by simp [World.frozen?, HN6.out]
            have hn6 : w4.heap.size < w6.heap.size := (Array.getElem?_eq_some_iff.1 HN6.out).1
            clear hown' hgrow' hat
            refine hK.out _ _ ?_
            clear hK K
            try simp only [Act.put, List.setIfInBounds_toArray, List.set_cons_zero, List.set_cons_succ]
            refine AnyZ.pure (i := 6) (v := ?_) (op_at rfl) (by kernel_rfl) (by kernel_rfl) (by kernel_rfl) (by kernel_rfl) (fun _ _ _ h => h) (Or.inl ⟨by rfl, ?_⟩) ?_
            rotate_left
            · (intro w hSw; go_simp; try with_reducible rfl)
            try simp only [Act.put, List.setIfInBounds_toArray, List.set_cons_zero, List.set_cons_succ]
            refine AnyZ.nextZ (i := 7) (by kernel_rfl) (op_at rfl) (by kernel_rfl) (fun K hK => ?_)
            go_simp
            refine hK.out _ _ ?_
            clear hK K
            try simp only [Act.put, List.setIfInBounds_toArray, List.set_cons_zero, List.set_cons_succ]
            refine AnyZ.done (by kernel_rfl) ?_ _
            go_wp2_with fail
            go_roundw
            case rel =>
              refine ⟨j + 1, ac ++ [t], q2, by go_num, by omega, by rw [List.length_append]; simp; omega, mod_more (P := P) (e := (t, a, c)) (av := Fr w8.heap.size wa.heap.size) hnm HK.out.1 HLa.out (Nat.le_trans hbs.out Ga.out.size) (fun d hd => ⟨(HOB.out d hd).1, Nat.lt_of_lt_of_le (HOB.out d hd).2 Ga.out.size⟩) (GX8.out.trans (Gx.of Ga.out)) Sa.out HLt.out (fun d hd => ⟨Nat.le_trans hbs.out hd.1, hd.2, fun e => by have := (HOB.out d e).2; have := hd.1; omega⟩) Bz.out HG6.out HAT.out HO6.out HN6.out ?_⟩
              rw [HX9.out, ← HF2.out]
            case measure => simp [intOf]; omega
        case false =>
          have HXn := Lib.hid (show X = .ok (mkN 1 T.text 0 ac at0, q) by
            rw [HI.out.2.2.2, lets_no HBr.out.symm]; rfl)
          go_wp2_with fail
          (with_reducible refine Calls.mono C8.out ?_)
          rintro e w8 ⟨rfl, hb⟩
          have S8 := Lib.hid (HI.out.1.below hb)
          have J8 := Lib.hid (HI.out.2.1.grown (P := P) (grown_of hb) (by omega) (by omega))
          have GX8 := Lib.hid (HI.out.2.2.1.trans (Gx.of (grown_of hb)))
          have G8 := Lib.hid (grown_trans Gr.out (grown_of hb))
          obtain ⟨hb4, L2, ao2, cp2, i3, i4, i5, i6⟩ := J8.out
          have HII := Lib.hid (show _ ∧ _ ∧ _ ∧ _ from ⟨i3, i4, i5, i6⟩)
          have hbs := Lib.hid hb4
          have HZ := Lib.hid (show NBox w.heap.size nd0 none 0 w8 from (GX8.out.block w.heap.size (by omega) (by omega) (by omega) (by omega)).trans (Z1.out.grown H6.out (by omega)))
          have n0 : w8.cell? ⟨w4.heap.size, 0, none⟩ = some (.int .i64 1) := by simp [World.cell?, i4]
          have n1 : w8.cell? ⟨w4.heap.size, 1, none⟩ = some (.string sb) := by simp [World.cell?, i4]
          have n2 : w8.cell? ⟨w4.heap.size, 2, none⟩ = some (.int .i64 0) := by simp [World.cell?, i4]
          have n3 : w8.cell? ⟨w4.heap.size, 3, none⟩ = some (.slice ao2 L2.length cp2) := by simp [World.cell?, i4]
          have n4 : w8.cell? ⟨w4.heap.size, 4, none⟩ = some (.int .i64 at0) := by simp [World.cell?, i4]
          have hnl : w4.heap.size < w8.heap.size := (Array.getElem?_eq_some_iff.1 i4).1
          obtain ⟨⟨z0, z1, z2, z3, z4⟩, ⟨f0, f1, f2, f3, f4⟩⟩ := HZ.out.cells
          simp only [nd0, Nd.kind, Nd.text, Nd.n, Nd.kids, Nd.place, List.length_nil] at z0 z1 z2 z3 z4
          have hzl := HZ.out.lt
          clear i3 i4 i5 i6 hb hb4 C8
          go_wp2_with fail
          have hlen : L2.length = ac.length := by rw [← HII.out.1, List.length_map]
          refine bodyPost_ret (v := (mkN 1 T.text 0 ac at0).val ao2 cp2) (by rw [hlen, HSB.out]; simp [results, Tryz.results57, go_sem, Nd.val, mkN, Nd.kind, Nd.text, Nd.n, Nd.kids, Nd.place, z0, z1, z2, z3, z4]) rfl ?_
          rw [HXn.out, hlen, HSB.out]
          exact let_fin (base := W6.heap.size) (nb := w4.heap.size) (rb := w.heap.size) (HSB.out ▸ HII.out) S8.out G8.out hbs.out ⟨rfl, by have := HT0.out.2.2; omega, HA0.out⟩ (by omega) (by omega) (by omega)
end Go.Proofs.YtcndknkdhlmdnaaGreatDoor
