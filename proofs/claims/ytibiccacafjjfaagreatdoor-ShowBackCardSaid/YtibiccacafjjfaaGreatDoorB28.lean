/-
  Laws that the proof rests on.
-/
import Derived.Test.YtibiccacafjjfaaGreatDoorB27
import Derived.Test.YtibiccacafjjfaaGreatDoorB02
import Derived.Test.YtibiccacafjjfaaGreatDoorB22
import Derived.Recover
namespace Go.Proofs.YtibiccacafjjfaaGreatDoor
set_option maxRecDepth 100000
set_option maxHeartbeats 16000000
section
open Lib (hid)
open Go.RowKit
theorem a0H {f : Nat} {acc : List Nd} {l : List Tk} (h : isT aQ l=false) : q9 f acc l=.ok (mkN 0 [] 0 acc 0,l):=by
 cases f <;> (rw [q9,h]; exact if_neg (by decide))
theorem a5D {f : Nat} {acc : List Nd} {l : List Tk} (h : isT gK l=false) : S0 f acc l=.ok (mkN 0 [] 0 acc 0,l):=by
 cases f <;> (rw [S0,h]; exact if_neg (by decide))
theorem xJ {T : Tk} (h : z8 T) (av : Nat→Prop) (W : World) : (mkN 2 T.text 0 [] T.pos).lies av W none 0 :=
 Nd.lies.mk' rfl (by show T.text.toArray.size≤maxLen; unfold maxLen; have:=h.2.2; simp; omega) rfl h.2.1 (Nat.le_refl _) (Nat.zero_le _) trivial
def a5b (P g cap : Nat) (ts : List Tk) (base nb : Nat) (s : ByteArray) (p : Int) (W0 : World) (E : Nat→List Nd→List Tk→Prop) (n : Nat) (acc : List Nd) (r : List Tk) (wr : World) : Prop :=
 SQ P g cap ts 0 r wr∧iW base nb 1 s p acc wr∧Gx P nb base W0 wr∧E n acc r
theorem wX {P g cap : Nat} {ts : List Tk} {base nb gb cap' x n : Nat} {s : ByteArray} {p : Int} {W0 : World} {E : Nat→List Nd→List Tk→Prop} {L : List Ent} {ao : Option Addr} {cp : Nat} {acc : List Nd} {e : Ent} {q : List Tk} {w4 W5 w6 : World} (hn : P<x∧g<x∧x + 1≤nb∧base=nb + 1)
 (hM : L.map (·.1)=acc) (hL : ∀ e∈L,e.1.lies (fun c => base≤c∧c<w4.heap.size∧(Value.slice ao L.length cp).ownBlock≠some c) w4 e.2.1 e.2.2) (hb : base≤w4.heap.size) (hOB : ∀ d,(Value.slice ao L.length cp).ownBlock=some d→base≤d∧d<w4.heap.size) (hGx : Gx P nb base W0 w4) (hS : SQ P g cap ts 0 q w4)
 {av : Nat→Prop} (hE : e.1.lies av w4 e.2.1 e.2.2) (hav : ∀ c,av c→base≤c∧c<w4.heap.size∧(Value.slice ao L.length cp).ownBlock≠some c) (B5 : Below w4.heap.size w4 W5) (hG6 : W5.grownBy w6 (Value.slice ao L.length cp).ownBlock) (hat : (Value.slice ao L.length cp).ownBlock=some gb∨gb=W5.heap.size)
 (hO6 : w6.ownsRow base 24 5 (.slice (some ⟨gb,0,none⟩) (L.length + 1) cap') (L.length + 1) (Y1 L ++ ndC e)) (hN6 : w6.heap[nb]?=some (.cells #[.int .i64 1,.string s,.int .i64 0,.slice ao L.length cp,.int .i64 p] 24 (0,0))) (hEq : E n (acc ++ [e.1]) q) :
 a5b P g cap ts base nb s p W0 E n (acc ++ [e.1]) q (w6.setCell ⟨nb,3,none⟩ (.slice (some ⟨gb,0,none⟩) (L.length + 1) cap')):=by
 have h5:=B5.size
 have h6:=hG6.size
 have hgb:=hO6.lt gb rfl
 have hlow : ∀ d,d<base→(Value.slice ao L.length cp).ownBlock≠some d:=fun d hd e => by have:=(hOB d e).1; omega
 have h1 : ∀ d,d<w4.heap.size→(Value.slice ao L.length cp).ownBlock≠some d→w6.heap[d]?=w4.heap[d]?:=fun d hd hne => (hG6.block d (by omega) (fun e => hne e.symm)).trans (B5.block d hd)
 have hset : ∀ d,d≠nb→(w6.setCell ⟨nb,3,none⟩ (.slice (some ⟨gb,0,none⟩) (L.length + 1) cap')).heap[d]?=w6.heap[d]?:=fun d hd => Below.heap_setCell _ _ _ _ hd
 have h2 : ∀ d,d<base→d≠nb→(w6.setCell ⟨nb,3,none⟩ (.slice (some ⟨gb,0,none⟩) (L.length + 1) cap')).heap[d]?=w4.heap[d]?:=fun d hd hn => (hset d hn).trans (h1 d (by omega) (hlow d hd))
 have hsz : (w6.setCell ⟨nb,3,none⟩ (.slice (some ⟨gb,0,none⟩) (L.length + 1) cap')).heap.size=w6.heap.size:=by simp [World.setCell]
 refine ⟨hS.keeps (fun d hd => ?_) (by omega),?_,?_,hEq⟩
 ·rcases hd with rfl | rfl
  ·exact h2 _ (by omega) (by omega)
  ·exact h2 _ (by omega) (by omega)
 ·rw [← hM]
  exact iW.snoc hb (by omega) hL hE hav h1 hat h5 (by omega) (fun d h1 _ => hset d h1) hsz (l5 hN6 3 _) (jZ hO6 (hset gb (by omega)))
 ·exact hGx.trans ⟨(e9 w6 nb 3 _).os.trans (hG6.os.trans B5.os),(e9 w6 nb 3 _).tape.trans (hG6.tape.trans B5.tape),(e9 w6 nb 3 _).output.trans (hG6.output.trans B5.output),by omega,fun d hdB _ _ hdk => h2 d hdB hdk⟩
theorem xF (P g cap : Nat) (ts : List Tk) (he : y7 ts) (htk : ∀ t∈ts,z8 t) (l : List Tk) : ∀ w,SQ P g cap ts 0 l w→Calls Tryz.prog 37 #[.pointer (some ⟨P,0,none⟩)] w (NQ P g cap ts (vP l) w):=by
 intro w h
 obtain ⟨i0,hi,hz0,hz1,hz2⟩:=info_parts (show (Tryz.prog.info? 24).map (fun i => (i.zero,i.size,i.bytes))=some (some (.agg #[.int .i64 0,.string ⟨#[]⟩,.int .i64 0,.slice none 0 0,.int .i64 0]),5,64) by kernel_rfl)
 have HI0:=hid (show _∧_∧_∧_ from ⟨hi,hz0,hz1,hz2⟩)
 clear hi hz0 hz1 hz2
 have HB:=hid h.blocks
 have HE:=hid he
 have HTK:=hid htk
 obtain ⟨X,hX⟩ : ∃ X,X=vP l:=⟨_,rfl⟩
 rw [← hX]
 rw [show vP l=d9 dN l fun r => F0 1 r fun t r => d9 t8 r fun r => (q9 100 [] r).then fun is r => (S0 200 is.kids r).then fun ls r => .ok (mkN 1 t.text 0 ls.kids (hd l).pos,r) from rfl] at hX
 have HA0:=hid (htk _ h.mem).2.1
 obtain ⟨W1,hW1⟩ : ∃ W,W=w.alloc (.cells #[.int .i64 0,.string ⟨#[]⟩,.int .i64 0,.slice none 0 0,.int .i64 0] 24):=⟨_,rfl⟩
 have B1:=hid (show Below w.heap.size w W1 from hW1 ▸ c6 _ _)
 have hz1:=hid (show W1.heap.size=w.heap.size + 1 by rw [hW1]; simp)
 have Z1:=hid (show f6 w.heap.size nd0 none 0 W1 from hW1 ▸ f6.make w nd0 none 0)
 have S1:=hid (h.below B1)
 have G1:=hid (show w.grownBy W1 (some P) from b8 B1)
 obtain ⟨a,hla,hp⟩:=S1.out
 have hpos:=hp.pos
 have D:=hid (show hd l=ts[a]'hpos by rw [hla,O0 hpos])
 obtain ⟨⟨p0,p1⟩,-⟩:=hp.cells
 obtain ⟨t0,t1,t2,t3⟩:=hp.tok
 have hL : 0<ts.length - a:=by omega
 generalize ts[a]'hpos=T0 at t0 t1 t2 t3 D
 generalize ts.length - a=Ln at p0 hL
 generalize cap - a=C at p0
 generalize a * 4=off at p0 t0 t1 t2 t3
 rw [D.out] at hX HA0
 obtain ⟨at0,hat0⟩ : ∃ x,x=T0.pos:=⟨_,rfl⟩
 rw [← hat0] at hX t3 HA0
 have HX:=hid hX
 clear h he htk hX hp hla hpos hat0
 go_enter Tryz.func37,Tryz.ntmps37
 go_upto_region 1 with fail
 rw [← hW1]
 clear hW1
 go_upto_region 2 with fail
 clear t0 t1 t2 t3 p0 p1 hL
 have C3:=hid (show Calls Tryz.prog 53 #[.pointer (some ⟨P,0,none⟩),.string ⟨#[109,111,100,117,108,101]⟩] W1 (eR P g cap ts 0 dN l W1) from V0 P g cap ts 0 l ⟨#[109,111,100,117,108,101]⟩ dN rfl W1 S1 HE)
 go_wp2_with fail
 (with_reducible refine Calls.mono C3.out ?_)
 rintro e w3 ⟨hg,hq⟩
 have H3:=hid hg
 have G3:=hid (show w.grownBy w3 (some P) from b6 G1 hg)
 cases hw3 : isT dN l
 case false =>
  obtain rfl:=hq.2 hw3
  refine And.intro rfl ?_
  rw [HX.out,X9 hw3]
  exact ⟨rfl,G3⟩
 case true =>
 obtain ⟨rfl,hs⟩:=hq.1 hw3
 have S3:=hid hs
 have HX3:=hid (show X=F0 1 (b9 l) fun t r => d9 t8 r fun r => (q9 100 [] r).then fun is r => (S0 200 is.kids r).then fun ls r => .ok (mkN 1 t.text 0 ls.kids at0,r) from HX.out.trans (L7 hw3))
 have hl3:=hid (n5 hw3)
 clear hs hg hq hw3 C3
 have HT0:=hid (HTK.out _ S3.out.mem)
 have C4:=hid (dS P g cap ts 0 (b9 l) 1 w3 S3 HE)
 obtain ⟨T,hT⟩ : ∃ T,T=hd (b9 l):=⟨_,rfl⟩
 have HX4:=hid (show X=goX (X4 1 (.ok (b9 l))) (fun r => d9 t8 r fun r => (q9 100 [] r).then fun is r => (S0 200 is.kids r).then fun ls r => .ok (mkN 1 T.text 0 ls.kids at0,r)) from
  HX3.out.trans (eO (.ok (b9 l)) 1 (fun t r => d9 t8 r fun r => (q9 100 [] r).then fun is r => (S0 200 is.kids r).then fun ls r => .ok (mkN 1 t.text 0 ls.kids at0,r)) T (fun r h => by cases h; exact hT)))
 rw [← hT] at C4 HT0
 generalize X4 1 (.ok (b9 l))=σ at C4 HX4
 have hfd:=oH T.kind T.n T.pos ⟨T.text.toArray⟩
 clear hT
 go_wp2_with fail
 (with_reducible refine Calls.mono C4.out ?_)
 intro e w4 hq
 cases σ with
 | error q =>
   obtain ⟨k0,p0⟩:=q
   obtain ⟨rfl,hg⟩:=hq
   refine And.intro rfl ?_
   rw [HX4.out]
   exact ⟨rfl,b6 G3 hg⟩
 | ok r1 =>
 obtain ⟨rfl,hs,hg⟩:=hq
 have HX5:=hid (show X=d9 t8 r1 fun r => (q9 100 [] r).then fun is r => (S0 200 is.kids r).then fun ls r => .ok (mkN 1 T.text 0 ls.kids at0,r) from HX4)
 have S4:=hid hs
 have H4:=hid (show W1.grownBy w4 (some P) from b6 H3 hg)
 clear hs hg C4 HX4
 unfold tkV
 obtain ⟨sb,hsb⟩ : ∃ sb : ByteArray,sb=⟨T.text.toArray⟩:=⟨_,rfl⟩
 obtain ⟨W6,hW6⟩ : ∃ W,W=w4.alloc (.cells #[.int .i64 1,.string sb,.int .i64 0,.slice none 0 0,.int .i64 at0] 24):=⟨_,rfl⟩
 have B6:=hid (show Below w4.heap.size w4 W6 from hW6 ▸ c6 _ _)
 have hz6:=hid (show W6.heap.size=w4.heap.size + 1 by rw [hW6]; simp)
 have K6:=hid (show W6.heap[w4.heap.size]?=some (.cells #[.int .i64 1,.string sb,.int .i64 0,.slice none 0 0,.int .i64 at0] 24 (0,0)) by rw [hW6]; show (w4.heap.push _)[w4.heap.size]?=_; simp)
 have H6:=hid (b6 H4 (b8 B6))
 have S6:=hid (S4.out.below B6)
 have J6:=hid (show iW W6.heap.size w4.heap.size 1 sb at0 [] W6 from ⟨Nat.le_refl _,[],none,0,rfl,K6,World.ownsRow_nil _ _ _ _,fun e he => (by cases he)⟩)
 have hnum:=hid (show P<w.heap.size∧g<w.heap.size∧w.heap.size + 1≤w4.heap.size∧W6.heap.size=w4.heap.size + 1 from ⟨HB.out.1,HB.out.2.1,by have:=H4.out.size; have:=hz1.out; omega,hz6⟩)
 have G6:=hid (show w.grownBy W6 (some P) from b6 G1 H6)
 go_upto_region 4 with fail
 rw [← hsb,← hW6]
 have HSB:=hid hsb
 clear hW6 hsb hfd
 have C7:=hid (show Calls Tryz.prog 53 #[.pointer (some ⟨P,0,none⟩),.string ⟨#[59]⟩] W6 (eR P g cap ts 0 t8 r1 W6) from V0 P g cap ts 0 r1 ⟨#[59]⟩ t8 rfl W6 S6 HE)
 go_wp2_with fail
 (with_reducible refine Calls.mono C7.out ?_)
 rintro e w7 ⟨hg,hq⟩
 have H7:=hid hg
 have G7:=hid (show w.grownBy w7 (some P) from b6 G6 hg)
 cases hw7 : isT t8 r1
 case false =>
  obtain rfl:=hq.2 hw7
  refine And.intro rfl ?_
  rw [HX5.out,X9 hw7]
  exact ⟨rfl,G7⟩
 case true =>
 obtain ⟨rfl,hs⟩:=hq.1 hw7
 have S7:=hid hs
 have HX7:=hid (show X=(q9 100 [] (b9 r1)).then fun is r => (S0 200 is.kids r).then fun ls r => .ok (mkN 1 T.text 0 ls.kids at0,r) from HX5.out.trans (L7 hw7))
 have hl7:=hid (n5 hw7)
 clear hs hg hq hw7 C7
 have I7:=hid (show a5b P g cap ts W6.heap.size w4.heap.size sb at0 W6 (fun n acc r => X=(q9 (100 - n) acc r).then fun is r => (S0 200 is.kids r).then fun ls r => .ok (mkN 1 T.text 0 ls.kids at0,r)) 0 [] (b9 r1) w7 from
  ⟨S7,J6.out.grown H7 (by have:=hnum.out; omega) (by have:=hnum.out; omega),Gx.of H7,HX7⟩)
 go_upto_block 0 with fail
 go_wp2_with fail
 go_loopw [5] (fun v wr => ∃ (acc : List Nd) (r : List Tk),v=.int .i64 acc.length∧acc.length≤100∧Hid (a5b P g cap ts W6.heap.size w4.heap.size sb at0 W6 (fun n acc r => X=(q9 (100 - n) acc r).then fun is r => (S0 200 is.kids r).then fun ls r => .ok (mkN 1 T.text 0 ls.kids at0,r)) acc.length acc r wr)) (fun v _ => (100 - (intOf v).toNat))
 case atStart => exact ⟨[],_,rfl,Nat.zero_le _,I7⟩
 case round =>
  obtain ⟨acc,r,rfl,ha,HI⟩:=hrel
  clear I7
  have hnm:=hnum.out
  have Gr:=hid (show w.grownBy wr (some P) from HI.out.2.2.1.grown G6 (by omega) (by omega))
  have C8:=hid (show Calls Tryz.prog 50 #[.pointer (some ⟨P,0,none⟩),.string ⟨#[105,109,112,111,114,116]⟩] wr (fun e w' => e=.returned (.bool (isT aQ r))∧Below wr.heap.size wr w') from aO P g cap ts 0 r ⟨#[105,109,112,111,114,116]⟩ wr HI.out.1)
  obtain ⟨b,hb⟩ : ∃ b,b=isT aQ r:=⟨_,rfl⟩
  rw [← hb] at C8
  have HBr:=hid hb
  clear hb
  cases b
  case true =>
   by_cases hk : acc.length=100
   ·have e0 : ((acc.length : Int) == 100)=true:=by rw [hk]; rfl
    have HXe:=hid (show X=.error (76,(hd r).pos) by
     rw [HI.out.2.2.2,hk,Nat.sub_self,q9,← HBr.out,if_pos rfl]; rfl)
    clear hk
    go_wp2_with fail
    (with_reducible refine Calls.mono C8.out ?_)
    rintro e w8 ⟨rfl,hb⟩
    obtain ⟨a,rfl,hp⟩:=HI.out.1.below hb
    have hpos:=hp.pos
    have D:=hid (O0 hpos)
    obtain ⟨⟨p0,p1⟩,-⟩:=hp.cells
    obtain ⟨t0,t1,t2,t3⟩:=hp.tok
    have hL : 0<ts.length - a:=by omega
    have C9:=hid (aE P 76 (ts[a]'hpos).pos w8)
    have B8:=hid hb
    generalize ts[a]'hpos=Tx at t0 t1 t2 t3 D C9
    generalize ts.length - a=Ln2 at p0 hL
    generalize cap - a=C2 at p0
    generalize a * 4=off2 at p0 t0 t1 t2 t3
    clear hp hpos hb
    go_wp2_with fail
    (with_reducible refine Calls.mono C9.out ?_)
    rintro e w9 ⟨rfl,rfl⟩
    refine And.intro rfl ?_
    rw [HXe.out,D.out]
    exact ⟨rfl,b6 Gr (b8 B8)⟩
   ·have e0 : ((acc.length : Int) == 100)=false:=beq_eq_false_iff_ne.2 (by omega)
    obtain ⟨f,hf⟩ : ∃ f,100 - acc.length=f + 1:=⟨100 - acc.length - 1,by omega⟩
    have hf2 : 100 - (acc.length + 1)=f:=by omega
    have HXn:=hid (show X=(F0 1 (b9 r) fun t q => d9 t8 q fun q => q9 f (acc ++ [mkN 2 t.text 0 [] t.pos]) q).then fun is r => (S0 200 is.kids r).then fun ls r => .ok (mkN 1 T.text 0 ls.kids at0,r) by
     rw [HI.out.2.2.2,hf,q9,← HBr.out,if_pos rfl])
    have HF2:=hid hf2
    have hlt : acc.length<100:=by omega
    clear hk hf hf2
    go_wp2_with fail
    (with_reducible refine Calls.mono C8.out ?_)
    rintro e w8 ⟨rfl,hb⟩
    have S8:=hid (HI.out.1.below hb)
    have C9:=hid (dG P g cap ts 0 r w8 S8 HE)
    have B8:=hid hb
    clear hb C8
    go_wp2_with fail
    (with_reducible refine Calls.mono C9.out ?_)
    rintro e w9 ⟨rfl,hs,hg⟩
    have S9:=hid hs
    have H9:=hid (show wr.grownBy w9 (some P) from b6 (b8 B8) hg)
    have HT1:=hid (HTK.out _ hs.mem)
    have C10:=hid (dS P g cap ts 0 (b9 r) 1 w9 hs HE)
    obtain ⟨Tx,hT⟩ : ∃ T,T=hd (b9 r):=⟨_,rfl⟩
    have HX10:=hid (show X=(goX (X4 1 (.ok (b9 r))) (fun q => d9 t8 q fun q => q9 f (acc ++ [mkN 2 Tx.text 0 [] Tx.pos]) q)).then fun is r => (S0 200 is.kids r).then fun ls r => .ok (mkN 1 T.text 0 ls.kids at0,r) from
     HXn.out.trans (congrArg (fun y => Rd.then y _) (eO (.ok (b9 r)) 1 (fun t q => d9 t8 q fun q => q9 f (acc ++ [mkN 2 t.text 0 [] t.pos]) q) Tx (fun r h => by cases h; exact hT))))
    rw [← hT] at C10 HT1
    generalize X4 1 (.ok (b9 r))=σ at C10 HX10
    clear hs hg C9 HXn hT
    unfold tkV
    go_wp2_with fail
    (with_reducible refine Calls.mono C10.out ?_)
    intro e w10 hq
    cases σ with
    | error q =>
      obtain ⟨k0,p0⟩:=q
      obtain ⟨rfl,hg⟩:=hq
      refine And.intro rfl ?_
      rw [HX10.out]
      exact ⟨rfl,b6 Gr (b6 H9 hg)⟩
    | ok r2 =>
    obtain ⟨rfl,hs,hg⟩:=hq
    have HX11:=hid (show X=(d9 t8 r2 fun q => q9 f (acc ++ [mkN 2 Tx.text 0 [] Tx.pos]) q).then fun is r => (S0 200 is.kids r).then fun ls r => .ok (mkN 1 T.text 0 ls.kids at0,r) from HX10)
    have S10:=hid hs
    have H10:=hid (show wr.grownBy w10 (some P) from b6 H9 hg)
    clear hs hg C10 HX10
    unfold tkV
    obtain ⟨Wt,hWt⟩ : ∃ W,W=w10.alloc (.cells #[.int .i64 Tx.kind,.string ⟨Tx.text.toArray⟩,.int .i64 Tx.n,.int .i64 Tx.pos] 79):=⟨_,rfl⟩
    have Bt:=hid (show Below w10.heap.size w10 Wt from hWt ▸ c6 _ _)
    have Qt:=hid (show QT w10.heap.size Tx Wt from hWt ▸ QT.make w10 Tx)
    have Ht:=hid (show wr.grownBy Wt (some P) from b6 H10 (b8 Bt))
    have Cw:=hid (show Calls Tryz.prog 53 #[.pointer (some ⟨P,0,none⟩),.string ⟨#[59]⟩] Wt (eR P g cap ts 0 t8 r2 Wt) from V0 P g cap ts 0 r2 ⟨#[59]⟩ t8 rfl Wt (S10.out.below Bt) HE)
    go_upto_region 12 with fail
    rw [← hWt]
    clear hWt
    go_wp2_with fail
    (with_reducible refine Calls.mono Cw.out ?_)
    rintro e w11 ⟨hg,hq⟩
    have H11:=hid (show wr.grownBy w11 (some P) from b6 Ht hg)
    cases hw : isT t8 r2
    case false =>
     obtain rfl:=hq.2 hw
     refine And.intro rfl ?_
     rw [HX11.out,X9 hw]
     exact ⟨rfl,b6 Gr H11⟩
    case true =>
    obtain ⟨rfl,hs⟩:=hq.1 hw
    have S11:=hid hs
    have HX12:=hid (show X=(q9 f (acc ++ [mkN 2 Tx.text 0 [] Tx.pos]) (b9 r2)).then fun is r => (S0 200 is.kids r).then fun ls r => .ok (mkN 1 T.text 0 ls.kids at0,r) by rw [HX11.out,L7 hw])
    have Q11:=hid (Qt.out.grown hg (fun e => by have:=Option.some.inj e; have:=H10.out.size; have:=HI.out.2.2.1.size; omega))
    have J11:=hid (HI.out.2.1.grown H11 (by omega) (by omega))
    have GX11:=hid (HI.out.2.2.1.trans (Gx.of H11))
    obtain ⟨hb4,L,ao,cp,j3,j4,j5,j6⟩:=J11.out
    have HK:=hid (show _∧_∧_∧_ from ⟨j3,j4,j5,j6⟩)
    have hbs:=hid hb4
    have hLl : L.length≤100:=by rw [← j3,List.length_map] at ha; exact ha
    have hnc : w11.cell? ⟨w4.heap.size,3,none⟩=some (.slice ao L.length cp):=by simp [World.cell?,j4]
    have hnl : w4.heap.size<w11.heap.size:=(Array.getElem?_eq_some_iff.1 j4).1
    obtain ⟨⟨t0,t1,t2,t3⟩,-⟩:=Q11.out.cells
    have htl:=Q11.out.lt
    obtain ⟨Wa,hWa⟩ : ∃ W,W=w11.alloc (.cells #[.int .i64 2,.string ⟨Tx.text.toArray⟩,.int .i64 0,.slice none 0 0,.int .i64 Tx.pos] 24):=⟨_,rfl⟩
    have Ba:=hid (show Below w11.heap.size w11 Wa from hWa ▸ c6 _ _)
    have Na:=hid (show ∀ i u,(ndC (mkN 2 Tx.text 0 [] Tx.pos,none,0))[i]?=some u→Wa.cell? ((⟨w11.heap.size,0,none⟩ : Addr).add i)=some u from hWa ▸ aW w11 _ _ _ _ _ _)
    have Oa:=hid (show Wa.ownsRow W6.heap.size 24 5 (.slice ao L.length cp) L.length (Y1 L) from n7 j5 Ba)
    have hba:=hid (show W6.heap.size≤Wa.heap.size from Nat.le_trans hb4 Ba.out.size)
    have HOB:=hid (show ∀ d,(Value.slice ao L.length cp).ownBlock=some d→W6.heap.size≤d∧d<w11.heap.size from fun d hd => j5.lt d hd)
    have HF:=hid (show ∀ w6,Wa.grownBy w6 (Value.slice ao L.length cp).ownBlock→w6.heap[w4.heap.size]?=some (.cells #[.int .i64 1,.string sb,.int .i64 0,.slice ao L.length cp,.int .i64 at0] 24 (0,0)) from fun w6 hg6 =>
     (hg6.block _ (by have:=Ba.out.size; omega) (fun e => by have:=(HOB.out _ e.symm).1; omega)).trans ((Ba.out.block _ hnl).trans HK.out.2.1))
    clear hs hg hq hw Cw j3 j4 j5 j6 hb4
    go_upto_region 7 with (at_builtin; rw [← hWa]; refine wpList_append_lies _ rfl _ _ 22 rfl W6.heap.size 24 i0 (.agg #[.int .i64 0,.string ⟨#[]⟩,.int .i64 0,.slice none 0 0,.int .i64 0]) 5 64 Tryz.underlying22 HI0.out.1 HI0.out.2.1 HI0.out.2.2.1 HI0.out.2.2.2 rfl (by decide) _ _ _ rfl Oa ⟨w11.heap.size,0,none⟩ 1 1 (ndC (mkN 2 Tx.text 0 [] Tx.pos,none,0)) rfl rfl Na (oF _) (by decide) (by unfold maxLen; omega) (by omega) hba _ rfl ?_; intro gb cap' w6 hown' hgrow' hat hltg; have HO6:=hid hown'; have HG6:=hid hgrow'; have HAT:=hid hat; have HN6:=hid (HF.out w6 hgrow'); have hn3 : w6.cell? ⟨w4.heap.size,3,none⟩=some (.slice ao L.length cp):=(by simp [World.cell?,HN6.out]); have hf3 : w6.frozen? ⟨w4.heap.size,3,none⟩=false:=(by simp [World.frozen?,HN6.out]); have hn6 : w4.heap.size<w6.heap.size:=(Array.getElem?_eq_some_iff.1 HN6).1; clear hown' hgrow' hat hnc t0 t1 t2 t3)
    clear hWa
    go_wp2_with fail
    go_roundw
    case rel =>
     refine ⟨acc ++ [mkN 2 Tx.text 0 [] Tx.pos],b9 r2,by rw [List.length_append]; rfl,by rw [List.length_append]; simp; omega,wX (P:=P) (e:=(mkN 2 Tx.text 0 [] Tx.pos,none,0)) (av:=fun _ => False) hnm HK.out.1 HK.out.2.2.2 hbs HOB GX11 S11 (xJ HT1 _ _) (fun c hc => hc.elim) Ba HG6 HAT HO6 HN6 ?_⟩
     rw [HX12.out,← HF2.out,List.length_append]; rfl
    case measure => simp [intOf]; omega
  case false =>
   have HXn:=hid (show X=(S0 200 acc r).then fun ls r => .ok (mkN 1 T.text 0 ls.kids at0,r) by
    rw [HI.out.2.2.2,a0H HBr.out.symm]; rfl)
   go_wp2_with fail
   (with_reducible refine Calls.mono C8.out ?_)
   rintro e w8 ⟨rfl,hb⟩
   have I8:=hid (show a5b P g cap ts W6.heap.size w4.heap.size sb at0 W6 (fun n ac q => X=(S0 (200 - n) ac q).then fun ls r => .ok (mkN 1 T.text 0 ls.kids at0,r)) 0 acc r w8 from
    ⟨HI.out.1.below hb,HI.out.2.1.grown (P:=P) (b8 hb) (by omega) (by omega),HI.out.2.2.1.trans (Gx.of (b8 hb)),HXn⟩)
   clear hb C8 HI Gr HXn HBr
   have hk0 : acc.length≤100:=ha
   go_upto_block 2 with fail
   go_wp2_with fail
   go_loopw [7] (fun v wr => ∃ (j : Nat) (ac : List Nd) (q : List Tk),v=.int .i64 j∧j≤200∧ac.length≤100 + j∧Hid (a5b P g cap ts W6.heap.size w4.heap.size sb at0 W6 (fun n ac q => X=(S0 (200 - n) ac q).then fun ls r => .ok (mkN 1 T.text 0 ls.kids at0,r)) j ac q wr)) (fun v _ => (200 - (intOf v).toNat))
   case atStart => exact ⟨0,acc,r,rfl,Nat.zero_le _,hk0,I8⟩
   case round =>
    obtain ⟨j,ac,q,rfl,hj,hac,HI⟩:=hrel
    clear I8
    have Gr:=hid (show w.grownBy wr (some P) from HI.out.2.2.1.grown G6 (by omega) (by omega))
    have C8:=hid (show Calls Tryz.prog 50 #[.pointer (some ⟨P,0,none⟩),.string ⟨#[108,101,116]⟩] wr (fun e w' => e=.returned (.bool (isT gK q))∧Below wr.heap.size wr w') from aO P g cap ts 0 q ⟨#[108,101,116]⟩ wr HI.out.1)
    obtain ⟨b,hb⟩ : ∃ b,b=isT gK q:=⟨_,rfl⟩
    rw [← hb] at C8
    have HBr:=hid hb
    clear hb
    cases b
    case true =>
     by_cases hk : j=200
     ·have e0 : ((j : Int) == 200)=true:=by rw [hk]; rfl
      have HXe:=hid (show X=.error (76,(hd q).pos) by
       rw [HI.out.2.2.2,hk,Nat.sub_self,S0,← HBr.out,if_pos rfl]; rfl)
      clear hk
      go_wp2_with fail
      (with_reducible refine Calls.mono C8.out ?_)
      rintro e w8 ⟨rfl,hb⟩
      obtain ⟨a,rfl,hp⟩:=HI.out.1.below hb
      have hpos:=hp.pos
      have D:=hid (O0 hpos)
      obtain ⟨⟨p0,p1⟩,-⟩:=hp.cells
      obtain ⟨t0,t1,t2,t3⟩:=hp.tok
      have hL : 0<ts.length - a:=by omega
      have C9:=hid (aE P 76 (ts[a]'hpos).pos w8)
      have B8:=hid hb
      generalize ts[a]'hpos=Tx at t0 t1 t2 t3 D C9
      generalize ts.length - a=Ln2 at p0 hL
      generalize cap - a=C2 at p0
      generalize a * 4=off2 at p0 t0 t1 t2 t3
      clear hp hpos hb
      go_wp2_with fail
      (with_reducible refine Calls.mono C9.out ?_)
      rintro e w9 ⟨rfl,rfl⟩
      refine And.intro rfl ?_
      rw [HXe.out,D.out]
      exact ⟨rfl,b6 Gr (b8 B8)⟩
     ·have e0 : ((j : Int) == 200)=false:=beq_eq_false_iff_ne.2 (by omega)
      obtain ⟨f,hf⟩ : ∃ f,200 - j=f + 1:=⟨200 - j - 1,by omega⟩
      have hf2 : 200 - (j + 1)=f:=by omega
      have HXn:=hid (show X=((wL q).then fun t q => S0 f (ac ++ [t]) q).then fun ls r => .ok (mkN 1 T.text 0 ls.kids at0,r) by
       rw [HI.out.2.2.2,hf,S0,← HBr.out,if_pos rfl])
      have HF2:=hid hf2
      have hlt : j<200:=by omega
      clear hk hf hf2
      go_wp2_with fail
      (with_reducible refine Calls.mono C8.out ?_)
      rintro e w8 ⟨rfl,hb⟩
      have S8:=hid (HI.out.1.below hb)
      have J8:=hid (HI.out.2.1.grown (P:=P) (b8 hb) (by omega) (by omega))
      have GX8:=hid (HI.out.2.2.1.trans (Gx.of (b8 hb)))
      have G8:=hid (b6 Gr (b8 hb))
      obtain ⟨hb4,L,ao,cp,j3,j4,j5,j6⟩:=J8.out
      have HK:=hid (show _∧_∧_∧_ from ⟨j3,j4,j5,j6⟩)
      have hbs:=hid hb4
      have hLl : L.length≤300:=by rw [← j3,List.length_map] at hac; omega
      have hnc : w8.cell? ⟨w4.heap.size,3,none⟩=some (.slice ao L.length cp):=by simp [World.cell?,j4]
      have HNC:=hid hnc
      have hnl : w4.heap.size<w8.heap.size:=(Array.getElem?_eq_some_iff.1 j4).1
      have BD:=hid (show Below w8.heap.size w8 w8.drew from A7 (Below.refl _ _))
      have CL:=hid (a4l P g cap ts HE HTK q w8.drew (S8.out.below BD))
      generalize wL q=x at CL HXn
      clear hb C8 hb4 j3 j4 j5 j6 hnc
      go_upto_region 19 with fail
      refine cR (S:=(fun cur => cur.cell? ⟨w4.heap.size,3,none⟩=some (.slice ao L.length cp))) (Z:=[0,2,5,6,7]) (by kernel_rfl) ?_ (fun hHeld => ?_)
      ·exact HNC
      refine l6.pure (i:=0) (v:=?_) (l3 rfl) (by kernel_rfl) (by kernel_rfl) (by kernel_rfl) (by kernel_rfl) (fun _ _ _ h => h) (Or.inl ⟨by rfl,?_⟩) ?_
      rotate_left
      ·(intro w hSw; go_simp; try with_reducible rfl)
      try simp only [Act.put,c9,f8,f7]
      refine l6.pure (i:=2) (v:=?_) (l3 rfl) (by kernel_rfl) (by kernel_rfl) (by kernel_rfl) (by kernel_rfl) (fun _ _ _ h => h) (Or.inl ⟨by rfl,?_⟩) ?_
      rotate_left
      ·(intro w hSw; go_simp; try with_reducible rfl)
      try simp only [Act.put,c9,f8,f7]
      refine l6.takeL (i:=1) (v:=?_) (l3 rfl) (by kernel_rfl) (by kernel_rfl) (by kernel_rfl) (by kernel_rfl) (fun _ _ _ h => h) (Or.inl ⟨by rfl,?_⟩) (by assumption) ?_
      rotate_left
      ·(intro w hSw; (try dsimp only at hSw); go_simp; try with_reducible rfl)
      try simp only [Act.put,c9,f8,f7]
      refine l6.next (i:=3) (by kernel_rfl) (l3 rfl) (fun K hK => ?_)
      go_simp
      (with_reducible refine Calls.mono CL.out ?_)
      intro e wa hq
      cases x with
      | error z =>
        obtain ⟨k0,p0⟩:=z
        obtain ⟨rfl,hg⟩:=hq
        refine And.intro rfl ?_
        rw [HXn.out]
        exact ⟨rfl,b6 G8 (b6 (b8 BD) hg)⟩
      | ok z =>
      obtain ⟨t,q2⟩:=z
      obtain ⟨a,c,rfl,hs,hg,hl2⟩:=hq
      have HX9:=hid (show X=(S0 f (ac ++ [t]) q2).then fun ls r => .ok (mkN 1 T.text 0 ls.kids at0,r) from HXn)
      have Sa:=hid hs
      have Ga:=hid (show w8.grownBy wa (some P) from b6 (b8 BD) hg)
      have HLt:=hid (show t.lies (Fr w8.heap.size wa.heap.size) wa a c from hl2)
      have HKa:=hid (show wa.heap[w4.heap.size]?=some (.cells #[.int .i64 1,.string sb,.int .i64 0,.slice ao L.length cp,.int .i64 at0] 24 (0,0)) from (Ga.out.block _ hnl (fun e => by have:=Option.some.inj e; omega)).trans HK.out.2.1)
      have Oa:=hid (show wa.ownsRow W6.heap.size 24 5 (.slice ao L.length cp) L.length (Y1 L) from HK.out.2.2.1.kept Ga (by
       cases hv : (Value.slice ao L.length cp).ownBlock with
       | none => exact .inl rfl
       | some c => exact .inr (fun e => by have:=(HK.out.2.2.1.lt c hv).1; cases e; omega)))
      have HOB:=hid (show ∀ d,(Value.slice ao L.length cp).ownBlock=some d→W6.heap.size≤d∧d<w8.heap.size from fun d hd => HK.out.2.2.1.lt d hd)
      have HLa:=hid (show ∀ e∈L,e.1.lies (fun c => W6.heap.size≤c∧c<wa.heap.size∧(Value.slice ao L.length cp).ownBlock≠some c) wa e.2.1 e.2.2 from fun e he => d5 (HK.out.2.2.2 e he) (fun d hd => Ga.out.block d hd.2.1 (fun e => by have:=Option.some.inj e; have:=hd.1; omega)) fun d hd => ⟨hd.1,Nat.lt_of_lt_of_le hd.2.1 Ga.out.size,hd.2.2⟩)
      have HNa:=hid (show wa.cell? ⟨w4.heap.size,3,none⟩=some (.slice ao L.length cp) by simp [World.cell?,HKa.out])
      clear hs hg hl2 CL
      unfold Nd.val
      go_wp2_with fail
      refine hK.out _ _ ?_ (fun hHeld => ?_)
      ·exact HNa
      clear hK K
      try simp only [Act.put,c9,f8,f7]
      refine l6.next (i:=4) (by kernel_rfl) (l3 rfl) (fun K hK => ?_)
      go_simp
      obtain ⟨Wz,hWz⟩ : ∃ W,W=wa.alloc (.cells #[.int .i64 t.kind,.string t.text,.int .i64 t.n,.slice a t.kids.length c,.int .i64 t.place] 24):=⟨_,rfl⟩
      have Bz:=hid (show Below wa.heap.size wa Wz from hWz ▸ c6 _ _)
      have Nz:=hid (show ∀ i u,(ndC (t,a,c))[i]?=some u→Wz.cell? ((⟨wa.heap.size,0,none⟩ : Addr).add i)=some u from hWz ▸ aW wa _ _ _ _ _ _)
      have Oz:=hid (show Wz.ownsRow W6.heap.size 24 5 (.slice ao L.length cp) L.length (Y1 L) from n7 Oa Bz)
      have hbz:=hid (show W6.heap.size≤Wz.heap.size from Nat.le_trans (Nat.le_trans hbs Ga.out.size) Bz.out.size)
      have HKz:=hid (show Wz.heap[w4.heap.size]?=some (.cells #[.int .i64 1,.string sb,.int .i64 0,.slice ao L.length cp,.int .i64 at0] 24 (0,0)) from (Bz.out.block _ (by have:=Ga.out.size; omega)).trans HKa)
      have HNz:=hid (show Wz.cell? ⟨w4.heap.size,3,none⟩=some (.slice ao L.length cp) by simp [World.cell?,HKz.out])
      rw [← hWz]
      clear hWz
      refine hK.out _ _ ?_ (fun hHeld => ?_)
      ·exact HNz
      clear hK K
      try simp only [Act.put,c9,f8,f7]
      refine l6.nextZ (i:=5) (by kernel_rfl) (l3 rfl) (by kernel_rfl) (fun K hK => ?_)
      refine step_append_lies _ rfl _ _ 22 rfl W6.heap.size 24 i0 (.agg #[.int .i64 0,.string ⟨#[]⟩,.int .i64 0,.slice none 0 0,.int .i64 0]) 5 64 Tryz.underlying22 HI0.out.1 HI0.out.2.1 HI0.out.2.2.1 HI0.out.2.2.2 rfl (by decide) _ _ _ rfl Oz ⟨wa.heap.size,0,none⟩ 1 1 (ndC (t,a,c)) rfl rfl Nz (oF _) (by decide) (by unfold maxLen; omega) (by omega) hbz _ rfl ?_
      intro gb cap' w6 hown' hgrow' hat hltg
      have HO6:=hid hown'
      have HG6:=hid hgrow'
      have HAT:=hid hat
      have HN6:=hid (show w6.heap[w4.heap.size]?=some (.cells #[.int .i64 1,.string sb,.int .i64 0,.slice ao L.length cp,.int .i64 at0] 24 (0,0)) from (hgrow'.block _ (by have:=hbz.out; omega) (fun e => by have:=(HOB.out _ e.symm).1; omega)).trans HKz)
      have hn3 : w6.cell? ⟨w4.heap.size,3,none⟩=some (.slice ao L.length cp):=by simp [World.cell?,HN6.out]
      have hf3 : w6.frozen? ⟨w4.heap.size,3,none⟩=false:=by simp [World.frozen?,HN6.out]
      have hn6 : w4.heap.size<w6.heap.size:=(Array.getElem?_eq_some_iff.1 HN6).1
      clear hown' hgrow' hat
      refine hK.out _ _ ?_
      clear hK K
      try simp only [Act.put,c9,f8,f7]
      refine l6.pure (i:=6) (v:=?_) (l3 rfl) (by kernel_rfl) (by kernel_rfl) (by kernel_rfl) (by kernel_rfl) (fun _ _ _ h => h) (Or.inl ⟨by rfl,?_⟩) ?_
      rotate_left
      ·(intro w hSw; go_simp; try with_reducible rfl)
      try simp only [Act.put,c9,f8,f7]
      refine l6.nextZ (i:=7) (by kernel_rfl) (l3 rfl) (by kernel_rfl) (fun K hK => ?_)
      go_simp
      refine hK.out _ _ ?_
      clear hK K
      try simp only [Act.put,c9,f8,f7]
      refine l6.done (by kernel_rfl) ?_ _
      go_wp2_with fail
      go_roundw
      case rel =>
       refine ⟨j + 1,ac ++ [t],q2,by go_num,by omega,by rw [List.length_append]; simp; omega,wX (P:=P) (e:=(t,a,c)) (av:=Fr w8.heap.size wa.heap.size) hnm HK.out.1 HLa (Nat.le_trans hbs Ga.out.size) (fun d hd => ⟨(HOB.out d hd).1,Nat.lt_of_lt_of_le (HOB.out d hd).2 Ga.out.size⟩) (GX8.out.trans (Gx.of Ga)) Sa HLt (fun d hd => ⟨Nat.le_trans hbs hd.1,hd.2,fun e => by have:=(HOB.out d e).2; have:=hd.1; omega⟩) Bz HG6 HAT HO6 HN6 ?_⟩
       rw [HX9.out,← HF2.out]
      case measure => simp [intOf]; omega
    case false =>
     have HXn:=hid (show X=.ok (mkN 1 T.text 0 ac at0,q) by
      rw [HI.out.2.2.2,a5D HBr.out.symm]; rfl)
     go_wp2_with fail
     (with_reducible refine Calls.mono C8.out ?_)
     rintro e w8 ⟨rfl,hb⟩
     have S8:=hid (HI.out.1.below hb)
     have J8:=hid (HI.out.2.1.grown (P:=P) (b8 hb) (by omega) (by omega))
     have GX8:=hid (HI.out.2.2.1.trans (Gx.of (b8 hb)))
     have G8:=hid (b6 Gr (b8 hb))
     obtain ⟨hb4,L2,ao2,cp2,i3,i4,i5,i6⟩:=J8.out
     have HII:=hid (show _∧_∧_∧_ from ⟨i3,i4,i5,i6⟩)
     have hbs:=hid hb4
     have HZ:=hid (show f6 w.heap.size nd0 none 0 w8 from (GX8.out.block w.heap.size (by omega) (by omega) (by omega) (by omega)).trans (Z1.out.grown H6 (by omega)))
     have n0 : w8.cell? ⟨w4.heap.size,0,none⟩=some (.int .i64 1):=by simp [World.cell?,i4]
     have n1 : w8.cell? ⟨w4.heap.size,1,none⟩=some (.string sb):=by simp [World.cell?,i4]
     have n2 : w8.cell? ⟨w4.heap.size,2,none⟩=some (.int .i64 0):=by simp [World.cell?,i4]
     have n3 : w8.cell? ⟨w4.heap.size,3,none⟩=some (.slice ao2 L2.length cp2):=by simp [World.cell?,i4]
     have n4 : w8.cell? ⟨w4.heap.size,4,none⟩=some (.int .i64 at0):=by simp [World.cell?,i4]
     have hnl : w4.heap.size<w8.heap.size:=(Array.getElem?_eq_some_iff.1 i4).1
     obtain ⟨⟨z0,z1,z2,z3,z4⟩,⟨f0,f1,f2,f3,f4⟩⟩:=HZ.out.cells
     simp only [nd0,Nd.kind,Nd.text,Nd.n,Nd.kids,Nd.place,List.length_nil] at z0 z1 z2 z3 z4
     have hzl:=HZ.out.lt
     clear i3 i4 i5 i6 hb hb4 C8
     go_wp2_with fail
     have hlen : L2.length=ac.length:=by rw [← HII.out.1,List.length_map]
     refine bodyPost_ret (v:=(mkN 1 T.text 0 ac at0).val ao2 cp2) (by rw [hlen,HSB.out]; simp [results,Tryz.results37,go_sem,Nd.val,mkN,Nd.kind,Nd.text,Nd.n,Nd.kids,Nd.place,z0,z1,z2,z3,z4]) rfl ?_
     rw [HXn.out,hlen,HSB.out]
     exact a1J (base:=W6.heap.size) (nb:=w4.heap.size) (rb:=w.heap.size) (HSB.out ▸ HII.out) S8 G8 hbs ⟨rfl,by have:=HT0.out.2.2; omega,HA0⟩ (by omega) (by omega) (by omega)
end
section
open Lib (hid)
open Go.RowKit
structure Res3 (b : Nat) (t : Nd) (a : Option Addr) (cp : Nat) (p k : Int) (W : World) : Prop where
 n : f6 b t a cp W
 p : W.heap[b + 1]?=some (.cells #[.int .i64 p] 3 (0,0))
 k : W.heap[b + 2]?=some (.cells #[.int .i64 k] 27 (0,0))
theorem wU (x y z : Value) (w : World) :
 CallsD Tryz.prog 46 #[x,y,z] .returning w fun e u' w' => e=.returned (.tuple #[])∧u'=.returning∧w'=w:=by
 refine callsD_of_wpS Tryz.func46 rfl fun c₀ cs hu => ?_
 apply wpS_seq
 apply wpS_region
 simp [wpOpsS,go_sem,recoverD,hu,Tryz.ntmps46,Exit.thenS]
 refine wpS_of_wp ?_
 go_wp2_with fail
 cases c₀
 simp_all [bodyPostS,results,Tryz.results46]
def oZ (w : World) (b : Nat) (p k : Int) : World:=(((V6 (w.alloc (.cells #[.int .i64 p,.int .i64 k] 75)) b nd0 none 0).setCell ⟨b + 1,0,none⟩ (.int .i64 p)).setCell ⟨b + 2,0,none⟩ (.int .i64 k)).drew
theorem lE (b : Nat) (t : Nd) (a : Option Addr) (cp : Nat) (p0 k0 p k : Int) (older : List PanicEntry) (w : World) (h : Res3 b t a cp p0 k0 w) :
 CallsD Tryz.prog 46 #[.pointer (some ⟨b,0,none⟩),.pointer (some ⟨b + 1,0,none⟩),.pointer (some ⟨b + 2,0,none⟩)] (.panicking ({ v:=.iface 75 (.agg #[.int .i64 p,.int .i64 k]),recovered:=false } :: older)) w fun e u' w' =>
  e=.returned (.tuple #[])∧u'=.panicking ({ v:=.iface 75 (.agg #[.int .i64 p,.int .i64 k]),recovered:=true } :: older)∧w'=oZ w b p k:=by
 obtain ⟨W1,hW1⟩ : ∃ W,W=w.alloc (.cells #[.int .i64 p,.int .i64 k] 75):=⟨_,rfl⟩
 have E1 : Below w.heap.size w W1:=hW1 ▸ c6 _ _
 have N1 : f6 b t a cp W1:=h.n.below E1
 obtain ⟨⟨z0,z1,z2,z3,z4⟩,⟨f0,f1,f2,f3,f4⟩⟩:=N1.cells
 have hpl0 : b + 1<w.heap.size:=(Array.getElem?_eq_some_iff.1 h.p).1
 have hkl0 : b + 2<w.heap.size:=(Array.getElem?_eq_some_iff.1 h.k).1
 have hp : W1.heap[b + 1]?=some (.cells #[.int .i64 p0] 3 (0,0)):=(E1.block _ hpl0).trans h.p
 have hk : W1.heap[b + 2]?=some (.cells #[.int .i64 k0] 27 (0,0)):=(E1.block _ hkl0).trans h.k
 have hp0 : W1.cell? ⟨b + 1,0,none⟩=some (.int .i64 p0):=by simp [World.cell?,hp]
 have hk0 : W1.cell? ⟨b + 2,0,none⟩=some (.int .i64 k0):=by simp [World.cell?,hk]
 have fp0 : W1.frozen? ⟨b + 1,0,none⟩=false:=by simp [World.frozen?,hp]
 have fk0 : W1.frozen? ⟨b + 2,0,none⟩=false:=by simp [World.frozen?,hk]
 have hq : W1.heap[w.heap.size]?=some (.cells #[.int .i64 p,.int .i64 k] 75 (0,0)):=by rw [hW1]; show (w.heap.push _)[w.heap.size]?=_; simp
 have q0 : W1.cell? ⟨w.heap.size,0,none⟩=some (.int .i64 p):=by simp [World.cell?,hq]
 have q1 : W1.cell? ⟨w.heap.size,1,none⟩=some (.int .i64 k):=by simp [World.cell?,hq]
 have hne : ¬ w.heap.size=b∧¬ w.heap.size=b + 1∧¬ w.heap.size=b + 2:=by omega
 obtain ⟨hn0,hn1,hn2⟩:=hne
 refine callsD_of_wpS Tryz.func46 rfl fun c₀ cs hu => ?_
 apply wpS_seq
 apply wpS_region
 simp [wpOpsS,go_sem,recoverD,hu,Tryz.ntmps46,Exit.thenS]
 refine wpS_of_wp ?_
 rw [show (#[.pointer (some ⟨b,0,none⟩),.pointer (some ⟨b + 1,0,none⟩),.pointer (some ⟨b + 2,0,none⟩)] ++ (Array.replicate 14 undef).setIfInBounds 3 (.iface 75 (.agg #[.int .i64 p,.int .i64 k])) : Array Value)=#[.pointer (some ⟨b,0,none⟩),.pointer (some ⟨b + 1,0,none⟩),.pointer (some ⟨b + 2,0,none⟩),undef,undef,undef,.iface 75 (.agg #[.int .i64 p,.int .i64 k]),undef,undef,undef,undef,undef,undef,undef,undef,undef,undef] from rfl]
 clear hu hp hk h N1 E1 hq
 have hta : ∀ (v : Value) (w : World),(Instr.typeAssert (.iface 75 v) 20 75 true).run Tryz.prog w=.ok (.tuple #[v,.bool true]) w:=fun _ _ => by kernel_rfl
 go_upto_region 7 with fail
 rw [← hW1]
 have HW1:=hid hW1
 clear hW1
 refine cR (S:=(fun cur => cur.cell? ⟨w.heap.size,0,none⟩=some (.int .i64 p)∧cur.cell? ⟨w.heap.size,1,none⟩=some (.int .i64 k))) (Z:=[]) (by kernel_rfl) ?_ (fun hHeld => ?_)
 ·exact ⟨q0,q1⟩
 refine l6.take (i:=0) (v:=?_) (l3 rfl) (by kernel_rfl) (by kernel_rfl) (by kernel_rfl) (by kernel_rfl) (fun _ _ _ h => h) (Or.inl ⟨by rfl,?_⟩) (by assumption) ?_
 rotate_left
 ·(intro w hSw; (try dsimp only at hSw); obtain ⟨s0,s1⟩:=hSw; go_simp; try with_reducible rfl)
 try simp only [Act.put,c9,f8,f7]
 refine l6.take (i:=1) (v:=?_) (l3 rfl) (by kernel_rfl) (by kernel_rfl) (by kernel_rfl) (by kernel_rfl) (fun _ _ _ h => h) (Or.inl ⟨by rfl,?_⟩) (by assumption) ?_
 rotate_left
 ·(intro w hSw; (try dsimp only at hSw); obtain ⟨s0,s1⟩:=hSw; go_simp; try with_reducible rfl)
 try simp only [Act.put,c9,f8,f7]
 refine l6.take (i:=2) (v:=?_) (l3 rfl) (by kernel_rfl) (by kernel_rfl) (by kernel_rfl) (by kernel_rfl) (fun _ _ _ h => h) (Or.inl ⟨by rfl,?_⟩) (by assumption) ?_
 rotate_left
 ·(intro w hSw; (try dsimp only at hSw); obtain ⟨s0,s1⟩:=hSw; go_simp; try with_reducible rfl)
 try simp only [Act.put,c9,f8,f7]
 refine l6.take (i:=3) (v:=?_) (l3 rfl) (by kernel_rfl) (by kernel_rfl) (by kernel_rfl) (by kernel_rfl) (fun _ _ _ h => h) (Or.inl ⟨by rfl,?_⟩) (by assumption) ?_
 rotate_left
 ·(intro w hSw; (try dsimp only at hSw); obtain ⟨s0,s1⟩:=hSw; go_simp; try with_reducible rfl)
 try simp only [Act.put,c9,f8,f7]
 refine l6.take (i:=4) (v:=?_) (l3 rfl) (by kernel_rfl) (by kernel_rfl) (by kernel_rfl) (by kernel_rfl) (fun _ _ _ h => h) (Or.inl ⟨by rfl,?_⟩) (by assumption) ?_
 rotate_left
 ·(intro w hSw; (try dsimp only at hSw); obtain ⟨s0,s1⟩:=hSw; go_simp; try with_reducible rfl)
 try simp only [Act.put,c9,f8,f7]
 refine l6.next (i:=5) (by kernel_rfl) (l3 rfl) (fun K hK => ?_)
 go_simp
 refine hK.out _ _ ?_ (fun hHeld => ?_)
 ·exact ⟨by simp [World.cell?_setCell_other, *],by simp [World.cell?_setCell_other, *]⟩
 clear hK K
 try simp only [Act.put,c9,f8,f7]
 refine l6.next (i:=6) (by kernel_rfl) (l3 rfl) (fun K hK => ?_)
 go_simp
 refine hK.out _ _ ?_ (fun hHeld => ?_)
 ·exact ⟨by simp [World.cell?_setCell_other, *],by simp [World.cell?_setCell_other, *]⟩
 clear hK K
 try simp only [Act.put,c9,f8,f7]
 refine l6.next (i:=7) (by kernel_rfl) (l3 rfl) (fun K hK => ?_)
 go_simp
 refine hK.out _ _ ?_ (fun hHeld => ?_)
 ·exact ⟨by simp [World.cell?_setCell_other, *],by simp [World.cell?_setCell_other, *]⟩
 clear hK K
 try simp only [Act.put,c9,f8,f7]
 refine l6.done (by kernel_rfl) ?_ _
 exact ⟨rfl,_,rfl,.tuple #[],by simp [results,Tryz.results46,go_sem],rfl,rfl,by rw [oZ,← HW1.out]; rfl⟩
end
end Go.Proofs.YtibiccacafjjfaaGreatDoor
