/-
  Laws that the proof rests on.
-/
import Derived.Test.YtppcfebnaieciaaGreatDoorF26
import Derived.Test.YtppcfebnaieciaaGreatDoorF01
import Derived.Test.YtppcfebnaieciaaGreatDoorF24
import Derived.Test.YtppcfebnaieciaaGreatDoorF14
namespace Go.Proofs.YtppcfebnaieciaaGreatDoor
set_option maxRecDepth 100000
set_option maxHeartbeats 16000000
section
open Go.RowKit
def RdL (P g cap : Nat) (ts : List Tk) (x : Rd) (w : World) (e : Ending) (w' : World) : Prop :=
 ∃ (t : Nd) (a : Option Addr) (cp : Nat),e=.returned (t.val a cp)∧SP P g cap ts 0 (l8 x) w'∧w.grownBy w' (some P)∧∀ t' r,x=.ok (t',r)→t'=t∧t.lies (Fr w.heap.size w'.heap.size) w' a cp
def X5 (σ : Sx) (ks : List Nd) : Rd:=goX σ fun r => .ok (mkN 0 [] 0 ks 0,r)
def nQ (σ : Sx) (ks : List Nd) : Rd:=goX σ (oX kE (8 - ks.length) ks)
theorem a1E {ks : List Nd} {r : List Tk} (h : ks.length=8) : nQ (.ok r) ks=.error (76,(hd r).pos):=by
 unfold nQ
 rw [cQ,h]
 rfl
theorem tA {ks : List Nd} {σ : Sx} {T : Tk} (h : ks.length<8) (hT : ∀ r,σ=.ok r→T=hd r) : nQ σ ks=goX (x6 1 σ) fun r => if isT z6 r=true then oX kE (8 - (ks.length + 1)) (ks ++ [mkN 4 T.text 0 [] T.pos]) (b9 r) else o8 O9 r fun r => .ok (mkN 0 [] 0 (ks ++ [mkN 4 T.text 0 [] T.pos]) 0,r):=by
 unfold nQ
 rw [show 8 - ks.length=(8 - (ks.length + 1)) + 1 by omega]
 cases σ with
 | error e => rfl
 | ok r =>
   obtain rfl:=hT r rfl
   rw [cQ,oX,show kE r=(if (hd r).kind=1 then .ok (mkN 4 (hd r).text 0 [] (hd r).pos,b9 r) else .error (74,(hd r).pos)) from rfl,show x6 1 (.ok r)=(if (hd r).kind=1 then .ok (b9 r) else .error (74,(hd r).pos)) from rfl]
   by_cases hk : (hd r).kind=1
   ·rw [if_pos hk,if_pos hk]; rfl
   ·rw [if_neg hk,if_neg hk]; rfl
theorem a2I {ks : List Nd} {σ : Sx} {T : Tk} (h : ks.length<8) (hT : ∀ r,σ=.ok r→T=hd r) (hc : ∀ r,x6 1 σ=.ok r→true=isT z6 r) : nQ σ ks=nQ (oQ (x6 1 σ)) (ks ++ [mkN 4 T.text 0 [] T.pos]):=by
 rw [tA h hT]
 unfold nQ
 cases hk : x6 1 σ with
 | error e => rfl
 | ok r =>
   show (if isT z6 r=true then _ else _)=_
   rw [if_pos (hc r hk).symm,List.length_append]
   rfl
theorem a3s {ks : List Nd} {σ : Sx} {T : Tk} (h : ks.length<8) (hT : ∀ r,σ=.ok r→T=hd r) (hc : ∀ r,x6 1 σ=.ok r→false=isT z6 r) : nQ σ ks=X5 (n7 O9 (x6 1 σ)) (ks ++ [mkN 4 T.text 0 [] T.pos]):=by
 rw [tA h hT]
 unfold X5
 rw [← A8]
 cases hk : x6 1 σ with
 | error e => rfl
 | ok r =>
   show (if isT z6 r=true then _ else _)=_
   rw [if_neg (by rw [← hc r hk]; decide)]
   rfl
theorem a4O {l : List Tk} {T : Tk} (hT : ∀ r,n7 jU (.ok l)=.ok r→T=hd r) {σ : Sx} {ks : List Nd} (h : goX (x6 1 (n7 jU (.ok l))) V6=X5 σ ks) {t : Nd} (ht : Is (goX (n7 tEq σ) (rd .expr 0)) t) :
 fN l=goX (n7 X4 (l8 (goX (n7 tEq σ) (rd .expr 0)))) fun r => .ok (mkN 3 T.text 0 (ks ++ [t]) T.pos,r):=by
 rw [← cQ l fN]
 unfold fN
 rw [A8,gO _ _ _ T hT,Y2,h]
 have hI : Is (X5 σ ks) (mkN 0 [] 0 ks 0):=fun t' r hx => by
  obtain ⟨r',-,e⟩:=Q9 hx
  cases e; rfl
 rw [z8 hI]
 unfold X5
 rw [Y6,A8,Y2,z8 ht,A8 _ X4]
 rfl
end
section
open Lib (hid)
open Go.RowKit
theorem eI {x : List UInt8} {σ : Sx} (r' : List Tk) (h : n7 x σ=.ok r') : ∃ r,σ=.ok r:=by
 cases σ with
 | ok r => exact ⟨r,rfl⟩
 | error e => cases h
theorem oA {σ : Sx} (r' : List Tk) (h : oQ σ=.ok r') : ∃ r,σ=.ok r:=by
 cases σ with
 | ok r => exact ⟨r,rfl⟩
 | error e => cases h
theorem qR {ts : List Tk} (htk : ∀ t∈ts,bG t) {P g cap : Nat} {σ : Sx} {w : World} (h : SP P g cap ts 0 σ w) {T : Tk} (hT : ∀ r,σ=.ok r→T=hd r) {r : List Tk} (hr : σ=.ok r) : bG T:=by
 rw [hT r hr]
 subst hr
 exact htk _ h.mem
theorem oJ {av : Nat→Prop} {W : World} {k : Int} {T : Tk} (hk : (Lit.int .i64 k).wf=true) (hT : bG T) : (mkN k T.text 0 [] T.pos).lies av W none 0:=R8 hk hT.2.2 rfl hT.2.1
def xZ (σ : Sx) : Bool:=match σ with
 | .ok r => isT J7 r
 | .error _ => false
theorem a4f {σ : Sx} (h : xZ σ=false) : goX σ V6=X5 σ []:=by
 cases σ with
 | error e => rfl
 | ok r =>
   show V6 r=.ok (mkN 0 [] 0 [] 0,r)
   unfold V6
   rw [show isT J7 r=false from h]
   rfl
theorem a2s {σ : Sx} (h : xZ σ=true) : goX σ V6=nQ (oQ σ) []:=by
 cases σ with
 | error e => rfl
 | ok r =>
   show V6 r=oX kE 8 [] (b9 r)
   unfold V6
   rw [show isT J7 r=true from h]
   rfl
theorem a2N (P g cap : Nat) (ts : List Tk) (he : bJ ts) (htk : ∀ t∈ts,bG t) (hE : ∀ r,CE P g cap ts r) (l : List Tk) (w : World) (h : SP P g cap ts 0 (.ok l) w) :
 Calls Tryz.prog 101 #[.pointer (some ⟨P,0,none⟩)] w (RdL P g cap ts (fN l) w):=by
 obtain ⟨i0,hi,hz0,hz1,hz2⟩:=info_parts (show (Tryz.prog.info? 24).map (fun i => (i.zero,i.size,i.bytes))=some (some (.agg #[.int .i64 0,.string ⟨#[]⟩,.int .i64 0,.slice none 0 0,.int .i64 0]),5,64) by kernel_rfl)
 have HI0:=hid (show _∧_∧_∧_ from ⟨hi,hz0,hz1,hz2⟩)
 clear hi hz0 hz1 hz2
 obtain ⟨W1,hW1⟩ : ∃ W,W=w.alloc (.cells #[.int .i64 0,.string ⟨#[]⟩,.int .i64 0,.slice none 0 0,.int .i64 0] 24):=⟨_,rfl⟩
 have B1:=hid (show Below w.heap.size w W1 from hW1 ▸ a7 _ _)
 have N1:=hid (show c6 w.heap.size nd0 none 0 W1 from hW1 ▸ c6.make w nd0 none 0)
 have S1:=hid (h.below B1)
 have HP:=hid h.blocks
 have HE:=hid he
 have HTK:=hid htk
 have HEx:=hid hE
 have hpP : w.heap.size≠P∧w.heap.size≠g:=⟨Nat.ne_of_gt h.blocks.1,Nat.ne_of_gt h.blocks.2⟩
 have C1:=hid (n5 P g cap ts 0 (.ok l) ⟨#[108,101,116]⟩ W1 (by omega) S1 he)
 clear h he htk hE
 go_enter Tryz.func101,Tryz.ntmps101
 go_upto_region 1 with fail
 rw [← hW1]
 clear hW1
 go_wp2_with fail
 (with_reducible refine Calls.mono C1.out ?_)
 rintro e w2 ⟨rfl,hs,hg⟩
 have S2:=hid (show SP P g cap ts 0 (n7 jU (.ok l)) w2 from hs)
 have G2:=hid (show w.grownBy w2 (some P) from a6 (c9 B1) hg)
 have N2:=hid (N1.out.grown hg hpP.1)
 clear hs hg C1 S1 N1 B1
 have C2:=hid (aX P g cap ts 0 (n7 jU (.ok l)) 1 w2 (by omega) S2 HE)
 obtain ⟨σ0,hσ0⟩ : ∃ σ0,σ0=n7 jU (.ok l):=⟨_,rfl⟩
 rw [← hσ0] at S2 C2
 have HS0:=hid hσ0
 clear hσ0
 go_wp2_with fail
 (with_reducible refine Calls.mono C2.out ?_)
 rintro e w3 ⟨T,rfl,hs,hg,hT⟩
 have S3:=hid hs
 have G3:=hid (a6 G2 hg)
 have N3:=hid (N2.out.grown hg hpP.1)
 have HT:=hid hT
 have HTO:=hid (fun r (hr : σ0=.ok r) => qR HTK S2 hT hr)
 clear hs hg C2 hT G2 N2 S2
 obtain ⟨W4,hW4⟩ : ∃ W,W=w3.alloc (.cells #[.int .i64 T.kind,.string ⟨T.text.toArray⟩,.int .i64 T.n,.int .i64 T.pos] 108):=⟨_,rfl⟩
 have B4:=hid (show Below w3.heap.size w3 W4 from hW4 ▸ a7 _ _)
 have T4:=hid (show D5 w3.heap.size T W4 from hW4 ▸ D5.make w3 T)
 unfold tkV
 go_upto_region 3 with fail
 rw [← hW4]
 clear hW4
 obtain ⟨W5,hW5⟩ : ∃ W,W=W4.alloc (.cells #[.int .i64 3,.string ⟨T.text.toArray⟩,.int .i64 0,.slice none 0 0,.int .i64 T.pos] 24):=⟨_,rfl⟩
 have B5:=hid (show Below W4.heap.size W4 W5 from hW5 ▸ a7 _ _)
 have L5:=hid (show LB P g cap ts W4.heap.size 3 ⟨T.text.toArray⟩ T.pos none 0 [] (x6 1 σ0) w W5 from LB.make (S3.out.below B4) (c8 G3 (B4.out.mono G3.out.size)) HP hW5)
 have N5:=hid ((N3.out.below B4).below B5)
 obtain ⟨⟨t0,t1,t2,t3⟩,-⟩:=T4.out.cells
 have htl:=T4.out.lt
 go_upto_region 4 with fail
 rw [← hW5]
 have hwb : w.heap.size<W4.heap.size:=by have:=G3.out.size; have:=B4.out.size; omega
 clear hW5 t0 t1 t2 t3 htl T4 N3 S3 G3 B4 B5
 obtain ⟨σ1,hσ1⟩ : ∃ σ1,σ1=x6 1 σ0:=⟨_,rfl⟩
 rw [← hσ1] at L5
 have HS1:=hid hσ1
 clear hσ1
 generalize W4.heap.size=nb at L5 hwb ⊢
 have C4:=hid (cK P g cap ts 0 σ1 ⟨#[40]⟩ W5 L5.out.sp)
 go_wp2_with fail
 (with_reducible refine Calls.mono C4.out ?_)
 rintro e w6 ⟨b,rfl,hb,hbb⟩
 have L6:=hid (L5.out.below hb)
 have N6:=hid (N5.out.below hb)
 have HB:=hid (show ∀ r,σ1=.ok r→b=isT J7 r from hbb)
 clear hb hbb C4 L5 N5
 go_upto_region 5 with fail
 go_cut [26] from 19 (fun s26 wx => s26=.bool (xZ σ1)∧Hid (LB P g cap ts nb 3 ⟨T.text.toArray⟩ T.pos none 0 [] σ1 w wx∧c6 w.heap.size nd0 none 0 wx))
 case first =>
  obtain ⟨c,p3,hc⟩:=L6.out.sp.bad
  have hpl:=L6.out.sp.blocks.1
  cases σ1 with
  | error e =>
    have e0 : (c == 0)=false:=beq_eq_false_iff_ne.2 (fun e => by obtain ⟨r,hr⟩:=hc.1 e; cases hr)
    clear hc
    go_wp2_with fail
    go_meet
    case rel => exact ⟨rfl,L6,N6⟩
  | ok r =>
    obtain rfl:=hc.2 ⟨r,rfl⟩
    have hb:=HB.out r rfl
    clear hc
    go_wp2_with fail
    go_meet
    case rel => exact ⟨rfl,L6,N6⟩
 case rest =>
  obtain ⟨rfl,hwc⟩:=hcut
  replace L6:=hid hwc.out.1
  replace N6:=hid hwc.out.2
  clear hwc HB
  go_upto_if 26 with fail
  go_cut [6,7] from 19 (fun _ _ wx => ∃ (ao : Option Addr) (cp : Nat) (L : List Ent) (σ2 : Sx),Hid (LB P g cap ts nb 3 ⟨T.text.toArray⟩ T.pos ao cp L σ2 w wx∧L.length≤8∧goX σ1 V6=X5 σ2 (L.map (·.1))∧c6 w.heap.size nd0 none 0 wx))
  case first =>
   cases ho : xZ σ1
   ·have E:=hid (a4f ho)
    clear ho
    go_wp2_with fail
    go_meet
    case rel => exact ⟨none,0,[],σ1,L6,Nat.zero_le _,E,N6⟩
   ·have E:=hid (a2s ho)
    have C7:=hid (O3 P g cap ts 0 σ1 wc L6.out.sp HE)
    clear ho
    go_wp2_with fail
    (with_reducible refine Calls.mono C7.out ?_)
    rintro e w7 ⟨T7,rfl,hs,hg,-⟩
    have L7:=hid (L6.out.step hs hg oA)
    have N7:=hid (N6.out.grown hg hpP.1)
    clear hs hg C7 L6 N6
    unfold tkV
    go_wp2_with fail
    go_loopw [6,7] (fun _ _ wr => ∃ (ao : Option Addr) (cp : Nat) (L : List Ent) (σ : Sx),L.length≤8∧Hid (LB P g cap ts nb 3 ⟨T.text.toArray⟩ T.pos ao cp L σ w wr∧goX σ1 V6=nQ σ (L.map (·.1))∧c6 w.heap.size nd0 none 0 wr)) (fun _ _ wr => nS P ts wr)
    case atStart => exact ⟨none,0,[],_,Nat.zero_le _,L7,E,N7⟩
    case round =>
     obtain ⟨ao,cp,L,σ,hL8,HI⟩:=hrel
     clear L7 N7 E
     have HFar:=hid (show nS P ts wr=a4g σ from HI.out.1.sp.far)
     have hpl:=HI.out.1.sp.blocks.1
     obtain ⟨c,p3,hc⟩:=HI.out.1.sp.bad
     cases σ with
     | error q =>
       have e0 : (c == 0)=false:=beq_eq_false_iff_ne.2 (fun e => by obtain ⟨r,hr⟩:=hc.1 e; cases hr)
       have C8:=hid (n5 P g cap ts 0 (.error q) ⟨#[41]⟩ wr (by omega) HI.out.1.sp HE)
       clear hc
       go_wp2_with fail
       (with_reducible refine Calls.mono C8.out ?_)
       rintro e w8 ⟨rfl,hs,hg⟩
       have L8:=hid (HI.out.1.step (σ':=.error q) hs hg (fun r h => by cases h))
       have N8:=hid (HI.out.2.2.grown hg hpP.1)
       clear hs hg C8
       go_wp2_with fail
       go_meet
       case rel => exact ⟨ao,cp,L,.error q,L8,hL8,HI.out.2.1,N8⟩
     | ok r =>
       obtain rfl:=hc.2 ⟨r,rfl⟩
       clear hc
       obtain ⟨⟨b0,b1,b2,b3,b4⟩,-⟩:=HI.out.1.cells
       have hbl:=HI.out.1.blt
       by_cases h8 : L.length=8
       ·have hl8 : ((L.length : Int) == 8)=true:=by rw [h8]; rfl
        have HX8:=hid (show goX σ1 V6=.error (76,(hd r).pos) by rw [HI.out.2.1,a1E (by rw [List.length_map]; exact h8)])
        have C8:=hid (eN P g cap ts 0 (.ok r) wr HI.out.1.sp)
        clear h8
        go_wp2_with fail
        (with_reducible refine Calls.mono C8.out ?_)
        rintro e w8 ⟨T8,rfl,hb,hT⟩
        have HT8:=hid (hT r rfl)
        have L8:=hid (HI.out.1.below hb)
        have N8:=hid (HI.out.2.2.below hb)
        obtain ⟨i2,-,hp2⟩:=L8.out.sp.ok
        have C9:=hid (J0 P g cap ts i2 (0 : Nat) w8 76 T8.pos hp2)
        clear hb hT hp2 p3 hpl b0 b1 b2 b3 b4 hbl C8
        unfold tkV
        have hfd:=Y9 T8.kind T8.n T8.pos ⟨T8.text.toArray⟩
        go_wp2_with fail
        (with_reducible refine Calls.mono C9.out ?_)
        rintro e w9 ⟨rfl,hp3,hg⟩
        have L9:=hid (L8.out.step (σ':=.error (76,T8.pos)) (SP.of_error hp3 (by decide) (Int.le_refl _) (by omega)) hg (fun r h => by cases h))
        have N9:=hid (N8.out.grown hg hpP.1)
        have C10:=hid (n5 P g cap ts 0 (.error (76,T8.pos)) ⟨#[41]⟩ w9 (by omega) L9.out.sp HE)
        clear hp3 hg hfd C9
        go_wp2_with fail
        (with_reducible refine Calls.mono C10.out ?_)
        rintro e w10 ⟨rfl,hs,hg⟩
        have L10:=hid (L9.out.step (σ':=.error (76,T8.pos)) hs hg (fun r h => by cases h))
        have N10:=hid (N9.out.grown hg hpP.1)
        clear hs hg C10
        go_wp2_with fail
        go_meet
        case rel => exact ⟨ao,cp,L,_,L10,hL8,by rw [HX8.out,HT8.out]; rfl,N10⟩
       ·have hl8 : ((L.length : Int) == 8)=false:=beq_eq_false_iff_ne.2 (by omega)
        have hL7 : L.length≤7:=by omega
        have C8:=hid (aX P g cap ts 0 (.ok r) 1 wr (by omega) HI.out.1.sp HE)
        clear h8
        go_wp2_with fail
        (with_reducible refine Calls.mono C8.out ?_)
        rintro e w8 ⟨T8,rfl,hs,hg,hT⟩
        have HTO8:=hid (fun r' (hr : (.ok r : Sx)=.ok r') => qR HTK HI.out.1.sp hT hr)
        have HT8:=hid hT
        have L8:=hid (HI.out.1.step hs hg (fun r' h => ⟨r,rfl⟩))
        have N8:=hid (HI.out.2.2.grown hg hpP.1)
        clear hs hg C8 hT p3 hpl b0 b1 b2 b3 b4 hbl
        obtain ⟨W9,hW9⟩ : ∃ W,W=w8.alloc (.cells #[.int .i64 T8.kind,.string ⟨T8.text.toArray⟩,.int .i64 T8.n,.int .i64 T8.pos] 108):=⟨_,rfl⟩
        have B9:=hid (show Below w8.heap.size w8 W9 from hW9 ▸ a7 _ _)
        have T9:=hid (show D5 w8.heap.size T8 W9 from hW9 ▸ D5.make w8 T8)
        have L9:=hid (L8.out.below B9)
        have N9:=hid (N8.out.below B9)
        unfold tkV
        go_upto_region 11 with fail
        rw [← hW9]
        clear hW9 B9 L8 N8
        obtain ⟨⟨t0,t1,t2,t3⟩,-⟩:=T9.out.cells
        have htl:=T9.out.lt
        obtain ⟨⟨b0,b1,b2,b3,b4⟩,bf⟩:=L9.out.cells
        have hbl:=L9.out.blt
        obtain ⟨W10,hW10⟩ : ∃ W,W=W9.alloc (.cells #[.int .i64 4,.string ⟨T8.text.toArray⟩,.int .i64 0,.slice none 0 0,.int .i64 T8.pos] 24):=⟨_,rfl⟩
        have B10:=hid (show Below W9.heap.size W9 W10 from hW10 ▸ a7 _ _)
        have L10:=hid (L9.out.below B10)
        have NEW:=hid (show ∀ (j : Nat) u,(ndC (mkN 4 T8.text 0 [] T8.pos,none,0))[j]?=some u→W10.cell? ((⟨W9.heap.size,0,none⟩ : Addr).add j)=some u from fun j u hu => hW10 ▸ bF _ _ _ _ _ _ _ j u hu)
        have HW10:=hid hW10
        have hz10 : nb + 1≤W10.heap.size:=by have:=B10.out.size; omega
        clear hW10
        go_wp2_with (at_builtin; rw [← HW10.out]; refine wpList_append_lies _ rfl _ _ 22 rfl (nb + 1) 24 i0 (.agg #[.int .i64 0,.string ⟨#[]⟩,.int .i64 0,.slice none 0 0,.int .i64 0]) 5 64 Tryz.underlying22 HI0.out.1 HI0.out.2.1 HI0.out.2.2.1 HI0.out.2.2.2 rfl (by decide) (.slice ao L.length cp) L.length (bH L) rfl L10.out.row ⟨W9.heap.size,0,none⟩ 1 1 (ndC (mkN 4 T8.text 0 [] T8.pos,none,0)) rfl rfl NEW (iN _) (by decide) (by unfold maxLen; omega) (by omega) hz10 _ rfl ?_)
        intro gb cq w11 hown hgrow hat hltg
        have hno : ∀ d,d<nb + 1→(Value.slice ao L.length cp).ownBlock≠some d:=fun d hd e => by have:=(L10.out.own d e).1; omega
        have hsz11:=hgrow.size
        have hnb:=(hgrow.block nb L10.out.blt (fun e => hno nb (by omega) e.symm)).trans L10.out.box
        have x0 : w11.cell? ⟨nb,3,none⟩=some (.slice ao L.length cp):=by simp [World.cell?,hnb]
        have x1 : w11.frozen? ⟨nb,3,none⟩=false:=by simp [World.frozen?,hnb]
        obtain ⟨W12,hW12⟩ : ∃ W,W=w11.setCell ⟨nb,3,none⟩ (.slice (some ⟨gb,0,none⟩) (L.length + 1) cq):=⟨_,rfl⟩
        have L12:=hid (show LB P g cap ts nb 3 ⟨T.text.toArray⟩ T.pos (some ⟨gb,0,none⟩) cq (L ++ [(mkN 4 T8.text 0 [] T8.pos,none,0)]) (x6 1 (.ok r)) w W12 from hW12 ▸ L9.out.app B10 hgrow hat hown fun _ _ => oJ rfl (HTO8.out r rfl))
        have N12:=hid (show c6 w.heap.size nd0 none 0 W12 from hW12 ▸ (c6.set ((hgrow.block w.heap.size (by omega) (fun e => hno w.heap.size (by omega) e.symm)).trans (N9.out.below B10)) (by omega) _ _))
        have hbl11 : nb<w11.heap.size:=by have:=L10.out.blt; omega
        have C12:=hid (cK P g cap ts 0 (x6 1 (.ok r)) ⟨#[44]⟩ W12 L12.out.sp)
        have HKL:=hid (show ∀ r',x6 1 (.ok r)=.ok r'→r'.length≤r.length from fun r' h => by
         obtain ⟨r1,e1,-,rfl⟩:=lL h
         cases e1
         exact I4 r)
        have HMO:=hid (fun hc => (HI.out.2.1.trans (a2I (ks:=L.map (·.1)) (σ:=.ok r) (T:=T8) (by rw [List.length_map]; omega) HT8 hc)))
        have HEN:=hid (fun hc => (HI.out.2.1.trans (a3s (ks:=L.map (·.1)) (σ:=.ok r) (T:=T8) (by rw [List.length_map]; omega) HT8 hc)))
        obtain ⟨σk,hσk⟩ : ∃ σk,σk=x6 1 (.ok r):=⟨_,rfl⟩
        rw [← hσk] at L12 C12 HKL HMO HEN
        have HM12:=hid (show (L ++ [(mkN 4 T8.text 0 [] T8.pos,none,0)] : List Ent).map (·.1)=L.map (·.1) ++ [mkN 4 T8.text 0 [] T8.pos] by rw [List.map_append]; rfl)
        have HL12:=hid (show (L ++ [(mkN 4 T8.text 0 [] T8.pos,none,0)] : List Ent).length=L.length + 1 by simp)
        clear hgrow hat hown hnb t0 t1 t2 t3 htl b0 b1 b2 b3 b4 bf hbl L9 L10 N9 T9 B10 NEW HTO8 hσk hno hsz11 hz10
        go_wp2_with fail
        rw [← hW12]
        clear hW12 x0 x1 hbl11
        (with_reducible refine Calls.mono C12.out ?_)
        rintro e w13 ⟨b2,rfl,hb,hb2⟩
        have L13:=hid (L12.out.below hb)
        have N13:=hid (N12.out.below hb)
        have HB2:=hid (show ∀ r',σk=.ok r'→b2=isT z6 r' from hb2)
        clear hb hb2 C12 L12 N12 HW10
        cases b2
        ·have C14:=hid (n5 P g cap ts 0 σk ⟨#[41]⟩ w13 (by omega) L13.out.sp HE)
         go_wp2_with fail
         (with_reducible refine Calls.mono C14.out ?_)
         rintro e w14 ⟨rfl,hs,hg⟩
         have L14:=hid (L13.out.step (σ':=n7 O9 σk) hs hg eI)
         have N14:=hid (N13.out.grown hg hpP.1)
         clear hs hg C14
         go_wp2_with fail
         go_meet
         case rel => exact ⟨_,_,_,_,L14,by rw [HL12.out]; omega,by rw [HM12.out]; exact HEN.out HB2,N14⟩
        ·have C14:=hid (O3 P g cap ts 0 σk w13 L13.out.sp HE)
         go_wp2_with fail
         (with_reducible refine Calls.mono C14.out ?_)
         rintro e w14 ⟨T14,rfl,hs,hg,-⟩
         have L14:=hid (L13.out.step hs hg oA)
         have N14:=hid (N13.out.grown hg hpP.1)
         clear hs hg C14
         unfold tkV
         go_wp2_with fail
         go_roundw
         case rel => exact ⟨_,_,_,_,by rw [HL12.out]; omega,L14,by rw [HM12.out]; exact HMO.out HB2,N14⟩
         case measure =>
          rw [HFar.out]
          refine Nat.lt_of_le_of_lt (Nat.le_of_eq L14.out.sp.far) ?_
          cases hx : σk with
          | error e => exact Nat.succ_pos _
          | ok r1 =>
            have h1:=HKL.out r1 hx
            have:=A9 (HB2.out r1 hx).symm
            show (b9 r1).length + 1<r.length + 1
            omega
  case rest =>
   obtain ⟨ao,cp,L,σ2,HQ⟩:=hcut
   have L8:=hid HQ.out.2.1
   have HPE:=hid HQ.out.2.2.1
   replace L6:=hid HQ.out.1
   replace N6:=hid HQ.out.2.2.2
   clear HQ
   have C7:=hid (n5 P g cap ts 0 σ2 ⟨#[61]⟩ wc (by omega) L6.out.sp HE)
   go_wp2_with fail
   (with_reducible refine Calls.mono C7.out ?_)
   rintro e w7 ⟨rfl,hs,hg⟩
   have L7:=hid (L6.out.step (σ':=n7 tEq σ2) hs hg eI)
   have N7:=hid (N6.out.grown hg hpP.1)
   clear hs hg C7 L6 N6
   obtain ⟨σ3,hσ3⟩ : ∃ σ3,σ3=n7 tEq σ2:=⟨_,rfl⟩
   rw [← hσ3] at L7
   have HS3:=hid hσ3
   clear hσ3
   have CP:=hid (aY P g cap ts 0 σ3 w7.drew (by omega) (L7.out.sp.below (r8 (Below.refl _ _))) (fun r _ => HEx.out r))
   obtain ⟨⟨b0,b1,b2,b3,b4⟩,bf⟩:=L7.out.cells
   have hbl:=L7.out.blt
   have hL8 : L.length≤8:=L8.out
   have HSB:=hid (show ∀ cur : World,cur.heap[nb]?=w7.heap[nb]?→cur.cell? ⟨nb,3,none⟩=some (.slice ao L.length cp) from fun cur h => (World.cell?_of_block h).trans b3)
   go_upto_region 17 with fail
   refine s3 (S:=fun cur => cur.cell? ⟨nb,3,none⟩=some (.slice ao L.length cp)) (z:=7) (by kernel_rfl) ?_ (fun hHeld => ?_)
   ·exact b3
   refine b8.t 0 ?_; refine b8.t 1 ?_; refine b8.t 2 ?_
   refine b8.nx 3 fun K hK => ?_
   go_simp
   (with_reducible refine Calls.mono CP.out ?_)
   rintro e w8 ⟨t,a,c,rfl,hs,hg,hk⟩
   have HK:=hid hk
   have hgd : w7.grownBy w8 (some P):=a6 (c9 (r8 (Below.refl _ _))) hg
   have hob : ∀ r',l8 (goX σ3 (rd .expr 0))=.ok r'→∃ r,σ3=.ok r:=fun r' h => by
    obtain ⟨t,ht⟩:=q6 h
    obtain ⟨r,hr,-⟩:=Q9 ht
    exact ⟨r,hr⟩
   have L9:=hid (L7.out.step hs hgd hob)
   have N9:=hid (N7.out.grown hgd hpP.1)
   have HLI:=hid (show ∀ r',l8 (goX σ3 (rd .expr 0))=.ok r'→t.lies (fun d => nb + 1≤d∧d<w8.heap.size∧(Value.slice ao L.length cp).ownBlock≠some d) w8 a c from fun r' h => by
    obtain ⟨t',ht⟩:=q6 h
    obtain ⟨rfl,hl,-⟩:=hk t' r' ht
    exact d6 hl (fun _ _ => rfl) fun d hd => ⟨by have:=hd.1; have : w7.drew.heap.size=w7.heap.size:=rfl; omega,hd.2,fun e => by have:=(L7.out.own d e).2; have:=hd.1; have : w7.drew.heap.size=w7.heap.size:=rfl; omega⟩)
   have hnb8:=hgd.block nb hbl (fun e => by have:=L7.out.lt.1; have:=Option.some.inj e; omega)
   go_wp2_with fail
   refine hK.out _ _ (HSB.out _ hnb8) (fun hHeld => ?_)
   clear hK K hs hg hk CP hgd b0 b1 b2 b3 b4 bf
   try simp only [Act.put,j6,v6,v7]
   have HBX:=hid hnb8
   clear hnb8
   unfold Nd.val at hHeld ⊢
   refine b8.nx 4 fun K hK => ?_
   go_simp
   obtain ⟨W10,hW10⟩ : ∃ W,W=w8.alloc (.cells #[.int .i64 t.kind,.string t.text,.int .i64 t.n,.slice a t.kids.length c,.int .i64 t.place] 24):=⟨_,rfl⟩
   have B10:=hid (show Below w8.heap.size w8 W10 from hW10 ▸ a7 _ _)
   have L10:=hid (L9.out.below B10)
   have NEW:=hid (show ∀ (j : Nat) u,(ndC (t,a,c))[j]?=some u→W10.cell? ((⟨w8.heap.size,0,none⟩ : Addr).add j)=some u from fun j u hu => hW10 ▸ bF _ _ _ _ _ _ _ j u hu)
   have hz10 : nb + 1≤W10.heap.size:=by have:=L10.out.blt; omega
   rw [← hW10]
   clear hW10
   refine hK.out _ _ (HSB.out _ ((B10.out.block nb L9.out.blt).trans HBX)) (fun hHeld => ?_)
   clear hK K
   try simp only [Act.put,j6,v6,v7]
   refine b8.nx 5 fun K hK => ?_
   refine step_append_lies _ rfl _ _ 22 rfl (nb + 1) 24 i0 (.agg #[.int .i64 0,.string ⟨#[]⟩,.int .i64 0,.slice none 0 0,.int .i64 0]) 5 64 Tryz.underlying22 HI0.out.1 HI0.out.2.1 HI0.out.2.2.1 HI0.out.2.2.2 rfl (by decide) (.slice ao L.length cp) L.length (bH L) rfl L10.out.row ⟨w8.heap.size,0,none⟩ 1 1 (ndC (t,a,c)) rfl rfl NEW (iN _) (by decide) (by unfold maxLen; omega) (by omega) hz10 _ rfl ?_
   intro gb cq w11 hown hgrow hat hltg
   have hno : ∀ d,d<nb + 1→(Value.slice ao L.length cp).ownBlock≠some d:=fun d hd e => by have:=(L10.out.own d e).1; omega
   have hnb:=(hgrow.block nb L10.out.blt (fun e => hno nb (by omega) e.symm)).trans L10.out.box
   have x0 : w11.cell? ⟨nb,3,none⟩=some (.slice ao L.length cp):=by simp [World.cell?,hnb]
   have x1 : w11.frozen? ⟨nb,3,none⟩=false:=by simp [World.frozen?,hnb]
   obtain ⟨W12,hW12⟩ : ∃ W,W=w11.setCell ⟨nb,3,none⟩ (.slice (some ⟨gb,0,none⟩) (L.length + 1) cq):=⟨_,rfl⟩
   have L12:=hid (show LB P g cap ts nb 3 ⟨T.text.toArray⟩ T.pos (some ⟨gb,0,none⟩) cq (L ++ [(t,a,c)]) (l8 (goX σ3 (rd .expr 0))) w W12 from hW12 ▸ L9.out.app B10 hgrow hat hown fun r' h => HLI.out r' h)
   have N12:=hid (show c6 w.heap.size nd0 none 0 W12 from hW12 ▸ (c6.set ((hgrow.block w.heap.size (by omega) (fun e => hno w.heap.size (by omega) e.symm)).trans (N9.out.below B10)) (by omega) _ _))
   have hbl11 : nb<w11.heap.size:=by have:=L10.out.blt; have:=hgrow.size; omega
   refine hK.out _ _ x0 (fun hHeld => ?_)
   clear hK K
   try simp only [Act.put,j6,v6,v7]
   refine b8.nx 6 fun K hK => ?_
   go_simp
   refine hK.out _ _ hHeld (fun hHeld => ?_)
   clear hK K
   try simp only [Act.put,j6,v6,v7]
   refine b8.la fun K hK => ?_
   go_simp
   rw [← hW12]
   refine hK.out _ _ ?_
   clear hK K hHeld hW12 x0 x1 hnb hgrow hat hown hno hbl11 hltg L10 NEW L9 N9 HBX
   obtain ⟨σ5,hσ5⟩ : ∃ σ5,σ5=l8 (goX σ3 (rd .expr 0)):=⟨_,rfl⟩
   rw [← hσ5] at L12
   have C13:=hid (n5 P g cap ts 0 σ5 ⟨#[59]⟩ W12 (by omega) L12.out.sp HE)
   have HIs:=hid (show Is (goX σ3 (rd .expr 0)) t from fun t' r h => (HK.out t' r h).1)
   have HX:=hid (show fN l=goX (n7 X4 σ5) fun r => .ok (mkN 3 T.text 0 (L.map (·.1) ++ [t]) T.pos,r) by
    have h1:=HPE.out
    rw [HS1.out] at h1
    have h2:=HIs.out
    rw [hσ5,HS3.out]
    rw [HS3.out] at h2
    rw [HS0.out] at h1
    exact a4O (fun r hr => HT.out r (HS0.out.trans hr)) h1 h2)
   have HOK:=hid (show ∀ p,fN l=.ok p→bG T from fun p hp => by
    rw [← cQ l fN] at hp
    unfold fN at hp
    rw [A8] at hp
    obtain ⟨r,hr,-⟩:=Q9 hp
    exact HTO.out r (HS0.out.trans hr))
   clear HK HIs HT HTO HPE HS0 HS1 HS3 hσ5 HLI hz10
   go_wp2_with fail
   (with_reducible refine Calls.mono C13.out ?_)
   rintro e w13 ⟨rfl,hs,hg⟩
   have L13:=hid (L12.out.step (σ':=n7 X4 σ5) hs hg eI)
   have N13:=hid (N12.out.grown hg hpP.1)
   clear hs hg C13 L12 N12
   obtain ⟨⟨b0,b1,b2,b3,b4⟩,-⟩:=L13.out.cells
   obtain ⟨⟨n0,n1,n2,n3,n4⟩,⟨f0,f1,f2,f3,f4⟩⟩:=N13.out.cells
   have hbl:=L13.out.blt
   have hwl : w.heap.size<w13.heap.size:=by omega
   have HLN:=hid (show (L ++ [(t,a,c)]).length=((L ++ [(t,a,c)]).map (·.1)).length by rw [List.length_map])
   have HMP:=hid (show (L ++ [(t,a,c)]).map (·.1)=L.map (·.1) ++ [t] by rw [List.map_append]; rfl)
   go_wp2_with fail
   obtain ⟨u,hu⟩ : ∃ u,u=Nd.mk 3 ⟨T.text.toArray⟩ 0 ((L ++ [(t,a,c)]).map (·.1)) T.pos:=⟨_,rfl⟩
   have hul : L.length + 1=u.kids.length:=by rw [hu]; show _=((L ++ [(t,a,c)]).map (·.1)).length; simp
   obtain ⟨W14,hW14⟩ : ∃ W,W=Q7 w13 w.heap.size u (some ⟨gb,0,none⟩) cq:=⟨_,rfl⟩
   have N14:=N13.out.put u (some ⟨gb,0,none⟩) cq
   have KV : f8 (fun d => nb + 1≤d) w13 (Q7 w13 w.heap.size u (some ⟨gb,0,none⟩) cq):=(f8.refl _ w13).put (fun d hd => by omega) _ _ _
   have HR:=hid (show RdL P g cap ts (fN l) w (.returned (u.val (some ⟨gb,0,none⟩) cq)) W14 from by
    rw [HX.out,hW14]
    refine ⟨u,some ⟨gb,0,none⟩,cq,rfl,by rw [Y6]; exact L13.out.sp.put hpP.1 hpP.2 _ _ _,t6 L13.out.gr (Nat.le_refl _) _ _ _,fun t' r hx => ?_⟩
    have hTk:=HOK.out (t',r) (HX.out.trans hx)
    obtain ⟨r',e1,e2⟩:=Q9 hx
    cases e2
    refine ⟨by rw [hu,HMP.out]; rfl,?_⟩
    have hl:=L13.out.tree e1 (show (Lit.int .i64 3).wf=true by rfl) hTk.2.1 (by have:=hTk.2.2; unfold maxLen; show T.text.toArray.size≤_; simp; omega)
    rw [← hu] at hl
    exact d6 hl (fun d hd => KV d hd.1) fun d hd => ⟨by have:=hd.1; omega,by rw [size_put]; exact hd.2⟩)
   rw [← hW14] at N14
   unfold Q7 at hW14
   rw [← hul,show u.kind=3 by rw [hu]; rfl,show u.text=⟨T.text.toArray⟩ by rw [hu]; rfl,show u.n=0 by rw [hu]; rfl,show u.place=T.pos by rw [hu]; rfl] at hW14
   rw [← hW14]
   obtain ⟨⟨z0,z1,z2,z3,z4⟩,-⟩:=N14.cells
   refine bodyPost_ret (v:=u.val (some ⟨gb,0,none⟩) cq) (by simp [results,Tryz.results101,go_sem,Nd.val,z0,z1,z2,z3,z4]) rfl ?_
   exact HR
end
def mB (σ : Sx) (ks : List Nd) : Rd:=goX σ (O6 (100 - ks.length) ks)
def dY (σ : Sx) (ks : List Nd) (n : Nat) : Rd:=goX σ (fC (200 - n) ks)
theorem a2j {ks : List Nd} {r : List Tk} (h : ks.length=100) (hi : isT eG r=true) : mB (.ok r) ks=.error (76,(hd r).pos):=by
 unfold mB
 rw [cQ,h,show 100 - 100=0 from rfl,O6,if_pos hi]
theorem a4c {ks : List Nd} {r : List Tk} (hi : isT eG r=false) : mB (.ok r) ks=X5 (.ok r) ks:=by
 unfold mB
 rw [cQ]
 cases 100 - ks.length with
 | zero => rw [O6,if_neg (by rw [hi]; decide)]; rfl
 | succ f => rw [O6,if_neg (by rw [hi]; decide)]; rfl
theorem a3a {ks : List Nd} {r : List Tk} {T : Tk} (h : ks.length<100) (hi : isT eG r=true) (hT : T=hd (b9 r)) : mB (.ok r) ks=mB (n7 X4 (x6 1 (.ok (b9 r)))) (ks ++ [mkN 2 T.text 0 [] T.pos]):=by
 unfold mB
 rw [cQ,show 100 - ks.length=(100 - (ks.length + 1)) + 1 by omega,O6,if_pos hi,List.length_append]
 rw [← cQ (b9 r) (fun l => U0 1 l _),gO _ _ _ T (fun r' h => by cases h; exact hT),A8]
 rfl
theorem zV {ks : List Nd} {r : List Tk} (hi : isT jU r=true) : dY (.ok r) ks 200=.error (76,(hd r).pos):=by
 unfold dY
 rw [cQ,show 200 - 200=0 from rfl,fC,if_pos hi]
theorem a1T {ks : List Nd} {r : List Tk} {n : Nat} (hi : isT jU r=false) : dY (.ok r) ks n=X5 (.ok r) ks:=by
 unfold dY
 rw [cQ]
 cases 200 - n with
 | zero => rw [fC,if_neg (by rw [hi]; decide)]; rfl
 | succ f => rw [fC,if_neg (by rw [hi]; decide)]; rfl
theorem a0l {ks : List Nd} {r : List Tk} {n : Nat} {t : Nd} (h : n<200) (hi : isT jU r=true) (ht : Is (fN r) t) : dY (.ok r) ks n=dY (l8 (fN r)) (ks ++ [t]) (n + 1):=by
 unfold dY
 rw [cQ,show 200 - n=(200 - (n + 1)) + 1 by omega,fC,if_pos hi,z8 ht]
theorem a4I {l : List Tk} {T : Tk} (hT : ∀ r,n7 aT (.ok l)=.ok r→T=hd r) {σ2 σ4 : Sx} {is ls : List Nd} (h : mB (n7 X4 (x6 1 (n7 aT (.ok l)))) []=X5 σ2 is) (h2 : dY σ2 is 0=X5 σ4 ls) :
 jP l=goX σ4 fun r => .ok (mkN 1 T.text 0 ls (hd l).pos,r):=by
 rw [← cQ l jP]
 have e : ∀ (σ : Sx) (ks : List Nd),Is (X5 σ ks) (mkN 0 [] 0 ks 0):=fun σ ks t' r hx => by
  obtain ⟨r',-,e⟩:=Q9 hx
  cases e; rfl
 unfold jP
 show goX (.ok l) (fun l' => o8 aT l' fun r => U0 1 r fun t r => o8 X4 r fun r => (O6 100 [] r).then fun is r => (fC 200 is.kids r).then fun ls r => .ok (mkN 1 t.text 0 ls.kids (hd l).pos,r))=_
 rw [A8,gO _ _ _ T hT,A8,Y2]
 rw [show goX (n7 X4 (x6 1 (n7 aT (.ok l)))) (O6 100 [])=X5 σ2 is from h,z8 (e σ2 is)]
 unfold X5
 rw [Y6,Y2]
 rw [show goX σ2 (fC 200 (mkN 0 [] 0 is 0).kids)=X5 σ4 ls from h2,z8 (e σ4 ls)]
 unfold X5
 rw [Y6]
 rfl
section
open Go.ChangeShapes Go.WideShapes Go.ChangeAt Go.RowKit
theorem a1Z {H : Type} {enc : TypeId × Value→H} {W : World} {sp : Nat→Bool} {held : Bool} {d : DataW H} {pl : List MemPlace} {k n p : Int} {s : ByteArray} {m cap : Nat}
 (h : DataW.Trod enc Tryz.prog W 0 sp held 24 (.agg #[.int .i64 k,.string s,.int .i64 n,.slice none m cap,.int .i64 p]) d pl) : cap=0:=by
 obtain ⟨fuel,hf⟩:=h
 obtain ⟨xs,mm,rfl,ex,hlen,hxs,hf⟩:=DataW.trod_struct Tryz.underlying24 hf
 have f3:=hf 3 ⟨"Kids",22,3,false,"","",32⟩ rfl
 cases hx : xs[3]? with
 | none => rw [List.getElem?_eq_none_iff,show xs.length=5 from hxs] at hx; omega
 | some x3 =>
   rw [hx] at f3
   rcases DataW.trod_slice Tryz.underlying22 f3 with ⟨e3,-⟩ | ⟨a,len,cap',elems,rest,k',rfl,e3,-⟩
   ·replace e3 : List.take (Tryz.prog.cellsOf 22) [Value.slice none m cap,.int .i64 p]=[Value.slice none 0 0]:=e3
    rw [vB] at e3
    simp at e3
    exact e3.2
   ·replace e3 : List.take (Tryz.prog.cellsOf 22) [Value.slice none m cap,.int .i64 p]=[Value.slice (some a) len cap']:=e3
    rw [vB] at e3
    simp at e3
end
end Go.Proofs.YtppcfebnaieciaaGreatDoor
