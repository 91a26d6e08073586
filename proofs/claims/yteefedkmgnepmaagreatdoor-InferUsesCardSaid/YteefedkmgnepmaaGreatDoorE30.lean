/-
  Laws that the proof rests on.
-/
import Derived.Test.YteefedkmgnepmaaGreatDoorE29
import Derived.Test.YteefedkmgnepmaaGreatDoorE01
import Derived.Test.YteefedkmgnepmaaGreatDoorE26
import Derived.Test.YteefedkmgnepmaaGreatDoorE16
import Derived.Deep.CutBlock
namespace Go.Proofs.YteefedkmgnepmaaGreatDoor
set_option maxRecDepth 100000
set_option maxHeartbeats 16000000
section
open Lib (hid)
open Go.RowKit
theorem gW {x : List UInt8} {σ : Sx} (r' : List Tk) (h : o5 x σ=.ok r') : ∃ r,σ=.ok r:=by
 cases σ with
 | ok r => exact ⟨r,rfl⟩
 | error e => cases h
theorem sP {σ : Sx} (r' : List Tk) (h : tG σ=.ok r') : ∃ r,σ=.ok r:=by
 cases σ with
 | ok r => exact ⟨r,rfl⟩
 | error e => cases h
theorem uB {ts : List Tk} (htk : ∀ t∈ts,dD t) {P g cap : Nat} {σ : Sx} {w : World} (h : SP P g cap ts 0 σ w) {T : Tk} (hT : ∀ r,σ=.ok r→T=hd r) {r : List Tk} (hr : σ=.ok r) : dD T:=by
 rw [hT r hr]
 subst hr
 exact htk _ h.mem
theorem rQ {av : Nat→Prop} {W : World} {k : Int} {T : Tk} (hk : (Lit.int .i64 k).wf=true) (hT : dD T) : (mkN k T.text 0 [] T.pos).lies av W none 0:=Y7 hk hT.2.2 rfl hT.2.1
def a1R (σ : Sx) : Bool:=match σ with
 | .ok r => isT x6 r
 | .error _ => false
theorem a6n {σ : Sx} (h : a1R σ=false) : goX σ aI=aW σ []:=by
 cases σ with
 | error e => rfl
 | ok r =>
   show aI r=.ok (mkN 0 [] 0 [] 0,r)
   unfold aI
   rw [show isT x6 r=false from h]
   rfl
theorem a4g {σ : Sx} (h : a1R σ=true) : goX σ aI=rB (tG σ) []:=by
 cases σ with
 | error e => rfl
 | ok r =>
   show aI r=rM oR 8 [] (b8 r)
   unfold aI
   rw [show isT x6 r=true from h]
   rfl
theorem a5X (P g cap : Nat) (ts : List Tk) (he : dI ts) (htk : ∀ t∈ts,dD t) (hE : ∀ r,CE P g cap ts r) (l : List Tk) (w : World) (h : SP P g cap ts 0 (.ok l) w) :
 Calls Tryz.prog 70 #[.pointer (some ⟨P,0,none⟩)] w (RdL P g cap ts (jH l) w):=by
 obtain ⟨i0,hi,hz0,hz1,hz2⟩:=info_parts (show (Tryz.prog.info? 24).map (fun i => (i.zero,i.size,i.bytes))=some (some (.agg #[.int .i64 0,.string ⟨#[]⟩,.int .i64 0,.slice none 0 0,.int .i64 0]),5,64) by kernel_rfl)
 have HI0:=hid (show _∧_∧_∧_ from ⟨hi,hz0,hz1,hz2⟩)
 clear hi hz0 hz1 hz2
 obtain ⟨W1,hW1⟩ : ∃ W,W=w.alloc (.cells #[.int .i64 0,.string ⟨#[]⟩,.int .i64 0,.slice none 0 0,.int .i64 0] 24):=⟨_,rfl⟩
 have B1:=hid (show Below w.heap.size w W1 from hW1 ▸ a7 _ _)
 have N1:=hid (show c9 w.heap.size nd0 none 0 W1 from hW1 ▸ c9.make w nd0 none 0)
 have S1:=hid (h.below B1)
 have HP:=hid h.blocks
 have HE:=hid he
 have HTK:=hid htk
 have HEx:=hid hE
 have hpP : w.heap.size≠P∧w.heap.size≠g:=⟨Nat.ne_of_gt h.blocks.1,Nat.ne_of_gt h.blocks.2⟩
 have C1:=hid (o3 P g cap ts 0 (.ok l) ⟨#[108,101,116]⟩ W1 (by omega) S1 he)
 clear h he htk hE
 go_enter Tryz.func70,Tryz.ntmps70
 go_upto_region 1 with fail
 rw [← hW1]
 clear hW1
 go_wp2_with fail
 (with_reducible refine Calls.mono C1.out ?_)
 rintro e w2 ⟨rfl,hs,hg⟩
 have S2:=hid (show SP P g cap ts 0 (o5 mX (.ok l)) w2 from hs)
 have G2:=hid (show w.grownBy w2 (some P) from a6 (d6 B1) hg)
 have N2:=hid (N1.out.grown hg hpP.1)
 clear hs hg C1 S1 N1 B1
 have C2:=hid (cT P g cap ts 0 (o5 mX (.ok l)) 1 w2 (by omega) S2 HE)
 obtain ⟨σ0,hσ0⟩ : ∃ σ0,σ0=o5 mX (.ok l):=⟨_,rfl⟩
 rw [← hσ0] at S2 C2
 have HS0:=hid hσ0
 clear hσ0
 go_wp2_with fail
 (with_reducible refine Calls.mono C2.out ?_)
 rintro e w3 ⟨T,rfl,hs,hg,hT⟩
 have S3:=hid hs
 have G3:=hid (a6 G2 hg)
 have N3:=hid (N2.out.grown hg hpP.1)
 have HT:=hid hT
 have HTO:=hid (fun r (hr : σ0=.ok r) => uB HTK S2 hT hr)
 clear hs hg C2 hT G2 N2 S2
 obtain ⟨W4,hW4⟩ : ∃ W,W=w3.alloc (.cells #[.int .i64 T.kind,.string ⟨T.text.toArray⟩,.int .i64 T.n,.int .i64 T.pos] 93):=⟨_,rfl⟩
 have B4:=hid (show Below w3.heap.size w3 W4 from hW4 ▸ a7 _ _)
 have T4:=hid (show F0 w3.heap.size T W4 from hW4 ▸ F0.make w3 T)
 unfold tkV
 go_upto_region 3 with fail
 rw [← hW4]
 clear hW4
 obtain ⟨W5,hW5⟩ : ∃ W,W=W4.alloc (.cells #[.int .i64 3,.string ⟨T.text.toArray⟩,.int .i64 0,.slice none 0 0,.int .i64 T.pos] 24):=⟨_,rfl⟩
 have B5:=hid (show Below W4.heap.size W4 W5 from hW5 ▸ a7 _ _)
 have L5:=hid (show LB P g cap ts W4.heap.size 3 ⟨T.text.toArray⟩ T.pos none 0 [] (x8 1 σ0) w W5 from LB.make (S3.out.below B4) (c8 G3 (B4.out.mono G3.out.size)) HP hW5)
 have N5:=hid ((N3.out.below B4).below B5)
 obtain ⟨⟨t0,t1,t2,t3⟩,-⟩:=T4.out.cells
 have htl:=T4.out.lt
 go_upto_region 4 with fail
 rw [← hW5]
 have hwb : w.heap.size<W4.heap.size:=by have:=G3.out.size; have:=B4.out.size; omega
 clear hW5 t0 t1 t2 t3 htl T4 N3 S3 G3 B4 B5
 obtain ⟨σ1,hσ1⟩ : ∃ σ1,σ1=x8 1 σ0:=⟨_,rfl⟩
 rw [← hσ1] at L5
 have HS1:=hid hσ1
 clear hσ1
 generalize W4.heap.size=nb at L5 hwb ⊢
 have C4:=hid (eI P g cap ts 0 σ1 ⟨#[40]⟩ W5 L5.out.sp)
 go_wp2_with fail
 (with_reducible refine Calls.mono C4.out ?_)
 rintro e w6 ⟨b,rfl,hb,hbb⟩
 have L6:=hid (L5.out.below hb)
 have N6:=hid (N5.out.below hb)
 have HB:=hid (show ∀ r,σ1=.ok r→b=isT x6 r from hbb)
 clear hb hbb C4 L5 N5
 go_upto_region 5 with fail
 go_cut [26] from 19 (fun s26 wx => s26=.bool (a1R σ1)∧Hid (LB P g cap ts nb 3 ⟨T.text.toArray⟩ T.pos none 0 [] σ1 w wx∧c9 w.heap.size nd0 none 0 wx))
 case first =>
  obtain ⟨c,p3,hc⟩:=L6.out.sp.bad
  have hpl:=L6.out.sp.blocks.1
  cases σ1 with
  | error e =>
    have e0 : (c == 0)=false:=beq_eq_false_iff_ne.2 (fun e => by obtain ⟨r,hr⟩:=hc.1 e; cases hr)
    clear hc
    go_wp2_with fail
    go_meet
    case rel => exact ⟨rfl,L6,N6⟩
  | ok r =>
    obtain rfl:=hc.2 ⟨r,rfl⟩
    have hb:=HB.out r rfl
    clear hc
    go_wp2_with fail
    go_meet
    case rel => exact ⟨rfl,L6,N6⟩
 case rest =>
  obtain ⟨rfl,hwc⟩:=hcut
  replace L6:=hid hwc.out.1
  replace N6:=hid hwc.out.2
  clear hwc HB
  go_upto_if 26 with fail
  go_cut [6,7] from 19 (fun _ _ wx => ∃ (ao : Option Addr) (cp : Nat) (L : List Ent) (σ2 : Sx),Hid (LB P g cap ts nb 3 ⟨T.text.toArray⟩ T.pos ao cp L σ2 w wx∧L.length≤8∧goX σ1 aI=aW σ2 (L.map (·.1))∧c9 w.heap.size nd0 none 0 wx))
  case first =>
   cases ho : a1R σ1
   ·have E:=hid (a6n ho)
    clear ho
    go_wp2_with fail
    go_meet
    case rel => exact ⟨none,0,[],σ1,L6,Nat.zero_le _,E,N6⟩
   ·have E:=hid (a4g ho)
    have C7:=hid (V4 P g cap ts 0 σ1 wc L6.out.sp HE)
    clear ho
    go_wp2_with fail
    (with_reducible refine Calls.mono C7.out ?_)
    rintro e w7 ⟨T7,rfl,hs,hg,-⟩
    have L7:=hid (L6.out.step hs hg sP)
    have N7:=hid (N6.out.grown hg hpP.1)
    clear hs hg C7 L6 N6
    unfold tkV
    go_wp2_with fail
    go_loopw [6,7] (fun _ _ wr => ∃ (ao : Option Addr) (cp : Nat) (L : List Ent) (σ : Sx),L.length≤8∧Hid (LB P g cap ts nb 3 ⟨T.text.toArray⟩ T.pos ao cp L σ w wr∧goX σ1 aI=rB σ (L.map (·.1))∧c9 w.heap.size nd0 none 0 wr)) (fun _ _ wr => qY P ts wr)
    case atStart => exact ⟨none,0,[],_,Nat.zero_le _,L7,E,N7⟩
    case round =>
     obtain ⟨ao,cp,L,σ,hL8,HI⟩:=hrel
     clear L7 N7 E
     have HFar:=hid (show qY P ts wr=a6Y σ from HI.out.1.sp.far)
     have hpl:=HI.out.1.sp.blocks.1
     obtain ⟨c,p3,hc⟩:=HI.out.1.sp.bad
     cases σ with
     | error q =>
       have e0 : (c == 0)=false:=beq_eq_false_iff_ne.2 (fun e => by obtain ⟨r,hr⟩:=hc.1 e; cases hr)
       have C8:=hid (o3 P g cap ts 0 (.error q) ⟨#[41]⟩ wr (by omega) HI.out.1.sp HE)
       clear hc
       go_wp2_with fail
       (with_reducible refine Calls.mono C8.out ?_)
       rintro e w8 ⟨rfl,hs,hg⟩
       have L8:=hid (HI.out.1.step (σ':=.error q) hs hg (fun r h => by cases h))
       have N8:=hid (HI.out.2.2.grown hg hpP.1)
       clear hs hg C8
       go_wp2_with fail
       go_meet
       case rel => exact ⟨ao,cp,L,.error q,L8,hL8,HI.out.2.1,N8⟩
     | ok r =>
       obtain rfl:=hc.2 ⟨r,rfl⟩
       clear hc
       obtain ⟨⟨b0,b1,b2,b3,b4⟩,-⟩:=HI.out.1.cells
       have hbl:=HI.out.1.blt
       by_cases h8 : L.length=8
       ·have hl8 : ((L.length : Int) == 8)=true:=by rw [h8]; rfl
        have HX8:=hid (show goX σ1 aI=.error (76,(hd r).pos) by rw [HI.out.2.1,a58 (by rw [List.length_map]; exact h8)])
        have C8:=hid (gT P g cap ts 0 (.ok r) wr HI.out.1.sp)
        clear h8
        go_wp2_with fail
        (with_reducible refine Calls.mono C8.out ?_)
        rintro e w8 ⟨T8,rfl,hb,hT⟩
        have HT8:=hid (hT r rfl)
        have L8:=hid (HI.out.1.below hb)
        have N8:=hid (HI.out.2.2.below hb)
        obtain ⟨i2,-,hp2⟩:=L8.out.sp.ok
        have C9:=hid (J7 P g cap ts i2 (0 : Nat) w8 76 T8.pos hp2)
        clear hb hT hp2 p3 hpl b0 b1 b2 b3 b4 hbl C8
        unfold tkV
        have hfd:=aH T8.kind T8.n T8.pos ⟨T8.text.toArray⟩
        go_wp2_with fail
        (with_reducible refine Calls.mono C9.out ?_)
        rintro e w9 ⟨rfl,hp3,hg⟩
        have L9:=hid (L8.out.step (σ':=.error (76,T8.pos)) (SP.of_error hp3 (by decide) (Int.le_refl _) (by omega)) hg (fun r h => by cases h))
        have N9:=hid (N8.out.grown hg hpP.1)
        have C10:=hid (o3 P g cap ts 0 (.error (76,T8.pos)) ⟨#[41]⟩ w9 (by omega) L9.out.sp HE)
        clear hp3 hg hfd C9
        go_wp2_with fail
        (with_reducible refine Calls.mono C10.out ?_)
        rintro e w10 ⟨rfl,hs,hg⟩
        have L10:=hid (L9.out.step (σ':=.error (76,T8.pos)) hs hg (fun r h => by cases h))
        have N10:=hid (N9.out.grown hg hpP.1)
        clear hs hg C10
        go_wp2_with fail
        go_meet
        case rel => exact ⟨ao,cp,L,_,L10,hL8,by rw [HX8.out,HT8.out]; rfl,N10⟩
       ·have hl8 : ((L.length : Int) == 8)=false:=beq_eq_false_iff_ne.2 (by omega)
        have hL7 : L.length≤7:=by omega
        have C8:=hid (cT P g cap ts 0 (.ok r) 1 wr (by omega) HI.out.1.sp HE)
        clear h8
        go_wp2_with fail
        (with_reducible refine Calls.mono C8.out ?_)
        rintro e w8 ⟨T8,rfl,hs,hg,hT⟩
        have HTO8:=hid (fun r' (hr : (.ok r : Sx)=.ok r') => uB HTK HI.out.1.sp hT hr)
        have HT8:=hid hT
        have L8:=hid (HI.out.1.step hs hg (fun r' h => ⟨r,rfl⟩))
        have N8:=hid (HI.out.2.2.grown hg hpP.1)
        clear hs hg C8 hT p3 hpl b0 b1 b2 b3 b4 hbl
        obtain ⟨W9,hW9⟩ : ∃ W,W=w8.alloc (.cells #[.int .i64 T8.kind,.string ⟨T8.text.toArray⟩,.int .i64 T8.n,.int .i64 T8.pos] 93):=⟨_,rfl⟩
        have B9:=hid (show Below w8.heap.size w8 W9 from hW9 ▸ a7 _ _)
        have T9:=hid (show F0 w8.heap.size T8 W9 from hW9 ▸ F0.make w8 T8)
        have L9:=hid (L8.out.below B9)
        have N9:=hid (N8.out.below B9)
        unfold tkV
        go_upto_region 11 with fail
        rw [← hW9]
        clear hW9 B9 L8 N8
        obtain ⟨⟨t0,t1,t2,t3⟩,-⟩:=T9.out.cells
        have htl:=T9.out.lt
        obtain ⟨⟨b0,b1,b2,b3,b4⟩,bf⟩:=L9.out.cells
        have hbl:=L9.out.blt
        obtain ⟨W10,hW10⟩ : ∃ W,W=W9.alloc (.cells #[.int .i64 4,.string ⟨T8.text.toArray⟩,.int .i64 0,.slice none 0 0,.int .i64 T8.pos] 24):=⟨_,rfl⟩
        have B10:=hid (show Below W9.heap.size W9 W10 from hW10 ▸ a7 _ _)
        have L10:=hid (L9.out.below B10)
        have NEW:=hid (show ∀ (j : Nat) u,(ndC (mkN 4 T8.text 0 [] T8.pos,none,0))[j]?=some u→W10.cell? ((⟨W9.heap.size,0,none⟩ : Addr).add j)=some u from fun j u hu => hW10 ▸ dG _ _ _ _ _ _ _ j u hu)
        have HW10:=hid hW10
        have hz10 : nb + 1≤W10.heap.size:=by have:=B10.out.size; omega
        clear hW10
        go_wp2_with (at_builtin; rw [← HW10.out]; refine wpList_append_lies _ rfl _ _ 22 rfl (nb + 1) 24 i0 (.agg #[.int .i64 0,.string ⟨#[]⟩,.int .i64 0,.slice none 0 0,.int .i64 0]) 5 64 Tryz.underlying22 HI0.out.1 HI0.out.2.1 HI0.out.2.2.1 HI0.out.2.2.2 rfl (by decide) (.slice ao L.length cp) L.length (J6 L) rfl L10.out.row ⟨W9.heap.size,0,none⟩ 1 1 (ndC (mkN 4 T8.text 0 [] T8.pos,none,0)) rfl rfl NEW (cA _) (by decide) (by unfold maxLen; omega) (by omega) hz10 _ rfl ?_)
        intro gb cq w11 hown hgrow hat hltg
        have hno : ∀ d,d<nb + 1→(Value.slice ao L.length cp).ownBlock≠some d:=fun d hd e => by have:=(L10.out.own d e).1; omega
        have hsz11:=hgrow.size
        have hnb:=(hgrow.block nb L10.out.blt (fun e => hno nb (by omega) e.symm)).trans L10.out.box
        have x0 : w11.cell? ⟨nb,3,none⟩=some (.slice ao L.length cp):=by simp [World.cell?,hnb]
        have x1 : w11.frozen? ⟨nb,3,none⟩=false:=by simp [World.frozen?,hnb]
        obtain ⟨W12,hW12⟩ : ∃ W,W=w11.setCell ⟨nb,3,none⟩ (.slice (some ⟨gb,0,none⟩) (L.length + 1) cq):=⟨_,rfl⟩
        have L12:=hid (show LB P g cap ts nb 3 ⟨T.text.toArray⟩ T.pos (some ⟨gb,0,none⟩) cq (L ++ [(mkN 4 T8.text 0 [] T8.pos,none,0)]) (x8 1 (.ok r)) w W12 from hW12 ▸ L9.out.app B10 hgrow hat hown fun _ _ => rQ rfl (HTO8.out r rfl))
        have N12:=hid (show c9 w.heap.size nd0 none 0 W12 from hW12 ▸ (c9.set ((hgrow.block w.heap.size (by omega) (fun e => hno w.heap.size (by omega) e.symm)).trans (N9.out.below B10)) (by omega) _ _))
        have hbl11 : nb<w11.heap.size:=by have:=L10.out.blt; omega
        have C12:=hid (eI P g cap ts 0 (x8 1 (.ok r)) ⟨#[44]⟩ W12 L12.out.sp)
        have HKL:=hid (show ∀ r',x8 1 (.ok r)=.ok r'→r'.length≤r.length from fun r' h => by
         obtain ⟨r1,e1,-,rfl⟩:=oW h
         cases e1
         exact O9 r)
        have HMO:=hid (fun hc => (HI.out.2.1.trans (a56 (ks:=L.map (·.1)) (σ:=.ok r) (T:=T8) (by rw [List.length_map]; omega) HT8 hc)))
        have HEN:=hid (fun hc => (HI.out.2.1.trans (a60 (ks:=L.map (·.1)) (σ:=.ok r) (T:=T8) (by rw [List.length_map]; omega) HT8 hc)))
        obtain ⟨σk,hσk⟩ : ∃ σk,σk=x8 1 (.ok r):=⟨_,rfl⟩
        rw [← hσk] at L12 C12 HKL HMO HEN
        have HM12:=hid (show (L ++ [(mkN 4 T8.text 0 [] T8.pos,none,0)] : List Ent).map (·.1)=L.map (·.1) ++ [mkN 4 T8.text 0 [] T8.pos] by rw [List.map_append]; rfl)
        have HL12:=hid (show (L ++ [(mkN 4 T8.text 0 [] T8.pos,none,0)] : List Ent).length=L.length + 1 by simp)
        clear hgrow hat hown hnb t0 t1 t2 t3 htl b0 b1 b2 b3 b4 bf hbl L9 L10 N9 T9 B10 NEW HTO8 hσk hno hsz11 hz10
        go_wp2_with fail
        rw [← hW12]
        clear hW12 x0 x1 hbl11
        (with_reducible refine Calls.mono C12.out ?_)
        rintro e w13 ⟨b2,rfl,hb,hb2⟩
        have L13:=hid (L12.out.below hb)
        have N13:=hid (N12.out.below hb)
        have HB2:=hid (show ∀ r',σk=.ok r'→b2=isT q6 r' from hb2)
        clear hb hb2 C12 L12 N12 HW10
        cases b2
        ·have C14:=hid (o3 P g cap ts 0 σk ⟨#[41]⟩ w13 (by omega) L13.out.sp HE)
         go_wp2_with fail
         (with_reducible refine Calls.mono C14.out ?_)
         rintro e w14 ⟨rfl,hs,hg⟩
         have L14:=hid (L13.out.step (σ':=o5 y7 σk) hs hg gW)
         have N14:=hid (N13.out.grown hg hpP.1)
         clear hs hg C14
         go_wp2_with fail
         go_meet
         case rel => exact ⟨_,_,_,_,L14,by rw [HL12.out]; omega,by rw [HM12.out]; exact HEN.out HB2,N14⟩
        ·have C14:=hid (V4 P g cap ts 0 σk w13 L13.out.sp HE)
         go_wp2_with fail
         (with_reducible refine Calls.mono C14.out ?_)
         rintro e w14 ⟨T14,rfl,hs,hg,-⟩
         have L14:=hid (L13.out.step hs hg sP)
         have N14:=hid (N13.out.grown hg hpP.1)
         clear hs hg C14
         unfold tkV
         go_wp2_with fail
         go_roundw
         case rel => exact ⟨_,_,_,_,by rw [HL12.out]; omega,L14,by rw [HM12.out]; exact HMO.out HB2,N14⟩
         case measure =>
          rw [HFar.out]
          refine Nat.lt_of_le_of_lt (Nat.le_of_eq L14.out.sp.far) ?_
          cases hx : σk with
          | error e => exact Nat.succ_pos _
          | ok r1 =>
            have h1:=HKL.out r1 hx
            have:=H6 (HB2.out r1 hx).symm
            show (b8 r1).length + 1<r.length + 1
            omega
  case rest =>
   obtain ⟨ao,cp,L,σ2,HQ⟩:=hcut
   have L8:=hid HQ.out.2.1
   have HPE:=hid HQ.out.2.2.1
   replace L6:=hid HQ.out.1
   replace N6:=hid HQ.out.2.2.2
   clear HQ
   have C7:=hid (o3 P g cap ts 0 σ2 ⟨#[61]⟩ wc (by omega) L6.out.sp HE)
   go_wp2_with fail
   (with_reducible refine Calls.mono C7.out ?_)
   rintro e w7 ⟨rfl,hs,hg⟩
   have L7:=hid (L6.out.step (σ':=o5 tEq σ2) hs hg gW)
   have N7:=hid (N6.out.grown hg hpP.1)
   clear hs hg C7 L6 N6
   obtain ⟨σ3,hσ3⟩ : ∃ σ3,σ3=o5 tEq σ2:=⟨_,rfl⟩
   rw [← hσ3] at L7
   have HS3:=hid hσ3
   clear hσ3
   have CP:=hid (cW P g cap ts 0 σ3 w7.drew (by omega) (L7.out.sp.below (A8 (Below.refl _ _))) (fun r _ => HEx.out r))
   obtain ⟨⟨b0,b1,b2,b3,b4⟩,bf⟩:=L7.out.cells
   have hbl:=L7.out.blt
   have hL8 : L.length≤8:=L8.out
   have HSB:=hid (show ∀ cur : World,cur.heap[nb]?=w7.heap[nb]?→cur.cell? ⟨nb,3,none⟩=some (.slice ao L.length cp) from fun cur h => (World.cell?_of_block h).trans b3)
   go_upto_region 17 with fail
   refine L3 (S:=fun cur => cur.cell? ⟨nb,3,none⟩=some (.slice ao L.length cp)) (z:=7) (by kernel_rfl) ?_ (fun hHeld => ?_)
   ·exact b3
   refine c6.t 0 ?_; refine c6.t 1 ?_; refine c6.t 2 ?_
   refine c6.nx 3 fun K hK => ?_
   go_simp
   (with_reducible refine Calls.mono CP.out ?_)
   rintro e w8 ⟨t,a,c,rfl,hs,hg,hk⟩
   have HK:=hid hk
   have hgd : w7.grownBy w8 (some P):=a6 (d6 (A8 (Below.refl _ _))) hg
   have hob : ∀ r',n7 (goX σ3 (rd .expr 0))=.ok r'→∃ r,σ3=.ok r:=fun r' h => by
    obtain ⟨t,ht⟩:=s4 h
    obtain ⟨r,hr,-⟩:=Y0 ht
    exact ⟨r,hr⟩
   have L9:=hid (L7.out.step hs hgd hob)
   have N9:=hid (N7.out.grown hgd hpP.1)
   have HLI:=hid (show ∀ r',n7 (goX σ3 (rd .expr 0))=.ok r'→t.lies (fun d => nb + 1≤d∧d<w8.heap.size∧(Value.slice ao L.length cp).ownBlock≠some d) w8 a c from fun r' h => by
    obtain ⟨t',ht⟩:=s4 h
    obtain ⟨rfl,hl,-⟩:=hk t' r' ht
    exact e7 hl (fun _ _ => rfl) fun d hd => ⟨by have:=hd.1; have : w7.drew.heap.size=w7.heap.size:=rfl; omega,hd.2,fun e => by have:=(L7.out.own d e).2; have:=hd.1; have : w7.drew.heap.size=w7.heap.size:=rfl; omega⟩)
   have hnb8:=hgd.block nb hbl (fun e => by have:=L7.out.lt.1; have:=Option.some.inj e; omega)
   go_wp2_with fail
   refine hK.out _ _ (HSB.out _ hnb8) (fun hHeld => ?_)
   clear hK K hs hg hk CP hgd b0 b1 b2 b3 b4 bf
   try simp only [Act.put,d8,m8,m9]
   have HBX:=hid hnb8
   clear hnb8
   unfold Nd.val at hHeld ⊢
   refine c6.nx 4 fun K hK => ?_
   go_simp
   obtain ⟨W10,hW10⟩ : ∃ W,W=w8.alloc (.cells #[.int .i64 t.kind,.string t.text,.int .i64 t.n,.slice a t.kids.length c,.int .i64 t.place] 24):=⟨_,rfl⟩
   have B10:=hid (show Below w8.heap.size w8 W10 from hW10 ▸ a7 _ _)
   have L10:=hid (L9.out.below B10)
   have NEW:=hid (show ∀ (j : Nat) u,(ndC (t,a,c))[j]?=some u→W10.cell? ((⟨w8.heap.size,0,none⟩ : Addr).add j)=some u from fun j u hu => hW10 ▸ dG _ _ _ _ _ _ _ j u hu)
   have hz10 : nb + 1≤W10.heap.size:=by have:=L10.out.blt; omega
   rw [← hW10]
   clear hW10
   refine hK.out _ _ (HSB.out _ ((B10.out.block nb L9.out.blt).trans HBX)) (fun hHeld => ?_)
   clear hK K
   try simp only [Act.put,d8,m8,m9]
   refine c6.nx 5 fun K hK => ?_
   refine step_append_lies _ rfl _ _ 22 rfl (nb + 1) 24 i0 (.agg #[.int .i64 0,.string ⟨#[]⟩,.int .i64 0,.slice none 0 0,.int .i64 0]) 5 64 Tryz.underlying22 HI0.out.1 HI0.out.2.1 HI0.out.2.2.1 HI0.out.2.2.2 rfl (by decide) (.slice ao L.length cp) L.length (J6 L) rfl L10.out.row ⟨w8.heap.size,0,none⟩ 1 1 (ndC (t,a,c)) rfl rfl NEW (cA _) (by decide) (by unfold maxLen; omega) (by omega) hz10 _ rfl ?_
   intro gb cq w11 hown hgrow hat hltg
   have hno : ∀ d,d<nb + 1→(Value.slice ao L.length cp).ownBlock≠some d:=fun d hd e => by have:=(L10.out.own d e).1; omega
   have hnb:=(hgrow.block nb L10.out.blt (fun e => hno nb (by omega) e.symm)).trans L10.out.box
   have x0 : w11.cell? ⟨nb,3,none⟩=some (.slice ao L.length cp):=by simp [World.cell?,hnb]
   have x1 : w11.frozen? ⟨nb,3,none⟩=false:=by simp [World.frozen?,hnb]
   obtain ⟨W12,hW12⟩ : ∃ W,W=w11.setCell ⟨nb,3,none⟩ (.slice (some ⟨gb,0,none⟩) (L.length + 1) cq):=⟨_,rfl⟩
   have L12:=hid (show LB P g cap ts nb 3 ⟨T.text.toArray⟩ T.pos (some ⟨gb,0,none⟩) cq (L ++ [(t,a,c)]) (n7 (goX σ3 (rd .expr 0))) w W12 from hW12 ▸ L9.out.app B10 hgrow hat hown fun r' h => HLI.out r' h)
   have N12:=hid (show c9 w.heap.size nd0 none 0 W12 from hW12 ▸ (c9.set ((hgrow.block w.heap.size (by omega) (fun e => hno w.heap.size (by omega) e.symm)).trans (N9.out.below B10)) (by omega) _ _))
   have hbl11 : nb<w11.heap.size:=by have:=L10.out.blt; have:=hgrow.size; omega
   refine hK.out _ _ x0 (fun hHeld => ?_)
   clear hK K
   try simp only [Act.put,d8,m8,m9]
   refine c6.nx 6 fun K hK => ?_
   go_simp
   refine hK.out _ _ hHeld (fun hHeld => ?_)
   clear hK K
   try simp only [Act.put,d8,m8,m9]
   refine c6.la fun K hK => ?_
   go_simp
   rw [← hW12]
   refine hK.out _ _ ?_
   clear hK K hHeld hW12 x0 x1 hnb hgrow hat hown hno hbl11 hltg L10 NEW L9 N9 HBX
   obtain ⟨σ5,hσ5⟩ : ∃ σ5,σ5=n7 (goX σ3 (rd .expr 0)):=⟨_,rfl⟩
   rw [← hσ5] at L12
   have C13:=hid (o3 P g cap ts 0 σ5 ⟨#[59]⟩ W12 (by omega) L12.out.sp HE)
   have HIs:=hid (show Is (goX σ3 (rd .expr 0)) t from fun t' r h => (HK.out t' r h).1)
   have HX:=hid (show jH l=goX (o5 aY σ5) fun r => .ok (mkN 3 T.text 0 (L.map (·.1) ++ [t]) T.pos,r) by
    have h1:=HPE.out
    rw [HS1.out] at h1
    have h2:=HIs.out
    rw [hσ5,HS3.out]
    rw [HS3.out] at h2
    rw [HS0.out] at h1
    exact a7H (fun r hr => HT.out r (HS0.out.trans hr)) h1 h2)
   have HOK:=hid (show ∀ p,jH l=.ok p→dD T from fun p hp => by
    rw [← eE l jH] at hp
    unfold jH at hp
    rw [F6] at hp
    obtain ⟨r,hr,-⟩:=Y0 hp
    exact HTO.out r (HS0.out.trans hr))
   clear HK HIs HT HTO HPE HS0 HS1 HS3 hσ5 HLI hz10
   go_wp2_with fail
   (with_reducible refine Calls.mono C13.out ?_)
   rintro e w13 ⟨rfl,hs,hg⟩
   have L13:=hid (L12.out.step (σ':=o5 aY σ5) hs hg gW)
   have N13:=hid (N12.out.grown hg hpP.1)
   clear hs hg C13 L12 N12
   obtain ⟨⟨b0,b1,b2,b3,b4⟩,-⟩:=L13.out.cells
   obtain ⟨⟨n0,n1,n2,n3,n4⟩,⟨f0,f1,f2,f3,f4⟩⟩:=N13.out.cells
   have hbl:=L13.out.blt
   have hwl : w.heap.size<w13.heap.size:=by omega
   have HLN:=hid (show (L ++ [(t,a,c)]).length=((L ++ [(t,a,c)]).map (·.1)).length by rw [List.length_map])
   have HMP:=hid (show (L ++ [(t,a,c)]).map (·.1)=L.map (·.1) ++ [t] by rw [List.map_append]; rfl)
   go_wp2_with fail
   obtain ⟨u,hu⟩ : ∃ u,u=Nd.mk 3 ⟨T.text.toArray⟩ 0 ((L ++ [(t,a,c)]).map (·.1)) T.pos:=⟨_,rfl⟩
   have hul : L.length + 1=u.kids.length:=by rw [hu]; show _=((L ++ [(t,a,c)]).map (·.1)).length; simp
   obtain ⟨W14,hW14⟩ : ∃ W,W=U0 w13 w.heap.size u (some ⟨gb,0,none⟩) cq:=⟨_,rfl⟩
   have N14:=N13.out.put u (some ⟨gb,0,none⟩) cq
   have KV : j4 (fun d => nb + 1≤d) w13 (U0 w13 w.heap.size u (some ⟨gb,0,none⟩) cq):=(j4.refl _ w13).put (fun d hd => by omega) _ _ _
   have HR:=hid (show RdL P g cap ts (jH l) w (.returned (u.val (some ⟨gb,0,none⟩) cq)) W14 from by
    rw [HX.out,hW14]
    refine ⟨u,some ⟨gb,0,none⟩,cq,rfl,by rw [bW]; exact L13.out.sp.put hpP.1 hpP.2 _ _ _,p7 L13.out.gr (Nat.le_refl _) _ _ _,fun t' r hx => ?_⟩
    have hTk:=HOK.out (t',r) (HX.out.trans hx)
    obtain ⟨r',e1,e2⟩:=Y0 hx
    cases e2
    refine ⟨by rw [hu,HMP.out]; rfl,?_⟩
    have hl:=L13.out.tree e1 (show (Lit.int .i64 3).wf=true by rfl) hTk.2.1 (by have:=hTk.2.2; unfold maxLen; show T.text.toArray.size≤_; simp; omega)
    rw [← hu] at hl
    exact e7 hl (fun d hd => KV d hd.1) fun d hd => ⟨by have:=hd.1; omega,by rw [size_put]; exact hd.2⟩)
   rw [← hW14] at N14
   unfold U0 at hW14
   rw [← hul,show u.kind=3 by rw [hu]; rfl,show u.text=⟨T.text.toArray⟩ by rw [hu]; rfl,show u.n=0 by rw [hu]; rfl,show u.place=T.pos by rw [hu]; rfl] at hW14
   rw [← hW14]
   obtain ⟨⟨z0,z1,z2,z3,z4⟩,-⟩:=N14.cells
   refine bodyPost_ret (v:=u.val (some ⟨gb,0,none⟩) cq) (by simp [results,Tryz.results70,go_sem,Nd.val,z0,z1,z2,z3,z4]) rfl ?_
   exact HR
end
def oC (σ : Sx) (ks : List Nd) : Rd:=goX σ (X7 (100 - ks.length) ks)
def fY (σ : Sx) (ks : List Nd) (n : Nat) : Rd:=goX σ (iP (200 - n) ks)
theorem a4y {ks : List Nd} {r : List Tk} (h : ks.length=100) (hi : isT gS r=true) : oC (.ok r) ks=.error (76,(hd r).pos):=by
 unfold oC
 rw [eE,h,show 100 - 100=0 from rfl,X7,if_pos hi]
theorem a7c {ks : List Nd} {r : List Tk} (hi : isT gS r=false) : oC (.ok r) ks=aW (.ok r) ks:=by
 unfold oC
 rw [eE]
 cases 100 - ks.length with
 | zero => rw [X7,if_neg (by rw [hi]; decide)]; rfl
 | succ f => rw [X7,if_neg (by rw [hi]; decide)]; rfl
theorem a5N {ks : List Nd} {r : List Tk} {T : Tk} (h : ks.length<100) (hi : isT gS r=true) (hT : T=hd (b8 r)) : oC (.ok r) ks=oC (o5 aY (x8 1 (.ok (b8 r)))) (ks ++ [mkN 2 T.text 0 [] T.pos]):=by
 unfold oC
 rw [eE,show 100 - ks.length=(100 - (ks.length + 1)) + 1 by omega,X7,if_pos hi,List.length_append]
 rw [← eE (b8 r) (fun l => V9 1 l _),jX _ _ _ T (fun r' h => by cases h; exact hT),F6]
 rfl
theorem a2z {ks : List Nd} {r : List Tk} (hi : isT mX r=true) : fY (.ok r) ks 200=.error (76,(hd r).pos):=by
 unfold fY
 rw [eE,show 200 - 200=0 from rfl,iP,if_pos hi]
theorem a5n {ks : List Nd} {r : List Tk} {n : Nat} (hi : isT mX r=false) : fY (.ok r) ks n=aW (.ok r) ks:=by
 unfold fY
 rw [eE]
 cases 200 - n with
 | zero => rw [iP,if_neg (by rw [hi]; decide)]; rfl
 | succ f => rw [iP,if_neg (by rw [hi]; decide)]; rfl
theorem a3F {ks : List Nd} {r : List Tk} {n : Nat} {t : Nd} (h : n<200) (hi : isT mX r=true) (ht : Is (jH r) t) : fY (.ok r) ks n=fY (n7 (jH r)) (ks ++ [t]) (n + 1):=by
 unfold fY
 rw [eE,show 200 - n=(200 - (n + 1)) + 1 by omega,iP,if_pos hi,G0 ht]
theorem a7V {l : List Tk} {T : Tk} (hT : ∀ r,o5 cM (.ok l)=.ok r→T=hd r) {σ2 σ4 : Sx} {is ls : List Nd} (h : oC (o5 aY (x8 1 (o5 cM (.ok l)))) []=aW σ2 is) (h2 : fY σ2 is 0=aW σ4 ls) :
 mR l=goX σ4 fun r => .ok (mkN 1 T.text 0 ls (hd l).pos,r):=by
 rw [← eE l mR]
 have e : ∀ (σ : Sx) (ks : List Nd),Is (aW σ ks) (mkN 0 [] 0 ks 0):=fun σ ks t' r hx => by
  obtain ⟨r',-,e⟩:=Y0 hx
  cases e; rfl
 unfold mR
 show goX (.ok l) (fun l' => o8 cM l' fun r => V9 1 r fun t r => o8 aY r fun r => (X7 100 [] r).then fun is r => (iP 200 is.kids r).then fun ls r => .ok (mkN 1 t.text 0 ls.kids (hd l).pos,r))=_
 rw [F6,jX _ _ _ T hT,F6,bM]
 rw [show goX (o5 aY (x8 1 (o5 cM (.ok l)))) (X7 100 [])=aW σ2 is from h,G0 (e σ2 is)]
 unfold aW
 rw [bW,bM]
 rw [show goX σ2 (iP 200 (mkN 0 [] 0 is 0).kids)=aW σ4 ls from h2,G0 (e σ4 ls)]
 unfold aW
 rw [bW]
 rfl
section
open Go.ChangeShapes Go.WideShapes Go.ChangeAt Go.RowKit
mutual
theorem rP {n₀ : Nat} {W : World} : ∀ (t : Nd) {a : Option Addr} {cap : Nat},t.hold n₀ W a cap→t.lies (· < n₀) W a cap
 | .mk _ _ _ ks _,_,_,⟨h1,h2,h3,h4,h5,h6,h7⟩ => ⟨h1,h2,h3,h4,h5,h6,tP ks h7⟩
theorem tP {n₀ : Nat} {W : World} : ∀ (ts : List Nd) {a : Option Addr} {i : Nat},Nd.holds n₀ W ts a i→Nd.lie (· < n₀) W ts a i
 | [],_,_,_ => trivial
 | .mk kind s n ks p :: r,_,_,⟨⟨b,off,a',cap',ha,hb,c0,c1,c2,c3,c4,hk⟩,hr⟩ =>
   ⟨⟨b,off,a',cap',ha,hb,c0,c1,c2,c3,c4,rP (.mk kind s n ks p) hk⟩,tP r hr⟩
end
theorem eY (L : List Ent) : (J6 L).length=L.length * 5:=by
 induction L with
 | nil => rfl
 | cons e L ih =>
   show (ndC e ++ J6 L).length=_
   rw [List.length_append,ih,List.length_cons]
   show 5 + _=_
   omega
theorem eP (L : List Ent) : ∀ u∈J6 L,u.oneCell'=true:=fun u hu => by
 obtain ⟨e,-,he⟩:=List.mem_flatMap.1 hu
 exact cA e u he
theorem vT {av : Nat→Prop} {W : World} {b off : Nat} : ∀ (ks : List Nd) (i : Nat),Nd.lie av W ks (some ⟨b,off,none⟩) i→∃ L : List Ent,L.map (·.1)=ks∧(∀ e∈L,e.1.lies av W e.2.1 e.2.2)∧∀ j u,(J6 L)[j]?=some u→W.cell? ⟨b,off + (i * 5 + j),none⟩=some u
 | [],_,_ => ⟨[],rfl,fun _ h => (List.not_mem_nil h).elim,fun j u h => by cases h⟩
 | .mk kind s n ks p :: r,i,⟨⟨b',off',a',cap',ha,hb,c0,c1,c2,c3,c4,hk⟩,hr⟩ => by
   cases ha
   obtain ⟨L,l1,l2,l3⟩:=vT r (i + 1) hr
   refine ⟨(.mk kind s n ks p,a',cap') :: L,by rw [List.map_cons,l1],fun e he => ?_,fun j u hj => ?_⟩
   ·rcases List.mem_cons.1 he with rfl | he
    ·exact hk
    ·exact l2 e he
   ·have e : J6 ((.mk kind s n ks p,a',cap') :: L)=ndC (.mk kind s n ks p,a',cap') ++ J6 L:=rfl
    rw [e] at hj
    by_cases h5 : j<5
    ·rw [List.getElem?_append_left (by exact h5)] at hj
     match j,h5,hj with
     | 0,_,hj => cases hj; exact c0
     | 1,_,hj => cases hj; exact c1
     | 2,_,hj => cases hj; exact c2
     | 3,_,hj => cases hj; exact c3
     | 4,_,hj => cases hj; exact c4
    ·rw [List.getElem?_append_right (by show 5≤j; omega)] at hj
     have : W.cell? ⟨b,off + ((i + 1) * 5 + (j - 5)),none⟩=some u:=l3 (j - 5) u hj
     rw [show off + ((i + 1) * 5 + (j - 5))=off + (i * 5 + j) by omega] at this
     exact this
theorem sG {av : Nat→Prop} {W : World} {a : Option Addr} : ∀ (ks us : List Nd) (i : Nat),Nd.lie av W (ks ++ us) a i→Nd.lie av W ks a i
 | [],_,_,_ => trivial
 | .mk _ _ _ _ _ :: r,us,i,⟨h,hr⟩ => ⟨h,sG r us (i + 1) hr⟩
theorem a4P {n₀ : Nat} {W : World} {t : Nd} {a : Option Addr} {cap : Nat} (h : t.hold n₀ W a cap) (k : Nat) : ∃ L : List Ent,L.map (·.1)=t.kids.take k∧(∀ e∈L,e.1.lies (· < n₀) W e.2.1 e.2.2)∧∀ ad,a=some ad→∀ j u,(J6 L)[j]?=some u→W.cell? (ad.add j)=some u∧(ad.add j).block<n₀:=by
 have hl : Nd.lie (· < n₀) W (t.kids.take k) a 0:=by
  have h7:=rP t h
  cases t with
  | mk kind s n ks p =>
    have h9:=h7.2.2.2.2.2.2
    rw [← List.take_append_drop k ks] at h9
    exact sG _ _ 0 h9
 cases hks : t.kids.take k with
 | nil => exact ⟨[],rfl,fun e he => (List.not_mem_nil he).elim,fun ad _ j u hu => by cases hu⟩
 | cons x r =>
   rw [hks] at hl
   obtain ⟨b,off,a',cap',A⟩:=Nd.lie.at _ 0 hl 0 (by simp)
   obtain rfl:=A.addr
   obtain ⟨L,l1,l2,l3⟩:=vT _ 0 hl
   refine ⟨L,l1,l2,fun ad had j u hu => ?_⟩
   cases had
   rw [Go.WideShapes.add_plain]
   have:=l3 j u hu
   rw [Nat.zero_mul,Nat.zero_add] at this
   exact ⟨this,A.ok⟩
theorem a4B {H : Type} {enc : TypeId × Value→H} {W : World} {sp : Nat→Bool} {held : Bool} {d : DataW H} {pl : List MemPlace} {k n p : Int} {s : ByteArray} {m cap : Nat}
 (h : DataW.Trod enc Tryz.prog W 0 sp held 24 (.agg #[.int .i64 k,.string s,.int .i64 n,.slice none m cap,.int .i64 p]) d pl) : cap=0:=by
 obtain ⟨fuel,hf⟩:=h
 obtain ⟨xs,mm,rfl,ex,hlen,hxs,hf⟩:=DataW.trod_struct Tryz.underlying24 hf
 have f3:=hf 3 ⟨"Kids",22,3,false,"","",32⟩ rfl
 cases hx : xs[3]? with
 | none => rw [List.getElem?_eq_none_iff,show xs.length=5 from hxs] at hx; omega
 | some x3 =>
   rw [hx] at f3
   rcases DataW.trod_slice Tryz.underlying22 f3 with ⟨e3,-⟩ | ⟨a,len,cap',elems,rest,k',rfl,e3,-⟩
   ·replace e3 : List.take (Tryz.prog.cellsOf 22) [Value.slice none m cap,.int .i64 p]=[Value.slice none 0 0]:=e3
    rw [zO] at e3
    simp at e3
    exact e3.2
   ·replace e3 : List.take (Tryz.prog.cellsOf 22) [Value.slice none m cap,.int .i64 p]=[Value.slice (some a) len cap']:=e3
    rw [zO] at e3
    simp at e3
end
section
open Lib (hid)
open Go.RowKit
theorem xR (P g cap : Nat) (ts : List Tk) (he : dI ts) (htk : ∀ t∈ts,dD t) (hE : ∀ r,CE P g cap ts r) (l : List Tk) (w : World) (h : SP P g cap ts 0 (.ok l) w) :
 Calls Tryz.prog 39 #[.pointer (some ⟨P,0,none⟩)] w (RdL P g cap ts (mR l) w):=by
 obtain ⟨i0,hi,hz0,hz1,hz2⟩:=info_parts (show (Tryz.prog.info? 24).map (fun i => (i.zero,i.size,i.bytes))=some (some (.agg #[.int .i64 0,.string ⟨#[]⟩,.int .i64 0,.slice none 0 0,.int .i64 0]),5,64) by kernel_rfl)
 have HI0:=hid (show _∧_∧_∧_ from ⟨hi,hz0,hz1,hz2⟩)
 clear hi hz0 hz1 hz2
 obtain ⟨W1,hW1⟩ : ∃ W,W=w.alloc (.cells #[.int .i64 0,.string ⟨#[]⟩,.int .i64 0,.slice none 0 0,.int .i64 0] 24):=⟨_,rfl⟩
 have B1:=hid (show Below w.heap.size w W1 from hW1 ▸ a7 _ _)
 have N1:=hid (show c9 w.heap.size nd0 none 0 W1 from hW1 ▸ c9.make w nd0 none 0)
 have S1:=hid (h.below B1)
 have HP:=hid h.blocks
 have HE:=hid he
 have HTK:=hid htk
 have HEx:=hid hE
 have HAT:=hid (htk _ h.mem).2.1
 have hpP : w.heap.size≠P∧w.heap.size≠g:=⟨Nat.ne_of_gt h.blocks.1,Nat.ne_of_gt h.blocks.2⟩
 have C0:=hid (gT P g cap ts 0 (.ok l) W1 S1)
 clear h he htk hE
 go_enter Tryz.func39,Tryz.ntmps39
 go_upto_region 1 with fail
 rw [← hW1]
 clear hW1
 go_wp2_with fail
 (with_reducible refine Calls.mono C0.out ?_)
 rintro e w1 ⟨T0,rfl,hb,hT0⟩
 obtain rfl:=hT0 l rfl
 have S2:=hid (S1.out.below hb)
 have G2:=hid (show w.grownBy w1 (some P) from a6 (d6 B1) (d6 hb))
 have N2:=hid (N1.out.below hb)
 clear hb hT0 C0 S1 N1 B1
 obtain ⟨at0,hat0⟩ : ∃ x,x=(hd l).pos:=⟨_,rfl⟩
 have HA:=hid hat0
 rw [← hat0] at HAT
 unfold tkV
 rw [← hat0]
 have hfd:=aH (hd l).kind (hd l).n at0 ⟨(hd l).text.toArray⟩
 clear hat0
 have C1:=hid (o3 P g cap ts 0 (.ok l) ⟨#[109,111,100,117,108,101]⟩ w1 (by omega) S2 HE)
 go_wp2_with fail
 (with_reducible refine Calls.mono C1.out ?_)
 rintro e w2 ⟨rfl,hs,hg⟩
 replace S2:=hid (show SP P g cap ts 0 (o5 cM (.ok l)) w2 from hs)
 replace G2:=hid (a6 G2 hg)
 replace N2:=hid (N2.out.grown hg hpP.1)
 clear hs hg C1 hfd
 have C2:=hid (cT P g cap ts 0 (o5 cM (.ok l)) 1 w2 (by omega) S2 HE)
 obtain ⟨σ0,hσ0⟩ : ∃ σ0,σ0=o5 cM (.ok l):=⟨_,rfl⟩
 rw [← hσ0] at S2 C2
 have HS0:=hid hσ0
 clear hσ0
 go_wp2_with fail
 (with_reducible refine Calls.mono C2.out ?_)
 rintro e w3 ⟨T,rfl,hs,hg,hT⟩
 have S3:=hid hs
 have G3:=hid (a6 G2 hg)
 have N3:=hid (N2.out.grown hg hpP.1)
 have HT:=hid hT
 have HTO:=hid (fun r (hr : σ0=.ok r) => uB HTK S2 hT hr)
 clear hs hg C2 hT G2 N2 S2
 obtain ⟨W4,hW4⟩ : ∃ W,W=w3.alloc (.cells #[.int .i64 T.kind,.string ⟨T.text.toArray⟩,.int .i64 T.n,.int .i64 T.pos] 93):=⟨_,rfl⟩
 have B4:=hid (show Below w3.heap.size w3 W4 from hW4 ▸ a7 _ _)
 have T4:=hid (show F0 w3.heap.size T W4 from hW4 ▸ F0.make w3 T)
 have S4:=hid (S3.out.below B4)
 have G4:=hid (c8 G3 (B4.out.mono G3.out.size))
 have N4:=hid (N3.out.below B4)
 have hw34 : w.heap.size≤w3.heap.size:=G3.out.size
 clear S3 G3 N3
 have C3:=hid (o3 P g cap ts 0 (x8 1 σ0) ⟨#[59]⟩ W4 (by omega) S4 HE)
 unfold tkV
 go_upto_region 4 with fail
 rw [← hW4]
 clear hW4
 go_wp2_with fail
 (with_reducible refine Calls.mono C3.out ?_)
 rintro e w5 ⟨rfl,hs,hg⟩
 have hPl:=T4.out.lt
 have T5:=hid (T4.out.grown hg (by have:=HP.out.1; have:=B4.out.size; omega))
 have S5:=hid (show SP P g cap ts 0 (o5 aY (x8 1 σ0)) w5 from hs)
 have G5:=hid (a6 G4 hg)
 have N5:=hid (N4.out.grown hg hpP.1)
 clear hs hg C3 S4 G4 N4 T4 hPl
 obtain ⟨σ1,hσ1⟩ : ∃ σ1,σ1=o5 aY (x8 1 σ0):=⟨_,rfl⟩
 rw [← hσ1] at S5
 have HS1:=hid hσ1
 clear hσ1
 obtain ⟨W5,hW5⟩ : ∃ W,W=w5.alloc (.cells #[.int .i64 1,.string ⟨T.text.toArray⟩,.int .i64 0,.slice none 0 0,.int .i64 at0] 24):=⟨_,rfl⟩
 have L5:=hid (show LB P g cap ts w5.heap.size 1 ⟨T.text.toArray⟩ at0 none 0 [] σ1 w W5 from LB.make S5 G5 HP hW5)
 have N6:=hid (N5.out.below (show Below w5.heap.size w5 W5 from hW5 ▸ a7 _ _))
 have hwb : w.heap.size<w5.heap.size:=by have:=N5.out.lt; omega
 obtain ⟨⟨t0,t1,t2,t3⟩,-⟩:=T5.out.cells
 have htl:=T5.out.lt
 go_upto_block 0 with fail
 rw [← hW5]
 clear hW5 t0 t1 t2 t3 htl T5 S5 G5 N5 hw34 B4
 generalize w5.heap.size=nb at L5 hwb ⊢
 go_cut [6] from 8 (fun _ wx => ∃ (ao : Option Addr) (cp : Nat) (L : List Ent) (σ2 : Sx),Hid (LB P g cap ts nb 1 ⟨T.text.toArray⟩ at0 ao cp L σ2 w wx∧L.length≤100∧oC σ1 []=aW σ2 (L.map (·.1))∧c9 w.heap.size nd0 none 0 wx))
 case first =>
  go_wp2_with fail
  go_loopw [6] (fun _ wr => ∃ (ao : Option Addr) (cp : Nat) (L : List Ent) (σ : Sx),L.length≤100∧Hid (LB P g cap ts nb 1 ⟨T.text.toArray⟩ at0 ao cp L σ w wr∧oC σ1 []=oC σ (L.map (·.1))∧c9 w.heap.size nd0 none 0 wr)) (fun _ wr => qY P ts wr)
  case atStart => exact ⟨none,0,[],_,Nat.zero_le _,L5,rfl,N6⟩
  case round =>
   obtain ⟨ao,cp,L,σ,hL8,HI⟩:=hrel
   clear L5 N6
   have HFar:=hid (show qY P ts wr=a6Y σ from HI.out.1.sp.far)
   have hpl:=HI.out.1.sp.blocks.1
   obtain ⟨c,p3,hc⟩:=HI.out.1.sp.bad
   cases σ with
   | error q =>
     have e0 : (c == 0)=false:=beq_eq_false_iff_ne.2 (fun e => by obtain ⟨r,hr⟩:=hc.1 e; cases hr)
     clear hc
     go_wp2_with fail
     go_meet
     case rel => exact ⟨ao,cp,L,.error q,HI.out.1,hL8,HI.out.2.1,HI.out.2.2⟩
   | ok r =>
     obtain rfl:=hc.2 ⟨r,rfl⟩
     clear hc
     have CI:=hid (eI P g cap ts 0 (.ok r) ⟨#[105,109,112,111,114,116]⟩ wr HI.out.1.sp)
     go_wp2_with fail
     (with_reducible refine Calls.mono CI.out ?_)
     rintro e w7 ⟨bi,rfl,hb,hbi⟩
     have L7:=hid (HI.out.1.below hb)
     have N7:=hid (HI.out.2.2.below hb)
     have HBI:=hid (show bi=isT gS r from hbi r rfl)
     clear hb hbi CI p3 hpl
     cases bi
     ·have HX7:=hid (HI.out.2.1.trans (a7c (ks:=L.map (·.1)) HBI.out.symm))
      go_wp2_with fail
      go_meet
      case rel => exact ⟨ao,cp,L,.ok r,L7,hL8,HX7,N7⟩
     ·obtain ⟨⟨b0,b1,b2,b3,b4⟩,-⟩:=L7.out.cells
      have hbl:=L7.out.blt
      by_cases h8 : L.length=100
      ·have hl8 : ((L.length : Int) == 100)=true:=by rw [h8]; rfl
       have HX8:=hid (HI.out.2.1.trans (a4y (ks:=L.map (·.1)) (by rw [List.length_map]; exact h8) HBI.out.symm))
       have C8:=hid (gT P g cap ts 0 (.ok r) w7 L7.out.sp)
       clear h8
       go_wp2_with fail
       (with_reducible refine Calls.mono C8.out ?_)
       rintro e w8 ⟨T8,rfl,hb,hT⟩
       have HT8:=hid (hT r rfl)
       have L8:=hid (L7.out.below hb)
       have N8:=hid (N7.out.below hb)
       obtain ⟨i2,-,hp2⟩:=L8.out.sp.ok
       have C9:=hid (J7 P g cap ts i2 (0 : Nat) w8 76 T8.pos hp2)
       clear hb hT hp2 b0 b1 b2 b3 b4 hbl C8
       unfold tkV
       have hfd:=aH T8.kind T8.n T8.pos ⟨T8.text.toArray⟩
       go_wp2_with fail
       (with_reducible refine Calls.mono C9.out ?_)
       rintro e w9 ⟨rfl,hp3,hg⟩
       have L9:=hid (L8.out.step (σ':=.error (76,T8.pos)) (SP.of_error hp3 (by decide) (Int.le_refl _) (by omega)) hg (fun r h => by cases h))
       have N9:=hid (N8.out.grown hg hpP.1)
       clear hp3 hg hfd C9
       go_wp2_with fail
       go_meet
       case rel => exact ⟨ao,cp,L,_,L9,hL8,by rw [HX8.out,HT8.out]; rfl,N9⟩
      ·have hl8 : ((L.length : Int) == 100)=false:=beq_eq_false_iff_ne.2 (by omega)
       have hL7 : L.length≤99:=by omega
       have C8:=hid (V4 P g cap ts 0 (.ok r) w7 L7.out.sp HE)
       clear h8
       go_wp2_with fail
       (with_reducible refine Calls.mono C8.out ?_)
       rintro e w8 ⟨T8,rfl,hs,hg,-⟩
       have L8:=hid (L7.out.step (σ':=.ok (b8 r)) hs hg (fun r' h => ⟨r,rfl⟩))
       have N8:=hid (N7.out.grown hg hpP.1)
       clear hs hg C8 b0 b1 b2 b3 b4 hbl L7 N7
       have C9:=hid (cT P g cap ts 0 (.ok (b8 r)) 1 w8 (by omega) L8.out.sp HE)
       unfold tkV
       go_wp2_with fail
       (with_reducible refine Calls.mono C9.out ?_)
       rintro e w9 ⟨T9,rfl,hs,hg,hT⟩
       have HTO9:=hid (fun r' (hr : (.ok (b8 r) : Sx)=.ok r') => uB HTK L8.out.sp hT hr)
       have HT9:=hid (hT _ rfl)
       have L9:=hid (L8.out.step hs hg (fun r' h => ⟨_,rfl⟩))
       have N9:=hid (N8.out.grown hg hpP.1)
       clear hs hg C9 hT L8 N8
       obtain ⟨W10,hW10⟩ : ∃ W,W=w9.alloc (.cells #[.int .i64 T9.kind,.string ⟨T9.text.toArray⟩,.int .i64 T9.n,.int .i64 T9.pos] 93):=⟨_,rfl⟩
       have B10:=hid (show Below w9.heap.size w9 W10 from hW10 ▸ a7 _ _)
       have T10:=hid (show F0 w9.heap.size T9 W10 from hW10 ▸ F0.make w9 T9)
       have L10:=hid (L9.out.below B10)
       have N10:=hid (N9.out.below B10)
       have hbw9 : nb<w9.heap.size:=L9.out.blt
       have C11:=hid (o3 P g cap ts 0 (x8 1 (.ok (b8 r))) ⟨#[59]⟩ W10 (by omega) L10.out.sp HE)
       unfold tkV
       go_upto_region 11 with fail
       rw [← hW10]
       clear hW10 B10 L9 N9
       go_wp2_with fail
       (with_reducible refine Calls.mono C11.out ?_)
       rintro e w11 ⟨rfl,hs,hg⟩
       have L11:=hid (L10.out.step (σ':=o5 aY (x8 1 (.ok (b8 r)))) hs hg gW)
       have N11:=hid (N10.out.grown hg hpP.1)
       have T11:=hid (T10.out.grown hg (by have:=L10.out.lt.1; omega))
       clear hs hg C11 L10 N10 T10
       obtain ⟨⟨t0,t1,t2,t3⟩,-⟩:=T11.out.cells
       have htl:=T11.out.lt
       obtain ⟨⟨b0,b1,b2,b3,b4⟩,bf⟩:=L11.out.cells
       have hbl:=L11.out.blt
       obtain ⟨W12,hW12⟩ : ∃ W,W=w11.alloc (.cells #[.int .i64 2,.string ⟨T9.text.toArray⟩,.int .i64 0,.slice none 0 0,.int .i64 T9.pos] 24):=⟨_,rfl⟩
       have B12:=hid (show Below w11.heap.size w11 W12 from hW12 ▸ a7 _ _)
       have L12:=hid (L11.out.below B12)
       have NEW:=hid (show ∀ (j : Nat) u,(ndC (mkN 2 T9.text 0 [] T9.pos,none,0))[j]?=some u→W12.cell? ((⟨w11.heap.size,0,none⟩ : Addr).add j)=some u from fun j u hu => hW12 ▸ dG _ _ _ _ _ _ _ j u hu)
       have HW12:=hid hW12
       have hz12 : nb + 1≤W12.heap.size:=by have:=B12.out.size; omega
       clear hW12
       go_wp2_with (at_builtin; rw [← HW12.out]; refine wpList_append_lies _ rfl _ _ 22 rfl (nb + 1) 24 i0 (.agg #[.int .i64 0,.string ⟨#[]⟩,.int .i64 0,.slice none 0 0,.int .i64 0]) 5 64 Tryz.underlying22 HI0.out.1 HI0.out.2.1 HI0.out.2.2.1 HI0.out.2.2.2 rfl (by decide) (.slice ao L.length cp) L.length (J6 L) rfl L12.out.row ⟨w11.heap.size,0,none⟩ 1 1 (ndC (mkN 2 T9.text 0 [] T9.pos,none,0)) rfl rfl NEW (cA _) (by decide) (by unfold maxLen; omega) (by omega) hz12 _ rfl ?_)
       intro gb cq w13 hown hgrow hat hltg
       have hno : ∀ d,d<nb + 1→(Value.slice ao L.length cp).ownBlock≠some d:=fun d hd e => by have:=(L12.out.own d e).1; omega
       have hsz13:=hgrow.size
       have hnb:=(hgrow.block nb L12.out.blt (fun e => hno nb (by omega) e.symm)).trans L12.out.box
       have x0 : w13.cell? ⟨nb,3,none⟩=some (.slice ao L.length cp):=by simp [World.cell?,hnb]
       have x1 : w13.frozen? ⟨nb,3,none⟩=false:=by simp [World.frozen?,hnb]
       obtain ⟨W14,hW14⟩ : ∃ W,W=w13.setCell ⟨nb,3,none⟩ (.slice (some ⟨gb,0,none⟩) (L.length + 1) cq):=⟨_,rfl⟩
       have L14:=hid (show LB P g cap ts nb 1 ⟨T.text.toArray⟩ at0 (some ⟨gb,0,none⟩) cq (L ++ [(mkN 2 T9.text 0 [] T9.pos,none,0)]) (o5 aY (x8 1 (.ok (b8 r)))) w W14 from hW14 ▸ L11.out.app B12 hgrow hat hown fun _ _ => rQ rfl (HTO9.out _ rfl))
       have N14:=hid (show c9 w.heap.size nd0 none 0 W14 from hW14 ▸ (c9.set ((hgrow.block w.heap.size (by omega) (fun e => hno w.heap.size (by omega) e.symm)).trans (N11.out.below B12)) (by omega) _ _))
       have hbl13 : nb<w13.heap.size:=by have:=L12.out.blt; omega
       have HST:=hid (HI.out.2.1.trans (a5N (ks:=L.map (·.1)) (T:=T9) (by rw [List.length_map]; omega) HBI.out.symm HT9))
       have HKL:=hid (show ∀ r',o5 aY (x8 1 (.ok (b8 r)))=.ok r'→r'.length + 1≤r.length from fun r' h => by
        obtain ⟨r1,e1,-,rfl⟩:=J9 h
        obtain ⟨r2,e2,-,rfl⟩:=oW e1
        cases e2
        have h1:=O9 (b8 (b8 r))
        have h2:=O9 (b8 r)
        have h3:=H6 HBI.out.symm
        omega)
       have HM:=hid (show (L ++ [(mkN 2 T9.text 0 [] T9.pos,none,0)] : List Ent).map (·.1)=L.map (·.1) ++ [mkN 2 T9.text 0 [] T9.pos] by rw [List.map_append]; rfl)
       have HLL:=hid (show (L ++ [(mkN 2 T9.text 0 [] T9.pos,none,0)] : List Ent).length=L.length + 1 by simp)
       clear hgrow hat hown hnb t0 t1 t2 t3 htl b0 b1 b2 b3 b4 bf hbl L11 L12 N11 T11 B12 NEW HTO9 hno hsz13 hz12
       go_wp2_with fail
       rw [← hW14]
       clear hW14 x0 x1 hbl13
       go_roundw
       case rel => exact ⟨_,_,_,_,by rw [HLL.out]; omega,L14,by rw [HM.out]; exact HST,N14⟩
       case measure =>
        rw [HFar.out]
        refine Nat.lt_of_le_of_lt (Nat.le_of_eq L14.out.sp.far) ?_
        cases hx : o5 aY (x8 1 (.ok (b8 r))) with
        | error e => exact Nat.succ_pos _
        | ok r1 =>
          have h1:=HKL.out r1 hx
          show r1.length + 1<r.length + 1
          omega
 case rest =>
  obtain ⟨ao1,cp1,L1,σ2,HQ⟩:=hcut
  have HIM:=hid HQ.out.2.2.1
  have H100:=hid HQ.out.2.1
  replace L5:=hid HQ.out.1
  replace N6:=hid HQ.out.2.2.2
  clear HQ
  go_upto_block 2 with fail
  go_cut [7] from 8 (fun _ wx => ∃ (ao : Option Addr) (cp : Nat) (L : List Ent) (σ4 : Sx),Hid (LB P g cap ts nb 1 ⟨T.text.toArray⟩ at0 ao cp L σ4 w wx∧fY σ2 (L1.map (·.1)) 0=aW σ4 (L.map (·.1))∧c9 w.heap.size nd0 none 0 wx))
  case first =>
   go_wp2_with fail
   go_loopw [7] (fun v wr => ∃ (n : Nat) (ao : Option Addr) (cp : Nat) (L : List Ent) (σ : Sx),v=.int .i64 n∧n≤200∧L.length≤100 + n∧Hid (LB P g cap ts nb 1 ⟨T.text.toArray⟩ at0 ao cp L σ w wr∧fY σ2 (L1.map (·.1)) 0=fY σ (L.map (·.1)) n∧c9 w.heap.size nd0 none 0 wr)) (fun v _ => 200 - (intOf v).toNat)
   case atStart => exact ⟨0,_,_,L1,_,rfl,Nat.zero_le _,H100,L5,rfl,N6⟩
   case round =>
    obtain ⟨n,ao,cp,L,σ,rfl,hn,hLn,HI⟩:=hrel
    clear L5 N6
    have hpl:=HI.out.1.sp.blocks.1
    obtain ⟨c,p3,hc⟩:=HI.out.1.sp.bad
    cases σ with
    | error q =>
      have e0 : (c == 0)=false:=beq_eq_false_iff_ne.2 (fun e => by obtain ⟨r,hr⟩:=hc.1 e; cases hr)
      clear hc
      go_wp2_with fail
      go_meet
      case rel => exact ⟨ao,cp,L,.error q,HI.out.1,HI.out.2.1,HI.out.2.2⟩
    | ok r =>
      obtain rfl:=hc.2 ⟨r,rfl⟩
      clear hc
      have CI:=hid (eI P g cap ts 0 (.ok r) ⟨#[108,101,116]⟩ wr HI.out.1.sp)
      go_wp2_with fail
      (with_reducible refine Calls.mono CI.out ?_)
      rintro e w7 ⟨bi,rfl,hb,hbi⟩
      have L7:=hid (HI.out.1.below hb)
      have N7:=hid (HI.out.2.2.below hb)
      have HBI:=hid (show bi=isT mX r from hbi r rfl)
      clear hb hbi CI p3 hpl
      cases bi
      ·have HX7:=hid (HI.out.2.1.trans (a5n (ks:=L.map (·.1)) HBI.out.symm))
       go_wp2_with fail
       go_meet
       case rel => exact ⟨ao,cp,L,.ok r,L7,HX7,N7⟩
      ·by_cases h8 : n=200
       ·subst h8
        have HX8:=hid (HI.out.2.1.trans (a2z (ks:=L.map (·.1)) HBI.out.symm))
        have C8:=hid (gT P g cap ts 0 (.ok r) w7 L7.out.sp)
        go_wp2_with fail
        (with_reducible refine Calls.mono C8.out ?_)
        rintro e w8 ⟨T8,rfl,hb,hT⟩
        have HT8:=hid (hT r rfl)
        have L8:=hid (L7.out.below hb)
        have N8:=hid (N7.out.below hb)
        obtain ⟨i2,-,hp2⟩:=L8.out.sp.ok
        have C9:=hid (J7 P g cap ts i2 (0 : Nat) w8 76 T8.pos hp2)
        clear hb hT hp2 C8
        unfold tkV
        have hfd:=aH T8.kind T8.n T8.pos ⟨T8.text.toArray⟩
        go_wp2_with fail
        (with_reducible refine Calls.mono C9.out ?_)
        rintro e w9 ⟨rfl,hp3,hg⟩
        have L9:=hid (L8.out.step (σ':=.error (76,T8.pos)) (SP.of_error hp3 (by decide) (Int.le_refl _) (by omega)) hg (fun r h => by cases h))
        have N9:=hid (N8.out.grown hg hpP.1)
        clear hp3 hg hfd C9
        go_wp2_with fail
        go_meet
        case rel => exact ⟨ao,cp,L,_,L9,by rw [HX8.out,HT8.out]; rfl,N9⟩
       ·have hl8 : ((n : Int) == 200)=false:=beq_eq_false_iff_ne.2 (by omega)
        have CP:=hid (a5X P g cap ts HE HTK HEx r w7.drew (L7.out.sp.below (A8 (Below.refl _ _))))
        obtain ⟨⟨b0,b1,b2,b3,b4⟩,bf⟩:=L7.out.cells
        have hbl:=L7.out.blt
        have HSB:=hid (show ∀ cur : World,cur.heap[nb]?=w7.heap[nb]?→cur.cell? ⟨nb,3,none⟩=some (.slice ao L.length cp) from fun cur h => (World.cell?_of_block h).trans b3)
        go_upto_region 17 with fail
        refine L3 (S:=fun cur => cur.cell? ⟨nb,3,none⟩=some (.slice ao L.length cp)) (z:=7) (by kernel_rfl) ?_ (fun hHeld => ?_)
        ·exact b3
        refine c6.t 0 ?_; refine c6.t 1 ?_; refine c6.t 2 ?_
        refine c6.nx 3 fun K hK => ?_
        go_simp
        (with_reducible refine Calls.mono CP.out ?_)
        rintro e w8 ⟨t,a,c,rfl,hs,hg,hk⟩
        have hgd : w7.grownBy w8 (some P):=a6 (d6 (A8 (Below.refl _ _))) hg
        have L9:=hid (L7.out.step hs hgd (fun r' h => ⟨r,rfl⟩))
        have N9:=hid (N7.out.grown hgd hpP.1)
        have HST:=hid (HI.out.2.1.trans (a3F (ks:=L.map (·.1)) (by omega) HBI.out.symm (show Is (jH r) t from fun t' r' h => (hk t' r' h).1)))
        have HLI:=hid (show ∀ r',n7 (jH r)=.ok r'→t.lies (fun d => nb + 1≤d∧d<w8.heap.size∧(Value.slice ao L.length cp).ownBlock≠some d) w8 a c from fun r' h => by
         obtain ⟨t',ht⟩:=s4 h
         obtain ⟨rfl,hl⟩:=hk t' r' ht
         exact e7 hl (fun _ _ => rfl) fun d hd => ⟨by have:=hd.1; have : w7.drew.heap.size=w7.heap.size:=rfl; omega,hd.2,fun e => by have:=(L7.out.own d e).2; have:=hd.1; have : w7.drew.heap.size=w7.heap.size:=rfl; omega⟩)
        have hnb8:=hgd.block nb hbl (fun e => by have:=L7.out.lt.1; have:=Option.some.inj e; omega)
        go_wp2_with fail
        refine hK.out _ _ (HSB.out _ hnb8) (fun hHeld => ?_)
        clear hK K hs hg hk CP hgd b0 b1 b2 b3 b4 bf
        try simp only [Act.put,d8,m8,m9]
        have HBX:=hid hnb8
        clear hnb8
        unfold Nd.val at hHeld ⊢
        refine c6.nx 4 fun K hK => ?_
        go_simp
        obtain ⟨W10,hW10⟩ : ∃ W,W=w8.alloc (.cells #[.int .i64 t.kind,.string t.text,.int .i64 t.n,.slice a t.kids.length c,.int .i64 t.place] 24):=⟨_,rfl⟩
        have B10:=hid (show Below w8.heap.size w8 W10 from hW10 ▸ a7 _ _)
        have L10:=hid (L9.out.below B10)
        have NEW:=hid (show ∀ (j : Nat) u,(ndC (t,a,c))[j]?=some u→W10.cell? ((⟨w8.heap.size,0,none⟩ : Addr).add j)=some u from fun j u hu => hW10 ▸ dG _ _ _ _ _ _ _ j u hu)
        have hz10 : nb + 1≤W10.heap.size:=by have:=L10.out.blt; omega
        rw [← hW10]
        clear hW10
        refine hK.out _ _ (HSB.out _ ((B10.out.block nb L9.out.blt).trans HBX)) (fun hHeld => ?_)
        clear hK K
        try simp only [Act.put,d8,m8,m9]
        refine c6.nx 5 fun K hK => ?_
        refine step_append_lies _ rfl _ _ 22 rfl (nb + 1) 24 i0 (.agg #[.int .i64 0,.string ⟨#[]⟩,.int .i64 0,.slice none 0 0,.int .i64 0]) 5 64 Tryz.underlying22 HI0.out.1 HI0.out.2.1 HI0.out.2.2.1 HI0.out.2.2.2 rfl (by decide) (.slice ao L.length cp) L.length (J6 L) rfl L10.out.row ⟨w8.heap.size,0,none⟩ 1 1 (ndC (t,a,c)) rfl rfl NEW (cA _) (by decide) (by unfold maxLen; omega) (by omega) hz10 _ rfl ?_
        intro gb cq w11 hown hgrow hat hltg
        have hno : ∀ d,d<nb + 1→(Value.slice ao L.length cp).ownBlock≠some d:=fun d hd e => by have:=(L10.out.own d e).1; omega
        have hnb:=(hgrow.block nb L10.out.blt (fun e => hno nb (by omega) e.symm)).trans L10.out.box
        have x0 : w11.cell? ⟨nb,3,none⟩=some (.slice ao L.length cp):=by simp [World.cell?,hnb]
        have x1 : w11.frozen? ⟨nb,3,none⟩=false:=by simp [World.frozen?,hnb]
        obtain ⟨W12,hW12⟩ : ∃ W,W=w11.setCell ⟨nb,3,none⟩ (.slice (some ⟨gb,0,none⟩) (L.length + 1) cq):=⟨_,rfl⟩
        have L12:=hid (show LB P g cap ts nb 1 ⟨T.text.toArray⟩ at0 (some ⟨gb,0,none⟩) cq (L ++ [(t,a,c)]) (n7 (jH r)) w W12 from hW12 ▸ L9.out.app B10 hgrow hat hown fun r' h => HLI.out r' h)
        have N12:=hid (show c9 w.heap.size nd0 none 0 W12 from hW12 ▸ (c9.set ((hgrow.block w.heap.size (by have:=B10.out.size; have:=L9.out.blt; omega) (fun e => hno w.heap.size (by omega) e.symm)).trans (N9.out.below B10)) (by omega) _ _))
        have hbl11 : nb<w11.heap.size:=by have:=L10.out.blt; have:=hgrow.size; omega
        have HM:=hid (show (L ++ [(t,a,c)] : List Ent).map (·.1)=L.map (·.1) ++ [t] by rw [List.map_append]; rfl)
        have HLL:=hid (show (L ++ [(t,a,c)] : List Ent).length=L.length + 1 by simp)
        refine hK.out _ _ x0 (fun hHeld => ?_)
        clear hK K
        try simp only [Act.put,d8,m8,m9]
        refine c6.nx 6 fun K hK => ?_
        go_simp
        refine hK.out _ _ hHeld (fun hHeld => ?_)
        clear hK K
        try simp only [Act.put,d8,m8,m9]
        refine c6.la fun K hK => ?_
        go_simp
        rw [← hW12]
        refine hK.out _ _ ?_
        clear hK K hHeld hW12 x0 x1 hnb hgrow hat hown hno hbl11 hltg L10 NEW L9 N9 HBX
        go_wp2_with fail
        go_roundw
        case rel => exact ⟨n + 1,_,_,_,_,by go_num,by omega,by rw [HLL.out]; omega,L12,by rw [HM.out]; exact HST,N12⟩
        case measure => simp [intOf]; omega
  case rest =>
   obtain ⟨ao,cp,L,σ4,HQ⟩:=hcut
   have HLE:=hid HQ.out.2.1
   replace L5:=hid HQ.out.1
   replace N6:=hid HQ.out.2.2
   clear HQ
   have HX:=hid (show mR l=goX σ4 fun r => .ok (mkN 1 T.text 0 (L.map (·.1)) at0,r) by
    have h1:=HIM.out
    rw [HS1.out,HS0.out] at h1
    rw [HA.out]
    exact a7V (fun r hr => HT.out r (HS0.out.trans hr)) h1 HLE)
   have HOK:=hid (show ∀ p,mR l=.ok p→dD T from fun p hp => by
    rw [← eE l mR] at hp
    unfold mR at hp
    replace hp : goX (.ok l) (fun l' => o8 cM l' fun r => V9 1 r fun t r => o8 aY r fun r => (X7 100 [] r).then fun is r => (iP 200 is.kids r).then fun ls r => .ok (mkN 1 t.text 0 ls.kids (hd l).pos,r))=.ok p:=hp
    rw [F6] at hp
    obtain ⟨r,hr,-⟩:=Y0 hp
    exact HTO.out r (HS0.out.trans hr))
   clear HT HTO HIM HS0 HS1 HLE HA H100
   obtain ⟨⟨b0,b1,b2,b3,b4⟩,-⟩:=L5.out.cells
   obtain ⟨⟨n0,n1,n2,n3,n4⟩,⟨f0,f1,f2,f3,f4⟩⟩:=N6.out.cells
   have hbl:=L5.out.blt
   have hwl : w.heap.size<wc.heap.size:=by omega
   obtain ⟨u,hu⟩ : ∃ u,u=Nd.mk 1 ⟨T.text.toArray⟩ 0 (L.map (·.1)) at0:=⟨_,rfl⟩
   have hul : L.length=u.kids.length:=by rw [hu]; show _=(L.map (·.1)).length; simp
   obtain ⟨W14,hW14⟩ : ∃ W,W=U0 wc w.heap.size u ao cp:=⟨_,rfl⟩
   have N14:=N6.out.put u ao cp
   have KV : j4 (fun d => nb + 1≤d) wc (U0 wc w.heap.size u ao cp):=(j4.refl _ wc).put (fun d hd => by omega) _ _ _
   have HR:=hid (show RdL P g cap ts (mR l) w (.returned (u.val ao cp)) W14 from by
    rw [HX.out,hW14]
    refine ⟨u,ao,cp,rfl,by rw [bW]; exact L5.out.sp.put hpP.1 hpP.2 _ _ _,p7 L5.out.gr (Nat.le_refl _) _ _ _,fun t' r hx => ?_⟩
    have hTk:=HOK.out (t',r) (HX.out.trans hx)
    obtain ⟨r',e1,e2⟩:=Y0 hx
    cases e2
    refine ⟨by rw [hu]; rfl,?_⟩
    have hl:=L5.out.tree e1 (show (Lit.int .i64 1).wf=true by rfl) HAT (by have:=hTk.2.2; unfold maxLen; show T.text.toArray.size≤_; simp; omega)
    rw [← hu] at hl
    exact e7 hl (fun d hd => KV d hd.1) fun d hd => ⟨by have:=hd.1; omega,by rw [size_put]; exact hd.2⟩)
   rw [← hW14] at N14
   unfold U0 at hW14
   rw [← hul,show u.kind=1 by rw [hu]; rfl,show u.text=⟨T.text.toArray⟩ by rw [hu]; rfl,show u.n=0 by rw [hu]; rfl,show u.place=at0 by rw [hu]; rfl] at hW14
   have HW14:=hid hW14
   clear hW14 hul hu KV
   go_wp2_with fail
   rw [← HW14.out]
   obtain ⟨⟨z0,z1,z2,z3,z4⟩,-⟩:=N14.cells
   refine bodyPost_ret (v:=u.val ao cp) (by simp [results,Tryz.results39,go_sem,Nd.val,z0,z1,z2,z3,z4]) rfl ?_
   exact HR
end
end Go.Proofs.YteefedkmgnepmaaGreatDoor
