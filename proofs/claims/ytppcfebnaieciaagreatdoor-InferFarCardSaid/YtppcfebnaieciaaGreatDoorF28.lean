/-
  Laws that the proof rests on.
-/
import Derived.Test.YtppcfebnaieciaaGreatDoorF27
import Derived.Deep.CutBlock
namespace Go.Proofs.YtppcfebnaieciaaGreatDoor
set_option maxRecDepth 100000
set_option maxHeartbeats 16000000
section
open Lib (hid)
open Go.RowKit
theorem uJ (P g cap : Nat) (ts : List Tk) (he : bJ ts) (htk : ∀ t∈ts,bG t) (hE : ∀ r,CE P g cap ts r) (l : List Tk) (w : World) (h : SP P g cap ts 0 (.ok l) w) :
 Calls Tryz.prog 63 #[.pointer (some ⟨P,0,none⟩)] w (RdL P g cap ts (jP l) w):=by
 obtain ⟨i0,hi,hz0,hz1,hz2⟩:=info_parts (show (Tryz.prog.info? 24).map (fun i => (i.zero,i.size,i.bytes))=some (some (.agg #[.int .i64 0,.string ⟨#[]⟩,.int .i64 0,.slice none 0 0,.int .i64 0]),5,64) by kernel_rfl)
 have HI0:=hid (show _∧_∧_∧_ from ⟨hi,hz0,hz1,hz2⟩)
 clear hi hz0 hz1 hz2
 obtain ⟨W1,hW1⟩ : ∃ W,W=w.alloc (.cells #[.int .i64 0,.string ⟨#[]⟩,.int .i64 0,.slice none 0 0,.int .i64 0] 24):=⟨_,rfl⟩
 have B1:=hid (show Below w.heap.size w W1 from hW1 ▸ a7 _ _)
 have N1:=hid (show c6 w.heap.size nd0 none 0 W1 from hW1 ▸ c6.make w nd0 none 0)
 have S1:=hid (h.below B1)
 have HP:=hid h.blocks
 have HE:=hid he
 have HTK:=hid htk
 have HEx:=hid hE
 have HAT:=hid (htk _ h.mem).2.1
 have hpP : w.heap.size≠P∧w.heap.size≠g:=⟨Nat.ne_of_gt h.blocks.1,Nat.ne_of_gt h.blocks.2⟩
 have C0:=hid (eN P g cap ts 0 (.ok l) W1 S1)
 clear h he htk hE
 go_enter Tryz.func63,Tryz.ntmps63
 go_upto_region 1 with fail
 rw [← hW1]
 clear hW1
 go_wp2_with fail
 (with_reducible refine Calls.mono C0.out ?_)
 rintro e w1 ⟨T0,rfl,hb,hT0⟩
 obtain rfl:=hT0 l rfl
 have S2:=hid (S1.out.below hb)
 have G2:=hid (show w.grownBy w1 (some P) from a6 (c9 B1) (c9 hb))
 have N2:=hid (N1.out.below hb)
 clear hb hT0 C0 S1 N1 B1
 obtain ⟨at0,hat0⟩ : ∃ x,x=(hd l).pos:=⟨_,rfl⟩
 have HA:=hid hat0
 rw [← hat0] at HAT
 unfold tkV
 rw [← hat0]
 have hfd:=Y9 (hd l).kind (hd l).n at0 ⟨(hd l).text.toArray⟩
 clear hat0
 have C1:=hid (n5 P g cap ts 0 (.ok l) ⟨#[109,111,100,117,108,101]⟩ w1 (by omega) S2 HE)
 go_wp2_with fail
 (with_reducible refine Calls.mono C1.out ?_)
 rintro e w2 ⟨rfl,hs,hg⟩
 replace S2:=hid (show SP P g cap ts 0 (n7 aT (.ok l)) w2 from hs)
 replace G2:=hid (a6 G2 hg)
 replace N2:=hid (N2.out.grown hg hpP.1)
 clear hs hg C1 hfd
 have C2:=hid (aX P g cap ts 0 (n7 aT (.ok l)) 1 w2 (by omega) S2 HE)
 obtain ⟨σ0,hσ0⟩ : ∃ σ0,σ0=n7 aT (.ok l):=⟨_,rfl⟩
 rw [← hσ0] at S2 C2
 have HS0:=hid hσ0
 clear hσ0
 go_wp2_with fail
 (with_reducible refine Calls.mono C2.out ?_)
 rintro e w3 ⟨T,rfl,hs,hg,hT⟩
 have S3:=hid hs
 have G3:=hid (a6 G2 hg)
 have N3:=hid (N2.out.grown hg hpP.1)
 have HT:=hid hT
 have HTO:=hid (fun r (hr : σ0=.ok r) => qR HTK S2 hT hr)
 clear hs hg C2 hT G2 N2 S2
 obtain ⟨W4,hW4⟩ : ∃ W,W=w3.alloc (.cells #[.int .i64 T.kind,.string ⟨T.text.toArray⟩,.int .i64 T.n,.int .i64 T.pos] 108):=⟨_,rfl⟩
 have B4:=hid (show Below w3.heap.size w3 W4 from hW4 ▸ a7 _ _)
 have T4:=hid (show D5 w3.heap.size T W4 from hW4 ▸ D5.make w3 T)
 have S4:=hid (S3.out.below B4)
 have G4:=hid (c8 G3 (B4.out.mono G3.out.size))
 have N4:=hid (N3.out.below B4)
 have hw34 : w.heap.size≤w3.heap.size:=G3.out.size
 clear S3 G3 N3
 have C3:=hid (n5 P g cap ts 0 (x6 1 σ0) ⟨#[59]⟩ W4 (by omega) S4 HE)
 unfold tkV
 go_upto_region 4 with fail
 rw [← hW4]
 clear hW4
 go_wp2_with fail
 (with_reducible refine Calls.mono C3.out ?_)
 rintro e w5 ⟨rfl,hs,hg⟩
 have hPl:=T4.out.lt
 have T5:=hid (T4.out.grown hg (by have:=HP.out.1; have:=B4.out.size; omega))
 have S5:=hid (show SP P g cap ts 0 (n7 X4 (x6 1 σ0)) w5 from hs)
 have G5:=hid (a6 G4 hg)
 have N5:=hid (N4.out.grown hg hpP.1)
 clear hs hg C3 S4 G4 N4 T4 hPl
 obtain ⟨σ1,hσ1⟩ : ∃ σ1,σ1=n7 X4 (x6 1 σ0):=⟨_,rfl⟩
 rw [← hσ1] at S5
 have HS1:=hid hσ1
 clear hσ1
 obtain ⟨W5,hW5⟩ : ∃ W,W=w5.alloc (.cells #[.int .i64 1,.string ⟨T.text.toArray⟩,.int .i64 0,.slice none 0 0,.int .i64 at0] 24):=⟨_,rfl⟩
 have L5:=hid (show LB P g cap ts w5.heap.size 1 ⟨T.text.toArray⟩ at0 none 0 [] σ1 w W5 from LB.make S5 G5 HP hW5)
 have N6:=hid (N5.out.below (show Below w5.heap.size w5 W5 from hW5 ▸ a7 _ _))
 have hwb : w.heap.size<w5.heap.size:=by have:=N5.out.lt; omega
 obtain ⟨⟨t0,t1,t2,t3⟩,-⟩:=T5.out.cells
 have htl:=T5.out.lt
 go_upto_block 0 with fail
 rw [← hW5]
 clear hW5 t0 t1 t2 t3 htl T5 S5 G5 N5 hw34 B4
 generalize w5.heap.size=nb at L5 hwb ⊢
 go_cut [6] from 8 (fun _ wx => ∃ (ao : Option Addr) (cp : Nat) (L : List Ent) (σ2 : Sx),Hid (LB P g cap ts nb 1 ⟨T.text.toArray⟩ at0 ao cp L σ2 w wx∧L.length≤100∧mB σ1 []=X5 σ2 (L.map (·.1))∧c6 w.heap.size nd0 none 0 wx))
 case first =>
  go_wp2_with fail
  go_loopw [6] (fun _ wr => ∃ (ao : Option Addr) (cp : Nat) (L : List Ent) (σ : Sx),L.length≤100∧Hid (LB P g cap ts nb 1 ⟨T.text.toArray⟩ at0 ao cp L σ w wr∧mB σ1 []=mB σ (L.map (·.1))∧c6 w.heap.size nd0 none 0 wr)) (fun _ wr => nS P ts wr)
  case atStart => exact ⟨none,0,[],_,Nat.zero_le _,L5,rfl,N6⟩
  case round =>
   obtain ⟨ao,cp,L,σ,hL8,HI⟩:=hrel
   clear L5 N6
   have HFar:=hid (show nS P ts wr=a4g σ from HI.out.1.sp.far)
   have hpl:=HI.out.1.sp.blocks.1
   obtain ⟨c,p3,hc⟩:=HI.out.1.sp.bad
   cases σ with
   | error q =>
     have e0 : (c == 0)=false:=beq_eq_false_iff_ne.2 (fun e => by obtain ⟨r,hr⟩:=hc.1 e; cases hr)
     clear hc
     go_wp2_with fail
     go_meet
     case rel => exact ⟨ao,cp,L,.error q,HI.out.1,hL8,HI.out.2.1,HI.out.2.2⟩
   | ok r =>
     obtain rfl:=hc.2 ⟨r,rfl⟩
     clear hc
     have CI:=hid (cK P g cap ts 0 (.ok r) ⟨#[105,109,112,111,114,116]⟩ wr HI.out.1.sp)
     go_wp2_with fail
     (with_reducible refine Calls.mono CI.out ?_)
     rintro e w7 ⟨bi,rfl,hb,hbi⟩
     have L7:=hid (HI.out.1.below hb)
     have N7:=hid (HI.out.2.2.below hb)
     have HBI:=hid (show bi=isT eG r from hbi r rfl)
     clear hb hbi CI p3 hpl
     cases bi
     ·have HX7:=hid (HI.out.2.1.trans (a4c (ks:=L.map (·.1)) HBI.out.symm))
      go_wp2_with fail
      go_meet
      case rel => exact ⟨ao,cp,L,.ok r,L7,hL8,HX7,N7⟩
     ·obtain ⟨⟨b0,b1,b2,b3,b4⟩,-⟩:=L7.out.cells
      have hbl:=L7.out.blt
      by_cases h8 : L.length=100
      ·have hl8 : ((L.length : Int) == 100)=true:=by rw [h8]; rfl
       have HX8:=hid (HI.out.2.1.trans (a2j (ks:=L.map (·.1)) (by rw [List.length_map]; exact h8) HBI.out.symm))
       have C8:=hid (eN P g cap ts 0 (.ok r) w7 L7.out.sp)
       clear h8
       go_wp2_with fail
       (with_reducible refine Calls.mono C8.out ?_)
       rintro e w8 ⟨T8,rfl,hb,hT⟩
       have HT8:=hid (hT r rfl)
       have L8:=hid (L7.out.below hb)
       have N8:=hid (N7.out.below hb)
       obtain ⟨i2,-,hp2⟩:=L8.out.sp.ok
       have C9:=hid (J0 P g cap ts i2 (0 : Nat) w8 76 T8.pos hp2)
       clear hb hT hp2 b0 b1 b2 b3 b4 hbl C8
       unfold tkV
       have hfd:=Y9 T8.kind T8.n T8.pos ⟨T8.text.toArray⟩
       go_wp2_with fail
       (with_reducible refine Calls.mono C9.out ?_)
       rintro e w9 ⟨rfl,hp3,hg⟩
       have L9:=hid (L8.out.step (σ':=.error (76,T8.pos)) (SP.of_error hp3 (by decide) (Int.le_refl _) (by omega)) hg (fun r h => by cases h))
       have N9:=hid (N8.out.grown hg hpP.1)
       clear hp3 hg hfd C9
       go_wp2_with fail
       go_meet
       case rel => exact ⟨ao,cp,L,_,L9,hL8,by rw [HX8.out,HT8.out]; rfl,N9⟩
      ·have hl8 : ((L.length : Int) == 100)=false:=beq_eq_false_iff_ne.2 (by omega)
       have hL7 : L.length≤99:=by omega
       have C8:=hid (O3 P g cap ts 0 (.ok r) w7 L7.out.sp HE)
       clear h8
       go_wp2_with fail
       (with_reducible refine Calls.mono C8.out ?_)
       rintro e w8 ⟨T8,rfl,hs,hg,-⟩
       have L8:=hid (L7.out.step (σ':=.ok (b9 r)) hs hg (fun r' h => ⟨r,rfl⟩))
       have N8:=hid (N7.out.grown hg hpP.1)
       clear hs hg C8 b0 b1 b2 b3 b4 hbl L7 N7
       have C9:=hid (aX P g cap ts 0 (.ok (b9 r)) 1 w8 (by omega) L8.out.sp HE)
       unfold tkV
       go_wp2_with fail
       (with_reducible refine Calls.mono C9.out ?_)
       rintro e w9 ⟨T9,rfl,hs,hg,hT⟩
       have HTO9:=hid (fun r' (hr : (.ok (b9 r) : Sx)=.ok r') => qR HTK L8.out.sp hT hr)
       have HT9:=hid (hT _ rfl)
       have L9:=hid (L8.out.step hs hg (fun r' h => ⟨_,rfl⟩))
       have N9:=hid (N8.out.grown hg hpP.1)
       clear hs hg C9 hT L8 N8
       obtain ⟨W10,hW10⟩ : ∃ W,W=w9.alloc (.cells #[.int .i64 T9.kind,.string ⟨T9.text.toArray⟩,.int .i64 T9.n,.int .i64 T9.pos] 108):=⟨_,rfl⟩
       have B10:=hid (show Below w9.heap.size w9 W10 from hW10 ▸ a7 _ _)
       have T10:=hid (show D5 w9.heap.size T9 W10 from hW10 ▸ D5.make w9 T9)
       have L10:=hid (L9.out.below B10)
       have N10:=hid (N9.out.below B10)
       have hbw9 : nb<w9.heap.size:=L9.out.blt
       have C11:=hid (n5 P g cap ts 0 (x6 1 (.ok (b9 r))) ⟨#[59]⟩ W10 (by omega) L10.out.sp HE)
       unfold tkV
       go_upto_region 11 with fail
       rw [← hW10]
       clear hW10 B10 L9 N9
       go_wp2_with fail
       (with_reducible refine Calls.mono C11.out ?_)
       rintro e w11 ⟨rfl,hs,hg⟩
       have L11:=hid (L10.out.step (σ':=n7 X4 (x6 1 (.ok (b9 r)))) hs hg eI)
       have N11:=hid (N10.out.grown hg hpP.1)
       have T11:=hid (T10.out.grown hg (by have:=L10.out.lt.1; omega))
       clear hs hg C11 L10 N10 T10
       obtain ⟨⟨t0,t1,t2,t3⟩,-⟩:=T11.out.cells
       have htl:=T11.out.lt
       obtain ⟨⟨b0,b1,b2,b3,b4⟩,bf⟩:=L11.out.cells
       have hbl:=L11.out.blt
       obtain ⟨W12,hW12⟩ : ∃ W,W=w11.alloc (.cells #[.int .i64 2,.string ⟨T9.text.toArray⟩,.int .i64 0,.slice none 0 0,.int .i64 T9.pos] 24):=⟨_,rfl⟩
       have B12:=hid (show Below w11.heap.size w11 W12 from hW12 ▸ a7 _ _)
       have L12:=hid (L11.out.below B12)
       have NEW:=hid (show ∀ (j : Nat) u,(ndC (mkN 2 T9.text 0 [] T9.pos,none,0))[j]?=some u→W12.cell? ((⟨w11.heap.size,0,none⟩ : Addr).add j)=some u from fun j u hu => hW12 ▸ bF _ _ _ _ _ _ _ j u hu)
       have HW12:=hid hW12
       have hz12 : nb + 1≤W12.heap.size:=by have:=B12.out.size; omega
       clear hW12
       go_wp2_with (at_builtin; rw [← HW12.out]; refine wpList_append_lies _ rfl _ _ 22 rfl (nb + 1) 24 i0 (.agg #[.int .i64 0,.string ⟨#[]⟩,.int .i64 0,.slice none 0 0,.int .i64 0]) 5 64 Tryz.underlying22 HI0.out.1 HI0.out.2.1 HI0.out.2.2.1 HI0.out.2.2.2 rfl (by decide) (.slice ao L.length cp) L.length (bH L) rfl L12.out.row ⟨w11.heap.size,0,none⟩ 1 1 (ndC (mkN 2 T9.text 0 [] T9.pos,none,0)) rfl rfl NEW (iN _) (by decide) (by unfold maxLen; omega) (by omega) hz12 _ rfl ?_)
       intro gb cq w13 hown hgrow hat hltg
       have hno : ∀ d,d<nb + 1→(Value.slice ao L.length cp).ownBlock≠some d:=fun d hd e => by have:=(L12.out.own d e).1; omega
       have hsz13:=hgrow.size
       have hnb:=(hgrow.block nb L12.out.blt (fun e => hno nb (by omega) e.symm)).trans L12.out.box
       have x0 : w13.cell? ⟨nb,3,none⟩=some (.slice ao L.length cp):=by simp [World.cell?,hnb]
       have x1 : w13.frozen? ⟨nb,3,none⟩=false:=by simp [World.frozen?,hnb]
       obtain ⟨W14,hW14⟩ : ∃ W,W=w13.setCell ⟨nb,3,none⟩ (.slice (some ⟨gb,0,none⟩) (L.length + 1) cq):=⟨_,rfl⟩
       have L14:=hid (show LB P g cap ts nb 1 ⟨T.text.toArray⟩ at0 (some ⟨gb,0,none⟩) cq (L ++ [(mkN 2 T9.text 0 [] T9.pos,none,0)]) (n7 X4 (x6 1 (.ok (b9 r)))) w W14 from hW14 ▸ L11.out.app B12 hgrow hat hown fun _ _ => oJ rfl (HTO9.out _ rfl))
       have N14:=hid (show c6 w.heap.size nd0 none 0 W14 from hW14 ▸ (c6.set ((hgrow.block w.heap.size (by omega) (fun e => hno w.heap.size (by omega) e.symm)).trans (N11.out.below B12)) (by omega) _ _))
       have hbl13 : nb<w13.heap.size:=by have:=L12.out.blt; omega
       have HST:=hid (HI.out.2.1.trans (a3a (ks:=L.map (·.1)) (T:=T9) (by rw [List.length_map]; omega) HBI.out.symm HT9))
       have HKL:=hid (show ∀ r',n7 X4 (x6 1 (.ok (b9 r)))=.ok r'→r'.length + 1≤r.length from fun r' h => by
        obtain ⟨r1,e1,-,rfl⟩:=F0 h
        obtain ⟨r2,e2,-,rfl⟩:=lL e1
        cases e2
        have h1:=I4 (b9 (b9 r))
        have h2:=I4 (b9 r)
        have h3:=A9 HBI.out.symm
        omega)
       have HM:=hid (show (L ++ [(mkN 2 T9.text 0 [] T9.pos,none,0)] : List Ent).map (·.1)=L.map (·.1) ++ [mkN 2 T9.text 0 [] T9.pos] by rw [List.map_append]; rfl)
       have HLL:=hid (show (L ++ [(mkN 2 T9.text 0 [] T9.pos,none,0)] : List Ent).length=L.length + 1 by simp)
       clear hgrow hat hown hnb t0 t1 t2 t3 htl b0 b1 b2 b3 b4 bf hbl L11 L12 N11 T11 B12 NEW HTO9 hno hsz13 hz12
       go_wp2_with fail
       rw [← hW14]
       clear hW14 x0 x1 hbl13
       go_roundw
       case rel => exact ⟨_,_,_,_,by rw [HLL.out]; omega,L14,by rw [HM.out]; exact HST,N14⟩
       case measure =>
        rw [HFar.out]
        refine Nat.lt_of_le_of_lt (Nat.le_of_eq L14.out.sp.far) ?_
        cases hx : n7 X4 (x6 1 (.ok (b9 r))) with
        | error e => exact Nat.succ_pos _
        | ok r1 =>
          have h1:=HKL.out r1 hx
          show r1.length + 1<r.length + 1
          omega
 case rest =>
  obtain ⟨ao1,cp1,L1,σ2,HQ⟩:=hcut
  have HIM:=hid HQ.out.2.2.1
  have H100:=hid HQ.out.2.1
  replace L5:=hid HQ.out.1
  replace N6:=hid HQ.out.2.2.2
  clear HQ
  go_upto_block 2 with fail
  go_cut [7] from 8 (fun _ wx => ∃ (ao : Option Addr) (cp : Nat) (L : List Ent) (σ4 : Sx),Hid (LB P g cap ts nb 1 ⟨T.text.toArray⟩ at0 ao cp L σ4 w wx∧dY σ2 (L1.map (·.1)) 0=X5 σ4 (L.map (·.1))∧c6 w.heap.size nd0 none 0 wx))
  case first =>
   go_wp2_with fail
   go_loopw [7] (fun v wr => ∃ (n : Nat) (ao : Option Addr) (cp : Nat) (L : List Ent) (σ : Sx),v=.int .i64 n∧n≤200∧L.length≤100 + n∧Hid (LB P g cap ts nb 1 ⟨T.text.toArray⟩ at0 ao cp L σ w wr∧dY σ2 (L1.map (·.1)) 0=dY σ (L.map (·.1)) n∧c6 w.heap.size nd0 none 0 wr)) (fun v _ => 200 - (intOf v).toNat)
   case atStart => exact ⟨0,_,_,L1,_,rfl,Nat.zero_le _,H100,L5,rfl,N6⟩
   case round =>
    obtain ⟨n,ao,cp,L,σ,rfl,hn,hLn,HI⟩:=hrel
    clear L5 N6
    have hpl:=HI.out.1.sp.blocks.1
    obtain ⟨c,p3,hc⟩:=HI.out.1.sp.bad
    cases σ with
    | error q =>
      have e0 : (c == 0)=false:=beq_eq_false_iff_ne.2 (fun e => by obtain ⟨r,hr⟩:=hc.1 e; cases hr)
      clear hc
      go_wp2_with fail
      go_meet
      case rel => exact ⟨ao,cp,L,.error q,HI.out.1,HI.out.2.1,HI.out.2.2⟩
    | ok r =>
      obtain rfl:=hc.2 ⟨r,rfl⟩
      clear hc
      have CI:=hid (cK P g cap ts 0 (.ok r) ⟨#[108,101,116]⟩ wr HI.out.1.sp)
      go_wp2_with fail
      (with_reducible refine Calls.mono CI.out ?_)
      rintro e w7 ⟨bi,rfl,hb,hbi⟩
      have L7:=hid (HI.out.1.below hb)
      have N7:=hid (HI.out.2.2.below hb)
      have HBI:=hid (show bi=isT jU r from hbi r rfl)
      clear hb hbi CI p3 hpl
      cases bi
      ·have HX7:=hid (HI.out.2.1.trans (a1T (ks:=L.map (·.1)) HBI.out.symm))
       go_wp2_with fail
       go_meet
       case rel => exact ⟨ao,cp,L,.ok r,L7,HX7,N7⟩
      ·by_cases h8 : n=200
       ·subst h8
        have HX8:=hid (HI.out.2.1.trans (zV (ks:=L.map (·.1)) HBI.out.symm))
        have C8:=hid (eN P g cap ts 0 (.ok r) w7 L7.out.sp)
        go_wp2_with fail
        (with_reducible refine Calls.mono C8.out ?_)
        rintro e w8 ⟨T8,rfl,hb,hT⟩
        have HT8:=hid (hT r rfl)
        have L8:=hid (L7.out.below hb)
        have N8:=hid (N7.out.below hb)
        obtain ⟨i2,-,hp2⟩:=L8.out.sp.ok
        have C9:=hid (J0 P g cap ts i2 (0 : Nat) w8 76 T8.pos hp2)
        clear hb hT hp2 C8
        unfold tkV
        have hfd:=Y9 T8.kind T8.n T8.pos ⟨T8.text.toArray⟩
        go_wp2_with fail
        (with_reducible refine Calls.mono C9.out ?_)
        rintro e w9 ⟨rfl,hp3,hg⟩
        have L9:=hid (L8.out.step (σ':=.error (76,T8.pos)) (SP.of_error hp3 (by decide) (Int.le_refl _) (by omega)) hg (fun r h => by cases h))
        have N9:=hid (N8.out.grown hg hpP.1)
        clear hp3 hg hfd C9
        go_wp2_with fail
        go_meet
        case rel => exact ⟨ao,cp,L,_,L9,by rw [HX8.out,HT8.out]; rfl,N9⟩
       ·have hl8 : ((n : Int) == 200)=false:=beq_eq_false_iff_ne.2 (by omega)
        have CP:=hid (a2N P g cap ts HE HTK HEx r w7.drew (L7.out.sp.below (r8 (Below.refl _ _))))
        obtain ⟨⟨b0,b1,b2,b3,b4⟩,bf⟩:=L7.out.cells
        have hbl:=L7.out.blt
        have HSB:=hid (show ∀ cur : World,cur.heap[nb]?=w7.heap[nb]?→cur.cell? ⟨nb,3,none⟩=some (.slice ao L.length cp) from fun cur h => (World.cell?_of_block h).trans b3)
        go_upto_region 17 with fail
        refine s3 (S:=fun cur => cur.cell? ⟨nb,3,none⟩=some (.slice ao L.length cp)) (z:=7) (by kernel_rfl) ?_ (fun hHeld => ?_)
        ·exact b3
        refine b8.t 0 ?_; refine b8.t 1 ?_; refine b8.t 2 ?_
        refine b8.nx 3 fun K hK => ?_
        go_simp
        (with_reducible refine Calls.mono CP.out ?_)
        rintro e w8 ⟨t,a,c,rfl,hs,hg,hk⟩
        have hgd : w7.grownBy w8 (some P):=a6 (c9 (r8 (Below.refl _ _))) hg
        have L9:=hid (L7.out.step hs hgd (fun r' h => ⟨r,rfl⟩))
        have N9:=hid (N7.out.grown hgd hpP.1)
        have HST:=hid (HI.out.2.1.trans (a0l (ks:=L.map (·.1)) (by omega) HBI.out.symm (show Is (fN r) t from fun t' r' h => (hk t' r' h).1)))
        have HLI:=hid (show ∀ r',l8 (fN r)=.ok r'→t.lies (fun d => nb + 1≤d∧d<w8.heap.size∧(Value.slice ao L.length cp).ownBlock≠some d) w8 a c from fun r' h => by
         obtain ⟨t',ht⟩:=q6 h
         obtain ⟨rfl,hl⟩:=hk t' r' ht
         exact d6 hl (fun _ _ => rfl) fun d hd => ⟨by have:=hd.1; have : w7.drew.heap.size=w7.heap.size:=rfl; omega,hd.2,fun e => by have:=(L7.out.own d e).2; have:=hd.1; have : w7.drew.heap.size=w7.heap.size:=rfl; omega⟩)
        have hnb8:=hgd.block nb hbl (fun e => by have:=L7.out.lt.1; have:=Option.some.inj e; omega)
        go_wp2_with fail
        refine hK.out _ _ (HSB.out _ hnb8) (fun hHeld => ?_)
        clear hK K hs hg hk CP hgd b0 b1 b2 b3 b4 bf
        try simp only [Act.put,j6,v6,v7]
        have HBX:=hid hnb8
        clear hnb8
        unfold Nd.val at hHeld ⊢
        refine b8.nx 4 fun K hK => ?_
        go_simp
        obtain ⟨W10,hW10⟩ : ∃ W,W=w8.alloc (.cells #[.int .i64 t.kind,.string t.text,.int .i64 t.n,.slice a t.kids.length c,.int .i64 t.place] 24):=⟨_,rfl⟩
        have B10:=hid (show Below w8.heap.size w8 W10 from hW10 ▸ a7 _ _)
        have L10:=hid (L9.out.below B10)
        have NEW:=hid (show ∀ (j : Nat) u,(ndC (t,a,c))[j]?=some u→W10.cell? ((⟨w8.heap.size,0,none⟩ : Addr).add j)=some u from fun j u hu => hW10 ▸ bF _ _ _ _ _ _ _ j u hu)
        have hz10 : nb + 1≤W10.heap.size:=by have:=L10.out.blt; omega
        rw [← hW10]
        clear hW10
        refine hK.out _ _ (HSB.out _ ((B10.out.block nb L9.out.blt).trans HBX)) (fun hHeld => ?_)
        clear hK K
        try simp only [Act.put,j6,v6,v7]
        refine b8.nx 5 fun K hK => ?_
        refine step_append_lies _ rfl _ _ 22 rfl (nb + 1) 24 i0 (.agg #[.int .i64 0,.string ⟨#[]⟩,.int .i64 0,.slice none 0 0,.int .i64 0]) 5 64 Tryz.underlying22 HI0.out.1 HI0.out.2.1 HI0.out.2.2.1 HI0.out.2.2.2 rfl (by decide) (.slice ao L.length cp) L.length (bH L) rfl L10.out.row ⟨w8.heap.size,0,none⟩ 1 1 (ndC (t,a,c)) rfl rfl NEW (iN _) (by decide) (by unfold maxLen; omega) (by omega) hz10 _ rfl ?_
        intro gb cq w11 hown hgrow hat hltg
        have hno : ∀ d,d<nb + 1→(Value.slice ao L.length cp).ownBlock≠some d:=fun d hd e => by have:=(L10.out.own d e).1; omega
        have hnb:=(hgrow.block nb L10.out.blt (fun e => hno nb (by omega) e.symm)).trans L10.out.box
        have x0 : w11.cell? ⟨nb,3,none⟩=some (.slice ao L.length cp):=by simp [World.cell?,hnb]
        have x1 : w11.frozen? ⟨nb,3,none⟩=false:=by simp [World.frozen?,hnb]
        obtain ⟨W12,hW12⟩ : ∃ W,W=w11.setCell ⟨nb,3,none⟩ (.slice (some ⟨gb,0,none⟩) (L.length + 1) cq):=⟨_,rfl⟩
        have L12:=hid (show LB P g cap ts nb 1 ⟨T.text.toArray⟩ at0 (some ⟨gb,0,none⟩) cq (L ++ [(t,a,c)]) (l8 (fN r)) w W12 from hW12 ▸ L9.out.app B10 hgrow hat hown fun r' h => HLI.out r' h)
        have N12:=hid (show c6 w.heap.size nd0 none 0 W12 from hW12 ▸ (c6.set ((hgrow.block w.heap.size (by have:=B10.out.size; have:=L9.out.blt; omega) (fun e => hno w.heap.size (by omega) e.symm)).trans (N9.out.below B10)) (by omega) _ _))
        have hbl11 : nb<w11.heap.size:=by have:=L10.out.blt; have:=hgrow.size; omega
        have HM:=hid (show (L ++ [(t,a,c)] : List Ent).map (·.1)=L.map (·.1) ++ [t] by rw [List.map_append]; rfl)
        have HLL:=hid (show (L ++ [(t,a,c)] : List Ent).length=L.length + 1 by simp)
        refine hK.out _ _ x0 (fun hHeld => ?_)
        clear hK K
        try simp only [Act.put,j6,v6,v7]
        refine b8.nx 6 fun K hK => ?_
        go_simp
        refine hK.out _ _ hHeld (fun hHeld => ?_)
        clear hK K
        try simp only [Act.put,j6,v6,v7]
        refine b8.la fun K hK => ?_
        go_simp
        rw [← hW12]
        refine hK.out _ _ ?_
        clear hK K hHeld hW12 x0 x1 hnb hgrow hat hown hno hbl11 hltg L10 NEW L9 N9 HBX
        go_wp2_with fail
        go_roundw
        case rel => exact ⟨n + 1,_,_,_,_,by go_num,by omega,by rw [HLL.out]; omega,L12,by rw [HM.out]; exact HST,N12⟩
        case measure => simp [intOf]; omega
  case rest =>
   obtain ⟨ao,cp,L,σ4,HQ⟩:=hcut
   have HLE:=hid HQ.out.2.1
   replace L5:=hid HQ.out.1
   replace N6:=hid HQ.out.2.2
   clear HQ
   have HX:=hid (show jP l=goX σ4 fun r => .ok (mkN 1 T.text 0 (L.map (·.1)) at0,r) by
    have h1:=HIM.out
    rw [HS1.out,HS0.out] at h1
    rw [HA.out]
    exact a4I (fun r hr => HT.out r (HS0.out.trans hr)) h1 HLE)
   have HOK:=hid (show ∀ p,jP l=.ok p→bG T from fun p hp => by
    rw [← cQ l jP] at hp
    unfold jP at hp
    replace hp : goX (.ok l) (fun l' => o8 aT l' fun r => U0 1 r fun t r => o8 X4 r fun r => (O6 100 [] r).then fun is r => (fC 200 is.kids r).then fun ls r => .ok (mkN 1 t.text 0 ls.kids (hd l).pos,r))=.ok p:=hp
    rw [A8] at hp
    obtain ⟨r,hr,-⟩:=Q9 hp
    exact HTO.out r (HS0.out.trans hr))
   clear HT HTO HIM HS0 HS1 HLE HA H100
   obtain ⟨⟨b0,b1,b2,b3,b4⟩,-⟩:=L5.out.cells
   obtain ⟨⟨n0,n1,n2,n3,n4⟩,⟨f0,f1,f2,f3,f4⟩⟩:=N6.out.cells
   have hbl:=L5.out.blt
   have hwl : w.heap.size<wc.heap.size:=by omega
   obtain ⟨u,hu⟩ : ∃ u,u=Nd.mk 1 ⟨T.text.toArray⟩ 0 (L.map (·.1)) at0:=⟨_,rfl⟩
   have hul : L.length=u.kids.length:=by rw [hu]; show _=(L.map (·.1)).length; simp
   obtain ⟨W14,hW14⟩ : ∃ W,W=Q7 wc w.heap.size u ao cp:=⟨_,rfl⟩
   have N14:=N6.out.put u ao cp
   have KV : f8 (fun d => nb + 1≤d) wc (Q7 wc w.heap.size u ao cp):=(f8.refl _ wc).put (fun d hd => by omega) _ _ _
   have HR:=hid (show RdL P g cap ts (jP l) w (.returned (u.val ao cp)) W14 from by
    rw [HX.out,hW14]
    refine ⟨u,ao,cp,rfl,by rw [Y6]; exact L5.out.sp.put hpP.1 hpP.2 _ _ _,t6 L5.out.gr (Nat.le_refl _) _ _ _,fun t' r hx => ?_⟩
    have hTk:=HOK.out (t',r) (HX.out.trans hx)
    obtain ⟨r',e1,e2⟩:=Q9 hx
    cases e2
    refine ⟨by rw [hu]; rfl,?_⟩
    have hl:=L5.out.tree e1 (show (Lit.int .i64 1).wf=true by rfl) HAT (by have:=hTk.2.2; unfold maxLen; show T.text.toArray.size≤_; simp; omega)
    rw [← hu] at hl
    exact d6 hl (fun d hd => KV d hd.1) fun d hd => ⟨by have:=hd.1; omega,by rw [size_put]; exact hd.2⟩)
   rw [← hW14] at N14
   unfold Q7 at hW14
   rw [← hul,show u.kind=1 by rw [hu]; rfl,show u.text=⟨T.text.toArray⟩ by rw [hu]; rfl,show u.n=0 by rw [hu]; rfl,show u.place=at0 by rw [hu]; rfl] at hW14
   have HW14:=hid hW14
   clear hW14 hul hu KV
   go_wp2_with fail
   rw [← HW14.out]
   obtain ⟨⟨z0,z1,z2,z3,z4⟩,-⟩:=N14.cells
   refine bodyPost_ret (v:=u.val ao cp) (by simp [results,Tryz.results63,go_sem,Nd.val,z0,z1,z2,z3,z4]) rfl ?_
   exact HR
end
section
open Lib (hid)
open Go.RowKit
def bE (l : List UInt8) : Except (Int × Int) Nd:=match aD l with
 | .error e => .error e
 | .ok ts => a5m (jP ts)
def tP (x : Except (Int × Int) Nd) (w : World) (e : Ending) (w' : World) : Prop :=
 ∃ (t : Nd) (a : Option Addr) (cp : Nat) (f k : Int),e=.returned (.tuple #[t.val a cp,.int .i64 f,.int .i64 k])∧Below w.heap.size w w'∧match x with
  | .ok u => u=t∧f=0∧k=0∧t.lies (Fr w.heap.size w'.heap.size) w' a cp
  | .error (c,p) => k=c∧f=p∧c≠0
theorem kY.m {x : Except (Int × Int) Nd} {w w' : World} {e : Ending} (h : kY x w e w') : tP x w e w':=by
 obtain ⟨t,a,cp,f,k,h1,h2,h3⟩:=h
 refine ⟨t,a,cp,f,k,h1,h2,?_⟩
 match x,h3 with
 | .ok u,h3 => exact ⟨h3.1,h3.2.1,h3.2.2.1,h3.2.2.2.1⟩
 | .error (c,p),h3 => exact h3
theorem uP {u t : Nd} {a : Option Addr} {cp b lo : Nat} {W4 W5 W6 : World} (h : u=t∧t.lies (Fr W4.heap.size W5.heap.size) W5 a cp) (hW : W6=Q7 W5 b t a cp) (h0 : lo≤W4.heap.size) (hb : b<W4.heap.size) : u=t∧t.lies (Fr lo W6.heap.size) W6 a cp:=by
 refine ⟨h.1,d6 h.2 (hW ▸ (f8.refl _ _).put (fun k hk e => by have:=hk.1; omega) t a cp) fun k hk => ⟨Nat.le_trans h0 hk.1,?_⟩⟩
 rw [hW,size_put]
 exact hk.2
theorem a2V {u t : Nd} {a : Option Addr} {cp : Nat} {x : Except (Int × Int) Nd} {w W6 W7 : World} {P : Nat} (hx : x=.ok u) (hl : u=t∧t.lies (Fr (w.heap.size + 1) W6.heap.size) W6 a cp) (hb : Below W6.heap.size W6 W7) (hg : w.grownBy W6 (some P)) (hP : w.heap.size≤P) :
 tP x w (.returned (.tuple #[t.val a cp,.int .i64 0,.int .i64 0])) (Q7 W7 w.heap.size t a cp):=by
 subst hx
 refine ⟨t,a,cp,0,0,rfl,aQ (t6 (c8 hg (hb.mono hg.size)) (Nat.le_refl _) t a cp) hP,hl.1,rfl,rfl,?_⟩
 refine d6 hl.2 (((show f8 _ W6 W7 from fun k hk => hb.block k hk.2)).put (fun k hk e => by have:=hk.1; omega) t a cp) fun k hk => ⟨by have:=hk.1; omega,?_⟩
 rw [size_put]
 exact Nat.lt_of_lt_of_le hk.2 hb.size
theorem zG {t : Nd} {a : Option Addr} {cp : Nat} {f k : Int} {x : Except (Int × Int) Nd} {w W1 W2 : World} (hx : match x with
 | .ok u => u=t∧f=0∧k=0∧t.lies (Fr W1.heap.size W2.heap.size) W2 a cp
 | .error (c,p) => k=c∧f=p∧c≠0) (hb : Below w.heap.size w W2) (hlt : w.heap.size < W1.heap.size) :
 tP x w (.returned (.tuple #[t.val a cp,.int .i64 f,.int .i64 k])) (Q7 W2 w.heap.size t a cp):=by
 refine ⟨t,a,cp,f,k,rfl,aQ (P:=w.heap.size) (t6 (c9 hb) (Nat.le_refl _) t a cp) (Nat.le_refl _),?_⟩
 match x,hx with
 | .ok u,hx =>
   refine ⟨hx.1,hx.2.1,hx.2.2.1,d6 hx.2.2.2 ((f8.refl _ _).put (fun k hk e => by have:=hk.1; omega) t a cp) fun k hk => ⟨by have:=hk.1; omega,?_⟩⟩
   rw [size_put]
   exact hk.2
 | .error (c,p),hx => exact hx
theorem xP (s : ByteArray) (w : World) (hs : s.size≤maxLen) :
 Calls Tryz.prog 34 #[.string s,.bool true] w (tP (bE s.data.toList) w):=by
 obtain ⟨W1,hW1⟩ : ∃ W,W=w.alloc (.cells #[.int .i64 0,.string ⟨#[]⟩,.int .i64 0,.slice none 0 0,.int .i64 0] 24):=⟨_,rfl⟩
 have B1:=hid (show c6 w.heap.size nd0 none 0 W1 from hW1 ▸ c6.make w nd0 none 0)
 have E1:=hid (show Below w.heap.size w W1 from hW1 ▸ a7 _ _)
 obtain ⟨X,hX⟩ : ∃ X,X=bE s.data.toList:=⟨_,rfl⟩
 rw [← hX]
 have C1:=hid (a0B s W1 hs)
 unfold bE at hX
 generalize hsc : aD s.data.toList=x at C1 hX
 have HX:=hid hX
 have HSC:=hid hsc
 clear hX hsc hs
 go_enter Tryz.func34,Tryz.ntmps34
 go_wp2_with fail
 rw [← hW1]
 clear hW1
 (with_reducible refine Calls.mono C1.out ?_)
 intro e W2 hsp
 obtain ⟨hb,hsp⟩:=hsp
 have B2:=hid (B1.out.below hb)
 have G2:=hid (c9 (r:=some w.heap.size) (E1.out.trans (hb.mono E1.out.size)))
 have HB2:=hid hb
 clear hb C1
 cases x with
 | error q =>
   obtain ⟨c,p⟩:=q
   obtain ⟨hc,rfl⟩:=hsp
   have ek : (c != 0)=true:=bne_iff_ne.2 hc
   have HC:=hid hc
   have HX':=hid (show X=.error (c,p) from HX)
   obtain ⟨⟨z0,z1,z2,z3,z4⟩,⟨f0,f1,f2,f3,f4⟩⟩:=B2.out.cells
   have hsz : w.heap.size<W2.heap.size:=B2.out.lt
   clear hc HX
   go_wp2_with fail
   refine bodyPost_ret (v:=.tuple #[nd0.val none 0,.int .i64 p,.int .i64 c]) (by simp [results,Tryz.results34,go_sem,Nd.val,nd0,Nd.kind,Nd.text,Nd.n,Nd.kids,Nd.place,z0,z1,z2,z3,z4]) rfl ?_
   exact kY.m (a2n HX' HC G2 (Nat.le_refl _))
 | ok ts =>
   obtain ⟨g,cap,rfl,how⟩:=hsp
   obtain ⟨htk,htz,he,hne⟩:=wR HSC
   have HTK:=hid htk
   have HTZ:=hid htz
   have HEn:=hid he
   have P3':=hid (SP.make how hne)
   have hgw:=hid (show w.heap.size<W2.heap.size∧W1.heap.size≤g∧g<W2.heap.size from ⟨B2.out.lt,(how.lt g rfl).1,(how.lt g rfl).2⟩)
   have HW1:=hid (show w.heap.size<W1.heap.size from B1.out.lt)
   clear htk htz he hne how
   obtain ⟨W3,hW3⟩ : ∃ W,W=W2.alloc (.cells #[.slice (some ⟨g,0,none⟩) ts.length cap,.int .i64 0,.int .i64 0,.int .i64 0,.int .i64 0] 105):=⟨_,rfl⟩
   have P3:=hid (show SP W2.heap.size g cap ts 0 (.ok ts) W3 from hW3 ▸ P3'.out)
   have E3:=hid (show Below W2.heap.size W2 W3 from hW3 ▸ a7 _ _)
   have hs3 : W3.heap.size=W2.heap.size + 1:=by rw [hW3]; simp
   obtain ⟨W4,hW4⟩ : ∃ W,W=W3.alloc (.cells #[.int .i64 0,.string ⟨#[]⟩,.int .i64 0,.slice none 0 0,.int .i64 0] 24):=⟨_,rfl⟩
   have N4:=hid (show c6 W3.heap.size nd0 none 0 W4 from hW4 ▸ c6.make W3 nd0 none 0)
   have E4:=hid (show Below W3.heap.size W3 W4 from hW4 ▸ a7 _ _)
   have P4:=hid (P3.out.below E4)
   have B4:=hid ((B2.out.below E3).below E4)
   have G4:=hid (show w.grownBy W4 (some W2.heap.size) from c9 ((E1.out.trans (HB2.out.mono E1.out.size)).trans ((E3.out.trans (E4.out.mono E3.out.size)).mono (Nat.le_of_lt hgw.out.1))))
   have hne4:=hid (show (w.heap.size≠W2.heap.size∧w.heap.size≠g)∧(W3.heap.size≠W2.heap.size∧W3.heap.size≠g)∧w.heap.size≠W3.heap.size∧W2.heap.size≠g by have:=hgw.out; have:=HW1.out; omega)
   have C5:=hid (uJ W2.heap.size g cap ts HEn HTK (a1h W2.heap.size g cap ts HEn HTK HTZ) ts W4 P4)
   have HXe:=hid (show X=a5m (jP ts) from HX)
   generalize jP ts=y at C5 HXe
   clear HX P3'
   have HS3:=hid hs3
   go_upto_region 5 with fail
   rw [← hW3]
   clear hW3 hs3
   go_upto_region 6 with fail
   rw [← hW4]
   clear hW4
   go_wp2_with fail
   (with_reducible refine Calls.mono C5.out ?_)
   rintro e W5 ⟨t,a,cp,rfl,hs,hg,hk⟩
   have HK:=hid hk
   have P5:=hid hs
   have G5:=hid (a6 G4 hg)
   have B5:=hid (B4.out.grown hg hne4.out.1.1)
   have N5:=hid (N4.out.grown hg hne4.out.2.1.1)
   have HS5:=hid (show W4.heap.size≤W5.heap.size from hg.size)
   clear hs hg hk C5
   obtain ⟨W6,hW6⟩ : ∃ W,W=Q7 W5 W3.heap.size t a cp:=⟨_,rfl⟩
   have P6:=hid (show SP W2.heap.size g cap ts 0 (l8 y) W6 from hW6 ▸ P5.out.put hne4.out.2.1.1 hne4.out.2.1.2 t a cp)
   have B6:=hid (show c6 w.heap.size nd0 none 0 W6 from hW6 ▸ B5.out.oput hne4.out.2.2.1 t a cp)
   have N6:=hid (show c6 W3.heap.size t a cp W6 from hW6 ▸ N5.out.put t a cp)
   have G6:=hid (show w.grownBy W6 (some W2.heap.size) from hW6 ▸ t6 G5 (by have:=hgw.out; have:=HS3.out; omega) t a cp)
   obtain ⟨⟨n0,n1,n2,n3,n4⟩,⟨e0,e1,e2,e3,e4⟩⟩:=N5.out.cells
   have hl5 : W3.heap.size<W5.heap.size:=N5.out.lt
   have hW6':=hW6
   unfold Q7 at hW6'
   unfold Nd.val
   go_upto_region 9 with fail
   rw [← hW6']
   have HW6:=hid hW6
   clear hW6 hW6' n0 n1 n2 n3 n4 e0 e1 e2 e3 e4 hl5
   have hpl : W2.heap.size<W6.heap.size:=P6.out.blocks.1
   cases hy : y with
   | error q =>
     obtain ⟨c,p⟩:=q
     have P6':=P6.out
     rw [hy] at P6'
     have HX':=hid (show X=.error (c,p) by rw [HXe.out,hy]; rfl)
     obtain ⟨hc,i,n,hp,-,-⟩:=P6'.error
     obtain ⟨⟨p0,p1,p2,p3,p4⟩,-⟩:=hp.cells
     have ek : (c == 0)=false:=beq_eq_false_iff_ne.2 hc
     have ek' : (c != 0)=true:=bne_iff_ne.2 hc
     have HC:=hid hc
     obtain ⟨⟨z0,z1,z2,z3,z4⟩,⟨f0,f1,f2,f3,f4⟩⟩:=B6.out.cells
     have hsz : w.heap.size<W6.heap.size:=B6.out.lt
     have hb1 : ¬ w.heap.size=W2.heap.size:=hne4.out.1.1
     have hb2 : ¬ W2.heap.size=w.heap.size:=fun h => hb1 h.symm
     clear hc hp P6' hy
     go_wp2_with fail
     go_region
     all_goals
      go_wp2_with fail
      refine bodyPost_ret (v:=.tuple #[nd0.val none 0,.int .i64 p,.int .i64 c]) (by simp [results,Tryz.results34,go_sem,Nd.val,nd0,Nd.kind,Nd.text,Nd.n,Nd.kids,Nd.place,z0,z1,z2,z3,z4]) rfl ?_
      exact kY.m (pJ HX' HC G6 (Nat.le_of_lt hgw.out.1))
   | ok q =>
     obtain ⟨u,r⟩:=q
     have P6':=P6.out
     rw [hy] at P6'
     have HL6:=hid (uP (HK.out u r hy) HW6 (lo:=w.heap.size + 1) (by have:=hgw.out; have:=E4.out.size; have:=HS3.out; omega) N4.out.lt)
     obtain ⟨i,hr,hp⟩:=P6'.ok
     have hT:=gC hp.pos
     rw [← hr] at hT
     have HPS:=hid hp
     obtain ⟨⟨p0,p1,p2,p3,p4⟩,-⟩:=hp.cells
     have CL:=hid (show ∀ W,PS W2.heap.size g cap ts i 0 0 0 W→Calls Tryz.prog 65 #[.pointer (some ⟨W2.heap.size,0,none⟩)] W fun e w' => e=.returned (tkV (hd r))∧Below W.heap.size W w' from fun W h => by
      have:=X9 W2.heap.size g cap ts i 0 0 0 W h
      rwa [← hT] at this)
     have HX':=hid (show X=if (hd r).kind=0 then .ok u else .error (74,(hd r).pos) by rw [HXe.out,hy]; rfl)
     generalize hd r=T at CL HX'
     have C7:=hid (CL.out W6 HPS)
     have hfd:=Y9 T.kind T.n T.pos ⟨T.text.toArray⟩
     have hfk:=a3w T.kind T.n T.pos ⟨T.text.toArray⟩
     clear P6' hp hr hT hy
     go_wp2_with fail
     (with_reducible refine Calls.mono C7.out ?_)
     rintro e W7 ⟨rfl,hb⟩
     have HB7:=hid hb
     have HPS7:=hid (HPS.out.below hb)
     have B7:=hid (B6.out.below hb)
     have N7:=hid (N6.out.below hb)
     have G7:=hid (c8 G6 (hb.mono G6.out.size))
     clear hb C7 p0 p1 p2 p3 p4 hpl
     obtain ⟨⟨p0,p1,p2,p3,p4⟩,-⟩:=HPS7.out.cells
     have hpl : W2.heap.size<W7.heap.size:=HPS7.out.plt
     unfold tkV
     by_cases hk : T.kind=0
     ·have ek : (T.kind != 0)=false:=by rw [hk]; rfl
      have HX2:=hid (show X=.ok u by rw [HX'.out,if_pos hk])
      obtain ⟨⟨n0,n1,n2,n3,n4⟩,-⟩:=N7.out.cells
      obtain ⟨⟨z0,z1,z2,z3,z4⟩,⟨f0,f1,f2,f3,f4⟩⟩:=B7.out.cells
      have hsz : w.heap.size<W7.heap.size:=B7.out.lt
      have hs3' : W3.heap.size<W7.heap.size:=N7.out.lt
      clear hk
      go_wp2_with fail
      refine bodyPost_ret (v:=.tuple #[t.val a cp,.int .i64 0,.int .i64 0]) (by simp [results,Tryz.results34,go_sem,Nd.val,z0,z1,z2,z3,z4]) rfl ?_
      exact a2V HX2 HL6 HB7 G6 (Nat.le_of_lt hgw.out.1)
     ·have ek : (T.kind != 0)=true:=bne_iff_ne.2 hk
      have HX2:=hid (show X=.error (74,T.pos) by rw [HX'.out,if_neg hk])
      clear hk
      have C8:=hid (CL.out W7 HPS7)
      go_wp2_with fail
      (with_reducible refine Calls.mono C8.out ?_)
      rintro e W8 ⟨rfl,hb⟩
      have HPS8:=hid (HPS7.out.below hb)
      have B8:=hid (B7.out.below hb)
      have G8:=hid (c8 G7 (hb.mono G7.out.size))
      have C9:=hid (J0 W2.heap.size g cap ts i 0 W8 74 T.pos HPS8)
      clear hb C8 p0 p1 p2 p3 p4 hpl
      unfold tkV
      go_wp2_with fail
      (with_reducible refine Calls.mono C9.out ?_)
      rintro e W9 ⟨rfl,hp9,hg9⟩
      have B9:=hid (B8.out.grown hg9 hne4.out.1.1)
      have G9:=hid (a6 G8 hg9)
      obtain ⟨⟨p0,p1,p2,p3,p4⟩,-⟩:=hp9.cells
      have hpl : W2.heap.size<W9.heap.size:=hp9.plt
      obtain ⟨⟨z0,z1,z2,z3,z4⟩,⟨f0,f1,f2,f3,f4⟩⟩:=B9.out.cells
      have hsz : w.heap.size<W9.heap.size:=B9.out.lt
      have hb1 : ¬ w.heap.size=W2.heap.size:=hne4.out.1.1
      have hb2 : ¬ W2.heap.size=w.heap.size:=fun h => hb1 h.symm
      clear hp9 hg9 C9
      go_wp2_with fail
      go_region
      all_goals
       go_wp2_with fail
       refine bodyPost_ret (v:=.tuple #[nd0.val none 0,.int .i64 T.pos,.int .i64 74]) (by simp [results,Tryz.results34,go_sem,Nd.val,nd0,Nd.kind,Nd.text,Nd.n,Nd.kids,Nd.place,z0,z1,z2,z3,z4]) rfl ?_
       exact kY.m (pJ HX2 (by decide) G9 (Nat.le_of_lt hgw.out.1))
theorem pM (s : ByteArray) (w : World) (hs : s.size≤maxLen) :
 Calls Tryz.prog 14 #[.string s] w (tP (bE s.data.toList) w):=by
 obtain ⟨W1,hW1⟩ : ∃ W,W=w.alloc (.cells #[.int .i64 0,.string ⟨#[]⟩,.int .i64 0,.slice none 0 0,.int .i64 0] 24):=⟨_,rfl⟩
 have B1:=hid (show c6 w.heap.size nd0 none 0 W1 from hW1 ▸ c6.make w nd0 none 0)
 have E1:=hid (show Below w.heap.size w W1 from hW1 ▸ a7 _ _)
 have C1:=hid (xP s W1 hs)
 generalize bE s.data.toList=x at C1
 go_enter Tryz.func14,Tryz.ntmps14
 go_wp2_with fail
 rw [← hW1]
 clear hW1
 (with_reducible refine Calls.mono C1.out ?_)
 rintro e W2 ⟨t,a,cp,f,k,rfl,hb,hx⟩
 have B2:=hid (B1.out.below hb)
 have HB2:=hid hb
 have HX:=hid hx
 clear hb hx C1
 obtain ⟨⟨z0,z1,z2,z3,z4⟩,⟨f0,f1,f2,f3,f4⟩⟩:=B2.out.cells
 have hsz : w.heap.size<W2.heap.size:=B2.out.lt
 unfold Nd.val
 go_wp2_with fail
 refine bodyPost_ret (v:=.tuple #[t.val a cp,.int .i64 f,.int .i64 k]) (by simp [results,Tryz.results14,go_sem,Nd.val,z0,z1,z2,z3,z4]) rfl ?_
 exact zG HX (E1.out.trans (HB2.out.mono E1.out.size)) B1.out.lt
end
end Go.Proofs.YtppcfebnaieciaaGreatDoor
