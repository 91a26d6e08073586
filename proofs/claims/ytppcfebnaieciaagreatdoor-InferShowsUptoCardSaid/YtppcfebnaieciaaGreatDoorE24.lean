/-
  Laws that the proof rests on.
-/
import Derived.Test.YtppcfebnaieciaaGreatDoorE23
namespace Go.Proofs.YtppcfebnaieciaaGreatDoor
set_option maxRecDepth 100000
set_option maxHeartbeats 16000000
section
open Lib (hid)
open Go.RowKit
theorem oN (ws : List (List UInt8)) (r : List Tk) (k : Nat) (hk : k<ws.length) : (ws.take (k + 1)).any (fun w => isT w r)=((ws.take k).any (fun w => isT w r) || isT ws[k] r):=by
 rw [List.take_succ_eq_append_getElem hk,List.any_append,List.any_cons,List.any_nil,Bool.or_false]
def a2U (P g cap : Nat) (ts : List Tk) (nest lv : Nat) (l : List Tk) (X : Rd) (lo : Nat) (b5 : Nat) (wr : World) (t : Nd) (a : Option Addr) (cp : Nat) (y : Rd) : Prop :=
 c6 b5 t a cp wr∧SP P g cap ts nest (l9 y) wr∧(X=y.then fun t r => rd (.loop lv t) nest r)∧∀ t' r,y=.ok (t',r)→t'=t∧(∃ av : Nat→Prop,(∀ c,av c→lo≤c∧c<wr.heap.size∧c≠b5)∧t.lies av wr a cp)∧j3 t≤100∧r.length≤l.length
theorem a4d (lv : Nat) (t : Nd) (nest : Nat) (r : List Tk) : rd (.loop lv t) nest r=if jA (R9 lv) r=true then (rd (aS lv) nest (b9 r)).then fun m r' => (made (mkN 13 (hd r).text 0 [t,m] (hd r).pos) r').then fun t r => rd (.loop lv t) nest r else .ok (t,r):=kS (.loop lv t) nest r
theorem dL (P g cap : Nat) (ts : List Tk) (he : bT ts) (htk : ∀ t∈ts,bP t) (lv : Nat) (hlv : lv≤3) (l : List Tk) (hL : CL P g cap ts lv l) (hL2 : ∀ r,r.length<l.length→CL P g cap ts lv r) : CC P g cap ts lv l:=by
 intro nest w hn h
 obtain ⟨V,hV⟩ : ∃ V,V=w.alloc (.cells #[.int .i64 0,.string ⟨#[]⟩,.int .i64 0,.slice none 0 0,.int .i64 0] 24):=⟨_,rfl⟩
 have HBV:=hid (show Below w.heap.size w V from hV ▸ a7 w _)
 have N1:=hid (show c6 w.heap.size nd0 none 0 V from hV ▸ c6.make w nd0 none 0)
 have hS:=hid (h.below HBV)
 have hb0:=hid h.blocks
 have HP:=hid (show w.heap.size≠P∧w.heap.size≠g from ⟨Nat.ne_of_gt hb0.out.1,Nat.ne_of_gt hb0.out.2⟩)
 have HL2:=hid hL2
 have HTK:=hid htk
 have HLV:=hid hlv
 have HE:=hid he
 obtain ⟨X,hX⟩ : ∃ X,X=rd (.chain lv) nest l:=⟨_,rfl⟩
 rw [← hX]
 have HX:=hid (show X=(rd (aS lv) nest l).then fun t r => rd (.loop lv t) nest r from hX.trans (kS (.chain lv) nest l))
 have C1:=hid (hL nest V hn hS)
 have HLen:=hid (fun t r (h : rd (aS lv) nest l=.ok (t,r)) => jK (aS lv) nest l h)
 generalize rd (aS lv) nest l=y at HX C1 HLen
 have HVs:=hid (show w.heap.size<V.heap.size from N1.out.lt)
 have HPV:=hid (show P<V.heap.size from hS.out.blocks.1)
 clear hX h hL hL2 htk hlv he
 go_enter Tryz.func103,Tryz.ntmps103
 go_wp2_with fail
 rw [← hV]
 clear hV
 (with_reducible refine Calls.mono C1.out ?_)
 rintro e w2 ⟨t,a,cp,rfl,hs,hg,hk⟩
 have N2:=hid (N1.out.grown hg HP.out.1)
 have G2:=hid (a6 (c9 HBV) hg)
 have HK:=hid hk
 have hP2:=hid (show w2.heap.size≠P∧w2.heap.size≠g∧w.heap.size<w2.heap.size∧V.heap.size≤w2.heap.size by have:=hs.blocks; have:=N2.out.lt; have:=hg.size; omega)
 obtain ⟨W3,hW3⟩ : ∃ W,W=w2.alloc (.cells #[.int .i64 t.kind,.string t.text,.int .i64 t.n,.slice a t.kids.length cp,.int .i64 t.place] 24):=⟨_,rfl⟩
 have HB3:=hid (show Below w2.heap.size w2 W3 from hW3 ▸ a7 _ _)
 have M3:=hid (show c6 w2.heap.size t a cp W3 from hW3 ▸ c6.make w2 t a cp)
 have N3:=hid (N2.out.below HB3)
 have G3:=hid (c8 G2 (HB3.out.mono G2.out.size))
 have I3:=hid (show a2U P g cap ts nest lv l X V.heap.size w2.heap.size W3 t a cp y from ⟨M3,SP.below hs HB3,HX,fun t' r hy => by
  obtain ⟨e,hl,hd⟩:=HK.out t' r hy
  exact ⟨e,⟨Fr V.heap.size w2.heap.size,fun c hc => ⟨hc.1,Nat.lt_of_lt_of_le hc.2 HB3.out.size,Nat.ne_of_lt hc.2⟩,d8 hl (fun b hb => HB3.out.block b hb.2) fun b hb => hb⟩,hd,HLen.out t' r hy⟩⟩)
 clear hs hg hk
 unfold Nd.val
 go_upto_region 2 with fail
 rw [← hW3]
 have HW3:=hid (show W3.heap.size≤W3.heap.size from Nat.le_refl _)
 clear hW3 C1
 go_loopw [6,7,8,9,10,11] (fun _ _ _ _ _ _ wr => ∃ (t : Nd) (a : Option Addr) (cp : Nat) (y : Rd),Hid (a2U P g cap ts nest lv l X V.heap.size w2.heap.size wr t a cp y)∧Hid (c6 w.heap.size nd0 none 0 wr)∧Hid (w.grownBy wr (some P))∧Hid (W3.heap.size≤wr.heap.size)) (fun _ _ _ _ _ _ wr => oP P ts wr)
 case atStart => exact ⟨t,a,cp,y,I3,N3,G3,HW3⟩
 case round =>
  obtain ⟨t,a,cp,y,HI,HN,HG,HW⟩:=hrel
  clear N1 N2 N3 M3 G2 G3 I3 HK HX HLen
  have HI0:=HI
  obtain ⟨M,hs,hX,hk⟩:=HI.out
  have hpl:=hs.blocks.1
  cases y with
  | error q =>
    obtain ⟨k,p⟩:=q
    obtain ⟨hk0,i,n,hp,-,-⟩:=hs.error
    obtain ⟨⟨p0,p1,p2,p3,p4⟩,-⟩:=hp.cells
    have ek : (k == 0)=false:=beq_eq_false_iff_ne.2 hk0
    have HS:=hid hs
    obtain ⟨⟨z0,z1,z2,z3,z4⟩,⟨f0,f1,f2,f3,f4⟩⟩:=HN.out.cells
    obtain ⟨⟨n0,n1,n2,n3,n4⟩,-⟩:=M.cells
    have hsz : w.heap.size<wr.heap.size∧w2.heap.size<wr.heap.size:=⟨HN.out.lt,M.lt⟩
    have HX:=hid (show X=.error (k,p) from hX)
    clear HI HI0 M hs hX hk hk0 hp
    go_wp2_with fail
    refine bodyPost_ret (v:=t.val a cp) (by simp [results,Tryz.results103,go_sem,Nd.val,z0,z1,z2,z3,z4]) rfl ?_
    rw [HX.out]
    exact RdP.fin (x:=.error (k,p)) HS HG HP (Nat.le_refl _) (fun _ _ h => by cases h)
  | ok q =>
    obtain ⟨t',r⟩:=q
    obtain ⟨rfl,hlies,hd,hlen⟩:=hk t' r rfl
    have HS:=hid (show SP P g cap ts nest (.ok r) wr from hs)
    obtain ⟨i,-,hp⟩:=HS.out.ok
    obtain ⟨⟨p0,p1,p2,p3,p4⟩,-⟩:=hp.cells
    have HX:=hid (show X=rd (.loop lv t') nest r from hX)
    have HM:=hid M
    have HLies:=hid hlies
    have HD:=hid hd
    have HLen:=hid hlen
    have HFar:=hid (show oP P ts wr=r.length + 1 from HS.out.far)
    have C2:=hid (xH lv HLV wr)
    clear HI HI0 M hs hX hk hp hlies hd hlen
    go_wp2_with fail
    (with_reducible refine Calls.mono C2.out ?_)
    rintro e w4 ⟨b,rfl,hb,hbb,hsg⟩
    have HS4:=hid (HS.out.below hb)
    have HN4:=hid (HN.out.below hb)
    have HM4:=hid (HM.out.below hb)
    have HB4:=hid hb
    have HSG:=hid (show ∀ i (hi : i<(R9 lv).length),w4.cell? ⟨b,i,none⟩=some (.string ⟨(R9 lv)[i].toArray⟩) from hsg)
    have HSA:=hid (show jA (R9 lv) r=(R9 lv).any (fun w => isT w r) from rfl)
    have hsgl : b<w4.heap.size:=hbb.2
    have HBB:=hid hbb
    have HLQ:=hid (a4d lv t' nest r)
    have HSL:=hid (show (R9 lv).length≤4 from by unfold R9; split; decide; split; decide; split <;> decide)
    generalize R9 lv=sg at HSG HSA HLQ HSL ⊢
    have hsgm : sg.length≤4:=HSL.out
    have G4:=hid (c8 HG (HB4.out.mono HG.out.size))
    have HW4:=hid (Nat.le_trans HW HB4.out.size)
    have HL4:=hid (show ∃ av : Nat→Prop,(∀ c,av c→V.heap.size≤c∧c<w4.heap.size∧c≠w2.heap.size)∧t'.lies av w4 a cp from by
     obtain ⟨av,hav,hl⟩:=HLies.out
     exact ⟨av,fun c hc => ⟨(hav c hc).1,Nat.lt_of_lt_of_le (hav c hc).2.1 HB4.out.size,(hav c hc).2.2⟩,d8 hl (fun b hb => HB4.out.block b (hav b hb).2.1) fun b hb => hb⟩)
    clear hb hsg hbb p0 p1 p2 p3 p4 hpl C2
    go_wp2_with fail
    go_loopw [6,8,9] (fun f i _ wi => ∃ (k : Nat),k≤sg.length∧i=.int .i64 k∧f=.bool ((sg.take k).any fun w => isT w r)∧Hid (Below w4.heap.size w4 wi)) (fun _ i _ _ => sg.length - (intOf i).toNat)
    case atStart => exact ⟨0,Nat.zero_le _,rfl,rfl,Below.refl _ _⟩
    case round =>
     obtain ⟨k,hk,rfl,rfl,HBi⟩:=hrel
     have HSi:=hid (HS4.out.below HBi)
     by_cases hlt : k<sg.length
     ·have hc0:=(HBi.out.cell (p:=⟨b,k,none⟩) hsgl).trans (HSG.out k hlt)
      have D1:=hid (dA P g cap ts nest (.ok r) ⟨sg[k].toArray⟩ wr HSi)
      have HTk:=hid (oN sg r k hlt)
      generalize ((sg.take k).any fun w => isT w r)=f0 at HTk ⊢
      go_wp2_with fail
      (with_reducible refine Calls.mono D1.out ?_)
      rintro e w6 ⟨b1,rfl,hb,hb1⟩
      have HB6:=hid (HBi.out.trans (hb.mono HBi.out.size))
      have HT1:=hid (hb1 r rfl)
      clear hb hb1
      cases f0
      ·go_wp2_with fail
       go_roundw
       case rel => exact ⟨k + 1,by omega,by go_num,by rw [HTk.out,HT1.out]; simp,HB6⟩
       case measure => simp [intOf]; omega
      ·go_wp2_with fail
       go_roundw
       case rel => exact ⟨k + 1,by omega,by go_num,by rw [HTk.out]; simp,HB6⟩
       case measure => simp [intOf]; omega
     ·have HF:=hid (show ((sg.take k).any fun w => isT w r)=jA sg r from by rw [List.take_of_length_le (by omega)]; rfl)
      have HNi:=hid (HN4.out.below HBi)
      have HMi:=hid (HM4.out.below HBi)
      have Gi:=hid (c8 G4 (HBi.out.mono G4.out.size))
      have HWi:=hid (Nat.le_trans HW4 HBi.out.size)
      have HLi:=hid (show ∃ av : Nat→Prop,(∀ c,av c→V.heap.size≤c∧c<wr.heap.size∧c≠w2.heap.size)∧t'.lies av wr a cp from by
       obtain ⟨av,hav,hl⟩:=HL4.out
       exact ⟨av,fun c hc => ⟨(hav c hc).1,Nat.lt_of_lt_of_le (hav c hc).2.1 HBi.out.size,(hav c hc).2.2⟩,d8 hl (fun b hb => HBi.out.block b (hav b hb).2.1) fun b hb => hb⟩)
      generalize ((sg.take k).any fun w => isT w r)=B at HF ⊢
      clear HN4 HM4 HL4 HLies HN HM
      cases B
      ·obtain ⟨⟨z0,z1,z2,z3,z4⟩,⟨f0,f1,f2,f3,f4⟩⟩:=HNi.out.cells
       obtain ⟨⟨n0,n1,n2,n3,n4⟩,-⟩:=HMi.out.cells
       have hsz : w.heap.size<wr.heap.size∧w2.heap.size<wr.heap.size:=⟨HNi.out.lt,HMi.out.lt⟩
       go_wp2_with fail
       refine bodyPost_ret (v:=t'.val a cp) (by simp [results,Tryz.results103,go_sem,Nd.val,z0,z1,z2,z3,z4]) rfl ?_
       have hx : X=.ok (t',r):=by rw [HX.out,HLQ.out,if_neg (by rw [← HF.out]; decide)]
       rw [hx]
       refine RdP.fin (x:=.ok (t',r)) HSi Gi HP (Nat.le_refl _) fun t2 r2 h2 => ?_
       cases h2
       obtain ⟨av,hav,hl⟩:=HLi.out
       exact ⟨rfl,⟨av,fun c hc => ⟨fun e => by subst e; have:=(hav _ hc).1; have:=HVs.out; omega,by have:=(hav _ hc).1; have:=HVs.out; omega,(hav c hc).2.1⟩,hl⟩,HD⟩
      ·have HAny:=hid (show jA sg r=true from HF.out.symm)
       have D4:=hid (O4 P g cap ts nest (.ok r) wr HSi HE)
       have HT0:=hid (HTK.out _ HSi.out.mem)
       have hstep:=gW HAny
       have HC5:=hid (HL2.out (b9 r) (by have:=HLen.out; omega))
       have HR:=hid (show X=(rd (aS lv) nest (b9 r)).then fun m r' => (made (mkN 13 (hd r).text 0 [t',m] (hd r).pos) r').then fun t r => rd (.loop lv t) nest r from by
        rw [HX.out,HLQ.out,if_pos HAny.out])
       have HRL:=hid (fun t q (h : rd (aS lv) nest (b9 r)=.ok (t,q)) => jK (aS lv) nest (b9 r) h)
       have HST:=hid hstep
       clear hstep HF HX HLQ HSA
       go_wp2_with fail
       (with_reducible refine Calls.mono D4.out ?_)
       rintro e w8 ⟨T,rfl,hs,hg,hT⟩
       have HT:=hid (hT r rfl)
       have N8:=hid (HNi.out.grown hg HP.out.1)
       have M8:=hid (HMi.out.grown hg hP2.out.1)
       have G8:=hid (a6 Gi hg)
       have K8:=hid hg
       have hP8:=hid (show w8.heap.size≠P∧w8.heap.size≠g by have:=hs.blocks; omega)
       obtain ⟨W9,hW9⟩ : ∃ W,W=w8.alloc (.cells #[.int .i64 T.kind,.string ⟨T.text.toArray⟩,.int .i64 T.n,.int .i64 T.pos] 108):=⟨_,rfl⟩
       have HB9:=hid (show Below w8.heap.size w8 W9 from hW9 ▸ a7 _ _)
       have T9:=hid (show E0 w8.heap.size T W9 from hW9 ▸ E0.make w8 T)
       have HS9:=hid (SP.below hs HB9)
       have N9:=hid (N8.out.below HB9)
       have M9:=hid (M8.out.below HB9)
       have G9:=hid (c8 G8 (HB9.out.mono G8.out.size))
       have K9:=hid (c8 K8 (HB9.out.mono K8.out.size))
       have C5:=hid (HC5.out nest W9 hn HS9)
       generalize rd (aS lv) nest (b9 r)=y2 at HR C5 HRL
       clear hs hg hT
       unfold tkV
       go_wp2_with fail
       rw [← hW9]
       clear hW9
       (with_reducible refine Calls.mono C5.out ?_)
       rintro e w10 ⟨u,a',cp',rfl,hs,hg,hk⟩
       have HK2:=hid hk
       have N10:=hid (N9.out.grown hg HP.out.1)
       have M10:=hid (M9.out.grown hg hP2.out.1)
       have T10:=hid (T9.out.grown hg hP8.out.1)
       have G10:=hid (a6 G9 hg)
       have K10:=hid (a6 K9 hg)
       have hsz9:=hid (show W9.heap.size≤w10.heap.size from hg.size)
       have hP9:=hid (show P<W9.heap.size from HS9.out.blocks.1)
       have hP10:=hid (show w10.heap.size≠P∧w10.heap.size≠g by have:=hs.blocks; omega)
       obtain ⟨W11,hW11⟩ : ∃ W,W=w10.alloc (.cells #[.int .i64 u.kind,.string u.text,.int .i64 u.n,.slice a' u.kids.length cp',.int .i64 u.place] 24):=⟨_,rfl⟩
       have HB11:=hid (show Below w10.heap.size w10 W11 from hW11 ▸ a7 _ _)
       have U11:=hid (show c6 w10.heap.size u a' cp' W11 from hW11 ▸ c6.make w10 u a' cp')
       have HS11:=hid (SP.below hs HB11)
       have N11:=hid (N10.out.below HB11)
       have M11:=hid (M10.out.below HB11)
       have T11:=hid (T10.out.below HB11)
       have G11:=hid (c8 G10 (HB11.out.mono G10.out.size))
       have K11:=hid (c8 K10 (HB11.out.mono K10.out.size))
       clear hs hg hk
       unfold Nd.val
       go_upto_region 13 with fail
       rw [← hW11]
       clear hW11
       obtain ⟨⟨t0,t1,t2,t3⟩,-⟩:=T11.out.cells
       obtain ⟨⟨n0,n1,n2,n3,n4⟩,-⟩:=M11.out.cells
       obtain ⟨⟨m0,m1,m2,m3,m4⟩,-⟩:=U11.out.cells
       obtain ⟨W12,hW12⟩ : ∃ W,W=W11.alloc (.cells #[.int .i64 t'.kind,.string t'.text,.int .i64 t'.n,.slice a t'.kids.length cp,.int .i64 t'.place,.int .i64 u.kind,.string u.text,.int .i64 u.n,.slice a' u.kids.length cp',.int .i64 u.place] 24):=⟨_,rfl⟩
       have HB12:=hid (show Below W11.heap.size W11 W12 from hW12 ▸ a7 _ _)
       have A12:=hid (show W12.heap[W11.heap.size]?=some (.cells #[.int .i64 t'.kind,.string t'.text,.int .i64 t'.n,.slice a t'.kids.length cp,.int .i64 t'.place,.int .i64 u.kind,.string u.text,.int .i64 u.n,.slice a' u.kids.length cp',.int .i64 u.place] 24 (0,0)) from by
        rw [hW12]; exact gD _ rfl)
       have N12:=hid (N11.out.below HB12)
       have M12:=hid (M11.out.below HB12)
       have T12:=hid (T11.out.below HB12)
       have HS12:=hid (HS11.out.below HB12)
       have G12:=hid (c8 G11 (HB12.out.mono G11.out.size))
       have K12:=hid (c8 K11 (HB12.out.mono K11.out.size))
       have B1012:=hid (HB11.out.trans (HB12.out.mono HB11.out.size))
       have hlt12:=hid (show W11.heap.size<W12.heap.size from by rw [hW12]; simp)
       have hVw:=hid (show V.heap.size≤w2.heap.size∧w2.heap.size<W9.heap.size from ⟨hP2.out.2.2.2,M9.out.lt⟩)
       have HD2:=hid (show ∀ r,l9 y2=.ok r→j3 (mkN 13 T.text 0 [t',u] T.pos)≤101∧(mkN 13 T.text 0 [t',u] T.pos).lies (fun c => V.heap.size≤c∧c<W12.heap.size∧c≠w2.heap.size) W12 (some ⟨W11.heap.size,0,none⟩) 2 from fun r hr => by
        obtain ⟨u',hu'⟩:=q9 hr
        obtain ⟨rfl,hl,hd⟩:=HK2.out u' r hu'
        obtain ⟨av,hav,hl0⟩:=HLi.out
        have hd0:=HD.out
        have hB:=B1012.out.size
        refine ⟨by rw [lZ]; omega,pK rfl (HT.out ▸ HT0.out) ?_ A12 (d8 hl0 ((j6.refl _ _).grown K12 fun b hb => ⟨(hav b hb).2.1,fun e => by subst e; have:=(hav _ hb).1; have:=HPV.out; omega⟩) fun b hb => ⟨(hav b hb).1,Nat.lt_of_lt_of_le (hav b hb).2.1 K12.out.size,(hav b hb).2.2⟩)
         (d8 hl (fun b hb => B1012.out.block b hb.2) fun b hb => ?_)⟩
        ·have:=hlt12.out; have:=HB11.out.size; have:=hsz9.out; have:=hVw.out
         exact ⟨by omega,by omega,by omega⟩
        ·have:=hb.1; have:=hb.2; have:=hVw.out
         exact ⟨by omega,by omega,by omega⟩)
       have C6:=hid (cI P g cap ts nest (l9 y2) 13 T.text 0 [t',u] T.pos (some ⟨W11.heap.size,0,none⟩) 2 2 rfl W12 hn HS12 fun r hr => ⟨(HD2.out r hr).1,_,fun b hb => hb.2.1,(HD2.out r hr).2⟩)
       obtain ⟨⟨u0,u1,u2,u3⟩,-⟩:=T12.out.cells
       subst hW12
       go_wp2_with fail
       (with_reducible refine Calls.mono C6.out ?_)
       rintro e w13 ⟨rfl,hs,hg⟩
       have M13:=hid (M12.out.grown hg hP2.out.1)
       obtain ⟨⟨z0,z1,z2,z3,z4⟩,⟨f0,f1,f2,f3,f4⟩⟩:=M13.out.cells
       have hsz13 : w2.heap.size<w13.heap.size:=M13.out.lt
       have HS13:=hid hs
       have N13:=hid (N12.out.grown hg HP.out.1)
       have G13:=hid (a6 G12 hg)
       have HG13:=hid hg
       have HWK:=hid (Nat.le_trans HWi (Nat.le_trans K12.out.size hg.size))
       clear hs hg t0 t1 t2 t3 n0 n1 n2 n3 n4 m0 m1 m2 m3 m4 u0 u1 u2 u3
       rw [show (mkN 13 T.text 0 [t',u] T.pos).val (some ⟨W11.heap.size,0,none⟩) 2=.agg #[.int .i64 13,.string ⟨T.text.toArray⟩,.int .i64 0,.slice (some ⟨W11.heap.size,0,none⟩) 2 2,.int .i64 T.pos] from rfl]
       go_wp2_with fail
       have HO:=hid (show l9 (goX (l9 y2) (made (mkN 13 T.text 0 [t',u] T.pos)))=eK (mkN 13 T.text 0 [t',u] T.pos) (l9 y2) from dD _ _)
       have HSf:=hid (show SP P g cap ts nest (l9 (goX (l9 y2) (made (mkN 13 T.text 0 [t',u] T.pos)))) (T1 w13 w2.heap.size (mkN 13 T.text 0 [t',u] T.pos) (some ⟨W11.heap.size,0,none⟩) 2) from by
        rw [HO.out]; exact HS13.out.put hP2.out.1 hP2.out.2.1 _ _ _)
       have HY2:=hid (show ∀ t2 r2,goX (l9 y2) (made (mkN 13 T.text 0 [t',u] T.pos))=.ok (t2,r2)→r2.length<r.length from fun t2 r2 h => by
        obtain ⟨-,e2,-⟩:=dT _ _ h
        obtain ⟨u',hu'⟩:=q9 e2
        have:=HRL.out u' r2 hu'
        have:=HST.out
        omega)
       go_roundw
       case rel =>
        refine ⟨mkN 13 T.text 0 [t',u] T.pos,some ⟨W11.heap.size,0,none⟩,2,goX (l9 y2) (made (mkN 13 T.text 0 [t',u] T.pos)),⟨M13.out.put _ _ _,HSf,?_,fun t2 r2 h => ?_⟩,N13.out.oput (Nat.ne_of_lt hP2.out.2.2.1) (mkN 13 T.text 0 [t',u] T.pos) (some ⟨W11.heap.size,0,none⟩) 2,t8 G13 (Nat.le_of_lt hP2.out.2.2.1) (mkN 13 T.text 0 [t',u] T.pos) (some ⟨W11.heap.size,0,none⟩) 2,?_⟩
        ·rw [HR.out,F0 (t:=u) (fun t' r h => (HK2.out t' r h).1),← HT.out]
         exact aA (l9 y2) (made (mkN 13 T.text 0 [t',u] T.pos)) _
        ·obtain ⟨e1,e2,e3⟩:=dT _ _ h
         refine ⟨e1,⟨_,fun c hc => ⟨hc.1,?_,hc.2.2⟩,d8 (HD2.out r2 e2).2 (((j6.refl _ _).grown HG13 fun b hb => ⟨hb.2.1,?_⟩).put (fun b hb => hb.2.2) (mkN 13 T.text 0 [t',u] T.pos) (some ⟨W11.heap.size,0,none⟩) 2) fun b hb => hb⟩,e3,Nat.le_of_lt (Nat.lt_of_lt_of_le (HY2.out t2 r2 h) HLen)⟩
         ·have:=hc.2.1; have:=HG13.out.size
          refine Nat.lt_of_lt_of_le hc.2.1 ?_
          show _≤(T1 w13 w2.heap.size (mkN 13 T.text 0 [t',u] T.pos) (some ⟨W11.heap.size,0,none⟩) 2).heap.size
          rw [size_put]; exact HG13.out.size
         ·rintro rfl
          have:=hb.1; have:=HPV.out; omega
        ·show _≤(T1 w13 w2.heap.size (mkN 13 T.text 0 [t',u] T.pos) (some ⟨W11.heap.size,0,none⟩) 2).heap.size
         rw [size_put]; exact HWK
       case measure =>
        rw [HFar.out]
        refine Nat.lt_of_le_of_lt (Nat.le_of_eq HSf.out.far) ?_
        cases hy : goX (l9 y2) (made (mkN 13 T.text 0 [t',u] T.pos)) with
        | error e => exact Nat.succ_pos _
        | ok q => obtain ⟨t2,r2⟩:=q; have:=HY2.out t2 r2 hy; show r2.length + 1 < r.length + 1; omega
end
section
open Lib (hid)
open Go.RowKit
theorem pW {av : Nat→Prop} {W : World} {t u v : Nd} {a a' a2 : Option Addr} {cp cp' cp2 b : Nat} {k p : Int} {s : List UInt8} {A : TypeId} (hk : (Lit.int .i64 k).wf=true) (hs : s.length≤16384) (hp : (Lit.int .i64 p).wf=true) (hb : av b)
 (h : W.heap[b]?=some (.cells #[.int .i64 t.kind,.string t.text,.int .i64 t.n,.slice a t.kids.length cp,.int .i64 t.place,.int .i64 u.kind,.string u.text,.int .i64 u.n,.slice a' u.kids.length cp',.int .i64 u.place,.int .i64 v.kind,.string v.text,.int .i64 v.n,.slice a2 v.kids.length cp2,.int .i64 v.place] A (0,0))) (hl : t.lies av W a cp) (hu : u.lies av W a' cp') (hv : v.lies av W a2 cp2) :
 (mkN k s 0 [t,u,v] p).lies av W (some ⟨b,0,none⟩) 3 :=
 Nd.lies.mk' hk (by show s.toArray.size≤maxLen; unfold maxLen; simp; omega) rfl hp (Nat.le_refl _) (by unfold maxLen; decide) (a0y hb h hl hu hv)
theorem nR (k : Int) (s : List UInt8) (n p : Int) (t u v : Nd) : j3 (mkN k s n [t,u,v] p)=max (j3 t) (max (j3 u) (j3 v)) + 1:=by
 unfold mkN; rw [j3,o0,o0,o0,o0,Nat.max_zero]
theorem kU {σ : Sx} {nest : Nat} {m : Md} {t : Nd} {r : List Tk} (h : goX σ (rd m nest)=.ok (t,r)) : ∃ r0,σ=.ok r0∧r.length≤r0.length:=by
 obtain ⟨r0,e,h'⟩:=T3 h
 exact ⟨r0,e,jK m nest r0 h'⟩
def uD (nest : Nat) (l : List Tk) (at' : Int) : Rd:=U4 7 l fun s r => p5 O0 r fun r => (rd .expr nest r).then fun a r => p5 A9 r fun r => (rd .expr nest r).then fun b r => p5 A9 r fun r => (rd .expr nest r).then fun c r =>
 p5 Q6 r fun r => made (mkN 15 s.text 0 [a,b,c] at') r
theorem vE (P g cap : Nat) (ts : List Tk) (he : bT ts) (htk : ∀ t∈ts,bP t) (l : List Tk) (at' : Int) (hat : (Lit.int .i64 at').wf=true) (hE : ∀ r,r.length<l.length→CE P g cap ts r) (nest : Nat) (w : World) (hn : nest≤300) (h : SP P g cap ts nest (.ok l) w) :
 Calls Tryz.prog 193 #[.pointer (some ⟨P,0,none⟩),.int .i64 at'] w (RdP P g cap ts nest (uD nest l at') w):=by
 have P0:=hid h
 have HP:=hid (show w.heap.size≠P∧w.heap.size≠g from ⟨Nat.ne_of_gt h.blocks.1,Nat.ne_of_gt h.blocks.2⟩)
 have HEx:=hid hE
 have HTK:=hid htk
 have HAT:=hid hat
 obtain ⟨X,hX⟩ : ∃ X,X=uD nest l at':=⟨_,rfl⟩
 rw [← hX]
 have HX:=hid hX
 obtain ⟨W1,hW1⟩ : ∃ W,W=w.alloc (.cells #[.int .i64 0,.string ⟨#[]⟩,.int .i64 0,.slice none 0 0,.int .i64 0] 24):=⟨_,rfl⟩
 have B1:=hid (show c6 w.heap.size nd0 none 0 W1 from hW1 ▸ c6.make w nd0 none 0)
 have E1:=hid (show Below w.heap.size w W1 from hW1 ▸ a7 _ _)
 have S1:=hid (c9 (r:=some P) E1)
 have P1:=hid (P0.out.below E1)
 clear h hE htk hat hX
 go_enter Tryz.func193,Tryz.ntmps193
 have C2:=hid (bG P g cap ts nest (.ok l) 7 W1 hn P1 he)
 go_wp2_with fail
 rw [← hW1]
 clear hW1
 (with_reducible refine Calls.mono C2.out ?_)
 rintro e W2 ⟨T,rfl,hs,hg,hT⟩
 have S2:=hid hg
 have P2:=hid hs
 clear hs hg C2
 have HT:=hid (hT l rfl)
 clear hT
 have HT0:=hid (show bP T from HT.out ▸ HTK.out _ P1.out.mem)
 obtain ⟨σ1,hσ1⟩ : ∃ σ,σ=x8 7 (.ok l):=⟨_,rfl⟩
 rw [← hσ1] at P2
 have Q1:=hid hσ1
 clear hσ1
 obtain ⟨W3,hW3⟩ : ∃ W,W=W2.alloc (.cells #[.int .i64 T.kind,.string ⟨T.text.toArray⟩,.int .i64 T.n,.int .i64 T.pos] 108):=⟨_,rfl⟩
 have B3:=hid (show E0 W2.heap.size T W3 from hW3 ▸ E0.make W2 T)
 have E3:=hid (show Below W2.heap.size W2 W3 from hW3 ▸ a7 _ _)
 have S3:=hid (c9 (r:=some P) E3)
 have P3:=hid (P2.out.below E3)
 have C4:=hid (n6 P g cap ts nest σ1 ⟨#[40]⟩ W3 hn P3 he)
 unfold tkV
 go_wp2_with fail
 rw [← hW3]
 clear hW3
 (with_reducible refine Calls.mono C4.out ?_)
 rintro e W4 ⟨rfl,hs,hg⟩
 have S4:=hid hg
 have P4:=hid hs
 clear hs hg C4
 obtain ⟨τ0,hτ0⟩ : ∃ σ,σ=n8 O0 σ1:=⟨_,rfl⟩
 replace P4:=hid (show SP P g cap ts nest τ0 W4 from hτ0 ▸ P4.out)
 have R0:=hid hτ0
 clear hτ0
 have M0:=hid (show ∀ r,τ0=.ok r→r.length<l.length from fun r hr => by have h1:=hr; rw [R0.out] at h1; obtain ⟨r1,e1,-,rfl⟩:=G0 h1; rw [Q1.out] at e1; obtain ⟨r2,e2,e3,rfl⟩:=nE e1; cases e2; have:=J4 (b9 l); have:=eO e3 (by decide); omega)
 have C5:=hid (bI P g cap ts nest τ0 W4 hn P4 fun r hr => HEx.out r (M0.out r hr))
 go_wp2_with fail
 (with_reducible refine Calls.mono C5.out ?_)
 rintro e W5 ⟨k0,a0,c0,rfl,hs,hg,hk⟩
 have S5:=hid hg
 have P5:=hid hs
 clear hs hg C5
 obtain ⟨x0,hx0⟩ : ∃ x,x=goX τ0 (rd .expr nest):=⟨_,rfl⟩
 rw [← hx0] at P5 hk
 have HK0:=hid hk
 have X0:=hid hx0
 have L0:=hid (show ∀ t r,x0=.ok (t,r)→r.length<l.length from fun t r h => by rw [hx0] at h; obtain ⟨r0,e,hl⟩:=kU h; have:=M0.out r0 e; omega)
 clear hk hx0
 obtain ⟨W6,hW6⟩ : ∃ W,W=W5.alloc (.cells #[.int .i64 k0.kind,.string k0.text,.int .i64 k0.n,.slice a0 k0.kids.length c0,.int .i64 k0.place] 24):=⟨_,rfl⟩
 have B6:=hid (show c6 W5.heap.size k0 a0 c0 W6 from hW6 ▸ c6.make W5 k0 a0 c0)
 have E6:=hid (show Below W5.heap.size W5 W6 from hW6 ▸ a7 _ _)
 have S6:=hid (c9 (r:=some P) E6)
 have P6:=hid (P5.out.below E6)
 have C7:=hid (n6 P g cap ts nest (l9 x0) ⟨#[44]⟩ W6 hn P6 he)
 unfold Nd.val
 go_wp2_with fail
 rw [← hW6]
 clear hW6
 (with_reducible refine Calls.mono C7.out ?_)
 rintro e W7 ⟨rfl,hs,hg⟩
 have S7:=hid hg
 have P7:=hid hs
 clear hs hg C7
 obtain ⟨τ1,hτ1⟩ : ∃ σ,σ=n8 A9 (l9 x0):=⟨_,rfl⟩
 replace P7:=hid (show SP P g cap ts nest τ1 W7 from hτ1 ▸ P7.out)
 have R1:=hid hτ1
 clear hτ1
 have M1:=hid (show ∀ r,τ1=.ok r→r.length<l.length from fun r hr => by have h1:=hr; rw [R1.out] at h1; obtain ⟨r1,e1,-,rfl⟩:=G0 h1; obtain ⟨t,e2⟩:=q9 e1; have:=L0.out t r1 e2; have:=J4 r1; omega)
 have C8:=hid (bI P g cap ts nest τ1 W7 hn P7 fun r hr => HEx.out r (M1.out r hr))
 go_wp2_with fail
 (with_reducible refine Calls.mono C8.out ?_)
 rintro e W8 ⟨k1,a1,c1,rfl,hs,hg,hk⟩
 have S8:=hid hg
 have P8:=hid hs
 clear hs hg C8
 obtain ⟨x1,hx1⟩ : ∃ x,x=goX τ1 (rd .expr nest):=⟨_,rfl⟩
 rw [← hx1] at P8 hk
 have HK1:=hid hk
 have X1:=hid hx1
 have L1:=hid (show ∀ t r,x1=.ok (t,r)→r.length<l.length from fun t r h => by rw [hx1] at h; obtain ⟨r0,e,hl⟩:=kU h; have:=M1.out r0 e; omega)
 clear hk hx1
 obtain ⟨W9,hW9⟩ : ∃ W,W=W8.alloc (.cells #[.int .i64 k1.kind,.string k1.text,.int .i64 k1.n,.slice a1 k1.kids.length c1,.int .i64 k1.place] 24):=⟨_,rfl⟩
 have B9:=hid (show c6 W8.heap.size k1 a1 c1 W9 from hW9 ▸ c6.make W8 k1 a1 c1)
 have E9:=hid (show Below W8.heap.size W8 W9 from hW9 ▸ a7 _ _)
 have S9:=hid (c9 (r:=some P) E9)
 have P9:=hid (P8.out.below E9)
 have C10:=hid (n6 P g cap ts nest (l9 x1) ⟨#[44]⟩ W9 hn P9 he)
 unfold Nd.val
 go_wp2_with fail
 rw [← hW9]
 clear hW9
 (with_reducible refine Calls.mono C10.out ?_)
 rintro e W10 ⟨rfl,hs,hg⟩
 have S10:=hid hg
 have P10:=hid hs
 clear hs hg C10
 obtain ⟨τ2,hτ2⟩ : ∃ σ,σ=n8 A9 (l9 x1):=⟨_,rfl⟩
 replace P10:=hid (show SP P g cap ts nest τ2 W10 from hτ2 ▸ P10.out)
 have R2:=hid hτ2
 clear hτ2
 have M2:=hid (show ∀ r,τ2=.ok r→r.length<l.length from fun r hr => by have h1:=hr; rw [R2.out] at h1; obtain ⟨r1,e1,-,rfl⟩:=G0 h1; obtain ⟨t,e2⟩:=q9 e1; have:=L1.out t r1 e2; have:=J4 r1; omega)
 have C11:=hid (bI P g cap ts nest τ2 W10 hn P10 fun r hr => HEx.out r (M2.out r hr))
 go_wp2_with fail
 (with_reducible refine Calls.mono C11.out ?_)
 rintro e W11 ⟨k2,a2,c2,rfl,hs,hg,hk⟩
 have S11:=hid hg
 have P11:=hid hs
 clear hs hg C11
 obtain ⟨x2,hx2⟩ : ∃ x,x=goX τ2 (rd .expr nest):=⟨_,rfl⟩
 rw [← hx2] at P11 hk
 have HK2:=hid hk
 have X2:=hid hx2
 have L2:=hid (show ∀ t r,x2=.ok (t,r)→r.length<l.length from fun t r h => by rw [hx2] at h; obtain ⟨r0,e,hl⟩:=kU h; have:=M2.out r0 e; omega)
 clear hk hx2
 obtain ⟨W12,hW12⟩ : ∃ W,W=W11.alloc (.cells #[.int .i64 k2.kind,.string k2.text,.int .i64 k2.n,.slice a2 k2.kids.length c2,.int .i64 k2.place] 24):=⟨_,rfl⟩
 have B12:=hid (show c6 W11.heap.size k2 a2 c2 W12 from hW12 ▸ c6.make W11 k2 a2 c2)
 have E12:=hid (show Below W11.heap.size W11 W12 from hW12 ▸ a7 _ _)
 have S12:=hid (c9 (r:=some P) E12)
 have P12:=hid (P11.out.below E12)
 have C13:=hid (n6 P g cap ts nest (l9 x2) ⟨#[41]⟩ W12 hn P12 he)
 unfold Nd.val
 go_wp2_with fail
 rw [← hW12]
 clear hW12
 (with_reducible refine Calls.mono C13.out ?_)
 rintro e W13 ⟨rfl,hs,hg⟩
 have S13:=hid hg
 have P13:=hid hs
 clear hs hg C13
 obtain ⟨τ3,hτ3⟩ : ∃ σ,σ=n8 Q6 (l9 x2):=⟨_,rfl⟩
 replace P13:=hid (show SP P g cap ts nest τ3 W13 from hτ3 ▸ P13.out)
 have R3:=hid hτ3
 clear hτ3
 go_upto_region 9 with fail
 obtain ⟨⟨t0,t1,t2,t3⟩,-⟩:=(B3.out.grown (a6 (a6 (a6 (a6 (a6 (a6 (a6 (a6 (a6 S4 S5) S6) S7) S8) S9) S10) S11) S12) S13) (Nat.ne_of_gt P2.out.blocks.1)).cells
 obtain ⟨⟨n00,n01,n02,n03,n04⟩,-⟩:=(B6.out.grown (a6 (a6 (a6 (a6 (a6 (a6 S7 S8) S9) S10) S11) S12) S13) (Nat.ne_of_gt P5.out.blocks.1)).cells
 obtain ⟨⟨n10,n11,n12,n13,n14⟩,-⟩:=(B9.out.grown (a6 (a6 (a6 S10 S11) S12) S13) (Nat.ne_of_gt P8.out.blocks.1)).cells
 obtain ⟨⟨n20,n21,n22,n23,n24⟩,-⟩:=(B12.out.grown S13 (Nat.ne_of_gt P11.out.blocks.1)).cells
 obtain ⟨W14,hW14⟩ : ∃ W,W=W13.alloc (.cells #[.int .i64 k0.kind,.string k0.text,.int .i64 k0.n,.slice a0 k0.kids.length c0,.int .i64 k0.place,.int .i64 k1.kind,.string k1.text,.int .i64 k1.n,.slice a1 k1.kids.length c1,.int .i64 k1.place,.int .i64 k2.kind,.string k2.text,.int .i64 k2.n,.slice a2 k2.kids.length c2,.int .i64 k2.place] 24):=⟨_,rfl⟩
 have E14:=hid (show Below W13.heap.size W13 W14 from hW14 ▸ a7 _ _)
 have S14:=hid (c9 (r:=some P) E14)
 have P14:=hid (P13.out.below E14)
 have B14:=hid (show W14.heap[W13.heap.size]?=some (.cells #[.int .i64 k0.kind,.string k0.text,.int .i64 k0.n,.slice a0 k0.kids.length c0,.int .i64 k0.place,.int .i64 k1.kind,.string k1.text,.int .i64 k1.n,.slice a1 k1.kids.length c1,.int .i64 k1.place,.int .i64 k2.kind,.string k2.text,.int .i64 k2.n,.slice a2 k2.kids.length c2,.int .i64 k2.place] 24 (0,0)) from by rw [hW14]; exact gD _ rfl)
 have hlt:=hid (show W13.heap.size<W14.heap.size from by rw [hW14]; simp)
 have HD:=hid (show ∀ r,τ3=.ok r→j3 (mkN 15 T.text 0 [k0,k1,k2] at')≤101∧(mkN 15 T.text 0 [k0,k1,k2] at').lies (Fr W1.heap.size W14.heap.size) W14 (some ⟨W13.heap.size,0,none⟩) 3 from fun r hr => by
  rw [R3.out] at hr; obtain ⟨r3,e3,-,-⟩:=G0 hr; obtain ⟨v3,y3⟩:=q9 e3; obtain ⟨-,hl2,hd2⟩:=HK2.out v3 r3 y3
  rw [X2.out] at y3; obtain ⟨r2,e2,-⟩:=T3 y3; rw [R2.out] at e2; obtain ⟨s2,f2,-,-⟩:=G0 e2; obtain ⟨v2,y2⟩:=q9 f2; obtain ⟨-,hl1,hd1⟩:=HK1.out v2 s2 y2
  rw [X1.out] at y2; obtain ⟨r1,e1,-⟩:=T3 y2; rw [R1.out] at e1; obtain ⟨s1,f1,-,-⟩:=G0 e1; obtain ⟨v1,y1⟩:=q9 f1; obtain ⟨-,hl0,hd0⟩:=HK0.out v1 s1 y1
  have hP1 : P<W1.heap.size:=P1.out.blocks.1
  have q0 : W1.heap.size≤W4.heap.size:=(a6 (a6 S2 S3) S4).size
  have q1 : W1.heap.size≤W7.heap.size:=(a6 (a6 (a6 (a6 (a6 S2 S3) S4) S5) S6) S7).size
  have q2 : W1.heap.size≤W10.heap.size:=(a6 (a6 (a6 (a6 (a6 (a6 (a6 (a6 S2 S3) S4) S5) S6) S7) S8) S9) S10).size
  refine ⟨by rw [nR]; omega,pW rfl HT0.out.2.2 HAT ⟨(a6 (a6 (a6 (a6 (a6 (a6 (a6 (a6 (a6 (a6 (a6 S2 S3) S4) S5) S6) S7) S8) S9) S10) S11) S12) S13).size,hlt⟩ B14 (d8 hl0 ((j6.refl _ _).grown (a6 (a6 (a6 (a6 (a6 (a6 (a6 (a6 S6 S7) S8) S9) S10) S11) S12) S13) S14) fun b hb => ⟨hb.2,fun e => by subst e; have:=hb.1; omega⟩) fun b hb => ⟨Nat.le_trans q0 hb.1,Nat.lt_of_lt_of_le hb.2 (a6 (a6 (a6 (a6 (a6 (a6 (a6 (a6 S6 S7) S8) S9) S10) S11) S12) S13) S14).size⟩) (d8 hl1 ((j6.refl _ _).grown (a6 (a6 (a6 (a6 (a6 S9 S10) S11) S12) S13) S14) fun b hb => ⟨hb.2,fun e => by subst e; have:=hb.1; omega⟩) fun b hb => ⟨Nat.le_trans q1 hb.1,Nat.lt_of_lt_of_le hb.2 (a6 (a6 (a6 (a6 (a6 S9 S10) S11) S12) S13) S14).size⟩) (d8 hl2 ((j6.refl _ _).grown (a6 (a6 S12 S13) S14) fun b hb => ⟨hb.2,fun e => by subst e; have:=hb.1; omega⟩) fun b hb => ⟨Nat.le_trans q2 hb.1,Nat.lt_of_lt_of_le hb.2 (a6 (a6 S12 S13) S14).size⟩)⟩)
 have CM:=hid (cI P g cap ts nest τ3 15 T.text 0 [k0,k1,k2] at' (some ⟨W13.heap.size,0,none⟩) 3 3 rfl W14 hn P14 fun r hr => ⟨(HD.out r hr).1,_,fun b hb => hb.2,(HD.out r hr).2⟩)
 obtain ⟨⟨u0,u1,u2,u3⟩,-⟩:=(B3.out.grown (a6 (a6 (a6 (a6 (a6 (a6 (a6 (a6 (a6 (a6 S4 S5) S6) S7) S8) S9) S10) S11) S12) S13) S14) (Nat.ne_of_gt P2.out.blocks.1)).cells
 subst hW14
 go_wp2_with fail
 (with_reducible refine Calls.mono CM.out ?_)
 rintro e W15 ⟨rfl,hs,hg⟩
 have S15:=hid hg
 have P15:=hid hs
 clear hs hg CM t0 t1 t2 t3 u0 u1 u2 u3 n00 n01 n02 n03 n04 n10 n11 n12 n13 n14 n20 n21 n22 n23 n24
 have BR:=hid (B1.out.grown (a6 (a6 (a6 (a6 (a6 (a6 (a6 (a6 (a6 (a6 (a6 (a6 (a6 S2 S3) S4) S5) S6) S7) S8) S9) S10) S11) S12) S13) S14) S15) HP.out.1)
 obtain ⟨⟨z0,z1,z2,z3,z4⟩,⟨f0,f1,f2,f3,f4⟩⟩:=BR.out.cells
 have hsz : w.heap.size<W15.heap.size:=BR.out.lt
 rw [show (mkN 15 T.text 0 [k0,k1,k2] at').val (some ⟨W13.heap.size,0,none⟩) 3=.agg #[.int .i64 15,.string ⟨List.toArray T.text⟩,.int .i64 0,.slice (some ⟨W13.heap.size,0,none⟩) 3 3,.int .i64 at'] from rfl]
 go_wp2_with fail
 refine bodyPost_ret (v:=(mkN 15 T.text 0 [k0,k1,k2] at').val (some ⟨W13.heap.size,0,none⟩) 3) (by simp [results,Tryz.results193,go_sem,Nd.val,mkN,Nd.kind,Nd.text,Nd.n,Nd.kids,Nd.place,z0,z1,z2,z3,z4]) rfl ?_
 have hX : X=goX τ3 (made (mkN 15 T.text 0 [k0,k1,k2] at')):=by
  rw [HX.out]
  show goX (.ok l) (fun r => U4 7 r _)=_
  rw [gI (.ok l) 7 _ T (fun r h => by cases h; exact HT),← Q1.out]
  rw [D6,← R0.out,aA,← X0.out,F0 (t:=k0) (fun t' r h => (HK0.out t' r h).1),D6,← R1.out,aA,← X1.out,F0 (t:=k1) (fun t' r h => (HK1.out t' r h).1),D6,← R2.out,aA,← X2.out,F0 (t:=k2) (fun t' r h => (HK2.out t' r h).1),D6,← R3.out]
 have hO : l9 X=eK (mkN 15 T.text 0 [k0,k1,k2] at') τ3:=by rw [hX,dD]
 refine RdP.fin (by rw [hO]; exact P15) (a6 (a6 (a6 (a6 (a6 (a6 (a6 (a6 (a6 (a6 (a6 (a6 (a6 (a6 S1 S2) S3) S4) S5) S6) S7) S8) S9) S10) S11) S12) S13) S14) S15) HP (Nat.le_refl _) fun t' r' hx => ?_
 rw [hX] at hx
 obtain ⟨e1,e2,e3⟩:=dT _ _ hx
 have hP1 : P<W1.heap.size:=P1.out.blocks.1
 have hw1 : w.heap.size<W1.heap.size:=B1.out.lt
 refine ⟨e1,⟨_,fun c hc => ⟨fun e => by subst e; have:=hc.1; omega,by have:=hc.1; omega,Nat.lt_of_lt_of_le hc.2 S15.out.size⟩,d8 (HD.out r' e2).2 ((j6.refl _ _).grown S15 fun b hb => ⟨hb.2,fun e => by subst e; have:=hb.1; omega⟩) fun b hb => hb⟩,e3⟩
end
section
open Lib (hid)
open Go.RowKit
theorem a1n (P g cap : Nat) (ts : List Tk) (he : bT ts) (htk : ∀ t∈ts,bP t) (l : List Tk) (hC : CC P g cap ts 0 l) (hE : ∀ r,r.length<l.length→CE P g cap ts r) : CE P g cap ts l:=by
 intro nest w hn h
 have P0:=hid h
 have HP:=hid (show (w.heap.size≠P∧w.heap.size≠g)∧(w.heap.size + 1≠P∧w.heap.size + 1≠g) by have:=h.blocks; omega)
 have HEx:=hid hE
 have HC:=hid hC
 have HTK:=hid htk
 obtain ⟨X,hX⟩ : ∃ X,X=rd .expr nest l:=⟨_,rfl⟩
 rw [← hX]
 have HX:=hid (hX.trans (kS .expr nest l))
 obtain ⟨W1,hW1⟩ : ∃ V,V=(w.alloc (.cells #[.int .i64 0,.string ⟨#[]⟩,.int .i64 0,.slice none 0 0,.int .i64 0] 24)).alloc (.cells #[.int .i64 0,.string ⟨#[]⟩,.int .i64 0,.slice none 0 0,.int .i64 0] 24):=⟨_,rfl⟩
 have E1:=hid (show Below w.heap.size w W1 from hW1 ▸ (a7 w _).trans ((a7 _ _).mono (a7 w _).size))
 have S1:=hid (c9 (r:=some P) E1)
 have B1:=hid (show c6 w.heap.size nd0 none 0 W1 from hW1 ▸ (c6.make w nd0 none 0).below (a7 _ _))
 have A1:=hid (show c6 (w.heap.size + 1) nd0 none 0 W1 by
  have:=c6.make (w.alloc (.cells #[.int .i64 0,.string ⟨#[]⟩,.int .i64 0,.slice none 0 0,.int .i64 0] 24)) nd0 none 0
  rw [hW1]
  simpa [nd0,Nd.kind,Nd.text,Nd.n,Nd.kids,Nd.place] using this)
 have P1:=hid (h.below E1)
 clear h hE hC htk hX
 go_enter Tryz.func64,Tryz.ntmps64
 have C2:=hid (mM P g cap ts nest l W1 hn P1)
 go_wp2_with fail
 rw [← hW1]
 clear hW1
 (with_reducible refine Calls.mono C2.out ?_)
 rintro e W2 ⟨rfl,hs,hg⟩
 have S2:=hid hg
 have P2:=hid hs
 clear hs hg C2
 by_cases hk : 300<nest + 1
 ·have R:=hid (show X=.error (75,(hd l).pos) from HX.out.trans (if_pos hk))
  have E : dZ nest (.ok l)=.error (75,(hd l).pos):=if_pos hk
  have hs2:=P2.out
  rw [E] at hs2
  obtain ⟨-,i,n,hp,-,-⟩:=hs2.error
  obtain ⟨⟨p0,p1,p2,p3,p4⟩,-⟩:=hp.cells
  have hpl:=hp.plt
  have B2:=hid (B1.out.grown S2 HP.out.1.1)
  have A2:=hid (A1.out.grown S2 HP.out.2.1)
  obtain ⟨⟨z0,z1,z2,z3,z4⟩,⟨f0,f1,f2,f3,f4⟩⟩:=B2.out.cells
  obtain ⟨⟨n0,n1,n2,n3,n4⟩,-⟩:=A2.out.cells
  have hsz : w.heap.size<W2.heap.size∧w.heap.size + 1<W2.heap.size:=⟨B2.out.lt,A2.out.lt⟩
  have HS2:=hid (hs2.mono (Nat.le_succ nest))
  clear hk E hs2 hp
  go_wp2_with fail
  refine bodyPost_ret (v:=nd0.val none 0) (by simp [results,Tryz.results64,go_sem,Nd.val,z0,z1,z2,z3,z4]) rfl ?_
  rw [R.out]
  exact RdP.fin (x:=.error (75,(hd l).pos)) HS2 (a6 S1 S2) HP.out.1 (Nat.le_refl _) (fun _ _ h => by cases h)
 have E : dZ nest (.ok l)=.ok l:=if_neg hk
 have HX1:=hid (HX.out.trans (if_neg hk))
 replace P2:=hid (show SP P g cap ts (nest + 1) (.ok l) W2 from E ▸ P2.out)
 obtain ⟨i,-,hp⟩:=P2.out.ok
 obtain ⟨⟨p0,p1,p2,p3,p4⟩,-⟩:=hp.cells
 have hpl:=hp.plt
 have hn1:=hid (show nest + 1≤300 by omega)
 have C3:=hid (dA P g cap ts (nest + 1) (.ok l) ⟨#[105,102]⟩ W2 P2)
 clear hk E hp HX
 go_wp2_with fail
 (with_reducible refine Calls.mono C3.out ?_)
 rintro e W3 ⟨b,rfl,hb,hbt⟩
 have HT1:=hid (show b=isT tIf l from hbt l rfl)
 have S3:=hid (c9 (r:=some P) hb)
 have P3:=hid (P2.out.below hb)
 clear hbt hb p0 p1 p2 p3 p4 hpl C3
 cases b
 case false =>
  have R:=hid (show X=rd (.chain 0) (nest + 1) l from HX1.out.trans (if_neg (by rw [← HT1.out]; decide)))
  have C4:=hid (HC.out (nest + 1) W3 hn1 P3)
  rw [← R.out] at C4
  go_wp2_with fail
  (with_reducible refine Calls.mono C4.out ?_)
  rintro e w5 ⟨t,a,cp,rfl,hs5,hg5,hk5⟩
  have G5:=hid (a6 (a6 (a6 S1 S2) S3) hg5)
  have J1:=hid (a6 (a6 S2 S3) hg5)
  have F1:=hid ((B1.out.grown J1 HP.out.1.1).oput (c:=w.heap.size + 1) (by omega) t a cp)
  have A5:=hid (A1.out.grown J1 HP.out.2.1)
  have F2:=hid (A5.out.put t a cp)
  have HS6:=hid (hs5.put HP.out.2.1 HP.out.2.2 t a cp)
  have G6:=hid (t8 G5 (show w.heap.size≤w.heap.size + 1 by omega) t a cp)
  have HK5:=hid hk5
  have hsz3:=hid (show W1.heap.size≤W3.heap.size from (a6 S2 S3).size)
  obtain ⟨⟨z0,z1,z2,z3,z4⟩,⟨f0,f1,f2,f3,f4⟩⟩:=A5.out.cells
  have hsz5 : w.heap.size + 1<w5.heap.size:=A5.out.lt
  clear hs5 hg5 hk5 C4
  unfold Nd.val
  obtain ⟨W6,hW6⟩ : ∃ W,W=T1 w5 (w.heap.size + 1) t a cp:=⟨_,rfl⟩
  rw [← hW6] at F1 F2 HS6 G6
  go_upto_region 8 with fail
  have hW6':=hW6
  unfold T1 at hW6'
  rw [← hW6']
  clear hW6' z0 z1 z2 z3 z4 f0 f1 f2 f3 f4
  have HW6:=hid hW6
  clear hW6
  obtain ⟨m,hm1,hm2,p2,q2,hs7⟩:=HS6.out.nest
  obtain ⟨W7,hW7⟩ : ∃ W,W=W6.setCell ⟨P,2,none⟩ (.int .i64 (m - 1)):=⟨_,rfl⟩
  have J1:=hid (show c6 w.heap.size nd0 none 0 W7 from hW7 ▸ F1.out.set HP.out.1.1 _ _)
  have J2:=hid (show c6 (w.heap.size + 1) t a cp W7 from hW7 ▸ F2.out.set HP.out.2.1 _ _)
  have HS7:=hid (show SP P g cap ts nest _ W7 from hW7 ▸ hs7)
  have G7:=hid (show w.grownBy W7 (some P) from hW7 ▸ a6 G6 (F7 _ _ _ _))
  have hpl:=HS6.out.blocks.1
  clear hs7
  go_upto_region 9 with fail
  rw [← hW7]
  have HW7:=hid hW7
  clear hW7 p2 q2 hpl
  obtain ⟨⟨z0,z1,z2,z3,z4⟩,⟨f0,f1,f2,f3,f4⟩⟩:=J1.out.cells
  obtain ⟨⟨n0,n1,n2,n3,n4⟩,-⟩:=J2.out.cells
  have hsz : w.heap.size<W7.heap.size∧w.heap.size + 1<W7.heap.size:=⟨J1.out.lt,J2.out.lt⟩
  go_wp2_with fail
  refine bodyPost_ret (v:=t.val a cp) (by simp [results,Tryz.results64,go_sem,Nd.val,z0,z1,z2,z3,z4]) rfl ?_
  refine RdP.fin HS7 G7 HP.out.1 (Nat.le_refl _) fun t' r' hx => ?_
  obtain ⟨e,hl,hd⟩:=HK5.out t' r' hx
  have hA:=A1.out.lt
  have hb0:=P3.out.blocks.1
  have hsz7 : w5.heap.size=W7.heap.size:=by rw [HW7.out,HW6.out]; simp [World.setCell,size_put]
  have h3:=hsz3.out
  have k1 : j6 (Fr W3.heap.size w5.heap.size) w5 W7:=by
   rw [HW7.out,HW6.out]
   exact ((j6.refl _ w5).put (fun b hb e => by subst e; have:=hb.1; omega) _ _ _).set (fun b hb e => by subst e; have:=hb.1; omega) _ _
  exact ⟨e,⟨_,fun c hc => ⟨fun e => by subst e; have:=hc.1; omega,by have:=hc.1; omega,by have:=hc.2; omega⟩,d8 hl k1 fun b hb => hb⟩,hd⟩
 have HT2:=hid (D8 HT1.out.symm)
 have HR:=hid (show X=(rd .expr (nest + 1) (b9 l)).then fun a r => p5 a19 r fun r => (rd .expr (nest + 1) r).then fun b r => p5 a3z r fun r => (rd .expr (nest + 1) r).then fun c r => made (mkN 14 [] 0 [a,b,c] (hd l).pos) r from HX1.out.trans (if_pos HT1.out.symm))
 have C4:=hid (O4 P g cap ts (nest + 1) (.ok l) W3 P3 he)
 go_wp2_with fail
 (with_reducible refine Calls.mono C4.out ?_)
 rintro e W4 ⟨T,rfl,hs,hg,hT⟩
 have S4:=hid hg
 have P4:=hid hs
 clear hs hg C4
 have HT:=hid (hT l rfl)
 clear hT
 have HT0:=hid (show bP T from HT.out ▸ HTK.out _ P3.out.mem)
 obtain ⟨W5,hW5⟩ : ∃ W,W=W4.alloc (.cells #[.int .i64 T.kind,.string ⟨T.text.toArray⟩,.int .i64 T.n,.int .i64 T.pos] 108):=⟨_,rfl⟩
 have B5:=hid (show E0 W4.heap.size T W5 from hW5 ▸ E0.make W4 T)
 have E5:=hid (show Below W4.heap.size W4 W5 from hW5 ▸ a7 _ _)
 have S5:=hid (c9 (r:=some P) E5)
 have P5:=hid (P4.out.below E5)
 have C6:=hid (HEx.out (b9 l) (by have:=HT2.out; omega) (nest + 1) W5 hn1 P5)
 unfold tkV
 go_wp2_with fail
 rw [← hW5]
 clear hW5
 (with_reducible refine Calls.mono C6.out ?_)
 rintro e W6 ⟨k0,a0,c0,rfl,hs,hg,hk⟩
 have S6:=hid hg
 have P6:=hid hs
 clear hs hg C6
 have HK0:=hid hk
 obtain ⟨x0,hx0⟩ : ∃ x,x=rd .expr (nest + 1) (b9 l):=⟨_,rfl⟩
 rw [← hx0] at P6 HK0 HR
 have L0:=hid (show ∀ t r,x0=.ok (t,r)→r.length<l.length from fun t r h => by rw [hx0] at h; have:=jK _ _ _ h; have:=HT2.out; omega)
 clear hk hx0
 obtain ⟨W7,hW7⟩ : ∃ W,W=W6.alloc (.cells #[.int .i64 k0.kind,.string k0.text,.int .i64 k0.n,.slice a0 k0.kids.length c0,.int .i64 k0.place] 24):=⟨_,rfl⟩
 have B7:=hid (show c6 W6.heap.size k0 a0 c0 W7 from hW7 ▸ c6.make W6 k0 a0 c0)
 have E7:=hid (show Below W6.heap.size W6 W7 from hW7 ▸ a7 _ _)
 have S7:=hid (c9 (r:=some P) E7)
 have P7:=hid (P6.out.below E7)
 have C8:=hid (n6 P g cap ts (nest + 1) (l9 x0) ⟨#[116,104,101,110]⟩ W7 hn1 P7 he)
 unfold Nd.val
 go_wp2_with fail
 rw [← hW7]
 clear hW7
 (with_reducible refine Calls.mono C8.out ?_)
 rintro e W8 ⟨rfl,hs,hg⟩
 have S8:=hid hg
 have P8:=hid hs
 clear hs hg C8
 obtain ⟨τ0,hτ0⟩ : ∃ σ,σ=n8 a19 (l9 x0):=⟨_,rfl⟩
 replace P8:=hid (show SP P g cap ts (nest + 1) τ0 W8 from hτ0 ▸ P8.out)
 have R0:=hid hτ0
 clear hτ0
 have M1:=hid (show ∀ r,τ0=.ok r→r.length<l.length from fun r hr => by have h1:=hr; rw [R0.out] at h1; obtain ⟨r1,e1,-,rfl⟩:=G0 h1; obtain ⟨t,e2⟩:=q9 e1; have:=L0.out t r1 e2; have:=J4 r1; omega)
 have C9:=hid (bI P g cap ts (nest + 1) τ0 W8 hn1 P8 fun r hr => HEx.out r (M1.out r hr))
 go_wp2_with fail
 (with_reducible refine Calls.mono C9.out ?_)
 rintro e W9 ⟨k1,a1,c1,rfl,hs,hg,hk⟩
 have S9:=hid hg
 have P9:=hid hs
 clear hs hg C9
 obtain ⟨x1,hx1⟩ : ∃ x,x=goX τ0 (rd .expr (nest + 1)):=⟨_,rfl⟩
 rw [← hx1] at P9 hk
 have HK1:=hid hk
 have X1:=hid hx1
 have L1:=hid (show ∀ t r,x1=.ok (t,r)→r.length<l.length from fun t r h => by rw [hx1] at h; obtain ⟨r0,e,hl⟩:=kU h; have:=M1.out r0 e; omega)
 clear hk hx1
 obtain ⟨W10,hW10⟩ : ∃ W,W=W9.alloc (.cells #[.int .i64 k1.kind,.string k1.text,.int .i64 k1.n,.slice a1 k1.kids.length c1,.int .i64 k1.place] 24):=⟨_,rfl⟩
 have B10:=hid (show c6 W9.heap.size k1 a1 c1 W10 from hW10 ▸ c6.make W9 k1 a1 c1)
 have E10:=hid (show Below W9.heap.size W9 W10 from hW10 ▸ a7 _ _)
 have S10:=hid (c9 (r:=some P) E10)
 have P10:=hid (P9.out.below E10)
 have C11:=hid (n6 P g cap ts (nest + 1) (l9 x1) ⟨#[101,108,115,101]⟩ W10 hn1 P10 he)
 unfold Nd.val
 go_wp2_with fail
 rw [← hW10]
 clear hW10
 (with_reducible refine Calls.mono C11.out ?_)
 rintro e W11 ⟨rfl,hs,hg⟩
 have S11:=hid hg
 have P11:=hid hs
 clear hs hg C11
 obtain ⟨τ1,hτ1⟩ : ∃ σ,σ=n8 a3z (l9 x1):=⟨_,rfl⟩
 replace P11:=hid (show SP P g cap ts (nest + 1) τ1 W11 from hτ1 ▸ P11.out)
 have R1:=hid hτ1
 clear hτ1
 have M2:=hid (show ∀ r,τ1=.ok r→r.length<l.length from fun r hr => by have h1:=hr; rw [R1.out] at h1; obtain ⟨r1,e1,-,rfl⟩:=G0 h1; obtain ⟨t,e2⟩:=q9 e1; have:=L1.out t r1 e2; have:=J4 r1; omega)
 have C12:=hid (bI P g cap ts (nest + 1) τ1 W11 hn1 P11 fun r hr => HEx.out r (M2.out r hr))
 go_wp2_with fail
 (with_reducible refine Calls.mono C12.out ?_)
 rintro e W12 ⟨k2,a2,c2,rfl,hs,hg,hk⟩
 have S12:=hid hg
 have P12:=hid hs
 clear hs hg C12
 obtain ⟨x2,hx2⟩ : ∃ x,x=goX τ1 (rd .expr (nest + 1)):=⟨_,rfl⟩
 rw [← hx2] at P12 hk
 have HK2:=hid hk
 have X2:=hid hx2
 have L2:=hid (show ∀ t r,x2=.ok (t,r)→r.length<l.length from fun t r h => by rw [hx2] at h; obtain ⟨r0,e,hl⟩:=kU h; have:=M2.out r0 e; omega)
 clear hk hx2
 obtain ⟨W13,hW13⟩ : ∃ W,W=W12.alloc (.cells #[.int .i64 k2.kind,.string k2.text,.int .i64 k2.n,.slice a2 k2.kids.length c2,.int .i64 k2.place] 24):=⟨_,rfl⟩
 have B13:=hid (show c6 W12.heap.size k2 a2 c2 W13 from hW13 ▸ c6.make W12 k2 a2 c2)
 have E13:=hid (show Below W12.heap.size W12 W13 from hW13 ▸ a7 _ _)
 have S13:=hid (c9 (r:=some P) E13)
 have P13:=hid (P12.out.below E13)
 unfold Nd.val
 go_upto_region 16 with fail
 rw [← hW13]
 clear hW13
 obtain ⟨m,hm1,hm2,p2,q2,hs⟩:=P13.out.nest
 have hpl:=P13.out.blocks.1
 obtain ⟨W14,hW14⟩ : ∃ W,W=W13.setCell ⟨P,2,none⟩ (.int .i64 (m - 1)):=⟨_,rfl⟩
 have S14:=hid (show W13.grownBy W14 (some P) from hW14 ▸ F7 _ _ _ _)
 have P14:=hid (show SP P g cap ts nest (l9 x2) W14 from hW14 ▸ hs)
 go_upto_region 17 with fail
 rw [← hW14]
 clear hW14 hs p2 q2 hpl hm1 hm2
 obtain ⟨⟨t0,t1,t2,t3⟩,-⟩:=(B5.out.grown (a6 (a6 (a6 (a6 (a6 (a6 (a6 (a6 S6 S7) S8) S9) S10) S11) S12) S13) S14) (Nat.ne_of_gt P4.out.blocks.1)).cells
 obtain ⟨⟨n00,n01,n02,n03,n04⟩,-⟩:=(B7.out.grown (a6 (a6 (a6 (a6 (a6 (a6 S8 S9) S10) S11) S12) S13) S14) (Nat.ne_of_gt P6.out.blocks.1)).cells
 obtain ⟨⟨n10,n11,n12,n13,n14⟩,-⟩:=(B10.out.grown (a6 (a6 (a6 S11 S12) S13) S14) (Nat.ne_of_gt P9.out.blocks.1)).cells
 obtain ⟨⟨n20,n21,n22,n23,n24⟩,-⟩:=(B13.out.grown S14 (Nat.ne_of_gt P12.out.blocks.1)).cells
 obtain ⟨W15,hW15⟩ : ∃ W,W=W14.alloc (.cells #[.int .i64 k0.kind,.string k0.text,.int .i64 k0.n,.slice a0 k0.kids.length c0,.int .i64 k0.place,.int .i64 k1.kind,.string k1.text,.int .i64 k1.n,.slice a1 k1.kids.length c1,.int .i64 k1.place,.int .i64 k2.kind,.string k2.text,.int .i64 k2.n,.slice a2 k2.kids.length c2,.int .i64 k2.place] 24):=⟨_,rfl⟩
 have E15:=hid (show Below W14.heap.size W14 W15 from hW15 ▸ a7 _ _)
 have S15:=hid (c9 (r:=some P) E15)
 have P15:=hid (P14.out.below E15)
 have B15:=hid (show W15.heap[W14.heap.size]?=some (.cells #[.int .i64 k0.kind,.string k0.text,.int .i64 k0.n,.slice a0 k0.kids.length c0,.int .i64 k0.place,.int .i64 k1.kind,.string k1.text,.int .i64 k1.n,.slice a1 k1.kids.length c1,.int .i64 k1.place,.int .i64 k2.kind,.string k2.text,.int .i64 k2.n,.slice a2 k2.kids.length c2,.int .i64 k2.place] 24 (0,0)) from by rw [hW15]; exact gD _ rfl)
 have hlt:=hid (show W14.heap.size<W15.heap.size from by rw [hW15]; simp)
 have HD:=hid (show ∀ r,(l9 x2)=.ok r→j3 (mkN 14 [] 0 [k0,k1,k2] T.pos)≤101∧(mkN 14 [] 0 [k0,k1,k2] T.pos).lies (Fr W1.heap.size W15.heap.size) W15 (some ⟨W14.heap.size,0,none⟩) 3 from fun r hr => by
  obtain ⟨v3,y3⟩:=q9 hr; obtain ⟨-,hl2,hd2⟩:=HK2.out v3 r y3
  rw [X2.out] at y3; obtain ⟨r2,e2,-⟩:=T3 y3; rw [R1.out] at e2; obtain ⟨s2,f2,-,-⟩:=G0 e2; obtain ⟨v2,y2⟩:=q9 f2; obtain ⟨-,hl1,hd1⟩:=HK1.out v2 s2 y2
  rw [X1.out] at y2; obtain ⟨r1,e1,-⟩:=T3 y2; rw [R0.out] at e1; obtain ⟨s1,f1,-,-⟩:=G0 e1; obtain ⟨v1,y1⟩:=q9 f1; obtain ⟨-,hl0,hd0⟩:=HK0.out v1 s1 y1
  have hP1 : P<W1.heap.size:=P1.out.blocks.1
  have q0 : W1.heap.size≤W5.heap.size:=(a6 (a6 (a6 S2 S3) S4) S5).size
  have q1 : W1.heap.size≤W8.heap.size:=(a6 (a6 (a6 (a6 (a6 (a6 S2 S3) S4) S5) S6) S7) S8).size
  have q2 : W1.heap.size≤W11.heap.size:=(a6 (a6 (a6 (a6 (a6 (a6 (a6 (a6 (a6 S2 S3) S4) S5) S6) S7) S8) S9) S10) S11).size
  refine ⟨by rw [nR]; omega,pW rfl (by decide) HT0.out.2.1 ⟨(a6 (a6 (a6 (a6 (a6 (a6 (a6 (a6 (a6 (a6 (a6 (a6 S2 S3) S4) S5) S6) S7) S8) S9) S10) S11) S12) S13) S14).size,hlt⟩ B15 (d8 hl0 ((j6.refl _ _).grown (a6 (a6 (a6 (a6 (a6 (a6 (a6 (a6 S7 S8) S9) S10) S11) S12) S13) S14) S15) fun b hb => ⟨hb.2,fun e => by subst e; have:=hb.1; omega⟩) fun b hb => ⟨Nat.le_trans q0 hb.1,Nat.lt_of_lt_of_le hb.2 (a6 (a6 (a6 (a6 (a6 (a6 (a6 (a6 S7 S8) S9) S10) S11) S12) S13) S14) S15).size⟩) (d8 hl1 ((j6.refl _ _).grown (a6 (a6 (a6 (a6 (a6 S10 S11) S12) S13) S14) S15) fun b hb => ⟨hb.2,fun e => by subst e; have:=hb.1; omega⟩) fun b hb => ⟨Nat.le_trans q1 hb.1,Nat.lt_of_lt_of_le hb.2 (a6 (a6 (a6 (a6 (a6 S10 S11) S12) S13) S14) S15).size⟩) (d8 hl2 ((j6.refl _ _).grown (a6 (a6 S13 S14) S15) fun b hb => ⟨hb.2,fun e => by subst e; have:=hb.1; omega⟩) fun b hb => ⟨Nat.le_trans q2 hb.1,Nat.lt_of_lt_of_le hb.2 (a6 (a6 S13 S14) S15).size⟩)⟩)
 have CM:=hid (cI P g cap ts nest (l9 x2) 14 [] 0 [k0,k1,k2] T.pos (some ⟨W14.heap.size,0,none⟩) 3 3 rfl W15 hn P15 fun r hr => ⟨(HD.out r hr).1,_,fun b hb => hb.2,(HD.out r hr).2⟩)
 obtain ⟨⟨u0,u1,u2,u3⟩,-⟩:=(B5.out.grown (a6 (a6 (a6 (a6 (a6 (a6 (a6 (a6 (a6 S6 S7) S8) S9) S10) S11) S12) S13) S14) S15) (Nat.ne_of_gt P4.out.blocks.1)).cells
 subst hW15
 go_wp2_with fail
 (with_reducible refine Calls.mono CM.out ?_)
 rintro e W16 ⟨rfl,hs,hg⟩
 have S16:=hid hg
 have P16:=hid hs
 clear hs hg CM t0 t1 t2 t3 u0 u1 u2 u3 n00 n01 n02 n03 n04 n10 n11 n12 n13 n14 n20 n21 n22 n23 n24
 have BR:=hid (B1.out.grown (a6 (a6 (a6 (a6 (a6 (a6 (a6 (a6 (a6 (a6 (a6 (a6 (a6 (a6 S2 S3) S4) S5) S6) S7) S8) S9) S10) S11) S12) S13) S14) S15) S16) HP.out.1.1)
 obtain ⟨⟨z0,z1,z2,z3,z4⟩,⟨f0,f1,f2,f3,f4⟩⟩:=BR.out.cells
 have hsz : w.heap.size<W16.heap.size:=BR.out.lt
 rw [show (mkN 14 [] 0 [k0,k1,k2] T.pos).val (some ⟨W14.heap.size,0,none⟩) 3=.agg #[.int .i64 14,.string ⟨List.toArray []⟩,.int .i64 0,.slice (some ⟨W14.heap.size,0,none⟩) 3 3,.int .i64 T.pos] from rfl]
 go_wp2_with fail
 refine bodyPost_ret (v:=(mkN 14 [] 0 [k0,k1,k2] T.pos).val (some ⟨W14.heap.size,0,none⟩) 3) (by simp [results,Tryz.results64,go_sem,Nd.val,mkN,Nd.kind,Nd.text,Nd.n,Nd.kids,Nd.place,z0,z1,z2,z3,z4]) rfl ?_
 have hX : X=goX (l9 x2) (made (mkN 14 [] 0 [k0,k1,k2] T.pos)):=by
  rw [HR.out,HT.out]
  rw [F0 (t:=k0) (fun t' r h => (HK0.out t' r h).1),D6,← R0.out,aA,← X1.out,F0 (t:=k1) (fun t' r h => (HK1.out t' r h).1),D6,← R1.out,aA,← X2.out,F0 (t:=k2) (fun t' r h => (HK2.out t' r h).1)]
 have hO : l9 X=eK (mkN 14 [] 0 [k0,k1,k2] T.pos) (l9 x2):=by rw [hX,dD]
 refine RdP.fin (by rw [hO]; exact P16) (a6 (a6 (a6 (a6 (a6 (a6 (a6 (a6 (a6 (a6 (a6 (a6 (a6 (a6 (a6 S1 S2) S3) S4) S5) S6) S7) S8) S9) S10) S11) S12) S13) S14) S15) S16) HP.out.1 (Nat.le_refl _) fun t' r' hx => ?_
 rw [hX] at hx
 obtain ⟨e1,e2,e3⟩:=dT _ _ hx
 have hP1 : P<W1.heap.size:=P1.out.blocks.1
 have hw1 : w.heap.size<W1.heap.size:=B1.out.lt
 refine ⟨e1,⟨_,fun c hc => ⟨fun e => by subst e; have:=hc.1; omega,by have:=hc.1; omega,Nat.lt_of_lt_of_le hc.2 S16.out.size⟩,d8 (HD.out r' e2).2 ((j6.refl _ _).grown S16 fun b hb => ⟨hb.2,fun e => by subst e; have:=hb.1; omega⟩) fun b hb => hb⟩,e3⟩
end
end Go.Proofs.YtppcfebnaieciaaGreatDoor
