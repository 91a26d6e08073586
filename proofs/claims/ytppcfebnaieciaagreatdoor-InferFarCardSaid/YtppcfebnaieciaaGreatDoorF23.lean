/-
  Laws that the proof rests on.
-/
import Derived.Test.YtppcfebnaieciaaGreatDoorF22
namespace Go.Proofs.YtppcfebnaieciaaGreatDoor
set_option maxRecDepth 100000
set_option maxHeartbeats 16000000
section
open Go.RowKit
def fT (lv : Nat) (b : Nat) (w : World) : Prop:=∀ i (hi : i<(R7 lv).length),w.cell? ⟨b,i,none⟩=some (.string ⟨(R7 lv)[i].toArray⟩)
theorem oI {lv b : Nat} {w : World} {x : List UInt8} {T : TypeId} (hs : R7 lv=[x]) (h : w.heap[b]?=some (.cells #[.string ⟨x.toArray⟩] T (0,0))) : fT lv b w:=by
 unfold fT
 rw [hs]
 intro i hi
 obtain rfl : i=0:=by simp at hi; omega
 simp [World.cell?,h]
theorem oZ {lv b : Nat} {w : World} {x y : List UInt8} {T : TypeId} (hs : R7 lv=[x,y]) (h : w.heap[b]?=some (.cells #[.string ⟨x.toArray⟩,.string ⟨y.toArray⟩] T (0,0))) : fT lv b w:=by
 unfold fT
 rw [hs]
 intro i hi
 rcases (show i=0∨i=1 by simp at hi; omega) with rfl | rfl <;> simp [World.cell?,h]
theorem fO {W : World} {b : Nat} (o : Obj) (hb : b=W.heap.size) : (W.alloc o).heap[b]?=some o:=by
 subst hb; show (W.heap.push o)[W.heap.size]?=_; simp
theorem bV {W : World} {b : Nat} (o : Obj) (hb : b<W.heap.size) : (W.alloc o).heap[b]?=W.heap[b]?:=by
 show (W.heap.push o)[b]?=_
 rw [Array.getElem?_push,if_neg (Nat.ne_of_lt hb)]
theorem xL (lv : Nat) (hlv : lv≤3) (w : World) :
 Calls Tryz.prog 137 #[.int .i64 lv] w fun e w' => ∃ b,e=.returned (.slice (some ⟨b,0,none⟩) (R7 lv).length (R7 lv).length)∧Below w.heap.size w w'∧(w.heap.size≤b∧b<w'.heap.size)∧fT lv b w':=by
 have hc : lv=0∨lv=1∨lv=2∨lv=3:=by omega
 clear hlv
 rcases hc with rfl | rfl | rfl | rfl
 all_goals
  go_enter Tryz.func137,Tryz.ntmps137
  go_wp2_with fail
  go_ret
  refine ⟨_,rfl,((((a7 w _).alloc (by simp only [World.size_alloc]; omega) _).alloc (by simp only [World.size_alloc]; omega) _).alloc (by simp only [World.size_alloc]; omega) _).alloc (by simp only [World.size_alloc]; omega) _,⟨by omega,by simp only [World.size_alloc]; omega⟩,?_⟩
 ·exact oI rfl ((bV _ (by simp only [World.size_alloc]; omega)).trans ((bV _ (by simp only [World.size_alloc]; omega)).trans ((bV _ (by simp only [World.size_alloc]; omega)).trans ((bV _ (by simp only [World.size_alloc]; omega)).trans (fO _ rfl)))))
 ·exact oI rfl ((bV _ (by simp only [World.size_alloc]; omega)).trans ((bV _ (by simp only [World.size_alloc]; omega)).trans ((bV _ (by simp only [World.size_alloc]; omega)).trans (fO _ (by simp only [World.size_alloc])))))
 ·exact oZ rfl ((bV _ (by simp only [World.size_alloc]; omega)).trans ((bV _ (by simp only [World.size_alloc]; omega)).trans (fO _ (by simp only [World.size_alloc]))))
 ·exact oZ rfl ((bV _ (by simp only [World.size_alloc]; omega)).trans (fO _ (by simp only [World.size_alloc])))
end
section
open Lib (hid)
open Go.RowKit
theorem nO (ws : List (List UInt8)) (r : List Tk) (k : Nat) (hk : k<ws.length) : (ws.take (k + 1)).any (fun w => isT w r)=((ws.take k).any (fun w => isT w r) || isT ws[k] r):=by
 rw [List.take_succ_eq_append_getElem hk,List.any_append,List.any_cons,List.any_nil,Bool.or_false]
def a2C (P g cap : Nat) (ts : List Tk) (nest lv : Nat) (l : List Tk) (X : Rd) (lo : Nat) (b5 : Nat) (wr : World) (t : Nd) (a : Option Addr) (cp : Nat) (y : Rd) : Prop :=
 c6 b5 t a cp wr∧SP P g cap ts nest (l8 y) wr∧(X=y.then fun t r => rd (.loop lv t) nest r)∧∀ t' r,y=.ok (t',r)→t'=t∧(∃ av : Nat→Prop,(∀ c,av c→lo≤c∧c<wr.heap.size∧c≠b5)∧t.lies av wr a cp)∧i8 t≤100∧r.length≤l.length
theorem a3T (lv : Nat) (t : Nd) (nest : Nat) (r : List Tk) : rd (.loop lv t) nest r=if iR (R7 lv) r=true then (rd (aL lv) nest (b9 r)).then fun m r' => (made (mkN 13 (hd r).text 0 [t,m] (hd r).pos) r').then fun t r => rd (.loop lv t) nest r else .ok (t,r):=lW (.loop lv t) nest r
theorem cX (P g cap : Nat) (ts : List Tk) (he : bJ ts) (htk : ∀ t∈ts,bG t) (lv : Nat) (hlv : lv≤3) (l : List Tk) (hL : CL P g cap ts lv l) (hL2 : ∀ r,r.length<l.length→CL P g cap ts lv r) : CC P g cap ts lv l:=by
 intro nest w hn h
 obtain ⟨V,hV⟩ : ∃ V,V=w.alloc (.cells #[.int .i64 0,.string ⟨#[]⟩,.int .i64 0,.slice none 0 0,.int .i64 0] 24):=⟨_,rfl⟩
 have HBV:=hid (show Below w.heap.size w V from hV ▸ a7 w _)
 have N1:=hid (show c6 w.heap.size nd0 none 0 V from hV ▸ c6.make w nd0 none 0)
 have hS:=hid (h.below HBV)
 have hb0:=hid h.blocks
 have HP:=hid (show w.heap.size≠P∧w.heap.size≠g from ⟨Nat.ne_of_gt hb0.out.1,Nat.ne_of_gt hb0.out.2⟩)
 have HL2:=hid hL2
 have HTK:=hid htk
 have HLV:=hid hlv
 have HE:=hid he
 obtain ⟨X,hX⟩ : ∃ X,X=rd (.chain lv) nest l:=⟨_,rfl⟩
 rw [← hX]
 have HX:=hid (show X=(rd (aL lv) nest l).then fun t r => rd (.loop lv t) nest r from hX.trans (lW (.chain lv) nest l))
 have C1:=hid (hL nest V hn hS)
 have HLen:=hid (fun t r (h : rd (aL lv) nest l=.ok (t,r)) => iK (aL lv) nest l h)
 generalize rd (aL lv) nest l=y at HX C1 HLen
 have HVs:=hid (show w.heap.size<V.heap.size from N1.out.lt)
 have HPV:=hid (show P<V.heap.size from hS.out.blocks.1)
 clear hX h hL hL2 htk hlv he
 go_enter Tryz.func103,Tryz.ntmps103
 go_wp2_with fail
 rw [← hV]
 clear hV
 (with_reducible refine Calls.mono C1.out ?_)
 rintro e w2 ⟨t,a,cp,rfl,hs,hg,hk⟩
 have N2:=hid (N1.out.grown hg HP.out.1)
 have G2:=hid (a6 (c9 HBV) hg)
 have HK:=hid hk
 have hP2:=hid (show w2.heap.size≠P∧w2.heap.size≠g∧w.heap.size<w2.heap.size∧V.heap.size≤w2.heap.size by have:=hs.blocks; have:=N2.out.lt; have:=hg.size; omega)
 obtain ⟨W3,hW3⟩ : ∃ W,W=w2.alloc (.cells #[.int .i64 t.kind,.string t.text,.int .i64 t.n,.slice a t.kids.length cp,.int .i64 t.place] 24):=⟨_,rfl⟩
 have HB3:=hid (show Below w2.heap.size w2 W3 from hW3 ▸ a7 _ _)
 have M3:=hid (show c6 w2.heap.size t a cp W3 from hW3 ▸ c6.make w2 t a cp)
 have N3:=hid (N2.out.below HB3)
 have G3:=hid (c8 G2 (HB3.out.mono G2.out.size))
 have I3:=hid (show a2C P g cap ts nest lv l X V.heap.size w2.heap.size W3 t a cp y from ⟨M3,SP.below hs HB3,HX,fun t' r hy => by
  obtain ⟨e,hl,hd⟩:=HK.out t' r hy
  exact ⟨e,⟨Fr V.heap.size w2.heap.size,fun c hc => ⟨hc.1,Nat.lt_of_lt_of_le hc.2 HB3.out.size,Nat.ne_of_lt hc.2⟩,d6 hl (fun b hb => HB3.out.block b hb.2) fun b hb => hb⟩,hd,HLen.out t' r hy⟩⟩)
 clear hs hg hk
 unfold Nd.val
 go_upto_region 2 with fail
 rw [← hW3]
 have HW3:=hid (show W3.heap.size≤W3.heap.size from Nat.le_refl _)
 clear hW3 C1
 go_loopw [6,7,8,9,10,11] (fun _ _ _ _ _ _ wr => ∃ (t : Nd) (a : Option Addr) (cp : Nat) (y : Rd),Hid (a2C P g cap ts nest lv l X V.heap.size w2.heap.size wr t a cp y)∧Hid (c6 w.heap.size nd0 none 0 wr)∧Hid (w.grownBy wr (some P))∧Hid (W3.heap.size≤wr.heap.size)) (fun _ _ _ _ _ _ wr => nS P ts wr)
 case atStart => exact ⟨t,a,cp,y,I3,N3,G3,HW3⟩
 case round =>
  obtain ⟨t,a,cp,y,HI,HN,HG,HW⟩:=hrel
  clear N1 N2 N3 M3 G2 G3 I3 HK HX HLen
  have HI0:=HI
  obtain ⟨M,hs,hX,hk⟩:=HI.out
  have hpl:=hs.blocks.1
  cases y with
  | error q =>
    obtain ⟨k,p⟩:=q
    obtain ⟨hk0,i,n,hp,-,-⟩:=hs.error
    obtain ⟨⟨p0,p1,p2,p3,p4⟩,-⟩:=hp.cells
    have ek : (k == 0)=false:=beq_eq_false_iff_ne.2 hk0
    have HS:=hid hs
    obtain ⟨⟨z0,z1,z2,z3,z4⟩,⟨f0,f1,f2,f3,f4⟩⟩:=HN.out.cells
    obtain ⟨⟨n0,n1,n2,n3,n4⟩,-⟩:=M.cells
    have hsz : w.heap.size<wr.heap.size∧w2.heap.size<wr.heap.size:=⟨HN.out.lt,M.lt⟩
    have HX:=hid (show X=.error (k,p) from hX)
    clear HI HI0 M hs hX hk hk0 hp
    go_wp2_with fail
    refine bodyPost_ret (v:=t.val a cp) (by simp [results,Tryz.results103,go_sem,Nd.val,z0,z1,z2,z3,z4]) rfl ?_
    rw [HX.out]
    exact RdP.fin (x:=.error (k,p)) HS HG HP (Nat.le_refl _) (fun _ _ h => by cases h)
  | ok q =>
    obtain ⟨t',r⟩:=q
    obtain ⟨rfl,hlies,hd,hlen⟩:=hk t' r rfl
    have HS:=hid (show SP P g cap ts nest (.ok r) wr from hs)
    obtain ⟨i,-,hp⟩:=HS.out.ok
    obtain ⟨⟨p0,p1,p2,p3,p4⟩,-⟩:=hp.cells
    have HX:=hid (show X=rd (.loop lv t') nest r from hX)
    have HM:=hid M
    have HLies:=hid hlies
    have HD:=hid hd
    have HLen:=hid hlen
    have HFar:=hid (show nS P ts wr=r.length + 1 from HS.out.far)
    have C2:=hid (xL lv HLV wr)
    clear HI HI0 M hs hX hk hp hlies hd hlen
    go_wp2_with fail
    (with_reducible refine Calls.mono C2.out ?_)
    rintro e w4 ⟨b,rfl,hb,hbb,hsg⟩
    have HS4:=hid (HS.out.below hb)
    have HN4:=hid (HN.out.below hb)
    have HM4:=hid (HM.out.below hb)
    have HB4:=hid hb
    have HSG:=hid (show ∀ i (hi : i<(R7 lv).length),w4.cell? ⟨b,i,none⟩=some (.string ⟨(R7 lv)[i].toArray⟩) from hsg)
    have HSA:=hid (show iR (R7 lv) r=(R7 lv).any (fun w => isT w r) from rfl)
    have hsgl : b<w4.heap.size:=hbb.2
    have HBB:=hid hbb
    have HLQ:=hid (a3T lv t' nest r)
    have HSL:=hid (show (R7 lv).length≤4 from by unfold R7; split; decide; split; decide; split <;> decide)
    generalize R7 lv=sg at HSG HSA HLQ HSL ⊢
    have hsgm : sg.length≤4:=HSL.out
    have G4:=hid (c8 HG (HB4.out.mono HG.out.size))
    have HW4:=hid (Nat.le_trans HW HB4.out.size)
    have HL4:=hid (show ∃ av : Nat→Prop,(∀ c,av c→V.heap.size≤c∧c<w4.heap.size∧c≠w2.heap.size)∧t'.lies av w4 a cp from by
     obtain ⟨av,hav,hl⟩:=HLies.out
     exact ⟨av,fun c hc => ⟨(hav c hc).1,Nat.lt_of_lt_of_le (hav c hc).2.1 HB4.out.size,(hav c hc).2.2⟩,d6 hl (fun b hb => HB4.out.block b (hav b hb).2.1) fun b hb => hb⟩)
    clear hb hsg hbb p0 p1 p2 p3 p4 hpl C2
    go_wp2_with fail
    go_loopw [6,8,9] (fun f i _ wi => ∃ (k : Nat),k≤sg.length∧i=.int .i64 k∧f=.bool ((sg.take k).any fun w => isT w r)∧Hid (Below w4.heap.size w4 wi)) (fun _ i _ _ => sg.length - (intOf i).toNat)
    case atStart => exact ⟨0,Nat.zero_le _,rfl,rfl,Below.refl _ _⟩
    case round =>
     obtain ⟨k,hk,rfl,rfl,HBi⟩:=hrel
     have HSi:=hid (HS4.out.below HBi)
     by_cases hlt : k<sg.length
     ·have hc0:=(HBi.out.cell (p:=⟨b,k,none⟩) hsgl).trans (HSG.out k hlt)
      have D1:=hid (cK P g cap ts nest (.ok r) ⟨sg[k].toArray⟩ wr HSi)
      have HTk:=hid (nO sg r k hlt)
      generalize ((sg.take k).any fun w => isT w r)=f0 at HTk ⊢
      go_wp2_with fail
      (with_reducible refine Calls.mono D1.out ?_)
      rintro e w6 ⟨b1,rfl,hb,hb1⟩
      have HB6:=hid (HBi.out.trans (hb.mono HBi.out.size))
      have HT1:=hid (hb1 r rfl)
      clear hb hb1
      cases f0
      ·go_wp2_with fail
       go_roundw
       case rel => exact ⟨k + 1,by omega,by go_num,by rw [HTk.out,HT1.out]; simp,HB6⟩
       case measure => simp [intOf]; omega
      ·go_wp2_with fail
       go_roundw
       case rel => exact ⟨k + 1,by omega,by go_num,by rw [HTk.out]; simp,HB6⟩
       case measure => simp [intOf]; omega
     ·have HF:=hid (show ((sg.take k).any fun w => isT w r)=iR sg r from by rw [List.take_of_length_le (by omega)]; rfl)
      have HNi:=hid (HN4.out.below HBi)
      have HMi:=hid (HM4.out.below HBi)
      have Gi:=hid (c8 G4 (HBi.out.mono G4.out.size))
      have HWi:=hid (Nat.le_trans HW4 HBi.out.size)
      have HLi:=hid (show ∃ av : Nat→Prop,(∀ c,av c→V.heap.size≤c∧c<wr.heap.size∧c≠w2.heap.size)∧t'.lies av wr a cp from by
       obtain ⟨av,hav,hl⟩:=HL4.out
       exact ⟨av,fun c hc => ⟨(hav c hc).1,Nat.lt_of_lt_of_le (hav c hc).2.1 HBi.out.size,(hav c hc).2.2⟩,d6 hl (fun b hb => HBi.out.block b (hav b hb).2.1) fun b hb => hb⟩)
      generalize ((sg.take k).any fun w => isT w r)=B at HF ⊢
      clear HN4 HM4 HL4 HLies HN HM
      cases B
      ·obtain ⟨⟨z0,z1,z2,z3,z4⟩,⟨f0,f1,f2,f3,f4⟩⟩:=HNi.out.cells
       obtain ⟨⟨n0,n1,n2,n3,n4⟩,-⟩:=HMi.out.cells
       have hsz : w.heap.size<wr.heap.size∧w2.heap.size<wr.heap.size:=⟨HNi.out.lt,HMi.out.lt⟩
       go_wp2_with fail
       refine bodyPost_ret (v:=t'.val a cp) (by simp [results,Tryz.results103,go_sem,Nd.val,z0,z1,z2,z3,z4]) rfl ?_
       have hx : X=.ok (t',r):=by rw [HX.out,HLQ.out,if_neg (by rw [← HF.out]; decide)]
       rw [hx]
       refine RdP.fin (x:=.ok (t',r)) HSi Gi HP (Nat.le_refl _) fun t2 r2 h2 => ?_
       cases h2
       obtain ⟨av,hav,hl⟩:=HLi.out
       exact ⟨rfl,⟨av,fun c hc => ⟨fun e => by subst e; have:=(hav _ hc).1; have:=HVs.out; omega,by have:=(hav _ hc).1; have:=HVs.out; omega,(hav c hc).2.1⟩,hl⟩,HD⟩
      ·have HAny:=hid (show iR sg r=true from HF.out.symm)
       have D4:=hid (O3 P g cap ts nest (.ok r) wr HSi HE)
       have HT0:=hid (HTK.out _ HSi.out.mem)
       have hstep:=gB HAny
       have HC5:=hid (HL2.out (b9 r) (by have:=HLen.out; omega))
       have HR:=hid (show X=(rd (aL lv) nest (b9 r)).then fun m r' => (made (mkN 13 (hd r).text 0 [t',m] (hd r).pos) r').then fun t r => rd (.loop lv t) nest r from by
        rw [HX.out,HLQ.out,if_pos HAny.out])
       have HRL:=hid (fun t q (h : rd (aL lv) nest (b9 r)=.ok (t,q)) => iK (aL lv) nest (b9 r) h)
       have HST:=hid hstep
       clear hstep HF HX HLQ HSA
       go_wp2_with fail
       (with_reducible refine Calls.mono D4.out ?_)
       rintro e w8 ⟨T,rfl,hs,hg,hT⟩
       have HT:=hid (hT r rfl)
       have N8:=hid (HNi.out.grown hg HP.out.1)
       have M8:=hid (HMi.out.grown hg hP2.out.1)
       have G8:=hid (a6 Gi hg)
       have K8:=hid hg
       have hP8:=hid (show w8.heap.size≠P∧w8.heap.size≠g by have:=hs.blocks; omega)
       obtain ⟨W9,hW9⟩ : ∃ W,W=w8.alloc (.cells #[.int .i64 T.kind,.string ⟨T.text.toArray⟩,.int .i64 T.n,.int .i64 T.pos] 108):=⟨_,rfl⟩
       have HB9:=hid (show Below w8.heap.size w8 W9 from hW9 ▸ a7 _ _)
       have T9:=hid (show D5 w8.heap.size T W9 from hW9 ▸ D5.make w8 T)
       have HS9:=hid (SP.below hs HB9)
       have N9:=hid (N8.out.below HB9)
       have M9:=hid (M8.out.below HB9)
       have G9:=hid (c8 G8 (HB9.out.mono G8.out.size))
       have K9:=hid (c8 K8 (HB9.out.mono K8.out.size))
       have C5:=hid (HC5.out nest W9 hn HS9)
       generalize rd (aL lv) nest (b9 r)=y2 at HR C5 HRL
       clear hs hg hT
       unfold tkV
       go_wp2_with fail
       rw [← hW9]
       clear hW9
       (with_reducible refine Calls.mono C5.out ?_)
       rintro e w10 ⟨u,a',cp',rfl,hs,hg,hk⟩
       have HK2:=hid hk
       have N10:=hid (N9.out.grown hg HP.out.1)
       have M10:=hid (M9.out.grown hg hP2.out.1)
       have T10:=hid (T9.out.grown hg hP8.out.1)
       have G10:=hid (a6 G9 hg)
       have K10:=hid (a6 K9 hg)
       have hsz9:=hid (show W9.heap.size≤w10.heap.size from hg.size)
       have hP9:=hid (show P<W9.heap.size from HS9.out.blocks.1)
       have hP10:=hid (show w10.heap.size≠P∧w10.heap.size≠g by have:=hs.blocks; omega)
       obtain ⟨W11,hW11⟩ : ∃ W,W=w10.alloc (.cells #[.int .i64 u.kind,.string u.text,.int .i64 u.n,.slice a' u.kids.length cp',.int .i64 u.place] 24):=⟨_,rfl⟩
       have HB11:=hid (show Below w10.heap.size w10 W11 from hW11 ▸ a7 _ _)
       have U11:=hid (show c6 w10.heap.size u a' cp' W11 from hW11 ▸ c6.make w10 u a' cp')
       have HS11:=hid (SP.below hs HB11)
       have N11:=hid (N10.out.below HB11)
       have M11:=hid (M10.out.below HB11)
       have T11:=hid (T10.out.below HB11)
       have G11:=hid (c8 G10 (HB11.out.mono G10.out.size))
       have K11:=hid (c8 K10 (HB11.out.mono K10.out.size))
       clear hs hg hk
       unfold Nd.val
       go_upto_region 13 with fail
       rw [← hW11]
       clear hW11
       obtain ⟨⟨t0,t1,t2,t3⟩,-⟩:=T11.out.cells
       obtain ⟨⟨n0,n1,n2,n3,n4⟩,-⟩:=M11.out.cells
       obtain ⟨⟨m0,m1,m2,m3,m4⟩,-⟩:=U11.out.cells
       obtain ⟨W12,hW12⟩ : ∃ W,W=W11.alloc (.cells #[.int .i64 t'.kind,.string t'.text,.int .i64 t'.n,.slice a t'.kids.length cp,.int .i64 t'.place,.int .i64 u.kind,.string u.text,.int .i64 u.n,.slice a' u.kids.length cp',.int .i64 u.place] 24):=⟨_,rfl⟩
       have HB12:=hid (show Below W11.heap.size W11 W12 from hW12 ▸ a7 _ _)
       have A12:=hid (show W12.heap[W11.heap.size]?=some (.cells #[.int .i64 t'.kind,.string t'.text,.int .i64 t'.n,.slice a t'.kids.length cp,.int .i64 t'.place,.int .i64 u.kind,.string u.text,.int .i64 u.n,.slice a' u.kids.length cp',.int .i64 u.place] 24 (0,0)) from by
        rw [hW12]; exact fO _ rfl)
       have N12:=hid (N11.out.below HB12)
       have M12:=hid (M11.out.below HB12)
       have T12:=hid (T11.out.below HB12)
       have HS12:=hid (HS11.out.below HB12)
       have G12:=hid (c8 G11 (HB12.out.mono G11.out.size))
       have K12:=hid (c8 K11 (HB12.out.mono K11.out.size))
       have B1012:=hid (HB11.out.trans (HB12.out.mono HB11.out.size))
       have hlt12:=hid (show W11.heap.size<W12.heap.size from by rw [hW12]; simp)
       have hVw:=hid (show V.heap.size≤w2.heap.size∧w2.heap.size<W9.heap.size from ⟨hP2.out.2.2.2,M9.out.lt⟩)
       have HD2:=hid (show ∀ r,l8 y2=.ok r→i8 (mkN 13 T.text 0 [t',u] T.pos)≤101∧(mkN 13 T.text 0 [t',u] T.pos).lies (fun c => V.heap.size≤c∧c<W12.heap.size∧c≠w2.heap.size) W12 (some ⟨W11.heap.size,0,none⟩) 2 from fun r hr => by
        obtain ⟨u',hu'⟩:=q6 hr
        obtain ⟨rfl,hl,hd⟩:=HK2.out u' r hu'
        obtain ⟨av,hav,hl0⟩:=HLi.out
        have hd0:=HD.out
        have hB:=B1012.out.size
        refine ⟨by rw [lI]; omega,oN rfl (HT.out ▸ HT0.out) ?_ A12 (d6 hl0 ((f8.refl _ _).grown K12 fun b hb => ⟨(hav b hb).2.1,fun e => by subst e; have:=(hav _ hb).1; have:=HPV.out; omega⟩) fun b hb => ⟨(hav b hb).1,Nat.lt_of_lt_of_le (hav b hb).2.1 K12.out.size,(hav b hb).2.2⟩)
         (d6 hl (fun b hb => B1012.out.block b hb.2) fun b hb => ?_)⟩
        ·have:=hlt12.out; have:=HB11.out.size; have:=hsz9.out; have:=hVw.out
         exact ⟨by omega,by omega,by omega⟩
        ·have:=hb.1; have:=hb.2; have:=hVw.out
         exact ⟨by omega,by omega,by omega⟩)
       have C6:=hid (bT P g cap ts nest (l8 y2) 13 T.text 0 [t',u] T.pos (some ⟨W11.heap.size,0,none⟩) 2 2 rfl W12 hn HS12 fun r hr => ⟨(HD2.out r hr).1,_,fun b hb => hb.2.1,(HD2.out r hr).2⟩)
       obtain ⟨⟨u0,u1,u2,u3⟩,-⟩:=T12.out.cells
       subst hW12
       go_wp2_with fail
       (with_reducible refine Calls.mono C6.out ?_)
       rintro e w13 ⟨rfl,hs,hg⟩
       have M13:=hid (M12.out.grown hg hP2.out.1)
       obtain ⟨⟨z0,z1,z2,z3,z4⟩,⟨f0,f1,f2,f3,f4⟩⟩:=M13.out.cells
       have hsz13 : w2.heap.size<w13.heap.size:=M13.out.lt
       have HS13:=hid hs
       have N13:=hid (N12.out.grown hg HP.out.1)
       have G13:=hid (a6 G12 hg)
       have HG13:=hid hg
       have HWK:=hid (Nat.le_trans HWi (Nat.le_trans K12.out.size hg.size))
       clear hs hg t0 t1 t2 t3 n0 n1 n2 n3 n4 m0 m1 m2 m3 m4 u0 u1 u2 u3
       rw [show (mkN 13 T.text 0 [t',u] T.pos).val (some ⟨W11.heap.size,0,none⟩) 2=.agg #[.int .i64 13,.string ⟨T.text.toArray⟩,.int .i64 0,.slice (some ⟨W11.heap.size,0,none⟩) 2 2,.int .i64 T.pos] from rfl]
       go_wp2_with fail
       have HO:=hid (show l8 (goX (l8 y2) (made (mkN 13 T.text 0 [t',u] T.pos)))=dV (mkN 13 T.text 0 [t',u] T.pos) (l8 y2) from cI _ _)
       have HSf:=hid (show SP P g cap ts nest (l8 (goX (l8 y2) (made (mkN 13 T.text 0 [t',u] T.pos)))) (Q7 w13 w2.heap.size (mkN 13 T.text 0 [t',u] T.pos) (some ⟨W11.heap.size,0,none⟩) 2) from by
        rw [HO.out]; exact HS13.out.put hP2.out.1 hP2.out.2.1 _ _ _)
       have HY2:=hid (show ∀ t2 r2,goX (l8 y2) (made (mkN 13 T.text 0 [t',u] T.pos))=.ok (t2,r2)→r2.length<r.length from fun t2 r2 h => by
        obtain ⟨-,e2,-⟩:=dB _ _ h
        obtain ⟨u',hu'⟩:=q6 e2
        have:=HRL.out u' r2 hu'
        have:=HST.out
        omega)
       go_roundw
       case rel =>
        refine ⟨mkN 13 T.text 0 [t',u] T.pos,some ⟨W11.heap.size,0,none⟩,2,goX (l8 y2) (made (mkN 13 T.text 0 [t',u] T.pos)),⟨M13.out.put _ _ _,HSf,?_,fun t2 r2 h => ?_⟩,N13.out.oput (Nat.ne_of_lt hP2.out.2.2.1) (mkN 13 T.text 0 [t',u] T.pos) (some ⟨W11.heap.size,0,none⟩) 2,t6 G13 (Nat.le_of_lt hP2.out.2.2.1) (mkN 13 T.text 0 [t',u] T.pos) (some ⟨W11.heap.size,0,none⟩) 2,?_⟩
        ·rw [HR.out,z8 (t:=u) (fun t' r h => (HK2.out t' r h).1),← HT.out]
         exact Y2 (l8 y2) (made (mkN 13 T.text 0 [t',u] T.pos)) _
        ·obtain ⟨e1,e2,e3⟩:=dB _ _ h
         refine ⟨e1,⟨_,fun c hc => ⟨hc.1,?_,hc.2.2⟩,d6 (HD2.out r2 e2).2 (((f8.refl _ _).grown HG13 fun b hb => ⟨hb.2.1,?_⟩).put (fun b hb => hb.2.2) (mkN 13 T.text 0 [t',u] T.pos) (some ⟨W11.heap.size,0,none⟩) 2) fun b hb => hb⟩,e3,Nat.le_of_lt (Nat.lt_of_lt_of_le (HY2.out t2 r2 h) HLen)⟩
         ·have:=hc.2.1; have:=HG13.out.size
          refine Nat.lt_of_lt_of_le hc.2.1 ?_
          show _≤(Q7 w13 w2.heap.size (mkN 13 T.text 0 [t',u] T.pos) (some ⟨W11.heap.size,0,none⟩) 2).heap.size
          rw [size_put]; exact HG13.out.size
         ·rintro rfl
          have:=hb.1; have:=HPV.out; omega
        ·show _≤(Q7 w13 w2.heap.size (mkN 13 T.text 0 [t',u] T.pos) (some ⟨W11.heap.size,0,none⟩) 2).heap.size
         rw [size_put]; exact HWK
       case measure =>
        rw [HFar.out]
        refine Nat.lt_of_le_of_lt (Nat.le_of_eq HSf.out.far) ?_
        cases hy : goX (l8 y2) (made (mkN 13 T.text 0 [t',u] T.pos)) with
        | error e => exact Nat.succ_pos _
        | ok q => obtain ⟨t2,r2⟩:=q; have:=HY2.out t2 r2 hy; show r2.length + 1 < r.length + 1; omega
end
section
open Lib (hid)
open Go.RowKit
theorem pH {av : Nat→Prop} {W : World} {t u v : Nd} {a a' a2 : Option Addr} {cp cp' cp2 b : Nat} {k p : Int} {s : List UInt8} {A : TypeId} (hk : (Lit.int .i64 k).wf=true) (hs : s.length≤16384) (hp : (Lit.int .i64 p).wf=true) (hb : av b)
 (h : W.heap[b]?=some (.cells #[.int .i64 t.kind,.string t.text,.int .i64 t.n,.slice a t.kids.length cp,.int .i64 t.place,.int .i64 u.kind,.string u.text,.int .i64 u.n,.slice a' u.kids.length cp',.int .i64 u.place,.int .i64 v.kind,.string v.text,.int .i64 v.n,.slice a2 v.kids.length cp2,.int .i64 v.place] A (0,0))) (hl : t.lies av W a cp) (hu : u.lies av W a' cp') (hv : v.lies av W a2 cp2) :
 (mkN k s 0 [t,u,v] p).lies av W (some ⟨b,0,none⟩) 3 :=
 Nd.lies.mk' hk (by show s.toArray.size≤maxLen; unfold maxLen; simp; omega) rfl hp (Nat.le_refl _) (by unfold maxLen; decide) (a0R hb h hl hu hv)
theorem mN (k : Int) (s : List UInt8) (n p : Int) (t u v : Nd) : i8 (mkN k s n [t,u,v] p)=max (i8 t) (max (i8 u) (i8 v)) + 1:=by
 unfold mkN; rw [i8,o2,o2,o2,o2,Nat.max_zero]
theorem mC {σ : Sx} {nest : Nat} {m : Md} {t : Nd} {r : List Tk} (h : goX σ (rd m nest)=.ok (t,r)) : ∃ r0,σ=.ok r0∧r.length≤r0.length:=by
 obtain ⟨r0,e,h'⟩:=Q9 h
 exact ⟨r0,e,iK m nest r0 h'⟩
def rZ (nest : Nat) (l : List Tk) (at' : Int) : Rd:=U0 7 l fun s r => o8 J7 r fun r => (rd .expr nest r).then fun a r => o8 z6 r fun r => (rd .expr nest r).then fun b r => o8 z6 r fun r => (rd .expr nest r).then fun c r =>
 o8 O9 r fun r => made (mkN 15 s.text 0 [a,b,c] at') r
theorem rI (P g cap : Nat) (ts : List Tk) (he : bJ ts) (htk : ∀ t∈ts,bG t) (l : List Tk) (at' : Int) (hat : (Lit.int .i64 at').wf=true) (hE : ∀ r,r.length<l.length→CE P g cap ts r) (nest : Nat) (w : World) (hn : nest≤300) (h : SP P g cap ts nest (.ok l) w) :
 Calls Tryz.prog 193 #[.pointer (some ⟨P,0,none⟩),.int .i64 at'] w (RdP P g cap ts nest (rZ nest l at') w):=by
 have P0:=hid h
 have HP:=hid (show w.heap.size≠P∧w.heap.size≠g from ⟨Nat.ne_of_gt h.blocks.1,Nat.ne_of_gt h.blocks.2⟩)
 have HEx:=hid hE
 have HTK:=hid htk
 have HAT:=hid hat
 obtain ⟨X,hX⟩ : ∃ X,X=rZ nest l at':=⟨_,rfl⟩
 rw [← hX]
 have HX:=hid hX
 obtain ⟨W1,hW1⟩ : ∃ W,W=w.alloc (.cells #[.int .i64 0,.string ⟨#[]⟩,.int .i64 0,.slice none 0 0,.int .i64 0] 24):=⟨_,rfl⟩
 have B1:=hid (show c6 w.heap.size nd0 none 0 W1 from hW1 ▸ c6.make w nd0 none 0)
 have E1:=hid (show Below w.heap.size w W1 from hW1 ▸ a7 _ _)
 have S1:=hid (c9 (r:=some P) E1)
 have P1:=hid (P0.out.below E1)
 clear h hE htk hat hX
 go_enter Tryz.func193,Tryz.ntmps193
 have C2:=hid (aX P g cap ts nest (.ok l) 7 W1 hn P1 he)
 go_wp2_with fail
 rw [← hW1]
 clear hW1
 (with_reducible refine Calls.mono C2.out ?_)
 rintro e W2 ⟨T,rfl,hs,hg,hT⟩
 have S2:=hid hg
 have P2:=hid hs
 clear hs hg C2
 have HT:=hid (hT l rfl)
 clear hT
 have HT0:=hid (show bG T from HT.out ▸ HTK.out _ P1.out.mem)
 obtain ⟨σ1,hσ1⟩ : ∃ σ,σ=x6 7 (.ok l):=⟨_,rfl⟩
 rw [← hσ1] at P2
 have Q1:=hid hσ1
 clear hσ1
 obtain ⟨W3,hW3⟩ : ∃ W,W=W2.alloc (.cells #[.int .i64 T.kind,.string ⟨T.text.toArray⟩,.int .i64 T.n,.int .i64 T.pos] 108):=⟨_,rfl⟩
 have B3:=hid (show D5 W2.heap.size T W3 from hW3 ▸ D5.make W2 T)
 have E3:=hid (show Below W2.heap.size W2 W3 from hW3 ▸ a7 _ _)
 have S3:=hid (c9 (r:=some P) E3)
 have P3:=hid (P2.out.below E3)
 have C4:=hid (n5 P g cap ts nest σ1 ⟨#[40]⟩ W3 hn P3 he)
 unfold tkV
 go_wp2_with fail
 rw [← hW3]
 clear hW3
 (with_reducible refine Calls.mono C4.out ?_)
 rintro e W4 ⟨rfl,hs,hg⟩
 have S4:=hid hg
 have P4:=hid hs
 clear hs hg C4
 obtain ⟨τ0,hτ0⟩ : ∃ σ,σ=n7 J7 σ1:=⟨_,rfl⟩
 replace P4:=hid (show SP P g cap ts nest τ0 W4 from hτ0 ▸ P4.out)
 have R0:=hid hτ0
 clear hτ0
 have M0:=hid (show ∀ r,τ0=.ok r→r.length<l.length from fun r hr => by have h1:=hr; rw [R0.out] at h1; obtain ⟨r1,e1,-,rfl⟩:=F0 h1; rw [Q1.out] at e1; obtain ⟨r2,e2,e3,rfl⟩:=lL e1; cases e2; have:=I4 (b9 l); have:=dQ e3 (by decide); omega)
 have C5:=hid (aY P g cap ts nest τ0 W4 hn P4 fun r hr => HEx.out r (M0.out r hr))
 go_wp2_with fail
 (with_reducible refine Calls.mono C5.out ?_)
 rintro e W5 ⟨k0,a0,c0,rfl,hs,hg,hk⟩
 have S5:=hid hg
 have P5:=hid hs
 clear hs hg C5
 obtain ⟨x0,hx0⟩ : ∃ x,x=goX τ0 (rd .expr nest):=⟨_,rfl⟩
 rw [← hx0] at P5 hk
 have HK0:=hid hk
 have X0:=hid hx0
 have L0:=hid (show ∀ t r,x0=.ok (t,r)→r.length<l.length from fun t r h => by rw [hx0] at h; obtain ⟨r0,e,hl⟩:=mC h; have:=M0.out r0 e; omega)
 clear hk hx0
 obtain ⟨W6,hW6⟩ : ∃ W,W=W5.alloc (.cells #[.int .i64 k0.kind,.string k0.text,.int .i64 k0.n,.slice a0 k0.kids.length c0,.int .i64 k0.place] 24):=⟨_,rfl⟩
 have B6:=hid (show c6 W5.heap.size k0 a0 c0 W6 from hW6 ▸ c6.make W5 k0 a0 c0)
 have E6:=hid (show Below W5.heap.size W5 W6 from hW6 ▸ a7 _ _)
 have S6:=hid (c9 (r:=some P) E6)
 have P6:=hid (P5.out.below E6)
 have C7:=hid (n5 P g cap ts nest (l8 x0) ⟨#[44]⟩ W6 hn P6 he)
 unfold Nd.val
 go_wp2_with fail
 rw [← hW6]
 clear hW6
 (with_reducible refine Calls.mono C7.out ?_)
 rintro e W7 ⟨rfl,hs,hg⟩
 have S7:=hid hg
 have P7:=hid hs
 clear hs hg C7
 obtain ⟨τ1,hτ1⟩ : ∃ σ,σ=n7 z6 (l8 x0):=⟨_,rfl⟩
 replace P7:=hid (show SP P g cap ts nest τ1 W7 from hτ1 ▸ P7.out)
 have R1:=hid hτ1
 clear hτ1
 have M1:=hid (show ∀ r,τ1=.ok r→r.length<l.length from fun r hr => by have h1:=hr; rw [R1.out] at h1; obtain ⟨r1,e1,-,rfl⟩:=F0 h1; obtain ⟨t,e2⟩:=q6 e1; have:=L0.out t r1 e2; have:=I4 r1; omega)
 have C8:=hid (aY P g cap ts nest τ1 W7 hn P7 fun r hr => HEx.out r (M1.out r hr))
 go_wp2_with fail
 (with_reducible refine Calls.mono C8.out ?_)
 rintro e W8 ⟨k1,a1,c1,rfl,hs,hg,hk⟩
 have S8:=hid hg
 have P8:=hid hs
 clear hs hg C8
 obtain ⟨x1,hx1⟩ : ∃ x,x=goX τ1 (rd .expr nest):=⟨_,rfl⟩
 rw [← hx1] at P8 hk
 have HK1:=hid hk
 have X1:=hid hx1
 have L1:=hid (show ∀ t r,x1=.ok (t,r)→r.length<l.length from fun t r h => by rw [hx1] at h; obtain ⟨r0,e,hl⟩:=mC h; have:=M1.out r0 e; omega)
 clear hk hx1
 obtain ⟨W9,hW9⟩ : ∃ W,W=W8.alloc (.cells #[.int .i64 k1.kind,.string k1.text,.int .i64 k1.n,.slice a1 k1.kids.length c1,.int .i64 k1.place] 24):=⟨_,rfl⟩
 have B9:=hid (show c6 W8.heap.size k1 a1 c1 W9 from hW9 ▸ c6.make W8 k1 a1 c1)
 have E9:=hid (show Below W8.heap.size W8 W9 from hW9 ▸ a7 _ _)
 have S9:=hid (c9 (r:=some P) E9)
 have P9:=hid (P8.out.below E9)
 have C10:=hid (n5 P g cap ts nest (l8 x1) ⟨#[44]⟩ W9 hn P9 he)
 unfold Nd.val
 go_wp2_with fail
 rw [← hW9]
 clear hW9
 (with_reducible refine Calls.mono C10.out ?_)
 rintro e W10 ⟨rfl,hs,hg⟩
 have S10:=hid hg
 have P10:=hid hs
 clear hs hg C10
 obtain ⟨τ2,hτ2⟩ : ∃ σ,σ=n7 z6 (l8 x1):=⟨_,rfl⟩
 replace P10:=hid (show SP P g cap ts nest τ2 W10 from hτ2 ▸ P10.out)
 have R2:=hid hτ2
 clear hτ2
 have M2:=hid (show ∀ r,τ2=.ok r→r.length<l.length from fun r hr => by have h1:=hr; rw [R2.out] at h1; obtain ⟨r1,e1,-,rfl⟩:=F0 h1; obtain ⟨t,e2⟩:=q6 e1; have:=L1.out t r1 e2; have:=I4 r1; omega)
 have C11:=hid (aY P g cap ts nest τ2 W10 hn P10 fun r hr => HEx.out r (M2.out r hr))
 go_wp2_with fail
 (with_reducible refine Calls.mono C11.out ?_)
 rintro e W11 ⟨k2,a2,c2,rfl,hs,hg,hk⟩
 have S11:=hid hg
 have P11:=hid hs
 clear hs hg C11
 obtain ⟨x2,hx2⟩ : ∃ x,x=goX τ2 (rd .expr nest):=⟨_,rfl⟩
 rw [← hx2] at P11 hk
 have HK2:=hid hk
 have X2:=hid hx2
 have L2:=hid (show ∀ t r,x2=.ok (t,r)→r.length<l.length from fun t r h => by rw [hx2] at h; obtain ⟨r0,e,hl⟩:=mC h; have:=M2.out r0 e; omega)
 clear hk hx2
 obtain ⟨W12,hW12⟩ : ∃ W,W=W11.alloc (.cells #[.int .i64 k2.kind,.string k2.text,.int .i64 k2.n,.slice a2 k2.kids.length c2,.int .i64 k2.place] 24):=⟨_,rfl⟩
 have B12:=hid (show c6 W11.heap.size k2 a2 c2 W12 from hW12 ▸ c6.make W11 k2 a2 c2)
 have E12:=hid (show Below W11.heap.size W11 W12 from hW12 ▸ a7 _ _)
 have S12:=hid (c9 (r:=some P) E12)
 have P12:=hid (P11.out.below E12)
 have C13:=hid (n5 P g cap ts nest (l8 x2) ⟨#[41]⟩ W12 hn P12 he)
 unfold Nd.val
 go_wp2_with fail
 rw [← hW12]
 clear hW12
 (with_reducible refine Calls.mono C13.out ?_)
 rintro e W13 ⟨rfl,hs,hg⟩
 have S13:=hid hg
 have P13:=hid hs
 clear hs hg C13
 obtain ⟨τ3,hτ3⟩ : ∃ σ,σ=n7 O9 (l8 x2):=⟨_,rfl⟩
 replace P13:=hid (show SP P g cap ts nest τ3 W13 from hτ3 ▸ P13.out)
 have R3:=hid hτ3
 clear hτ3
 go_upto_region 9 with fail
 obtain ⟨⟨t0,t1,t2,t3⟩,-⟩:=(B3.out.grown (a6 (a6 (a6 (a6 (a6 (a6 (a6 (a6 (a6 S4 S5) S6) S7) S8) S9) S10) S11) S12) S13) (Nat.ne_of_gt P2.out.blocks.1)).cells
 obtain ⟨⟨n00,n01,n02,n03,n04⟩,-⟩:=(B6.out.grown (a6 (a6 (a6 (a6 (a6 (a6 S7 S8) S9) S10) S11) S12) S13) (Nat.ne_of_gt P5.out.blocks.1)).cells
 obtain ⟨⟨n10,n11,n12,n13,n14⟩,-⟩:=(B9.out.grown (a6 (a6 (a6 S10 S11) S12) S13) (Nat.ne_of_gt P8.out.blocks.1)).cells
 obtain ⟨⟨n20,n21,n22,n23,n24⟩,-⟩:=(B12.out.grown S13 (Nat.ne_of_gt P11.out.blocks.1)).cells
 obtain ⟨W14,hW14⟩ : ∃ W,W=W13.alloc (.cells #[.int .i64 k0.kind,.string k0.text,.int .i64 k0.n,.slice a0 k0.kids.length c0,.int .i64 k0.place,.int .i64 k1.kind,.string k1.text,.int .i64 k1.n,.slice a1 k1.kids.length c1,.int .i64 k1.place,.int .i64 k2.kind,.string k2.text,.int .i64 k2.n,.slice a2 k2.kids.length c2,.int .i64 k2.place] 24):=⟨_,rfl⟩
 have E14:=hid (show Below W13.heap.size W13 W14 from hW14 ▸ a7 _ _)
 have S14:=hid (c9 (r:=some P) E14)
 have P14:=hid (P13.out.below E14)
 have B14:=hid (show W14.heap[W13.heap.size]?=some (.cells #[.int .i64 k0.kind,.string k0.text,.int .i64 k0.n,.slice a0 k0.kids.length c0,.int .i64 k0.place,.int .i64 k1.kind,.string k1.text,.int .i64 k1.n,.slice a1 k1.kids.length c1,.int .i64 k1.place,.int .i64 k2.kind,.string k2.text,.int .i64 k2.n,.slice a2 k2.kids.length c2,.int .i64 k2.place] 24 (0,0)) from by rw [hW14]; exact fO _ rfl)
 have hlt:=hid (show W13.heap.size<W14.heap.size from by rw [hW14]; simp)
 have HD:=hid (show ∀ r,τ3=.ok r→i8 (mkN 15 T.text 0 [k0,k1,k2] at')≤101∧(mkN 15 T.text 0 [k0,k1,k2] at').lies (Fr W1.heap.size W14.heap.size) W14 (some ⟨W13.heap.size,0,none⟩) 3 from fun r hr => by
  rw [R3.out] at hr; obtain ⟨r3,e3,-,-⟩:=F0 hr; obtain ⟨v3,y3⟩:=q6 e3; obtain ⟨-,hl2,hd2⟩:=HK2.out v3 r3 y3
  rw [X2.out] at y3; obtain ⟨r2,e2,-⟩:=Q9 y3; rw [R2.out] at e2; obtain ⟨s2,f2,-,-⟩:=F0 e2; obtain ⟨v2,y2⟩:=q6 f2; obtain ⟨-,hl1,hd1⟩:=HK1.out v2 s2 y2
  rw [X1.out] at y2; obtain ⟨r1,e1,-⟩:=Q9 y2; rw [R1.out] at e1; obtain ⟨s1,f1,-,-⟩:=F0 e1; obtain ⟨v1,y1⟩:=q6 f1; obtain ⟨-,hl0,hd0⟩:=HK0.out v1 s1 y1
  have hP1 : P<W1.heap.size:=P1.out.blocks.1
  have q0 : W1.heap.size≤W4.heap.size:=(a6 (a6 S2 S3) S4).size
  have q1 : W1.heap.size≤W7.heap.size:=(a6 (a6 (a6 (a6 (a6 S2 S3) S4) S5) S6) S7).size
  have q2 : W1.heap.size≤W10.heap.size:=(a6 (a6 (a6 (a6 (a6 (a6 (a6 (a6 S2 S3) S4) S5) S6) S7) S8) S9) S10).size
  refine ⟨by rw [mN]; omega,pH rfl HT0.out.2.2 HAT ⟨(a6 (a6 (a6 (a6 (a6 (a6 (a6 (a6 (a6 (a6 (a6 S2 S3) S4) S5) S6) S7) S8) S9) S10) S11) S12) S13).size,hlt⟩ B14 (d6 hl0 ((f8.refl _ _).grown (a6 (a6 (a6 (a6 (a6 (a6 (a6 (a6 S6 S7) S8) S9) S10) S11) S12) S13) S14) fun b hb => ⟨hb.2,fun e => by subst e; have:=hb.1; omega⟩) fun b hb => ⟨Nat.le_trans q0 hb.1,Nat.lt_of_lt_of_le hb.2 (a6 (a6 (a6 (a6 (a6 (a6 (a6 (a6 S6 S7) S8) S9) S10) S11) S12) S13) S14).size⟩) (d6 hl1 ((f8.refl _ _).grown (a6 (a6 (a6 (a6 (a6 S9 S10) S11) S12) S13) S14) fun b hb => ⟨hb.2,fun e => by subst e; have:=hb.1; omega⟩) fun b hb => ⟨Nat.le_trans q1 hb.1,Nat.lt_of_lt_of_le hb.2 (a6 (a6 (a6 (a6 (a6 S9 S10) S11) S12) S13) S14).size⟩) (d6 hl2 ((f8.refl _ _).grown (a6 (a6 S12 S13) S14) fun b hb => ⟨hb.2,fun e => by subst e; have:=hb.1; omega⟩) fun b hb => ⟨Nat.le_trans q2 hb.1,Nat.lt_of_lt_of_le hb.2 (a6 (a6 S12 S13) S14).size⟩)⟩)
 have CM:=hid (bT P g cap ts nest τ3 15 T.text 0 [k0,k1,k2] at' (some ⟨W13.heap.size,0,none⟩) 3 3 rfl W14 hn P14 fun r hr => ⟨(HD.out r hr).1,_,fun b hb => hb.2,(HD.out r hr).2⟩)
 obtain ⟨⟨u0,u1,u2,u3⟩,-⟩:=(B3.out.grown (a6 (a6 (a6 (a6 (a6 (a6 (a6 (a6 (a6 (a6 S4 S5) S6) S7) S8) S9) S10) S11) S12) S13) S14) (Nat.ne_of_gt P2.out.blocks.1)).cells
 subst hW14
 go_wp2_with fail
 (with_reducible refine Calls.mono CM.out ?_)
 rintro e W15 ⟨rfl,hs,hg⟩
 have S15:=hid hg
 have P15:=hid hs
 clear hs hg CM t0 t1 t2 t3 u0 u1 u2 u3 n00 n01 n02 n03 n04 n10 n11 n12 n13 n14 n20 n21 n22 n23 n24
 have BR:=hid (B1.out.grown (a6 (a6 (a6 (a6 (a6 (a6 (a6 (a6 (a6 (a6 (a6 (a6 (a6 S2 S3) S4) S5) S6) S7) S8) S9) S10) S11) S12) S13) S14) S15) HP.out.1)
 obtain ⟨⟨z0,z1,z2,z3,z4⟩,⟨f0,f1,f2,f3,f4⟩⟩:=BR.out.cells
 have hsz : w.heap.size<W15.heap.size:=BR.out.lt
 rw [show (mkN 15 T.text 0 [k0,k1,k2] at').val (some ⟨W13.heap.size,0,none⟩) 3=.agg #[.int .i64 15,.string ⟨List.toArray T.text⟩,.int .i64 0,.slice (some ⟨W13.heap.size,0,none⟩) 3 3,.int .i64 at'] from rfl]
 go_wp2_with fail
 refine bodyPost_ret (v:=(mkN 15 T.text 0 [k0,k1,k2] at').val (some ⟨W13.heap.size,0,none⟩) 3) (by simp [results,Tryz.results193,go_sem,Nd.val,mkN,Nd.kind,Nd.text,Nd.n,Nd.kids,Nd.place,z0,z1,z2,z3,z4]) rfl ?_
 have hX : X=goX τ3 (made (mkN 15 T.text 0 [k0,k1,k2] at')):=by
  rw [HX.out]
  show goX (.ok l) (fun r => U0 7 r _)=_
  rw [gO (.ok l) 7 _ T (fun r h => by cases h; exact HT),← Q1.out]
  rw [A8,← R0.out,Y2,← X0.out,z8 (t:=k0) (fun t' r h => (HK0.out t' r h).1),A8,← R1.out,Y2,← X1.out,z8 (t:=k1) (fun t' r h => (HK1.out t' r h).1),A8,← R2.out,Y2,← X2.out,z8 (t:=k2) (fun t' r h => (HK2.out t' r h).1),A8,← R3.out]
 have hO : l8 X=dV (mkN 15 T.text 0 [k0,k1,k2] at') τ3:=by rw [hX,cI]
 refine RdP.fin (by rw [hO]; exact P15) (a6 (a6 (a6 (a6 (a6 (a6 (a6 (a6 (a6 (a6 (a6 (a6 (a6 (a6 S1 S2) S3) S4) S5) S6) S7) S8) S9) S10) S11) S12) S13) S14) S15) HP (Nat.le_refl _) fun t' r' hx => ?_
 rw [hX] at hx
 obtain ⟨e1,e2,e3⟩:=dB _ _ hx
 have hP1 : P<W1.heap.size:=P1.out.blocks.1
 have hw1 : w.heap.size<W1.heap.size:=B1.out.lt
 refine ⟨e1,⟨_,fun c hc => ⟨fun e => by subst e; have:=hc.1; omega,by have:=hc.1; omega,Nat.lt_of_lt_of_le hc.2 S15.out.size⟩,d6 (HD.out r' e2).2 ((f8.refl _ _).grown S15 fun b hb => ⟨hb.2,fun e => by subst e; have:=hb.1; omega⟩) fun b hb => hb⟩,e3⟩
end
end Go.Proofs.YtppcfebnaieciaaGreatDoor
