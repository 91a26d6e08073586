/-
  Laws that the proof rests on.
-/
import Derived.Test.YtppcfebnaieciaaGreatDoorF23
import Derived.Deep.AppendLies
namespace Go.Proofs.YtppcfebnaieciaaGreatDoor
set_option maxRecDepth 100000
set_option maxHeartbeats 16000000
section
open Lib (hid)
open Go.RowKit
theorem a0F (P g cap : Nat) (ts : List Tk) (he : bJ ts) (htk : ∀ t∈ts,bG t) (l : List Tk) (hC : CC P g cap ts 0 l) (hE : ∀ r,r.length<l.length→CE P g cap ts r) : CE P g cap ts l:=by
 intro nest w hn h
 have P0:=hid h
 have HP:=hid (show (w.heap.size≠P∧w.heap.size≠g)∧(w.heap.size + 1≠P∧w.heap.size + 1≠g) by have:=h.blocks; omega)
 have HEx:=hid hE
 have HC:=hid hC
 have HTK:=hid htk
 obtain ⟨X,hX⟩ : ∃ X,X=rd .expr nest l:=⟨_,rfl⟩
 rw [← hX]
 have HX:=hid (hX.trans (lW .expr nest l))
 obtain ⟨W1,hW1⟩ : ∃ V,V=(w.alloc (.cells #[.int .i64 0,.string ⟨#[]⟩,.int .i64 0,.slice none 0 0,.int .i64 0] 24)).alloc (.cells #[.int .i64 0,.string ⟨#[]⟩,.int .i64 0,.slice none 0 0,.int .i64 0] 24):=⟨_,rfl⟩
 have E1:=hid (show Below w.heap.size w W1 from hW1 ▸ (a7 w _).trans ((a7 _ _).mono (a7 w _).size))
 have S1:=hid (c9 (r:=some P) E1)
 have B1:=hid (show c6 w.heap.size nd0 none 0 W1 from hW1 ▸ (c6.make w nd0 none 0).below (a7 _ _))
 have A1:=hid (show c6 (w.heap.size + 1) nd0 none 0 W1 by
  have:=c6.make (w.alloc (.cells #[.int .i64 0,.string ⟨#[]⟩,.int .i64 0,.slice none 0 0,.int .i64 0] 24)) nd0 none 0
  rw [hW1]
  simpa [nd0,Nd.kind,Nd.text,Nd.n,Nd.kids,Nd.place] using this)
 have P1:=hid (h.below E1)
 clear h hE hC htk hX
 go_enter Tryz.func64,Tryz.ntmps64
 have C2:=hid (kP P g cap ts nest l W1 hn P1)
 go_wp2_with fail
 rw [← hW1]
 clear hW1
 (with_reducible refine Calls.mono C2.out ?_)
 rintro e W2 ⟨rfl,hs,hg⟩
 have S2:=hid hg
 have P2:=hid hs
 clear hs hg C2
 by_cases hk : 300<nest + 1
 ·have R:=hid (show X=.error (75,(hd l).pos) from HX.out.trans (if_pos hk))
  have E : dL nest (.ok l)=.error (75,(hd l).pos):=if_pos hk
  have hs2:=P2.out
  rw [E] at hs2
  obtain ⟨-,i,n,hp,-,-⟩:=hs2.error
  obtain ⟨⟨p0,p1,p2,p3,p4⟩,-⟩:=hp.cells
  have hpl:=hp.plt
  have B2:=hid (B1.out.grown S2 HP.out.1.1)
  have A2:=hid (A1.out.grown S2 HP.out.2.1)
  obtain ⟨⟨z0,z1,z2,z3,z4⟩,⟨f0,f1,f2,f3,f4⟩⟩:=B2.out.cells
  obtain ⟨⟨n0,n1,n2,n3,n4⟩,-⟩:=A2.out.cells
  have hsz : w.heap.size<W2.heap.size∧w.heap.size + 1<W2.heap.size:=⟨B2.out.lt,A2.out.lt⟩
  have HS2:=hid (hs2.mono (Nat.le_succ nest))
  clear hk E hs2 hp
  go_wp2_with fail
  refine bodyPost_ret (v:=nd0.val none 0) (by simp [results,Tryz.results64,go_sem,Nd.val,z0,z1,z2,z3,z4]) rfl ?_
  rw [R.out]
  exact RdP.fin (x:=.error (75,(hd l).pos)) HS2 (a6 S1 S2) HP.out.1 (Nat.le_refl _) (fun _ _ h => by cases h)
 have E : dL nest (.ok l)=.ok l:=if_neg hk
 have HX1:=hid (HX.out.trans (if_neg hk))
 replace P2:=hid (show SP P g cap ts (nest + 1) (.ok l) W2 from E ▸ P2.out)
 obtain ⟨i,-,hp⟩:=P2.out.ok
 obtain ⟨⟨p0,p1,p2,p3,p4⟩,-⟩:=hp.cells
 have hpl:=hp.plt
 have hn1:=hid (show nest + 1≤300 by omega)
 have C3:=hid (cK P g cap ts (nest + 1) (.ok l) ⟨#[105,102]⟩ W2 P2)
 clear hk E hp HX
 go_wp2_with fail
 (with_reducible refine Calls.mono C3.out ?_)
 rintro e W3 ⟨b,rfl,hb,hbt⟩
 have HT1:=hid (show b=isT tIf l from hbt l rfl)
 have S3:=hid (c9 (r:=some P) hb)
 have P3:=hid (P2.out.below hb)
 clear hbt hb p0 p1 p2 p3 p4 hpl C3
 cases b
 case false =>
  have R:=hid (show X=rd (.chain 0) (nest + 1) l from HX1.out.trans (if_neg (by rw [← HT1.out]; decide)))
  have C4:=hid (HC.out (nest + 1) W3 hn1 P3)
  rw [← R.out] at C4
  go_wp2_with fail
  (with_reducible refine Calls.mono C4.out ?_)
  rintro e w5 ⟨t,a,cp,rfl,hs5,hg5,hk5⟩
  have G5:=hid (a6 (a6 (a6 S1 S2) S3) hg5)
  have J1:=hid (a6 (a6 S2 S3) hg5)
  have F1:=hid ((B1.out.grown J1 HP.out.1.1).oput (c:=w.heap.size + 1) (by omega) t a cp)
  have A5:=hid (A1.out.grown J1 HP.out.2.1)
  have F2:=hid (A5.out.put t a cp)
  have HS6:=hid (hs5.put HP.out.2.1 HP.out.2.2 t a cp)
  have G6:=hid (t6 G5 (show w.heap.size≤w.heap.size + 1 by omega) t a cp)
  have HK5:=hid hk5
  have hsz3:=hid (show W1.heap.size≤W3.heap.size from (a6 S2 S3).size)
  obtain ⟨⟨z0,z1,z2,z3,z4⟩,⟨f0,f1,f2,f3,f4⟩⟩:=A5.out.cells
  have hsz5 : w.heap.size + 1<w5.heap.size:=A5.out.lt
  clear hs5 hg5 hk5 C4
  unfold Nd.val
  obtain ⟨W6,hW6⟩ : ∃ W,W=Q7 w5 (w.heap.size + 1) t a cp:=⟨_,rfl⟩
  rw [← hW6] at F1 F2 HS6 G6
  go_upto_region 8 with fail
  have hW6':=hW6
  unfold Q7 at hW6'
  rw [← hW6']
  clear hW6' z0 z1 z2 z3 z4 f0 f1 f2 f3 f4
  have HW6:=hid hW6
  clear hW6
  obtain ⟨m,hm1,hm2,p2,q2,hs7⟩:=HS6.out.nest
  obtain ⟨W7,hW7⟩ : ∃ W,W=W6.setCell ⟨P,2,none⟩ (.int .i64 (m - 1)):=⟨_,rfl⟩
  have J1:=hid (show c6 w.heap.size nd0 none 0 W7 from hW7 ▸ F1.out.set HP.out.1.1 _ _)
  have J2:=hid (show c6 (w.heap.size + 1) t a cp W7 from hW7 ▸ F2.out.set HP.out.2.1 _ _)
  have HS7:=hid (show SP P g cap ts nest _ W7 from hW7 ▸ hs7)
  have G7:=hid (show w.grownBy W7 (some P) from hW7 ▸ a6 G6 (F4 _ _ _ _))
  have hpl:=HS6.out.blocks.1
  clear hs7
  go_upto_region 9 with fail
  rw [← hW7]
  have HW7:=hid hW7
  clear hW7 p2 q2 hpl
  obtain ⟨⟨z0,z1,z2,z3,z4⟩,⟨f0,f1,f2,f3,f4⟩⟩:=J1.out.cells
  obtain ⟨⟨n0,n1,n2,n3,n4⟩,-⟩:=J2.out.cells
  have hsz : w.heap.size<W7.heap.size∧w.heap.size + 1<W7.heap.size:=⟨J1.out.lt,J2.out.lt⟩
  go_wp2_with fail
  refine bodyPost_ret (v:=t.val a cp) (by simp [results,Tryz.results64,go_sem,Nd.val,z0,z1,z2,z3,z4]) rfl ?_
  refine RdP.fin HS7 G7 HP.out.1 (Nat.le_refl _) fun t' r' hx => ?_
  obtain ⟨e,hl,hd⟩:=HK5.out t' r' hx
  have hA:=A1.out.lt
  have hb0:=P3.out.blocks.1
  have hsz7 : w5.heap.size=W7.heap.size:=by rw [HW7.out,HW6.out]; simp [World.setCell,size_put]
  have h3:=hsz3.out
  have k1 : f8 (Fr W3.heap.size w5.heap.size) w5 W7:=by
   rw [HW7.out,HW6.out]
   exact ((f8.refl _ w5).put (fun b hb e => by subst e; have:=hb.1; omega) _ _ _).set (fun b hb e => by subst e; have:=hb.1; omega) _ _
  exact ⟨e,⟨_,fun c hc => ⟨fun e => by subst e; have:=hc.1; omega,by have:=hc.1; omega,by have:=hc.2; omega⟩,d6 hl k1 fun b hb => hb⟩,hd⟩
 have HT2:=hid (A9 HT1.out.symm)
 have HR:=hid (show X=(rd .expr (nest + 1) (b9 l)).then fun a r => o8 a1X r fun r => (rd .expr (nest + 1) r).then fun b r => o8 a2Q r fun r => (rd .expr (nest + 1) r).then fun c r => made (mkN 14 [] 0 [a,b,c] (hd l).pos) r from HX1.out.trans (if_pos HT1.out.symm))
 have C4:=hid (O3 P g cap ts (nest + 1) (.ok l) W3 P3 he)
 go_wp2_with fail
 (with_reducible refine Calls.mono C4.out ?_)
 rintro e W4 ⟨T,rfl,hs,hg,hT⟩
 have S4:=hid hg
 have P4:=hid hs
 clear hs hg C4
 have HT:=hid (hT l rfl)
 clear hT
 have HT0:=hid (show bG T from HT.out ▸ HTK.out _ P3.out.mem)
 obtain ⟨W5,hW5⟩ : ∃ W,W=W4.alloc (.cells #[.int .i64 T.kind,.string ⟨T.text.toArray⟩,.int .i64 T.n,.int .i64 T.pos] 108):=⟨_,rfl⟩
 have B5:=hid (show D5 W4.heap.size T W5 from hW5 ▸ D5.make W4 T)
 have E5:=hid (show Below W4.heap.size W4 W5 from hW5 ▸ a7 _ _)
 have S5:=hid (c9 (r:=some P) E5)
 have P5:=hid (P4.out.below E5)
 have C6:=hid (HEx.out (b9 l) (by have:=HT2.out; omega) (nest + 1) W5 hn1 P5)
 unfold tkV
 go_wp2_with fail
 rw [← hW5]
 clear hW5
 (with_reducible refine Calls.mono C6.out ?_)
 rintro e W6 ⟨k0,a0,c0,rfl,hs,hg,hk⟩
 have S6:=hid hg
 have P6:=hid hs
 clear hs hg C6
 have HK0:=hid hk
 obtain ⟨x0,hx0⟩ : ∃ x,x=rd .expr (nest + 1) (b9 l):=⟨_,rfl⟩
 rw [← hx0] at P6 HK0 HR
 have L0:=hid (show ∀ t r,x0=.ok (t,r)→r.length<l.length from fun t r h => by rw [hx0] at h; have:=iK _ _ _ h; have:=HT2.out; omega)
 clear hk hx0
 obtain ⟨W7,hW7⟩ : ∃ W,W=W6.alloc (.cells #[.int .i64 k0.kind,.string k0.text,.int .i64 k0.n,.slice a0 k0.kids.length c0,.int .i64 k0.place] 24):=⟨_,rfl⟩
 have B7:=hid (show c6 W6.heap.size k0 a0 c0 W7 from hW7 ▸ c6.make W6 k0 a0 c0)
 have E7:=hid (show Below W6.heap.size W6 W7 from hW7 ▸ a7 _ _)
 have S7:=hid (c9 (r:=some P) E7)
 have P7:=hid (P6.out.below E7)
 have C8:=hid (n5 P g cap ts (nest + 1) (l8 x0) ⟨#[116,104,101,110]⟩ W7 hn1 P7 he)
 unfold Nd.val
 go_wp2_with fail
 rw [← hW7]
 clear hW7
 (with_reducible refine Calls.mono C8.out ?_)
 rintro e W8 ⟨rfl,hs,hg⟩
 have S8:=hid hg
 have P8:=hid hs
 clear hs hg C8
 obtain ⟨τ0,hτ0⟩ : ∃ σ,σ=n7 a1X (l8 x0):=⟨_,rfl⟩
 replace P8:=hid (show SP P g cap ts (nest + 1) τ0 W8 from hτ0 ▸ P8.out)
 have R0:=hid hτ0
 clear hτ0
 have M1:=hid (show ∀ r,τ0=.ok r→r.length<l.length from fun r hr => by have h1:=hr; rw [R0.out] at h1; obtain ⟨r1,e1,-,rfl⟩:=F0 h1; obtain ⟨t,e2⟩:=q6 e1; have:=L0.out t r1 e2; have:=I4 r1; omega)
 have C9:=hid (aY P g cap ts (nest + 1) τ0 W8 hn1 P8 fun r hr => HEx.out r (M1.out r hr))
 go_wp2_with fail
 (with_reducible refine Calls.mono C9.out ?_)
 rintro e W9 ⟨k1,a1,c1,rfl,hs,hg,hk⟩
 have S9:=hid hg
 have P9:=hid hs
 clear hs hg C9
 obtain ⟨x1,hx1⟩ : ∃ x,x=goX τ0 (rd .expr (nest + 1)):=⟨_,rfl⟩
 rw [← hx1] at P9 hk
 have HK1:=hid hk
 have X1:=hid hx1
 have L1:=hid (show ∀ t r,x1=.ok (t,r)→r.length<l.length from fun t r h => by rw [hx1] at h; obtain ⟨r0,e,hl⟩:=mC h; have:=M1.out r0 e; omega)
 clear hk hx1
 obtain ⟨W10,hW10⟩ : ∃ W,W=W9.alloc (.cells #[.int .i64 k1.kind,.string k1.text,.int .i64 k1.n,.slice a1 k1.kids.length c1,.int .i64 k1.place] 24):=⟨_,rfl⟩
 have B10:=hid (show c6 W9.heap.size k1 a1 c1 W10 from hW10 ▸ c6.make W9 k1 a1 c1)
 have E10:=hid (show Below W9.heap.size W9 W10 from hW10 ▸ a7 _ _)
 have S10:=hid (c9 (r:=some P) E10)
 have P10:=hid (P9.out.below E10)
 have C11:=hid (n5 P g cap ts (nest + 1) (l8 x1) ⟨#[101,108,115,101]⟩ W10 hn1 P10 he)
 unfold Nd.val
 go_wp2_with fail
 rw [← hW10]
 clear hW10
 (with_reducible refine Calls.mono C11.out ?_)
 rintro e W11 ⟨rfl,hs,hg⟩
 have S11:=hid hg
 have P11:=hid hs
 clear hs hg C11
 obtain ⟨τ1,hτ1⟩ : ∃ σ,σ=n7 a2Q (l8 x1):=⟨_,rfl⟩
 replace P11:=hid (show SP P g cap ts (nest + 1) τ1 W11 from hτ1 ▸ P11.out)
 have R1:=hid hτ1
 clear hτ1
 have M2:=hid (show ∀ r,τ1=.ok r→r.length<l.length from fun r hr => by have h1:=hr; rw [R1.out] at h1; obtain ⟨r1,e1,-,rfl⟩:=F0 h1; obtain ⟨t,e2⟩:=q6 e1; have:=L1.out t r1 e2; have:=I4 r1; omega)
 have C12:=hid (aY P g cap ts (nest + 1) τ1 W11 hn1 P11 fun r hr => HEx.out r (M2.out r hr))
 go_wp2_with fail
 (with_reducible refine Calls.mono C12.out ?_)
 rintro e W12 ⟨k2,a2,c2,rfl,hs,hg,hk⟩
 have S12:=hid hg
 have P12:=hid hs
 clear hs hg C12
 obtain ⟨x2,hx2⟩ : ∃ x,x=goX τ1 (rd .expr (nest + 1)):=⟨_,rfl⟩
 rw [← hx2] at P12 hk
 have HK2:=hid hk
 have X2:=hid hx2
 have L2:=hid (show ∀ t r,x2=.ok (t,r)→r.length<l.length from fun t r h => by rw [hx2] at h; obtain ⟨r0,e,hl⟩:=mC h; have:=M2.out r0 e; omega)
 clear hk hx2
 obtain ⟨W13,hW13⟩ : ∃ W,W=W12.alloc (.cells #[.int .i64 k2.kind,.string k2.text,.int .i64 k2.n,.slice a2 k2.kids.length c2,.int .i64 k2.place] 24):=⟨_,rfl⟩
 have B13:=hid (show c6 W12.heap.size k2 a2 c2 W13 from hW13 ▸ c6.make W12 k2 a2 c2)
 have E13:=hid (show Below W12.heap.size W12 W13 from hW13 ▸ a7 _ _)
 have S13:=hid (c9 (r:=some P) E13)
 have P13:=hid (P12.out.below E13)
 unfold Nd.val
 go_upto_region 16 with fail
 rw [← hW13]
 clear hW13
 obtain ⟨m,hm1,hm2,p2,q2,hs⟩:=P13.out.nest
 have hpl:=P13.out.blocks.1
 obtain ⟨W14,hW14⟩ : ∃ W,W=W13.setCell ⟨P,2,none⟩ (.int .i64 (m - 1)):=⟨_,rfl⟩
 have S14:=hid (show W13.grownBy W14 (some P) from hW14 ▸ F4 _ _ _ _)
 have P14:=hid (show SP P g cap ts nest (l8 x2) W14 from hW14 ▸ hs)
 go_upto_region 17 with fail
 rw [← hW14]
 clear hW14 hs p2 q2 hpl hm1 hm2
 obtain ⟨⟨t0,t1,t2,t3⟩,-⟩:=(B5.out.grown (a6 (a6 (a6 (a6 (a6 (a6 (a6 (a6 S6 S7) S8) S9) S10) S11) S12) S13) S14) (Nat.ne_of_gt P4.out.blocks.1)).cells
 obtain ⟨⟨n00,n01,n02,n03,n04⟩,-⟩:=(B7.out.grown (a6 (a6 (a6 (a6 (a6 (a6 S8 S9) S10) S11) S12) S13) S14) (Nat.ne_of_gt P6.out.blocks.1)).cells
 obtain ⟨⟨n10,n11,n12,n13,n14⟩,-⟩:=(B10.out.grown (a6 (a6 (a6 S11 S12) S13) S14) (Nat.ne_of_gt P9.out.blocks.1)).cells
 obtain ⟨⟨n20,n21,n22,n23,n24⟩,-⟩:=(B13.out.grown S14 (Nat.ne_of_gt P12.out.blocks.1)).cells
 obtain ⟨W15,hW15⟩ : ∃ W,W=W14.alloc (.cells #[.int .i64 k0.kind,.string k0.text,.int .i64 k0.n,.slice a0 k0.kids.length c0,.int .i64 k0.place,.int .i64 k1.kind,.string k1.text,.int .i64 k1.n,.slice a1 k1.kids.length c1,.int .i64 k1.place,.int .i64 k2.kind,.string k2.text,.int .i64 k2.n,.slice a2 k2.kids.length c2,.int .i64 k2.place] 24):=⟨_,rfl⟩
 have E15:=hid (show Below W14.heap.size W14 W15 from hW15 ▸ a7 _ _)
 have S15:=hid (c9 (r:=some P) E15)
 have P15:=hid (P14.out.below E15)
 have B15:=hid (show W15.heap[W14.heap.size]?=some (.cells #[.int .i64 k0.kind,.string k0.text,.int .i64 k0.n,.slice a0 k0.kids.length c0,.int .i64 k0.place,.int .i64 k1.kind,.string k1.text,.int .i64 k1.n,.slice a1 k1.kids.length c1,.int .i64 k1.place,.int .i64 k2.kind,.string k2.text,.int .i64 k2.n,.slice a2 k2.kids.length c2,.int .i64 k2.place] 24 (0,0)) from by rw [hW15]; exact fO _ rfl)
 have hlt:=hid (show W14.heap.size<W15.heap.size from by rw [hW15]; simp)
 have HD:=hid (show ∀ r,(l8 x2)=.ok r→i8 (mkN 14 [] 0 [k0,k1,k2] T.pos)≤101∧(mkN 14 [] 0 [k0,k1,k2] T.pos).lies (Fr W1.heap.size W15.heap.size) W15 (some ⟨W14.heap.size,0,none⟩) 3 from fun r hr => by
  obtain ⟨v3,y3⟩:=q6 hr; obtain ⟨-,hl2,hd2⟩:=HK2.out v3 r y3
  rw [X2.out] at y3; obtain ⟨r2,e2,-⟩:=Q9 y3; rw [R1.out] at e2; obtain ⟨s2,f2,-,-⟩:=F0 e2; obtain ⟨v2,y2⟩:=q6 f2; obtain ⟨-,hl1,hd1⟩:=HK1.out v2 s2 y2
  rw [X1.out] at y2; obtain ⟨r1,e1,-⟩:=Q9 y2; rw [R0.out] at e1; obtain ⟨s1,f1,-,-⟩:=F0 e1; obtain ⟨v1,y1⟩:=q6 f1; obtain ⟨-,hl0,hd0⟩:=HK0.out v1 s1 y1
  have hP1 : P<W1.heap.size:=P1.out.blocks.1
  have q0 : W1.heap.size≤W5.heap.size:=(a6 (a6 (a6 S2 S3) S4) S5).size
  have q1 : W1.heap.size≤W8.heap.size:=(a6 (a6 (a6 (a6 (a6 (a6 S2 S3) S4) S5) S6) S7) S8).size
  have q2 : W1.heap.size≤W11.heap.size:=(a6 (a6 (a6 (a6 (a6 (a6 (a6 (a6 (a6 S2 S3) S4) S5) S6) S7) S8) S9) S10) S11).size
  refine ⟨by rw [mN]; omega,pH rfl (by decide) HT0.out.2.1 ⟨(a6 (a6 (a6 (a6 (a6 (a6 (a6 (a6 (a6 (a6 (a6 (a6 S2 S3) S4) S5) S6) S7) S8) S9) S10) S11) S12) S13) S14).size,hlt⟩ B15 (d6 hl0 ((f8.refl _ _).grown (a6 (a6 (a6 (a6 (a6 (a6 (a6 (a6 S7 S8) S9) S10) S11) S12) S13) S14) S15) fun b hb => ⟨hb.2,fun e => by subst e; have:=hb.1; omega⟩) fun b hb => ⟨Nat.le_trans q0 hb.1,Nat.lt_of_lt_of_le hb.2 (a6 (a6 (a6 (a6 (a6 (a6 (a6 (a6 S7 S8) S9) S10) S11) S12) S13) S14) S15).size⟩) (d6 hl1 ((f8.refl _ _).grown (a6 (a6 (a6 (a6 (a6 S10 S11) S12) S13) S14) S15) fun b hb => ⟨hb.2,fun e => by subst e; have:=hb.1; omega⟩) fun b hb => ⟨Nat.le_trans q1 hb.1,Nat.lt_of_lt_of_le hb.2 (a6 (a6 (a6 (a6 (a6 S10 S11) S12) S13) S14) S15).size⟩) (d6 hl2 ((f8.refl _ _).grown (a6 (a6 S13 S14) S15) fun b hb => ⟨hb.2,fun e => by subst e; have:=hb.1; omega⟩) fun b hb => ⟨Nat.le_trans q2 hb.1,Nat.lt_of_lt_of_le hb.2 (a6 (a6 S13 S14) S15).size⟩)⟩)
 have CM:=hid (bT P g cap ts nest (l8 x2) 14 [] 0 [k0,k1,k2] T.pos (some ⟨W14.heap.size,0,none⟩) 3 3 rfl W15 hn P15 fun r hr => ⟨(HD.out r hr).1,_,fun b hb => hb.2,(HD.out r hr).2⟩)
 obtain ⟨⟨u0,u1,u2,u3⟩,-⟩:=(B5.out.grown (a6 (a6 (a6 (a6 (a6 (a6 (a6 (a6 (a6 S6 S7) S8) S9) S10) S11) S12) S13) S14) S15) (Nat.ne_of_gt P4.out.blocks.1)).cells
 subst hW15
 go_wp2_with fail
 (with_reducible refine Calls.mono CM.out ?_)
 rintro e W16 ⟨rfl,hs,hg⟩
 have S16:=hid hg
 have P16:=hid hs
 clear hs hg CM t0 t1 t2 t3 u0 u1 u2 u3 n00 n01 n02 n03 n04 n10 n11 n12 n13 n14 n20 n21 n22 n23 n24
 have BR:=hid (B1.out.grown (a6 (a6 (a6 (a6 (a6 (a6 (a6 (a6 (a6 (a6 (a6 (a6 (a6 (a6 S2 S3) S4) S5) S6) S7) S8) S9) S10) S11) S12) S13) S14) S15) S16) HP.out.1.1)
 obtain ⟨⟨z0,z1,z2,z3,z4⟩,⟨f0,f1,f2,f3,f4⟩⟩:=BR.out.cells
 have hsz : w.heap.size<W16.heap.size:=BR.out.lt
 rw [show (mkN 14 [] 0 [k0,k1,k2] T.pos).val (some ⟨W14.heap.size,0,none⟩) 3=.agg #[.int .i64 14,.string ⟨List.toArray []⟩,.int .i64 0,.slice (some ⟨W14.heap.size,0,none⟩) 3 3,.int .i64 T.pos] from rfl]
 go_wp2_with fail
 refine bodyPost_ret (v:=(mkN 14 [] 0 [k0,k1,k2] T.pos).val (some ⟨W14.heap.size,0,none⟩) 3) (by simp [results,Tryz.results64,go_sem,Nd.val,mkN,Nd.kind,Nd.text,Nd.n,Nd.kids,Nd.place,z0,z1,z2,z3,z4]) rfl ?_
 have hX : X=goX (l8 x2) (made (mkN 14 [] 0 [k0,k1,k2] T.pos)):=by
  rw [HR.out,HT.out]
  rw [z8 (t:=k0) (fun t' r h => (HK0.out t' r h).1),A8,← R0.out,Y2,← X1.out,z8 (t:=k1) (fun t' r h => (HK1.out t' r h).1),A8,← R1.out,Y2,← X2.out,z8 (t:=k2) (fun t' r h => (HK2.out t' r h).1)]
 have hO : l8 X=dV (mkN 14 [] 0 [k0,k1,k2] T.pos) (l8 x2):=by rw [hX,cI]
 refine RdP.fin (by rw [hO]; exact P16) (a6 (a6 (a6 (a6 (a6 (a6 (a6 (a6 (a6 (a6 (a6 (a6 (a6 (a6 (a6 S1 S2) S3) S4) S5) S6) S7) S8) S9) S10) S11) S12) S13) S14) S15) S16) HP.out.1 (Nat.le_refl _) fun t' r' hx => ?_
 rw [hX] at hx
 obtain ⟨e1,e2,e3⟩:=dB _ _ hx
 have hP1 : P<W1.heap.size:=P1.out.blocks.1
 have hw1 : w.heap.size<W1.heap.size:=B1.out.lt
 refine ⟨e1,⟨_,fun c hc => ⟨fun e => by subst e; have:=hc.1; omega,by have:=hc.1; omega,Nat.lt_of_lt_of_le hc.2 S16.out.size⟩,d6 (HD.out r' e2).2 ((f8.refl _ _).grown S16 fun b hb => ⟨hb.2,fun e => by subst e; have:=hb.1; omega⟩) fun b hb => hb⟩,e3⟩
end
section
open Go.RowKit
abbrev Ent:=Nd × Option Addr × Nat
def ndC (e : Ent) : List Value:=[.int .i64 e.1.kind,.string e.1.text,.int .i64 e.1.n,.slice e.2.1 e.1.kids.length e.2.2,.int .i64 e.1.place]
def bH (L : List Ent) : List Value:=L.flatMap ndC
theorem fX (L : List Ent) (e : Ent) : bH (L ++ [e])=bH L ++ ndC e:=by unfold bH; simp
theorem yJ : ∀ (L : List Ent) (j : Nat) (hj : j<L.length) (i : Nat) (_ : i<5),(bH L)[j * 5 + i]?=(ndC L[j])[i]?
 | e :: L,0,_,i,hi => by
   unfold bH
   rw [List.flatMap_cons,Nat.zero_mul,Nat.zero_add,List.getElem?_append_left (by exact hi)]
   rfl
 | e :: L,j + 1,hj,i,hi => by
   have:=yJ L j (by simpa using hj) i hi
   unfold bH at this ⊢
   rw [List.flatMap_cons,List.getElem?_append_right (by show 5≤_; omega)]
   rw [show (j + 1) * 5 + i - (ndC e).length=j * 5 + i by show (j + 1) * 5 + i - 5=_; omega]
   exact this
theorem iN (e : Ent) : ∀ u∈ndC e,u.oneCell'=true:=by
 intro u hu
 unfold ndC at hu
 simp only [List.mem_cons,List.not_mem_nil,or_false] at hu
 rcases hu with rfl | rfl | rfl | rfl | rfl <;> rfl
theorem bF (W : World) (T : TypeId) (v0 v1 v2 v3 v4 : Value) : ∀ j u,[v0,v1,v2,v3,v4][j]?=some u→(W.alloc (.cells #[v0,v1,v2,v3,v4] T)).cell? ((⟨W.heap.size,0,none⟩ : Addr).add j)=some u:=by
 intro j u h
 rw [Go.WideShapes.add_plain,Nat.zero_add]
 have h' : (W.alloc (.cells #[v0,v1,v2,v3,v4] T)).heap[W.heap.size]?=some (.cells #[v0,v1,v2,v3,v4] T (0,0)):=by show (W.heap.push _)[W.heap.size]?=_; simp
 rw [World.cell?]
 simp only [h']
 match j,h with
 | 0,h => exact h
 | 1,h => exact h
 | 2,h => exact h
 | 3,h => exact h
 | 4,h => exact h
theorem jY {av : Nat→Prop} {base T : Nat} {W : World} {g cap : Nat} {L : List Ent} (h : W.ownsRow base T 5 (.slice (some ⟨g,0,none⟩) L.length cap) L.length (bH L)) (hg : av g) (hl : ∀ e∈L,e.1.lies av W e.2.1 e.2.2) : Nd.lie av W (L.map (·.1)) (some ⟨g,0,none⟩) 0:=by
 have hc:=h.cells (g:=g) rfl
 refine Nd.lie.of _ 0 fun j hj => ?_
 rw [List.length_map] at hj
 have q : ∀ i,i<5→∀ u,(ndC L[j])[i]?=some u→W.cell? ⟨g,0 + (0 + j) * 5 + i,none⟩=some u:=fun i hi u hu => by
  have:=hc (j * 5 + i) u (by rw [yJ L j hj i hi]; exact hu)
  rw [Go.WideShapes.add_plain] at this
  rw [Nat.zero_add j,Nat.add_assoc]
  exact this
 refine ⟨g,0,L[j].2.1,L[j].2.2,?_⟩
 rw [List.getElem_map]
 exact ⟨rfl,hg,q 0 (by decide) _ rfl,q 1 (by decide) _ rfl,q 2 (by decide) _ rfl,q 3 (by decide) _ rfl,q 4 (by decide) _ rfl,hl _ (List.getElem_mem hj)⟩
theorem nU : ∀ (ks : List Nd) (n : Nat),(∀ k∈ks,i8 k≤n)→o2 ks≤n
 | [],n,_ => by rw [o2]; exact Nat.zero_le _
 | k :: ks,n,h => by
   rw [o2]
   have h1:=h k (List.mem_cons_self ..)
   have h2:=nU ks n fun k hk => h k (List.mem_cons_of_mem _ hk)
   omega
theorem a1k {w A B : World} {P : Nat} {r : Option Nat} (h : w.grownBy A (some P)) (k : A.grownBy B r) (hr : ∀ c,r=some c→w.heap.size≤c) : w.grownBy B (some P) :=
 ⟨k.os.trans h.os,k.tape.trans h.tape,k.output.trans h.output,Nat.le_trans h.size k.size,fun i hi hne => (k.block i (Nat.lt_of_lt_of_le hi h.size) (fun e => by have:=hr i e.symm; omega)).trans (h.block i hi hne)⟩
theorem SP.row {P g cap : Nat} {ts : List Tk} {n : Nat} {σ : Sx} {A B : World} {r : Option Nat} (h : SP P g cap ts n σ A) (k : A.grownBy B r) (hr : ∀ c,r=some c→c≠P∧c≠g) : SP P g cap ts n σ B :=
 h.keeps (fun b hb => by
  have hl:=h.blocks
  rcases hb with rfl | rfl
  ·exact k.block _ hl.1 (fun e => (hr _ e.symm).1 rfl)
  ·exact k.block _ hl.2 (fun e => (hr _ e.symm).2 rfl)) k.size
def a5O (P g cap : Nat) (ts : List Tk) (nest : Nat) (X : Rd) (w : World) (e : Ending) (w' : World) : Prop :=
 ∃ (ks : List Nd) (v : Option Addr) (cp : Nat),e=.returned (.slice v ks.length cp)∧SP P g cap ts nest (l8 X) w'∧w.grownBy w' (some P) ∧
  ∀ t' r,X=.ok (t',r)→t'.kids=ks∧(ks.length≤8∧ks.length≤cp∧cp≤maxLen)∧o2 ks≤100∧Nd.lie (Fr w.heap.size w'.heap.size) w' ks v 0
def a5x (P g cap : Nat) (ts : List Tk) (nest : Nat) (l : List Tk) (X : Rd) (w wr : World) (ao : Option Addr) (cp : Nat) (L : List Ent) (σ : Sx) : Prop :=
 L.length≤8∧wr.ownsRow w.heap.size 24 5 (.slice ao L.length cp) L.length (bH L)∧SP P g cap ts nest σ wr∧w.grownBy wr (some P)∧X=goX σ (rd (.args (L.map (·.1))) nest) ∧
  ∀ r,σ=.ok r→(∀ e∈L,e.1.lies (fun c => w.heap.size≤c∧c<wr.heap.size∧(Value.slice ao L.length cp).ownBlock≠some c) wr e.2.1 e.2.2∧i8 e.1≤100)∧r.length<l.length
theorem yQ (acc : List Nd) (nest : Nat) (r : List Tk) : rd (.args acc) nest r=if acc.length=8 then .error (76,(hd r).pos) else (rd .expr nest r).then fun t r => if isT z6 r=true then rd (.args (acc ++ [t])) nest (b9 r) else o8 O9 r fun r => .ok (mkN 0 [] 0 (acc ++ [t]) 0,r):=lW (.args acc) nest r
theorem zO {x : Rd} {t : Nd} {acc : List Nd} {nest : Nat} (hx : Is x t) (h : ∀ r,l8 x=.ok r→true=isT z6 r) : (x.then fun t r => if isT z6 r=true then rd (.args (acc ++ [t])) nest (b9 r) else o8 O9 r fun r => .ok (mkN 0 [] 0 (acc ++ [t]) 0,r))=goX (oQ (l8 x)) (rd (.args (acc ++ [t])) nest):=by
 rw [z8 hx]
 cases x with
 | error e => rfl
 | ok p => obtain ⟨t',r⟩:=p; show (if isT z6 r=true then _ else _)=_; rw [if_pos (h r rfl).symm]; rfl
theorem a2q {x : Rd} {t : Nd} {acc : List Nd} {nest : Nat} (hx : Is x t) (h : ∀ r,l8 x=.ok r→false=isT z6 r) : (x.then fun t r => if isT z6 r=true then rd (.args (acc ++ [t])) nest (b9 r) else o8 O9 r fun r => .ok (mkN 0 [] 0 (acc ++ [t]) 0,r))=goX (n7 O9 (l8 x)) fun r => .ok (mkN 0 [] 0 (acc ++ [t]) 0,r):=by
 rw [z8 hx,← A8]
 cases x with
 | error e => rfl
 | ok p => obtain ⟨t',r⟩:=p; show (if isT z6 r=true then _ else _)=_; rw [if_neg (by rw [← h r rfl]; decide)]; rfl
end
section
open Lib (hid)
open Go.RowKit
theorem a0s (P g cap : Nat) (ts : List Tk) (he : bJ ts) (l : List Tk) (hE : ∀ r,r.length<l.length→CE P g cap ts r) (nest : Nat) (w : World) (hn : nest≤300) (h : SP P g cap ts nest (.ok l) w) (ho : isT J7 l=true) :
 Calls Tryz.prog 194 #[.pointer (some ⟨P,0,none⟩),.int .i64 8] w (a5O P g cap ts nest (rd (.args []) nest (b9 l)) w):=by
 obtain ⟨i0,hi,hz0,hz1,hz2⟩:=info_parts (show (Tryz.prog.info? 24).map (fun i => (i.zero,i.size,i.bytes))=some (some (.agg #[.int .i64 0,.string ⟨#[]⟩,.int .i64 0,.slice none 0 0,.int .i64 0]),5,64) by kernel_rfl)
 have HI0:=hid (show _∧_∧_∧_ from ⟨hi,hz0,hz1,hz2⟩)
 clear hi hz0 hz1 hz2
 have hlen:=A9 ho
 have HEx:=hid hE
 have HE:=hid he
 have hb0:=hid h.blocks
 obtain ⟨X,hX⟩ : ∃ X,X=rd (.args []) nest (b9 l):=⟨_,rfl⟩
 rw [← hX]
 have HX:=hid hX
 have HWt:=hid (show n7 J7 (.ok l)=.ok (b9 l) from if_pos ho)
 have C1:=hid (n5 P g cap ts nest (.ok l) ⟨#[40]⟩ w hn h he)
 have HLen:=hid hlen
 clear h hE he hX ho hlen
 go_enter Tryz.func194,Tryz.ntmps194
 go_wp2_with fail
 (with_reducible refine Calls.mono C1.out ?_)
 rintro e w1 ⟨rfl,hs,hg⟩
 have I1:=hid (show a5x P g cap ts nest l X w w1 none 0 [] (.ok (b9 l)) from ⟨Nat.zero_le _,World.ownsRow_nil _ _ _ _,by rw [← HWt.out]; exact hs,hg,HX,fun r hr => by
  cases hr; exact ⟨fun e he => (by cases he),(by have:=HLen.out; omega)⟩⟩)
 clear hs hg C1
 go_upto_region 3 with fail
 go_loopw [5,6] (fun v _ wr => ∃ (ao : Option Addr) (cp : Nat) (L : List Ent) (σ : Sx),v=.slice ao L.length cp∧Hid (a5x P g cap ts nest l X w wr ao cp L σ)) (fun _ _ wr => nS P ts wr)
 case atStart => exact ⟨none,0,[],_,rfl,I1⟩
 case round =>
  obtain ⟨ao,cp,L,σ,rfl,HI⟩:=hrel
  clear I1 HWt HX HLen
  have hL8 : L.length≤8:=HI.out.1
  have hs:=HI.out.2.2.1
  have hpl:=hs.blocks.1
  have HFar:=hid (show nS P ts wr=a4g σ from hs.far)
  cases σ with
  | error q =>
    obtain ⟨k,p⟩:=q
    obtain ⟨hk0,i,n,hp,-,-⟩:=hs.error
    obtain ⟨⟨p0,p1,p2,p3,p4⟩,-⟩:=hp.cells
    have ek : (k == 0)=false:=beq_eq_false_iff_ne.2 hk0
    have C2:=hid (n5 P g cap ts nest (.error (k,p)) ⟨#[41]⟩ wr hn hs HE)
    clear hs hk0 hp
    go_wp2_with fail
    (with_reducible refine Calls.mono C2.out ?_)
    rintro e w2 ⟨rfl,hs,hg⟩
    have HS:=hid hs
    have HG:=hid hg
    clear hs hg C2
    go_wp2_with fail
    go_ret
    have hX : X=.error (k,p):=HI.out.2.2.2.2.1
    rw [hX]
    exact ⟨L.map (·.1),ao,cp,by rw [List.length_map]; rfl,HS,a6 HI.out.2.2.2.1 HG,fun _ _ h => by cases h⟩
  | ok r =>
    obtain ⟨i,-,hp⟩:=hs.ok
    obtain ⟨⟨p0,p1,p2,p3,p4⟩,-⟩:=hp.cells
    have HS:=hid hs
    have HXr:=hid (show X=rd (.args (L.map (·.1))) nest r from HI.out.2.2.2.2.1)
    by_cases h8 : L.length=8
    ·have hl8 : ((L.length : Int) == 8)=true:=by rw [h8]; rfl
     have HX8:=hid (show X=.error (76,(hd r).pos) by rw [HXr.out,yQ,if_pos (by rw [List.length_map]; exact h8)])
     have C2:=hid (eN P g cap ts nest (.ok r) wr hs)
     clear hs hp h8
     go_wp2_with fail
     (with_reducible refine Calls.mono C2.out ?_)
     rintro e w2 ⟨T,rfl,hb,hT⟩
     have HT:=hid (hT r rfl)
     have HS2:=hid (HS.out.below hb)
     have HG2:=hid (c8 HI.out.2.2.2.1 (hb.mono HI.out.2.2.2.1.size))
     obtain ⟨i2,-,hp2⟩:=HS2.out.ok
     have C3:=hid (J0 P g cap ts i2 nest w2 76 T.pos hp2)
     clear hb hT hp2 p0 p1 p2 p3 p4 hpl
     unfold tkV
     have hfd:=Y9 T.kind T.n T.pos ⟨T.text.toArray⟩
     go_wp2_with fail
     (with_reducible refine Calls.mono C3.out ?_)
     rintro e w3 ⟨rfl,hp3,hg⟩
     have HS3:=hid (show SP P g cap ts nest (.error (76,T.pos)) w3 from SP.of_error hp3 (by decide) (Int.le_refl _) (by omega))
     have HG3:=hid (a6 HG2 hg)
     have C4:=hid (n5 P g cap ts nest (.error (76,T.pos)) ⟨#[41]⟩ w3 hn HS3 HE)
     clear hp3 hg hfd
     go_wp2_with fail
     (with_reducible refine Calls.mono C4.out ?_)
     rintro e w4 ⟨rfl,hs,hg⟩
     have HS4:=hid hs
     have HG4:=hid (a6 HG3 hg)
     clear hs hg
     go_wp2_with fail
     go_ret
     rw [HX8.out,← HT.out]
     exact ⟨L.map (·.1),ao,cp,by rw [List.length_map]; rfl,HS4,HG4,fun _ _ h => by cases h⟩
    ·have hl8 : ((L.length : Int) == 8)=false:=beq_eq_false_iff_ne.2 (by omega)
     have hL7 : L.length≤7:=by omega
     have HXn:=hid (show X=(rd .expr nest r).then fun t r => if isT z6 r=true then rd (.args (L.map (·.1) ++ [t])) nest (b9 r) else o8 O9 r fun r => .ok (mkN 0 [] 0 (L.map (·.1) ++ [t]) 0,r) by rw [HXr.out,yQ,if_neg (by rw [List.length_map]; exact h8)])
     have C2:=hid (HEx.out r (HI.out.2.2.2.2.2 r rfl).2 nest wr hn hs)
     have HRL:=hid (fun t q (h : rd .expr nest r=.ok (t,q)) => iK .expr nest r h)
     have HRl:=hid (HI.out.2.2.2.2.2 r rfl).2
     generalize rd .expr nest r=x at HXn C2 HRL
     clear hs hp h8 hL8
     go_wp2_with fail
     (with_reducible refine Calls.mono C2.out ?_)
     rintro e w4 ⟨t,a,c,rfl,hs,hg,hk⟩
     have HK:=hid hk
     have HS4:=hid hs
     have HG4:=hid (a6 HI.out.2.2.2.1 hg)
     have HGr:=hid hg
     have HO4:=hid (show w4.ownsRow w.heap.size 24 5 (.slice ao L.length cp) L.length (bH L) from HI.out.2.1.kept hg (by
      cases hv : (Value.slice ao L.length cp).ownBlock with
      | none => exact .inl rfl
      | some c => exact .inr (fun e => by have:=(HI.out.2.1.lt c hv).1; cases e; have:=hb0.out.1; omega)))
     have hwl:=hid (show w.heap.size≤w4.heap.size from HG4.out.size)
     have hbase : w.heap.size≤w4.heap.size:=hwl.out
     clear hs hg hk C2 p0 p1 p2 p3 p4 hpl
     unfold Nd.val
     go_wp2_with (at_builtin; refine wpList_append_lies _ rfl _ _ 22 rfl w.heap.size 24 i0 (.agg #[.int .i64 0,.string ⟨#[]⟩,.int .i64 0,.slice none 0 0,.int .i64 0]) 5 64 Tryz.underlying22 HI0.out.1 HI0.out.2.1 HI0.out.2.2.1 HI0.out.2.2.2 rfl (by decide) _ _ _ rfl (HO4.out.alloc _) ⟨w4.heap.size,0,none⟩ 1 1 (ndC (t,a,c)) rfl rfl (bF _ _ _ _ _ _ _) (iN _) (by decide) (by unfold maxLen; omega) (by omega) (by simp; omega) _ rfl ?_; intro gb cap' w5 hown' hgrow' hat hltg)
     have B4:=hid (a7 w4 (.cells #[.int .i64 t.kind,.string t.text,.int .i64 t.n,.slice a t.kids.length c,.int .i64 t.place] 24))
     have HOl:=hid (show ∀ d,(Value.slice ao L.length cp).ownBlock=some d→w.heap.size≤d∧d<wr.heap.size from fun d hd => HI.out.2.1.lt d hd)
     have HG5:=hid (a1k (a6 HG4 (c9 B4)) hgrow' (fun d hd => (HOl.out d hd).1))
     have HS5:=hid (SP.row (HS4.out.below B4) hgrow' (fun d hd => by have:=(HOl.out d hd).1; have:=hb0.out; omega))
     have HR5:=hid (show w5.ownsRow w.heap.size 24 5 (.slice (some ⟨gb,0,none⟩) (L ++ [(t,a,c)]).length cap') (L ++ [(t,a,c)]).length (bH (L ++ [(t,a,c)])) from by
      rw [fX,List.length_append]; exact hown')
     have HL5:=hid (show ∀ r',l8 x=.ok r'→(∀ e∈L ++ [(t,a,c)],e.1.lies (fun d => w.heap.size≤d∧d<w5.heap.size∧d≠gb) w5 e.2.1 e.2.2∧i8 e.1≤100)∧r'.length≤r.length from fun r' hr' => by
      obtain ⟨t2,ht2⟩:=q6 hr'
      obtain ⟨rfl,hl,hd⟩:=HK.out t2 r' ht2
      have hsz : wr.heap.size≤w4.heap.size:=HGr.out.size
      have hsz5 : w4.heap.size + 1≤w5.heap.size:=by have:=hgrow'.size; simpa using this
      have hal : (w4.alloc (.cells #[.int .i64 t2.kind,.string t2.text,.int .i64 t2.n,.slice a t2.kids.length c,.int .i64 t2.place] 24)).heap.size=w4.heap.size + 1:=by simp
      have hgb : (Value.slice ao L.length cp).ownBlock=some gb∨gb=w4.heap.size + 1:=hat.imp (fun h => h) (fun e => e.trans (by simp))
      have hP : P<wr.heap.size:=HS.out.blocks.1
      have hPw:=hb0.out.1
      refine ⟨fun e he => ?_,HRL.out t2 r' ht2⟩
      rcases List.mem_append.1 he with he | he
      ·obtain ⟨h1,h2⟩:=(HI.out.2.2.2.2.2 r rfl).1 e he
       refine ⟨d6 h1 (fun d hd => ?_) fun d hd => ⟨hd.1,by have:=hd.2.1; omega,fun e => ?_⟩,h2⟩
       ·have hd1:=hd.1
        have hd2:=hd.2.1
        refine (hgrow'.block d (by rw [hal]; omega) (fun e => hd.2.2 e.symm)).trans ((B4.out.block d (by omega)).trans (HGr.out.block d hd2 (fun e => by cases e; omega)))
       ·subst e
        rcases hgb with e | e
        ·exact hd.2.2 e
        ·have:=hd.2.1; omega
      ·obtain rfl:=List.mem_singleton.1 he
       refine ⟨d6 hl (fun d hd => ?_) fun d hd => ⟨Nat.le_trans HI.out.2.2.2.1.size hd.1,by have:=hd.2; omega,fun e => ?_⟩,hd⟩
       ·have hd1:=hd.1
        have hd2:=hd.2
        refine (hgrow'.block d (by rw [hal]; omega) (fun e => by have:=(HOl.out d e.symm).2; omega)).trans (B4.out.block d hd2)
       ·subst e
        rcases hgb with e | e
        ·have:=(HOl.out _ e).2; have:=hd.1; omega
        ·have:=hd.2; omega)
     have HIs:=hid (show Is x t from fun t' r h => (HK.out t' r h).1)
     have hgb5:=hid (show w.heap.size≤gb∧gb<w5.heap.size from HR5.out.lt gb rfl)
     have D1:=hid (cK P g cap ts nest (l8 x) ⟨#[44]⟩ w5 HS5)
     clear hown' hgrow' hat hltg hbase
     go_wp2_with fail
     (with_reducible refine Calls.mono D1.out ?_)
     rintro e w6 ⟨b1,rfl,hb,hb1⟩
     have HS6:=hid (HS5.out.below hb)
     have HB6:=hid hb
     have HT6:=hid hb1
     have HG6:=hid (c8 HG5 (hb.mono HG5.out.size))
     clear hb hb1 D1
     cases b1
     ·have C5:=hid (n5 P g cap ts nest (l8 x) ⟨#[41]⟩ w6 hn HS6 HE)
      go_wp2_with fail
      (with_reducible refine Calls.mono C5.out ?_)
      rintro e w7 ⟨rfl,hs,hg⟩
      have HS7:=hid (show SP P g cap ts nest (n7 O9 (l8 x)) w7 from hs)
      have K57:=hid (show w5.grownBy w7 (some P) from a6 (c9 HB6) hg)
      have HG7:=hid (a6 HG6 hg)
      clear hs hg C5
      go_wp2_with fail
      go_ret
      have hX : X=goX (n7 O9 (l8 x)) fun r => .ok (mkN 0 [] 0 (L.map (·.1) ++ [t]) 0,r):=by
       rw [HXn.out,a2q HIs.out HT6.out]
      have hP5:=HS5.out.blocks.1
      have hPw:=hb0.out.1
      refine ⟨(L ++ [(t,a,c)]).map (·.1),some ⟨gb,0,none⟩,cap',by rw [List.length_map,List.length_append]; rfl,by rw [hX,Y6]; exact HS7,HG7,fun t' r' hx => ?_⟩
      rw [hX] at hx
      obtain ⟨r1,e1,e2⟩:=Q9 hx
      cases e2
      obtain ⟨r2,e3,-,-⟩:=F0 e1
      obtain ⟨hal,-⟩:=HL5.out r2 e3
      have hrow : w7.ownsRow w.heap.size 24 5 (.slice (some ⟨gb,0,none⟩) (L ++ [(t,a,c)]).length cap') (L ++ [(t,a,c)]).length (bH (L ++ [(t,a,c)])) :=
       HR5.out.kept K57 (.inr (fun e => by have:=hgb5.out.1; have e' : gb=P:=Option.some.inj e; omega))
      have hcap:=hrow.2
      have hlen : (L ++ [(t,a,c)]).length=L.length + 1:=by rw [List.length_append]; rfl
      refine ⟨by rw [List.map_append]; rfl,⟨?_,?_,?_⟩,nU _ _ fun k hk => ?_,jY hrow (show Fr w.heap.size w7.heap.size gb from ⟨hgb5.out.1,Nat.lt_of_lt_of_le hgb5.out.2 K57.out.size⟩) fun e he => d6 (hal e he).1 ((f8.refl _ _).grown K57 fun d hd => ⟨hd.2.1,fun e => by subst e; have:=hd.1; omega⟩) fun d hd => ⟨hd.1,Nat.lt_of_lt_of_le hd.2.1 K57.out.size⟩⟩
      ·rw [List.length_map,hlen]; omega
      ·rw [List.length_map]
       rcases hcap with ⟨h,-⟩ | ⟨g',cap2,cur,h,-,-,h1,-⟩
       ·cases h
       ·cases h; exact h1
      ·rcases hcap with ⟨h,-⟩ | ⟨g',cap2,cur,h,-,-,-,h1,-⟩
       ·cases h
       ·cases h; exact h1
      ·obtain ⟨e,he,rfl⟩:=List.mem_map.1 hk
       exact (hal e he).2
     ·have C5:=hid (O3 P g cap ts nest (l8 x) w6 HS6 HE)
      go_wp2_with fail
      (with_reducible refine Calls.mono C5.out ?_)
      rintro e w7 ⟨T,rfl,hs,hg,-⟩
      have HS7:=hid hs
      have K57:=hid (show w5.grownBy w7 (some P) from a6 (c9 HB6) hg)
      have HG7:=hid (a6 HG6 hg)
      clear hs hg C5
      unfold tkV
      go_wp2_with fail
      go_roundw
      case rel =>
       have hlen : (L ++ [(t,a,c)]).length=L.length + 1:=by rw [List.length_append]; rfl
       have hPw:=hb0.out.1
       refine ⟨some ⟨gb,0,none⟩,cap',L ++ [(t,a,c)],oQ (l8 x),by rw [hlen],?_,HR5.out.kept K57 (.inr (fun e => by have:=hgb5.out.1; have e' : gb=P:=Option.some.inj e; omega)),HS7,HG7,?_,fun r' hr' => ?_⟩
       ·rw [hlen]; omega
       ·rw [HXn.out,zO HIs.out HT6.out,List.map_append]; rfl
       ·cases hx : l8 x with
        | error e => rw [hx] at hr'; cases hr'
        | ok r1 =>
          rw [hx] at hr'
          obtain ⟨hal,h1⟩:=HL5.out r1 hx
          replace hr' : Except.ok (b9 r1)=(.ok r' : Sx):=hr'
          cases hr'
          refine ⟨fun e he => ⟨d6 (hal e he).1 ((f8.refl _ _).grown K57 fun d hd => ⟨hd.2.1,fun e => by subst e; have:=hd.1; omega⟩) fun d hd => ⟨hd.1,Nat.lt_of_lt_of_le hd.2.1 K57.out.size,fun e => hd.2.2 (Option.some.inj e).symm⟩,(hal e he).2⟩,?_⟩
          have:=I4 r1
          have:=HRl.out
          omega
      case measure =>
       rw [HFar.out]
       refine Nat.lt_of_le_of_lt (Nat.le_of_eq HS7.out.far) ?_
       cases hx : l8 x with
       | error e => exact Nat.succ_pos _
       | ok r1 =>
         obtain ⟨hal,h1⟩:=HL5.out r1 hx
         have:=A9 (HT6.out r1 hx).symm
         show (b9 r1).length + 1<r.length + 1
         omega
end
end Go.Proofs.YtppcfebnaieciaaGreatDoor
