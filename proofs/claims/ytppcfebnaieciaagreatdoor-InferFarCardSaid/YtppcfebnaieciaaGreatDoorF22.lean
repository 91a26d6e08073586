/-
  Laws that the proof rests on.
-/
import Derived.Test.YtppcfebnaieciaaGreatDoorF17
import Derived.Deep.Cut
namespace Go.Proofs.YtppcfebnaieciaaGreatDoor
set_option maxRecDepth 100000
set_option maxHeartbeats 16000000
section
open Lib (hid)
open Go.RowKit
theorem a0L {av : Nat→Prop} {W : World} {t : Nd} {a : Option Addr} {cp b : Nat} {k : Int} {T : Tk} {A : TypeId} (hk : (Lit.int .i64 k).wf=true) (hT : bG T) (hb : av b) (h : W.heap[b]?=some (.cells #[.int .i64 t.kind,.string t.text,.int .i64 t.n,.slice a t.kids.length cp,.int .i64 t.place] A (0,0))) (hl : t.lies av W a cp) :
 (mkN k T.text 0 [t] T.pos).lies av W (some ⟨b,0,none⟩) 1 :=
 Nd.lies.mk' hk (by have:=hT.2.2; show T.text.toArray.size≤maxLen; unfold maxLen; simp; omega) rfl hT.2.1 (Nat.le_refl _) (by unfold maxLen; decide) (a4q hb h hl)
theorem vW (k : Int) (s : List UInt8) (n p : Int) (t : Nd) : i8 (mkN k s n [t] p)=i8 t + 1:=by
 unfold mkN; rw [i8,o2,o2,Nat.max_zero]
theorem c6.oput {b c : Nat} {t : Nd} {a : Option Addr} {cp : Nat} {W : World} (h : c6 b t a cp W) (hc : b≠c) (t' : Nd) (a' : Option Addr) (cp' : Nat) : c6 b t a cp (Q7 W c t' a' cp'):=((((h.set hc _ _).set hc _ _).set hc _ _).set hc _ _).set hc _ _
theorem D5.oput {b c : Nat} {t : Tk} {W : World} (h : D5 b t W) (hc : b≠c) (t' : Nd) (a' : Option Addr) (cp' : Nat) : D5 b t (Q7 W c t' a' cp'):=((((h.set hc _ _).set hc _ _).set hc _ _).set hc _ _).set hc _ _
theorem bT (P g cap : Nat) (ts : List Tk) (nest : Nat) (σ : Sx) (k : Int) (s : List UInt8) (n : Int) (ks : List Nd) (p : Int) (a : Option Addr) (len cp : Nat) (hlen : ks.length=len) (w : World) (hn : nest≤300) (h : SP P g cap ts nest σ w)
 (hd : ∀ r,σ=.ok r→i8 (mkN k s n ks p)≤101∧∃ av : Nat→Prop,(∀ b,av b→b<w.heap.size)∧(mkN k s n ks p).lies av w a cp) :
 Calls Tryz.prog 105 #[.pointer (some ⟨P,0,none⟩),.agg #[.int .i64 k,.string ⟨s.toArray⟩,.int .i64 n,.slice a len cp,.int .i64 p]] w (a2Y P g cap ts nest σ (mkN k s n ks p) a cp w):=by
 subst hlen
 exact nT P g cap ts nest σ (mkN k s n ks p) a cp w hn h hd
theorem jE (P g cap : Nat) (ts : List Tk) (he : bJ ts) (htk : ∀ t∈ts,bG t) (u : Bool) (l : List Tk) (nest : Nat) (w : World) (hn : nest≤300) (h : SP P g cap ts nest (.ok l) w) (hc : (u=true→CU P g cap ts (b9 l))∧(u=false→CN P g cap ts (b9 l))) :
 Calls Tryz.prog 178 #[.pointer (some ⟨P,0,none⟩),.bool u] w (RdP P g cap ts nest (fE nest l ((rd (if u=true then .unary else .not) (nest + 1) (b9 l)).then fun t r => made (mkN 12 (hd l).text 0 [t] (hd l).pos) r)) w):=by
 obtain ⟨V,hV⟩ : ∃ V,V=(w.alloc (.cells #[.int .i64 0,.string ⟨#[]⟩,.int .i64 0,.slice none 0 0,.int .i64 0] 24)).alloc (.cells #[.int .i64 0,.string ⟨#[]⟩,.int .i64 0,.slice none 0 0,.int .i64 0] 24):=⟨_,rfl⟩
 have HBV:=hid (show Below w.heap.size w V from hV ▸ (a7 w _).trans ((a7 _ _).mono (a7 w _).size))
 have hsV:=hid (show V.heap.size=w.heap.size + 2 by rw [hV]; simp)
 have N1:=hid (show c6 w.heap.size nd0 none 0 V from hV ▸ (c6.make w nd0 none 0).below (a7 _ _))
 have N2:=hid (show c6 (w.heap.size + 1) nd0 none 0 V by
  have:=c6.make (w.alloc (.cells #[.int .i64 0,.string ⟨#[]⟩,.int .i64 0,.slice none 0 0,.int .i64 0] 24)) nd0 none 0
  rw [hV]
  simpa [nd0,Nd.kind,Nd.text,Nd.n,Nd.kids,Nd.place] using this)
 have hS:=hid (h.below HBV)
 have hb0:=hid h.blocks
 have HP:=hid (show (w.heap.size≠P∧w.heap.size≠g)∧(w.heap.size + 1≠P∧w.heap.size + 1≠g) by have:=hb0.out; omega)
 have C1:=hid (kP P g cap ts nest l V hn hS)
 have HC:=hid hc
 have HT0:=hid (htk _ h.mem)
 obtain ⟨X,hX⟩ : ∃ X,X=fE nest l ((rd (if u=true then .unary else .not) (nest + 1) (b9 l)).then fun t r => made (mkN 12 (hd l).text 0 [t] (hd l).pos) r):=⟨_,rfl⟩
 rw [← hX]
 have HX:=hid hX
 clear h hc htk hX
 go_enter Tryz.func178,Tryz.ntmps178
 go_wp2_with fail
 rw [← hV]
 clear hV
 (with_reducible refine Calls.mono C1.out ?_)
 rintro e w2 ⟨rfl,hs2,hg2⟩
 have B1:=hid (N1.out.grown hg2 HP.out.1.1)
 have B2:=hid (N2.out.grown hg2 HP.out.2.1)
 have G2:=hid (a6 (c9 HBV) hg2)
 have hsz : w.heap.size<w2.heap.size∧w.heap.size + 1<w2.heap.size:=⟨B1.out.lt,B2.out.lt⟩
 clear hg2
 by_cases hk : 300<nest + 1
 ·have R:=hid (show X=.error (75,(hd l).pos) from HX.out.trans (if_pos hk))
  have E : dL nest (.ok l)=.error (75,(hd l).pos):=if_pos hk
  rw [E] at hs2
  obtain ⟨-,i,n,hp,-,-⟩:=hs2.error
  obtain ⟨⟨p0,p1,p2,p3,p4⟩,-⟩:=hp.cells
  have hpl:=hp.plt
  obtain ⟨⟨z0,z1,z2,z3,z4⟩,⟨f0,f1,f2,f3,f4⟩⟩:=B1.out.cells
  obtain ⟨⟨n0,n1,n2,n3,n4⟩,-⟩:=B2.out.cells
  have HS2:=hid (hs2.mono (Nat.le_succ nest))
  clear hk E hs2 hp
  go_wp2_with fail
  refine bodyPost_ret (v:=nd0.val none 0) (by simp [results,Tryz.results178,go_sem,Nd.val,z0,z1,z2,z3,z4]) rfl ?_
  rw [R.out]
  exact RdP.fin (x:=.error (75,(hd l).pos)) HS2 G2 HP.out.1 (Nat.le_refl _) (fun _ _ h => by cases h)
 ·have R:=hid (show X=((rd (if u=true then .unary else .not) (nest + 1) (b9 l)).then fun t r => made (mkN 12 (hd l).text 0 [t] (hd l).pos) r) from HX.out.trans (if_neg hk))
  have E : dL nest (.ok l)=.ok l:=if_neg hk
  rw [E] at hs2
  obtain ⟨i,-,hp⟩:=hs2.ok
  obtain ⟨⟨p0,p1,p2,p3,p4⟩,-⟩:=hp.cells
  have hpl:=hp.plt
  have C2:=hid (O3 P g cap ts (nest + 1) (.ok l) w2 hs2 he)
  have hn1:=hid (show nest + 1≤300 by omega)
  clear hk E hs2 hp
  go_wp2_with fail
  (with_reducible refine Calls.mono C2.out ?_)
  rintro e w3 ⟨T,rfl,hs3,hg3,hT⟩
  have HT:=hid (hT l rfl)
  clear hT
  have D1:=hid (B1.out.grown hg3 HP.out.1.1)
  have D2:=hid (B2.out.grown hg3 HP.out.2.1)
  have G3:=hid (a6 G2 hg3)
  obtain ⟨W4,hW4⟩ : ∃ W,W=w3.alloc (.cells #[.int .i64 T.kind,.string ⟨T.text.toArray⟩,.int .i64 T.n,.int .i64 T.pos] 108):=⟨_,rfl⟩
  have HB4:=hid (show Below w3.heap.size w3 W4 from hW4 ▸ a7 _ _)
  have T4:=hid (show D5 w3.heap.size T W4 from hW4 ▸ D5.make w3 T)
  have HS4:=hid (SP.below hs3 HB4)
  have E1:=hid (D1.out.below HB4)
  have E2:=hid (D2.out.below HB4)
  have G4:=hid (c8 G3 (HB4.out.mono G3.out.size))
  have hP3:=hid (show w3.heap.size≠P∧w3.heap.size≠g by have:=hs3.blocks; omega)
  have hsz4:=hid (show w.heap.size + 1<w3.heap.size from D2.out.lt)
  clear hs3 hg3 p0 p1 p2 p3 p4 hpl
  unfold tkV
  cases u
  case' false =>
   have C3:=hid (HC.out.2 rfl (nest + 1) W4 hn1 HS4)
   have R':=hid (show X=Rd.then (rd .not (nest + 1) (b9 l)) (fun t r => made (mkN 12 (hd l).text 0 [t] (hd l).pos) r) from R)
   generalize rd .not (nest + 1) (b9 l)=y at R' C3
  case' true =>
   have C3:=hid (HC.out.1 rfl (nest + 1) W4 hn1 HS4)
   have R':=hid (show X=Rd.then (rd .unary (nest + 1) (b9 l)) (fun t r => made (mkN 12 (hd l).text 0 [t] (hd l).pos) r) from R)
   generalize rd .unary (nest + 1) (b9 l)=y at R' C3
  all_goals
   clear R HX
   go_wp2_with fail
   rw [← hW4]
   clear hW4
   (with_reducible refine Calls.mono C3.out ?_)
   rintro e w5 ⟨t,a,cp,rfl,hs5,hg5,hk5⟩
   unfold Nd.val
   clear C3
   have F1:=hid ((E1.out.grown hg5 HP.out.1.1).oput (c:=w.heap.size + 1) (by omega) t a cp)
   have F2:=hid ((E2.out.grown hg5 HP.out.2.1).put t a cp)
   have F3:=hid ((T4.out.grown hg5 hP3.out.1).oput (c:=w.heap.size + 1) (by have:=hsz4.out; omega) t a cp)
   have HS6:=hid (hs5.put HP.out.2.1 HP.out.2.2 t a cp)
   have G6:=hid (t6 (a6 G4 hg5) (show w.heap.size≤w.heap.size + 1 by omega) t a cp)
   have HK5:=hid hk5
   have hsz5:=hid (show W4.heap.size≤w5.heap.size from hg5.size)
   obtain ⟨⟨z0,z1,z2,z3,z4⟩,⟨f0,f1,f2,f3,f4⟩⟩:=(E2.out.grown hg5 HP.out.2.1).cells
   clear hs5 hg5 hk5
   obtain ⟨W6,hW6⟩ : ∃ W,W=Q7 w5 (w.heap.size + 1) t a cp:=⟨_,rfl⟩
   rw [← hW6] at F1 F2 F3 HS6 G6
   go_upto_region 9 with fail
   have hW6':=hW6
   unfold Q7 at hW6'
   rw [← hW6']
   clear hW6' z0 z1 z2 z3 z4 f0 f1 f2 f3 f4
   have HW6:=hid hW6
   clear hW6
   obtain ⟨m,hm1,hm2,p2,q2,hs7⟩:=HS6.out.nest
   obtain ⟨W7,hW7⟩ : ∃ W,W=W6.setCell ⟨P,2,none⟩ (.int .i64 (m - 1)):=⟨_,rfl⟩
   have J1:=hid (show c6 w.heap.size nd0 none 0 W7 from hW7 ▸ F1.out.set HP.out.1.1 _ _)
   have J2:=hid (show c6 (w.heap.size + 1) t a cp W7 from hW7 ▸ F2.out.set HP.out.2.1 _ _)
   have J3:=hid (show D5 w3.heap.size T W7 from hW7 ▸ F3.out.set hP3.out.1 _ _)
   have HS7:=hid (show SP P g cap ts nest _ W7 from hW7 ▸ hs7)
   have G7:=hid (show w.grownBy W7 (some P) from hW7 ▸ a6 G6 (F4 _ _ _ _))
   have hpl:=HS6.out.blocks.1
   clear hs7
   go_upto_region 10 with fail
   rw [← hW7]
   have HW7:=hid hW7
   clear hW7 p2 q2 hpl
   obtain ⟨⟨t0,t1,t2,t3⟩,-⟩:=J3.out.cells
   obtain ⟨⟨n0,n1,n2,n3,n4⟩,-⟩:=J2.out.cells
   obtain ⟨W8,hW8⟩ : ∃ W,W=W7.alloc (.cells #[.int .i64 t.kind,.string t.text,.int .i64 t.n,.slice a t.kids.length cp,.int .i64 t.place] 24):=⟨_,rfl⟩
   have HB8:=hid (show Below W7.heap.size W7 W8 from hW8 ▸ a7 _ _)
   have K1:=hid (J1.out.below HB8)
   have K3:=hid (J3.out.below HB8)
   have K4:=hid (show c6 W7.heap.size t a cp W8 from hW8 ▸ c6.make W7 t a cp)
   have HS8:=hid (HS7.out.below HB8)
   have G8:=hid (c8 G7 (HB8.out.mono G7.out.size))
   have hsz7:=hid (show w5.heap.size=W7.heap.size by rw [HW7.out,HW6.out]; simp [World.setCell,size_put])
   have hbw:=hid (show P<W4.heap.size∧w3.heap.size<W4.heap.size from ⟨HS4.out.blocks.1,T4.out.lt⟩)
   have HD:=hid (show ∀ r,l8 y=.ok r→i8 (mkN 12 T.text 0 [t] T.pos)≤101∧(mkN 12 T.text 0 [t] T.pos).lies (Fr W4.heap.size W8.heap.size) W8 (some ⟨W7.heap.size,0,none⟩) 1 from fun r hr => by
    obtain ⟨t',ht'⟩:=q6 hr
    obtain ⟨rfl,hl,hd⟩:=HK5.out t' r ht'
    refine ⟨by rw [vW]; omega,a0L rfl (HT.out ▸ HT0.out) ⟨by have:=hsz5.out; have:=hsz7.out; omega,K4.out.lt⟩ K4 (d6 hl ?_ fun b hb => ⟨hb.1,by have:=hsz7.out; have:=HB8.out.size; have:=hb.2; omega⟩)⟩
    have k1 : f8 (Fr W4.heap.size w5.heap.size) w5 W7:=by
     rw [HW7.out,HW6.out]
     exact ((f8.refl _ w5).put (fun b hb e => by subst e; have:=hb.1; have:=hbw.out.2; have:=hsz4.out; omega) _ _ _).set (fun b hb e => by subst e; have:=hb.1; have:=hbw.out.1; omega) _ _
    exact k1.trans fun b hb => HB8.out.block b (by have:=hb.2; have:=hsz7.out; omega))
   have C4:=hid (bT P g cap ts nest (l8 y) 12 T.text 0 [t] T.pos (some ⟨W7.heap.size,0,none⟩) 1 1 rfl W8 hn HS8 fun r hr => ⟨(HD.out r hr).1,_,fun b hb => hb.2,(HD.out r hr).2⟩)
   obtain ⟨⟨u0,u1,u2,u3⟩,-⟩:=K3.out.cells
   subst hW8
   go_wp2_with fail
   (with_reducible refine Calls.mono C4.out ?_)
   rintro e w9 ⟨rfl,hs9,hg9⟩
   have hB7 : w.heap.size<W7.heap.size:=J1.out.lt
   obtain ⟨⟨z0,z1,z2,z3,z4⟩,⟨f0,f1,f2,f3,f4⟩⟩:=(K1.out.grown hg9 HP.out.1.1).cells
   have hsz9 : w.heap.size<w9.heap.size:=(K1.out.grown hg9 HP.out.1.1).lt
   have HS9:=hid hs9
   have G9:=hid (a6 G8 hg9)
   have HG9:=hid hg9
   clear hs9 hg9 t0 t1 t2 t3 n0 n1 n2 n3 n4 u0 u1 u2 u3
   rw [show (mkN 12 T.text 0 [t] T.pos).val (some ⟨W7.heap.size,0,none⟩) 1=.agg #[.int .i64 12,.string ⟨T.text.toArray⟩,.int .i64 0,.slice (some ⟨W7.heap.size,0,none⟩) 1 1,.int .i64 T.pos] from rfl]
   go_wp2_with fail
   refine bodyPost_ret (v:=(mkN 12 T.text 0 [t] T.pos).val (some ⟨W7.heap.size,0,none⟩) 1) (by simp [results,Tryz.results178,go_sem,Nd.val,mkN,Nd.kind,Nd.text,Nd.n,Nd.kids,Nd.place,z0,z1,z2,z3,z4]) rfl ?_
   have hX : X=goX (l8 y) (made (mkN 12 T.text 0 [t] T.pos)):=by
    rw [R'.out,z8 (t:=t) (fun t' r h => (HK5.out t' r h).1),HT.out]
   have hO : l8 X=dV (mkN 12 T.text 0 [t] T.pos) (l8 y):=by rw [hX,cI]
   refine RdP.fin (by rw [hO]; exact HS9) G9 HP.out.1 (Nat.le_refl _) fun t' r hx => ?_
   rw [hX] at hx
   obtain ⟨e1,e2,e3⟩:=dB _ _ hx
   refine ⟨e1,⟨_,fun c hc => ⟨?_,?_,Nat.lt_of_lt_of_le hc.2 HG9.out.size⟩,d6 (HD.out r e2).2 ((f8.refl _ _).grown HG9 fun b hb => ⟨hb.2,?_⟩) fun b hb => hb⟩,e3⟩
   ·rintro rfl
    have:=hc.1; have:=hbw.out.2; have:=hsz4.out; omega
   ·have:=hc.1; have:=hbw.out.2; have:=hsz4.out; omega
   ·rintro rfl
    have:=hb.1; have:=hbw.out.1; omega
end
section
open Lib (hid)
open Go.RowKit
theorem wG (P g cap : Nat) (ts : List Tk) (he : bJ ts) (htk : ∀ t∈ts,bG t) (l : List Tk) (hA : CA P g cap ts l) (hU : isT wC l=true→CU P g cap ts (b9 l)) : CU P g cap ts l:=by
 intro nest w hn h
 obtain ⟨V,hV⟩ : ∃ V,V=w.alloc (.cells #[.int .i64 0,.string ⟨#[]⟩,.int .i64 0,.slice none 0 0,.int .i64 0] 24):=⟨_,rfl⟩
 have HBV:=hid (show Below w.heap.size w V from hV ▸ a7 w _)
 have N1:=hid (show c6 w.heap.size nd0 none 0 V from hV ▸ c6.make w nd0 none 0)
 have hS:=hid (h.below HBV)
 have hb0:=hid h.blocks
 have HP:=hid (show w.heap.size≠P∧w.heap.size≠g from ⟨Nat.ne_of_gt hb0.out.1,Nat.ne_of_gt hb0.out.2⟩)
 have C1:=hid (cK P g cap ts nest (.ok l) ⟨#[45]⟩ V hS)
 have HA:=hid hA
 have HU:=hid hU
 have HTK:=hid htk
 obtain ⟨X,hX⟩ : ∃ X,X=rd .unary nest l:=⟨_,rfl⟩
 rw [← hX]
 have HX:=hid (hX.trans (lW .unary nest l))
 clear hX h hA hU htk
 go_enter Tryz.func162,Tryz.ntmps162
 go_wp2_with fail
 rw [← hV]
 have HVs:=hid (show w.heap.size<V.heap.size from N1.out.lt)
 clear hV
 (with_reducible refine Calls.mono C1.out ?_)
 rintro e w2 ⟨b,rfl,hb,hbt⟩
 have HT:=hid (hbt l rfl)
 have HS2:=hid (hS.out.below hb)
 have N2:=hid (N1.out.below hb)
 have G2:=hid (c9 (r:=some P) (HBV.out.trans (hb.mono HBV.out.size)))
 clear hbt hb
 cases b
 case' true =>
  have R:=hid (show X=fE nest l ((rd (if true=true then .unary else .not) (nest + 1) (b9 l)).then fun t r => made (mkN 12 (hd l).text 0 [t] (hd l).pos) r) from HX.out.trans (if_pos HT.out.symm))
  have C3:=hid (jE P g cap ts he HTK true l nest w2 hn HS2 ⟨fun _ => HU.out HT.out.symm,fun h => by cases h⟩)
  rw [← R.out] at C3
 case' false =>
  have R:=hid (show X=rd .atom nest l from HX.out.trans (if_neg (by rw [show isT wC l=false from HT.out.symm]; decide)))
  have C3:=hid (HA.out nest w2 hn HS2)
  rw [← R.out] at C3
 all_goals
  go_wp2_with fail
  (with_reducible refine Calls.mono C3.out ?_)
  rintro e w3 ⟨t,a,cp,rfl,hs,hg,hk⟩
  have HS3:=hid hs
  have G3:=hid (a6 G2 hg)
  have HK:=hid hk
  obtain ⟨⟨z0,z1,z2,z3,z4⟩,⟨f0,f1,f2,f3,f4⟩⟩:=(N2.out.grown hg HP.out.1).cells
  have hsz : w.heap.size<w3.heap.size:=(N2.out.grown hg HP.out.1).lt
  have hsz2:=hid N2.out.lt
  clear hs hg hk
  unfold Nd.val
  go_wp2_with fail
  refine bodyPost_ret (v:=t.val a cp) (by simp [results,Tryz.results162,go_sem,Nd.val,z0,z1,z2,z3,z4]) rfl ?_
  refine RdP.fin HS3 G3 HP (Nat.le_refl _) fun t' r' hx => ?_
  obtain ⟨e,hl,hd⟩:=HK.out t' r' hx
  exact ⟨e,⟨_,fun c hc => ⟨fun e => by subst e; have:=hc.1; have:=hsz2.out; omega,by have:=hc.1; have:=hsz2.out; omega,hc.2⟩,hl⟩,hd⟩
theorem aZ (P g cap : Nat) (ts : List Tk) (lv : Nat) (hlv : lv≤3) (l : List Tk) (h0 : lv=0→CC P g cap ts 1 l) (h1 : lv=1→CN P g cap ts l) (h2 : lv=2→CC P g cap ts 3 l) (h3 : lv=3→CU P g cap ts l) : CL P g cap ts lv l:=by
 intro nest w hn h
 obtain ⟨V,hV⟩ : ∃ V,V=w.alloc (.cells #[.int .i64 0,.string ⟨#[]⟩,.int .i64 0,.slice none 0 0,.int .i64 0] 24):=⟨_,rfl⟩
 have HBV:=hid (show Below w.heap.size w V from hV ▸ a7 w _)
 have N1:=hid (show c6 w.heap.size nd0 none 0 V from hV ▸ c6.make w nd0 none 0)
 have hS:=hid (h.below HBV)
 have hb0:=hid h.blocks
 have HP:=hid (show w.heap.size≠P∧w.heap.size≠g from ⟨Nat.ne_of_gt hb0.out.1,Nat.ne_of_gt hb0.out.2⟩)
 have G1:=hid (c9 (r:=some P) HBV)
 have H0:=hid h0
 have H1:=hid h1
 have H2:=hid h2
 have H3:=hid h3
 have hsz2:=hid N1.out.lt
 obtain ⟨X,hX⟩ : ∃ X,X=rd (aL lv) nest l:=⟨_,rfl⟩
 rw [← hX]
 have HX:=hid hX
 clear hX h h0 h1 h2 h3
 have hc : lv=0∨lv=1∨lv=2∨lv=3:=by omega
 clear hlv
 rcases hc with rfl | rfl | rfl | rfl
 case' inl =>
  have C3:=hid (H0.out rfl nest V hn hS)
  rw [show rd (.chain 1) nest l=X from HX.out.symm] at C3
 case' inr.inl =>
  have C3:=hid (H1.out rfl nest V hn hS)
  rw [show rd .not nest l=X from HX.out.symm] at C3
 case' inr.inr.inl =>
  have C3:=hid (H2.out rfl nest V hn hS)
  rw [show rd (.chain 3) nest l=X from HX.out.symm] at C3
 case' inr.inr.inr =>
  have C3:=hid (H3.out rfl nest V hn hS)
  rw [show rd .unary nest l=X from HX.out.symm] at C3
 all_goals
  clear H0 H1 H2 H3 HX
  go_enter Tryz.func136,Tryz.ntmps136
  go_wp2_with fail
  rw [← hV]
  clear hV
  (with_reducible refine Calls.mono C3.out ?_)
  rintro e w3 ⟨t,a,cp,rfl,hs,hg,hk⟩
  have HS3:=hid hs
  have G3:=hid (a6 G1 hg)
  have HK:=hid hk
  obtain ⟨⟨z0,z1,z2,z3,z4⟩,⟨f0,f1,f2,f3,f4⟩⟩:=(N1.out.grown hg HP.out.1).cells
  have hsz : w.heap.size<w3.heap.size:=(N1.out.grown hg HP.out.1).lt
  clear hs hg hk
  unfold Nd.val
  go_wp2_with fail
  refine bodyPost_ret (v:=t.val a cp) (by simp [results,Tryz.results136,go_sem,Nd.val,z0,z1,z2,z3,z4]) rfl ?_
  refine RdP.fin HS3 G3 HP (Nat.le_refl _) fun t' r' hx => ?_
  obtain ⟨e,hl,hd⟩:=HK.out t' r' hx
  exact ⟨e,⟨_,fun c hc => ⟨fun e => by subst e; have:=hc.1; have:=hsz2.out; omega,by have:=hc.1; have:=hsz2.out; omega,hc.2⟩,hl⟩,hd⟩
end
section
open Lib (hid)
open Go.RowKit
theorem oN {av : Nat→Prop} {W : World} {t u : Nd} {a a' : Option Addr} {cp cp' b : Nat} {k : Int} {T : Tk} {A : TypeId} (hk : (Lit.int .i64 k).wf=true) (hT : bG T) (hb : av b)
 (h : W.heap[b]?=some (.cells #[.int .i64 t.kind,.string t.text,.int .i64 t.n,.slice a t.kids.length cp,.int .i64 t.place,.int .i64 u.kind,.string u.text,.int .i64 u.n,.slice a' u.kids.length cp',.int .i64 u.place] A (0,0))) (hl : t.lies av W a cp) (hu : u.lies av W a' cp') :
 (mkN k T.text 0 [t,u] T.pos).lies av W (some ⟨b,0,none⟩) 2 :=
 Nd.lies.mk' hk (by have:=hT.2.2; show T.text.toArray.size≤maxLen; unfold maxLen; simp; omega) rfl hT.2.1 (Nat.le_refl _) (by unfold maxLen; decide) (a3R hb h hl hu)
theorem lI (k : Int) (s : List UInt8) (n p : Int) (t u : Nd) : i8 (mkN k s n [t,u] p)=max (i8 t) (i8 u) + 1:=by
 unfold mkN; rw [i8,o2,o2,o2,Nat.max_zero]
theorem yL (l : List Tk) : iR zE l=(isT [60] l || (isT [60,61] l || isT [61] l)):=by
 show (isT [60] l || (isT [60,61] l || (isT [61] l || false)))=_
 rw [Bool.or_false]
theorem a2l (P g cap : Nat) (ts : List Tk) (he : bJ ts) (htk : ∀ t∈ts,bG t) (l : List Tk) (hC : CC P g cap ts 2 l) (hC2 : ∀ r,r.length<l.length→CC P g cap ts 2 r) (hN : isT a4A l=true→CN P g cap ts (b9 l)) : CN P g cap ts l:=by
 intro nest w hn h
 obtain ⟨V,hV⟩ : ∃ V,V=w.alloc (.cells #[.int .i64 0,.string ⟨#[]⟩,.int .i64 0,.slice none 0 0,.int .i64 0] 24):=⟨_,rfl⟩
 have HBV:=hid (show Below w.heap.size w V from hV ▸ a7 w _)
 have N1:=hid (show c6 w.heap.size nd0 none 0 V from hV ▸ c6.make w nd0 none 0)
 have hS:=hid (h.below HBV)
 have hb0:=hid h.blocks
 have HP:=hid (show w.heap.size≠P∧w.heap.size≠g from ⟨Nat.ne_of_gt hb0.out.1,Nat.ne_of_gt hb0.out.2⟩)
 have C1:=hid (cK P g cap ts nest (.ok l) ⟨#[110,111,116]⟩ V hS)
 have HC:=hid hC
 have HC2:=hid hC2
 have HN:=hid hN
 have HTK:=hid htk
 obtain ⟨X,hX⟩ : ∃ X,X=rd .not nest l:=⟨_,rfl⟩
 rw [← hX]
 have HX:=hid (hX.trans (lW .not nest l))
 clear hX h hC hC2 hN htk
 go_enter Tryz.func161,Tryz.ntmps161
 go_wp2_with fail
 rw [← hV]
 have HVs:=hid (show w.heap.size<V.heap.size from N1.out.lt)
 clear hV
 (with_reducible refine Calls.mono C1.out ?_)
 rintro e w2 ⟨b,rfl,hb,hbt⟩
 have HT:=hid (hbt l rfl)
 have HS2:=hid (hS.out.below hb)
 have N2:=hid (N1.out.below hb)
 have G2:=hid (c9 (r:=some P) (HBV.out.trans (hb.mono HBV.out.size)))
 clear hbt hb
 cases b
 case true =>
  have R:=hid (show X=fE nest l ((rd (if false=true then .unary else .not) (nest + 1) (b9 l)).then fun t r => made (mkN 12 (hd l).text 0 [t] (hd l).pos) r) from HX.out.trans (if_pos HT.out.symm))
  have C3:=hid (jE P g cap ts he HTK false l nest w2 hn HS2 ⟨fun h => (by cases h),fun _ => HN.out HT.out.symm⟩)
  rw [← R.out] at C3
  go_wp2_with fail
  (with_reducible refine Calls.mono C3.out ?_)
  rintro e w3 ⟨t,a,cp,rfl,hs,hg,hk⟩
  have HS3:=hid hs
  have G3:=hid (a6 G2 hg)
  have HK:=hid hk
  obtain ⟨⟨z0,z1,z2,z3,z4⟩,⟨f0,f1,f2,f3,f4⟩⟩:=(N2.out.grown hg HP.out.1).cells
  have hsz : w.heap.size<w3.heap.size:=(N2.out.grown hg HP.out.1).lt
  have hsz2:=hid N2.out.lt
  clear hs hg hk
  unfold Nd.val
  go_wp2_with fail
  refine bodyPost_ret (v:=t.val a cp) (by simp [results,Tryz.results161,go_sem,Nd.val,z0,z1,z2,z3,z4]) rfl ?_
  refine RdP.fin HS3 G3 HP (Nat.le_refl _) fun t' r' hx => ?_
  obtain ⟨e,hl,hd⟩:=HK.out t' r' hx
  exact ⟨e,⟨_,fun c hc => ⟨fun e => by subst e; have:=hc.1; have:=hsz2.out; omega,by have:=hc.1; have:=hsz2.out; omega,hc.2⟩,hl⟩,hd⟩
 case false =>
  have R:=hid (show X=(rd (.chain 2) nest l).then fun a r => if iR zE r=true then (rd (.chain 2) nest (b9 r)).then fun b r' => made (mkN 13 (hd r).text 0 [a,b] (hd r).pos) r' else .ok (a,r) from
   HX.out.trans (if_neg (by rw [show isT a4A l=false from HT.out.symm]; decide)))
  have C3:=hid (HC.out nest w2 hn HS2)
  have HL:=hid (fun t r (h : rd (.chain 2) nest l=.ok (t,r)) => iK (.chain 2) nest l h)
  generalize rd (.chain 2) nest l=y at R C3 HL
  clear HX HT
  go_wp2_with fail
  (with_reducible refine Calls.mono C3.out ?_)
  rintro e w3 ⟨t,a,cp,rfl,hs,hg,hk⟩
  have N3:=hid (N2.out.grown hg HP.out.1)
  have G3:=hid (a6 G2 hg)
  have hsz2:=hid N2.out.lt
  have HK:=hid hk
  have HG23:=hid (show w2.heap.size≤w3.heap.size from hg.size)
  have hP3:=hid (show w3.heap.size≠P∧w3.heap.size≠g∧w.heap.size<w3.heap.size by have:=hs.blocks; have:=N3.out.lt; omega)
  obtain ⟨W4,hW4⟩ : ∃ W,W=w3.alloc (.cells #[.int .i64 t.kind,.string t.text,.int .i64 t.n,.slice a t.kids.length cp,.int .i64 t.place] 24):=⟨_,rfl⟩
  have HB4:=hid (show Below w3.heap.size w3 W4 from hW4 ▸ a7 _ _)
  have M4:=hid (show c6 w3.heap.size t a cp W4 from hW4 ▸ c6.make w3 t a cp)
  have N4:=hid (N3.out.below HB4)
  have HS4:=hid (SP.below hs HB4)
  have G4:=hid (c8 G3 (HB4.out.mono G3.out.size))
  have K4:=hid (c9 (r:=some P) HB4)
  have D1:=hid (cK P g cap ts nest (l8 y) ⟨#[60]⟩ W4 HS4)
  clear hs hg hk
  unfold Nd.val
  go_wp2_with fail
  rw [← hW4]
  clear hW4 C3
  (with_reducible refine Calls.mono D1.out ?_)
  rintro e w5 ⟨b1,rfl,hb,hb1⟩
  have HT1:=hid hb1
  have HS5:=hid (HS4.out.below hb)
  have N5:=hid (N4.out.below hb)
  have M5:=hid (M4.out.below hb)
  have G5:=hid (c8 G4 (hb.mono G4.out.size))
  have K5:=hid (c8 K4 (hb.mono K4.out.size))
  have D2:=hid (cK P g cap ts nest (l8 y) ⟨#[60,61]⟩ w5 HS5)
  clear hb hb1
  go_wp2_with fail
  (with_reducible refine Calls.mono D2.out ?_)
  rintro e w6 ⟨b2,rfl,hb,hb2⟩
  have HT2:=hid hb2
  have HS6:=hid (HS5.out.below hb)
  have N6:=hid (N5.out.below hb)
  have M6:=hid (M5.out.below hb)
  have G6:=hid (c8 G5 (hb.mono G5.out.size))
  have K6:=hid (c8 K5 (hb.mono K5.out.size))
  have D3:=hid (cK P g cap ts nest (l8 y) ⟨#[61]⟩ w6 HS6)
  clear hb hb2
  go_wp2_with fail
  (with_reducible refine Calls.mono D3.out ?_)
  rintro e w7 ⟨b3,rfl,hb,hb3⟩
  have HT3:=hid hb3
  have HS7:=hid (HS6.out.below hb)
  have N7:=hid (N6.out.below hb)
  have M7:=hid (M6.out.below hb)
  have G7:=hid (c8 G6 (hb.mono G6.out.size))
  have K7:=hid (c8 K6 (hb.mono K6.out.size))
  clear hb hb3 D1 D2 D3 HS4 HS5 HS6
  obtain ⟨c,p3,hc⟩:=HS7.out.bad
  have hpl:=HS7.out.blocks.1
  have hsz7 : w.heap.size<w7.heap.size∧w3.heap.size<w7.heap.size:=⟨N7.out.lt,M7.out.lt⟩
  have HCc:=hid hc
  clear hc
  have hcase : (c≠0)∨(c=0∧b1=false∧b2=false∧b3=false)∨(c=0∧b1=true)∨(c=0∧b1=false∧b2=true)∨(c=0∧b1=false∧b2=false∧b3=true):=by
   by_cases h : c=0
   ·cases b1 <;> cases b2 <;> cases b3 <;> simp [h]
   ·exact .inl h
  rcases hcase with h | ⟨rfl,rfl,rfl,rfl⟩ | hh
  case inl =>
   have ek : (c != 0)=true:=bne_iff_ne.2 h
   obtain ⟨⟨z0,z1,z2,z3,z4⟩,⟨f0,f1,f2,f3,f4⟩⟩:=N7.out.cells
   obtain ⟨⟨n0,n1,n2,n3,n4⟩,-⟩:=M7.out.cells
   have HE:=hid (show ∃ k p,y=.error (k,p) from by
    cases y with
    | error e => exact ⟨e.1,e.2,rfl⟩
    | ok p => exact absurd (HCc.out.2 ⟨p.2,rfl⟩) h)
   clear h
   go_wp2_with fail
   refine bodyPost_ret (v:=t.val a cp) (by simp [results,Tryz.results161,go_sem,Nd.val,z0,z1,z2,z3,z4]) rfl ?_
   obtain ⟨k,p,rfl⟩:=HE.out
   have hx : X=.error (k,p):=R.out
   rw [hx]
   exact RdP.fin (x:=.error (k,p)) HS7 G7 HP (Nat.le_refl _) (fun _ _ h => by cases h)
  case inr.inl =>
   obtain ⟨⟨z0,z1,z2,z3,z4⟩,⟨f0,f1,f2,f3,f4⟩⟩:=N7.out.cells
   obtain ⟨⟨n0,n1,n2,n3,n4⟩,-⟩:=M7.out.cells
   go_wp2_with fail
   refine bodyPost_ret (v:=t.val a cp) (by simp [results,Tryz.results161,go_sem,Nd.val,z0,z1,z2,z3,z4]) rfl ?_
   obtain ⟨r,hr⟩:=HCc.out.1 trivial
   obtain ⟨t',hy⟩:=q6 hr
   have ht':=(HK.out t' r hy).1
   subst ht'
   have hx : X=y:=by
    rw [R.out,hy]
    show (if iR zE r=true then _ else _)=_
    rw [if_neg]
    rw [yL,show isT [60] r=false from (HT1.out r hr).symm,show isT [60,61] r=false from (HT2.out r hr).symm,show isT [61] r=false from (HT3.out r hr).symm]; decide
   rw [hx]
   refine RdP.fin HS7 G7 HP (Nat.le_refl _) fun t2 r2 h2 => ?_
   obtain ⟨e,hl,hd⟩:=HK.out t2 r2 h2
   exact ⟨e,⟨Fr w2.heap.size w3.heap.size,fun c hc => ⟨fun e => by subst e; have:=hc.1; have:=hsz2.out; omega,by have:=hc.1; have:=hsz2.out; omega,Nat.lt_of_lt_of_le hc.2 K7.out.size⟩,d6 hl ((f8.refl _ _).grown K7 fun b hb => ⟨hb.2,fun e => by subst e; have:=hb.1; have:=HS2.out.blocks.1; omega⟩) fun b hb => hb⟩,hd⟩
  case inr.inr =>
   have HA:=hid (show c=0∧(b1=true∨b2=true∨b3=true) by rcases hh with ⟨h,h'⟩ | ⟨h,-,h'⟩ | ⟨h,-,-,h'⟩ <;> simp [h,h'])
   obtain ⟨r,hr⟩:=HCc.out.1 HA.out.1
   obtain ⟨t',hy⟩:=q6 hr
   have HY:=hid hy
   have ht':=(HK.out t' r hy).1
   subst ht'
   have HAny:=hid (show iR zE r=true by
    rw [yL,show isT [60] r=b1 from (HT1.out r hr).symm,show isT [60,61] r=b2 from (HT2.out r hr).symm,show isT [61] r=b3 from (HT3.out r hr).symm]
    rcases HA.out.2 with h | h | h <;> simp [h])
   have HS7':=hid (show SP P g cap ts nest (.ok r) w7 from hr ▸ HS7.out)
   have HR:=hid (show X=(rd (.chain 2) nest (b9 r)).then fun b r' => made (mkN 13 (hd r).text 0 [t',b] (hd r).pos) r' by
    rw [R.out,hy]
    show (if iR zE r=true then _ else _)=_
    rw [if_pos HAny.out])
   have D4:=hid (O3 P g cap ts nest (.ok r) w7 HS7' he)
   have HT0:=hid (HTK.out _ HS7'.out.mem)
   have HC5:=hid (HC2.out (b9 r) (by have:=HL.out _ _ hy; have:=gB HAny.out; omega))
   clear hr hy HCc HT1 HT2 HT3
   rcases hh with ⟨rfl,rfl⟩ | ⟨rfl,rfl,rfl⟩ | ⟨rfl,rfl,rfl,rfl⟩
   all_goals
    go_wp2_with fail
    (with_reducible refine Calls.mono D4.out ?_)
    rintro e w8 ⟨T,rfl,hs,hg,hT⟩
    have HT:=hid (hT r rfl)
    have N8:=hid (N7.out.grown hg HP.out.1)
    have M8:=hid (M7.out.grown hg hP3.out.1)
    have G8:=hid (a6 G7 hg)
    have K8:=hid (a6 K7 hg)
    have hP8:=hid (show w8.heap.size≠P∧w8.heap.size≠g by have:=hs.blocks; omega)
    obtain ⟨W9,hW9⟩ : ∃ W,W=w8.alloc (.cells #[.int .i64 T.kind,.string ⟨T.text.toArray⟩,.int .i64 T.n,.int .i64 T.pos] 108):=⟨_,rfl⟩
    have HB9:=hid (show Below w8.heap.size w8 W9 from hW9 ▸ a7 _ _)
    have T9:=hid (show D5 w8.heap.size T W9 from hW9 ▸ D5.make w8 T)
    have HS9:=hid (SP.below hs HB9)
    have N9:=hid (N8.out.below HB9)
    have M9:=hid (M8.out.below HB9)
    have G9:=hid (c8 G8 (HB9.out.mono G8.out.size))
    have K9:=hid (c8 K8 (HB9.out.mono K8.out.size))
    have C5:=hid (HC5.out nest W9 hn HS9)
    generalize rd (.chain 2) nest (b9 r)=y2 at HR C5
    clear hs hg hT p3 hpl
    unfold tkV
    go_wp2_with fail
    rw [← hW9]
    clear hW9
    (with_reducible refine Calls.mono C5.out ?_)
    rintro e w10 ⟨u,a',cp',rfl,hs,hg,hk⟩
    have HK2:=hid hk
    have N10:=hid (N9.out.grown hg HP.out.1)
    have M10:=hid (M9.out.grown hg hP3.out.1)
    have T10:=hid (T9.out.grown hg hP8.out.1)
    have G10:=hid (a6 G9 hg)
    have K10:=hid (a6 K9 hg)
    have hsz9:=hid (show W9.heap.size≤w10.heap.size from hg.size)
    have hP9:=hid (show P<W9.heap.size from HS9.out.blocks.1)
    have hP10:=hid (show w10.heap.size≠P∧w10.heap.size≠g by have:=hs.blocks; omega)
    obtain ⟨W11,hW11⟩ : ∃ W,W=w10.alloc (.cells #[.int .i64 u.kind,.string u.text,.int .i64 u.n,.slice a' u.kids.length cp',.int .i64 u.place] 24):=⟨_,rfl⟩
    have HB11:=hid (show Below w10.heap.size w10 W11 from hW11 ▸ a7 _ _)
    have U11:=hid (show c6 w10.heap.size u a' cp' W11 from hW11 ▸ c6.make w10 u a' cp')
    have HS11:=hid (SP.below hs HB11)
    have N11:=hid (N10.out.below HB11)
    have M11:=hid (M10.out.below HB11)
    have T11:=hid (T10.out.below HB11)
    have G11:=hid (c8 G10 (HB11.out.mono G10.out.size))
    have K11:=hid (c8 K10 (HB11.out.mono K10.out.size))
    clear hs hg hk
    unfold Nd.val
    go_upto_region 12 with fail
    rw [← hW11]
    clear hW11
    obtain ⟨⟨t0,t1,t2,t3⟩,-⟩:=T11.out.cells
    obtain ⟨⟨n0,n1,n2,n3,n4⟩,-⟩:=M11.out.cells
    obtain ⟨⟨m0,m1,m2,m3,m4⟩,-⟩:=U11.out.cells
    obtain ⟨W12,hW12⟩ : ∃ W,W=W11.alloc (.cells #[.int .i64 t'.kind,.string t'.text,.int .i64 t'.n,.slice a t'.kids.length cp,.int .i64 t'.place,.int .i64 u.kind,.string u.text,.int .i64 u.n,.slice a' u.kids.length cp',.int .i64 u.place] 24):=⟨_,rfl⟩
    have HB12:=hid (show Below W11.heap.size W11 W12 from hW12 ▸ a7 _ _)
    have A12:=hid (show W12.heap[W11.heap.size]?=some (.cells #[.int .i64 t'.kind,.string t'.text,.int .i64 t'.n,.slice a t'.kids.length cp,.int .i64 t'.place,.int .i64 u.kind,.string u.text,.int .i64 u.n,.slice a' u.kids.length cp',.int .i64 u.place] 24 (0,0)) from by
     rw [hW12]; show (W11.heap.push _)[W11.heap.size]?=_; simp)
    have N12:=hid (N11.out.below HB12)
    have T12:=hid (T11.out.below HB12)
    have HS12:=hid (HS11.out.below HB12)
    have G12:=hid (c8 G11 (HB12.out.mono G11.out.size))
    have K12:=hid (c8 K11 (HB12.out.mono K11.out.size))
    have B1012:=hid (HB11.out.trans (HB12.out.mono HB11.out.size))
    have hlt12:=hid (show W11.heap.size<W12.heap.size from by rw [hW12]; simp)
    have HD:=hid (show ∀ r,l8 y2=.ok r→i8 (mkN 13 T.text 0 [t',u] T.pos)≤101∧(mkN 13 T.text 0 [t',u] T.pos).lies (Fr w2.heap.size W12.heap.size) W12 (some ⟨W11.heap.size,0,none⟩) 2 from fun r hr => by
     obtain ⟨u',hu'⟩:=q6 hr
     obtain ⟨rfl,hl,hd⟩:=HK2.out u' r hu'
     obtain ⟨-,hl0,hd0⟩:=HK.out _ _ HY
     have hle : w2.heap.size≤W9.heap.size:=Nat.le_trans HG23 K9.out.size
     refine ⟨by rw [lI]; omega,oN rfl (HT.out ▸ HT0.out) ⟨?_,hlt12⟩ A12 (d6 hl0 ((f8.refl _ _).grown K12 fun b hb => ⟨hb.2,fun e => by subst e; have:=hb.1; have:=HS2.out.blocks.1; omega⟩) fun b hb => ⟨hb.1,Nat.lt_of_lt_of_le hb.2 K12.out.size⟩)
      (d6 hl (fun b hb => B1012.out.block b hb.2) fun b hb => ⟨Nat.le_trans hle hb.1,Nat.lt_of_lt_of_le hb.2 B1012.out.size⟩)⟩
     have:=B1012.out.size
     have:=HB11.out.size
     have:=hsz9.out
     omega)
    have C6:=hid (bT P g cap ts nest (l8 y2) 13 T.text 0 [t',u] T.pos (some ⟨W11.heap.size,0,none⟩) 2 2 rfl W12 hn HS12 fun r hr => ⟨(HD.out r hr).1,_,fun b hb => hb.2,(HD.out r hr).2⟩)
    obtain ⟨⟨u0,u1,u2,u3⟩,-⟩:=T12.out.cells
    subst hW12
    go_wp2_with fail
    (with_reducible refine Calls.mono C6.out ?_)
    rintro e w13 ⟨rfl,hs,hg⟩
    obtain ⟨⟨z0,z1,z2,z3,z4⟩,⟨f0,f1,f2,f3,f4⟩⟩:=(N12.out.grown hg HP.out.1).cells
    have hsz13 : w.heap.size<w13.heap.size:=(N12.out.grown hg HP.out.1).lt
    have HS13:=hid hs
    have G13:=hid (a6 G12 hg)
    have HG13:=hid hg
    clear hs hg t0 t1 t2 t3 n0 n1 n2 n3 n4 m0 m1 m2 m3 m4 u0 u1 u2 u3
    rw [show (mkN 13 T.text 0 [t',u] T.pos).val (some ⟨W11.heap.size,0,none⟩) 2=.agg #[.int .i64 13,.string ⟨T.text.toArray⟩,.int .i64 0,.slice (some ⟨W11.heap.size,0,none⟩) 2 2,.int .i64 T.pos] from rfl]
    go_wp2_with fail
    refine bodyPost_ret (v:=(mkN 13 T.text 0 [t',u] T.pos).val (some ⟨W11.heap.size,0,none⟩) 2) (by simp [results,Tryz.results161,go_sem,Nd.val,mkN,Nd.kind,Nd.text,Nd.n,Nd.kids,Nd.place,z0,z1,z2,z3,z4]) rfl ?_
    have hX : X=goX (l8 y2) (made (mkN 13 T.text 0 [t',u] T.pos)):=by
     rw [HR.out,z8 (t:=u) (fun t' r h => (HK2.out t' r h).1),HT.out]
    have hO : l8 X=dV (mkN 13 T.text 0 [t',u] T.pos) (l8 y2):=by rw [hX,cI]
    refine RdP.fin (by rw [hO]; exact HS13) G13 HP (Nat.le_refl _) fun t2 r2 hx => ?_
    rw [hX] at hx
    obtain ⟨e1,e2,e3⟩:=dB _ _ hx
    refine ⟨e1,⟨_,fun c hc => ⟨?_,?_,Nat.lt_of_lt_of_le hc.2 HG13.out.size⟩,d6 (HD.out r2 e2).2 ((f8.refl _ _).grown HG13 fun b hb => ⟨hb.2,?_⟩) fun b hb => hb⟩,e3⟩
    ·rintro rfl
     have:=hc.1; have:=hsz2.out; omega
    ·have:=hc.1; have:=hsz2.out; omega
    ·rintro rfl
     have:=hb.1; have:=HS2.out.blocks.1; omega
end
end Go.Proofs.YtppcfebnaieciaaGreatDoor
