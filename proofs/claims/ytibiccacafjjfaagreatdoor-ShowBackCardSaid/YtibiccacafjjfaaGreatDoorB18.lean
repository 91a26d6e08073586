/-
  Laws that the proof rests on.
-/
import Derived.Test.YtibiccacafjjfaaGreatDoorB17
namespace Go.Proofs.YtibiccacafjjfaaGreatDoor
set_option maxRecDepth 100000
set_option maxHeartbeats 16000000
section
open Lib (hid)
open Go.RowKit
theorem a0l (P g cap : Nat) (ts : List Tk) (he : y7 ts) (htk : ∀ t∈ts,z8 t) (l : List Tk) (hA : CA P g cap ts l) (hU : isT cI l=true→CU P g cap ts (b9 l)) : CU P g cap ts l:=by
 intro nest w hn h
 obtain ⟨V,hV⟩ : ∃ V,V=w.alloc (.cells #[.int .i64 0,.string ⟨#[]⟩,.int .i64 0,.slice none 0 0,.int .i64 0] 24):=⟨_,rfl⟩
 have HBV:=hid (show Below w.heap.size w V from hV ▸ c6 w _)
 have N1:=hid (show f6 w.heap.size nd0 none 0 V from hV ▸ f6.make w nd0 none 0)
 have hS:=hid (h.below HBV)
 have hb0:=hid h.blocks
 have HP:=hid (show w.heap.size≠P∧w.heap.size≠g from ⟨Nat.ne_of_gt hb0.out.1,Nat.ne_of_gt hb0.out.2⟩)
 have C1:=hid (kO P g cap ts nest (.ok l) ⟨#[45]⟩ V hS)
 have HA:=hid hA
 have HU:=hid hU
 have HTK:=hid htk
 obtain ⟨X,hX⟩ : ∃ X,X=rd .unary nest l:=⟨_,rfl⟩
 rw [← hX]
 have HX:=hid (hX.trans (t7 .unary nest l))
 clear hX h hA hU htk
 go_enter Tryz.func158,Tryz.ntmps158
 go_wp2_with fail
 rw [← hV]
 have HVs:=hid (show w.heap.size<V.heap.size from N1.out.lt)
 clear hV
 (with_reducible refine Calls.mono C1.out ?_)
 rintro e w2 ⟨b,rfl,hb,hbt⟩
 have HT:=hid (hbt l rfl)
 have HS2:=hid (hS.out.below hb)
 have N2:=hid (N1.out.below hb)
 have G2:=hid (b8 (r:=some P) (HBV.out.trans (hb.mono HBV.out.size)))
 clear hbt hb
 cases b
 case' true =>
  have R:=hid (show X=U0 nest l ((rd (if true=true then .unary else .not) (nest + 1) (b9 l)).then fun t r => made (mkN 12 (hd l).text 0 [t] (hd l).pos) r) from HX.out.trans (if_pos HT.out.symm))
  have C3:=hid (mX P g cap ts he HTK true l nest w2 hn HS2 ⟨fun _ => HU.out HT.out.symm,fun h => by cases h⟩)
  rw [← R.out] at C3
 case' false =>
  have R:=hid (show X=rd .atom nest l from HX.out.trans (if_neg (by rw [show isT cI l=false from HT.out.symm]; decide)))
  have C3:=hid (HA.out nest w2 hn HS2)
  rw [← R.out] at C3
 all_goals
  go_wp2_with fail
  (with_reducible refine Calls.mono C3.out ?_)
  rintro e w3 ⟨t,a,cp,rfl,hs,hg,hk⟩
  have HS3:=hid hs
  have G3:=hid (b6 G2 hg)
  have HK:=hid hk
  obtain ⟨⟨z0,z1,z2,z3,z4⟩,⟨f0,f1,f2,f3,f4⟩⟩:=(N2.out.grown hg HP.out.1).cells
  have hsz : w.heap.size<w3.heap.size:=(N2.out.grown hg HP.out.1).lt
  have hsz2:=hid N2.out.lt
  clear hs hg hk
  unfold Nd.val
  go_wp2_with fail
  refine bodyPost_ret (v:=t.val a cp) (by simp [results,Tryz.results158,go_sem,Nd.val,z0,z1,z2,z3,z4]) rfl ?_
  refine RdP.fin HS3 G3 HP (Nat.le_refl _) fun t' r' hx => ?_
  obtain ⟨e,hl,hd⟩:=HK.out t' r' hx
  exact ⟨e,⟨_,fun c hc => ⟨fun e => by subst e; have:=hc.1; have:=hsz2.out; omega,by have:=hc.1; have:=hsz2.out; omega,hc.2⟩,hl⟩,hd⟩
theorem dX (P g cap : Nat) (ts : List Tk) (lv : Nat) (hlv : lv≤3) (l : List Tk) (h0 : lv=0→CC P g cap ts 1 l) (h1 : lv=1→CN P g cap ts l) (h2 : lv=2→CC P g cap ts 3 l) (h3 : lv=3→CU P g cap ts l) : CL P g cap ts lv l:=by
 intro nest w hn h
 obtain ⟨V,hV⟩ : ∃ V,V=w.alloc (.cells #[.int .i64 0,.string ⟨#[]⟩,.int .i64 0,.slice none 0 0,.int .i64 0] 24):=⟨_,rfl⟩
 have HBV:=hid (show Below w.heap.size w V from hV ▸ c6 w _)
 have N1:=hid (show f6 w.heap.size nd0 none 0 V from hV ▸ f6.make w nd0 none 0)
 have hS:=hid (h.below HBV)
 have hb0:=hid h.blocks
 have HP:=hid (show w.heap.size≠P∧w.heap.size≠g from ⟨Nat.ne_of_gt hb0.out.1,Nat.ne_of_gt hb0.out.2⟩)
 have G1:=hid (b8 (r:=some P) HBV)
 have H0:=hid h0
 have H1:=hid h1
 have H2:=hid h2
 have H3:=hid h3
 have hsz2:=hid N1.out.lt
 obtain ⟨X,hX⟩ : ∃ X,X=rd (I6 lv) nest l:=⟨_,rfl⟩
 rw [← hX]
 have HX:=hid hX
 clear hX h h0 h1 h2 h3
 have hc : lv=0∨lv=1∨lv=2∨lv=3:=by omega
 clear hlv
 rcases hc with rfl | rfl | rfl | rfl
 case' inl =>
  have C3:=hid (H0.out rfl nest V hn hS)
  rw [show rd (.chain 1) nest l=X from HX.out.symm] at C3
 case' inr.inl =>
  have C3:=hid (H1.out rfl nest V hn hS)
  rw [show rd .not nest l=X from HX.out.symm] at C3
 case' inr.inr.inl =>
  have C3:=hid (H2.out rfl nest V hn hS)
  rw [show rd (.chain 3) nest l=X from HX.out.symm] at C3
 case' inr.inr.inr =>
  have C3:=hid (H3.out rfl nest V hn hS)
  rw [show rd .unary nest l=X from HX.out.symm] at C3
 all_goals
  clear H0 H1 H2 H3 HX
  go_enter Tryz.func128,Tryz.ntmps128
  go_wp2_with fail
  rw [← hV]
  clear hV
  (with_reducible refine Calls.mono C3.out ?_)
  rintro e w3 ⟨t,a,cp,rfl,hs,hg,hk⟩
  have HS3:=hid hs
  have G3:=hid (b6 G1 hg)
  have HK:=hid hk
  obtain ⟨⟨z0,z1,z2,z3,z4⟩,⟨f0,f1,f2,f3,f4⟩⟩:=(N1.out.grown hg HP.out.1).cells
  have hsz : w.heap.size<w3.heap.size:=(N1.out.grown hg HP.out.1).lt
  clear hs hg hk
  unfold Nd.val
  go_wp2_with fail
  refine bodyPost_ret (v:=t.val a cp) (by simp [results,Tryz.results128,go_sem,Nd.val,z0,z1,z2,z3,z4]) rfl ?_
  refine RdP.fin HS3 G3 HP (Nat.le_refl _) fun t' r' hx => ?_
  obtain ⟨e,hl,hd⟩:=HK.out t' r' hx
  exact ⟨e,⟨_,fun c hc => ⟨fun e => by subst e; have:=hc.1; have:=hsz2.out; omega,by have:=hc.1; have:=hsz2.out; omega,hc.2⟩,hl⟩,hd⟩
end
section
open Lib (hid)
open Go.RowKit
theorem tK {av : Nat→Prop} {W : World} {t u : Nd} {a a' : Option Addr} {cp cp' b : Nat} {k : Int} {T : Tk} {A : TypeId} (hk : (Lit.int .i64 k).wf=true) (hT : z8 T) (hb : av b)
 (h : W.heap[b]?=some (.cells #[.int .i64 t.kind,.string t.text,.int .i64 t.n,.slice a t.kids.length cp,.int .i64 t.place,.int .i64 u.kind,.string u.text,.int .i64 u.n,.slice a' u.kids.length cp',.int .i64 u.place] A (0,0))) (hl : t.lies av W a cp) (hu : u.lies av W a' cp') :
 (mkN k T.text 0 [t,u] T.pos).lies av W (some ⟨b,0,none⟩) 2 :=
 Nd.lies.mk' hk (by have:=hT.2.2; show T.text.toArray.size≤maxLen; unfold maxLen; simp; omega) rfl hT.2.1 (Nat.le_refl _) (by unfold maxLen; decide) (a6m hb h hl hu)
theorem pW (k : Int) (s : List UInt8) (n p : Int) (t u : Nd) : c8 (mkN k s n [t,u] p)=max (c8 t) (c8 u) + 1:=by
 unfold mkN; rw [c8,i8,i8,i8,Nat.max_zero]
theorem a1F (l : List Tk) : U6 kD l=(isT [60] l || (isT [60,61] l || isT [61] l)):=by
 show (isT [60] l || (isT [60,61] l || (isT [61] l || false)))=_
 rw [Bool.or_false]
theorem a3H (P g cap : Nat) (ts : List Tk) (he : y7 ts) (htk : ∀ t∈ts,z8 t) (l : List Tk) (hC : CC P g cap ts 2 l) (hC2 : ∀ r,r.length<l.length→CC P g cap ts 2 r) (hN : isT fW l=true→CN P g cap ts (b9 l)) : CN P g cap ts l:=by
 intro nest w hn h
 obtain ⟨V,hV⟩ : ∃ V,V=w.alloc (.cells #[.int .i64 0,.string ⟨#[]⟩,.int .i64 0,.slice none 0 0,.int .i64 0] 24):=⟨_,rfl⟩
 have HBV:=hid (show Below w.heap.size w V from hV ▸ c6 w _)
 have N1:=hid (show f6 w.heap.size nd0 none 0 V from hV ▸ f6.make w nd0 none 0)
 have hS:=hid (h.below HBV)
 have hb0:=hid h.blocks
 have HP:=hid (show w.heap.size≠P∧w.heap.size≠g from ⟨Nat.ne_of_gt hb0.out.1,Nat.ne_of_gt hb0.out.2⟩)
 have C1:=hid (kO P g cap ts nest (.ok l) ⟨#[110,111,116]⟩ V hS)
 have HC:=hid hC
 have HC2:=hid hC2
 have HN:=hid hN
 have HTK:=hid htk
 obtain ⟨X,hX⟩ : ∃ X,X=rd .not nest l:=⟨_,rfl⟩
 rw [← hX]
 have HX:=hid (hX.trans (t7 .not nest l))
 clear hX h hC hC2 hN htk
 go_enter Tryz.func157,Tryz.ntmps157
 go_wp2_with fail
 rw [← hV]
 have HVs:=hid (show w.heap.size<V.heap.size from N1.out.lt)
 clear hV
 (with_reducible refine Calls.mono C1.out ?_)
 rintro e w2 ⟨b,rfl,hb,hbt⟩
 have HT:=hid (hbt l rfl)
 have HS2:=hid (hS.out.below hb)
 have N2:=hid (N1.out.below hb)
 have G2:=hid (b8 (r:=some P) (HBV.out.trans (hb.mono HBV.out.size)))
 clear hbt hb
 cases b
 case true =>
  have R:=hid (show X=U0 nest l ((rd (if false=true then .unary else .not) (nest + 1) (b9 l)).then fun t r => made (mkN 12 (hd l).text 0 [t] (hd l).pos) r) from HX.out.trans (if_pos HT.out.symm))
  have C3:=hid (mX P g cap ts he HTK false l nest w2 hn HS2 ⟨fun h => (by cases h),fun _ => HN.out HT.out.symm⟩)
  rw [← R.out] at C3
  go_wp2_with fail
  (with_reducible refine Calls.mono C3.out ?_)
  rintro e w3 ⟨t,a,cp,rfl,hs,hg,hk⟩
  have HS3:=hid hs
  have G3:=hid (b6 G2 hg)
  have HK:=hid hk
  obtain ⟨⟨z0,z1,z2,z3,z4⟩,⟨f0,f1,f2,f3,f4⟩⟩:=(N2.out.grown hg HP.out.1).cells
  have hsz : w.heap.size<w3.heap.size:=(N2.out.grown hg HP.out.1).lt
  have hsz2:=hid N2.out.lt
  clear hs hg hk
  unfold Nd.val
  go_wp2_with fail
  refine bodyPost_ret (v:=t.val a cp) (by simp [results,Tryz.results157,go_sem,Nd.val,z0,z1,z2,z3,z4]) rfl ?_
  refine RdP.fin HS3 G3 HP (Nat.le_refl _) fun t' r' hx => ?_
  obtain ⟨e,hl,hd⟩:=HK.out t' r' hx
  exact ⟨e,⟨_,fun c hc => ⟨fun e => by subst e; have:=hc.1; have:=hsz2.out; omega,by have:=hc.1; have:=hsz2.out; omega,hc.2⟩,hl⟩,hd⟩
 case false =>
  have R:=hid (show X=(rd (.chain 2) nest l).then fun a r => if U6 kD r=true then (rd (.chain 2) nest (b9 r)).then fun b r' => made (mkN 13 (hd r).text 0 [a,b] (hd r).pos) r' else .ok (a,r) from
   HX.out.trans (if_neg (by rw [show isT fW l=false from HT.out.symm]; decide)))
  have C3:=hid (HC.out nest w2 hn HS2)
  have HL:=hid (fun t r (h : rd (.chain 2) nest l=.ok (t,r)) => aZ (.chain 2) nest l h)
  generalize rd (.chain 2) nest l=y at R C3 HL
  clear HX HT
  go_wp2_with fail
  (with_reducible refine Calls.mono C3.out ?_)
  rintro e w3 ⟨t,a,cp,rfl,hs,hg,hk⟩
  have N3:=hid (N2.out.grown hg HP.out.1)
  have G3:=hid (b6 G2 hg)
  have hsz2:=hid N2.out.lt
  have HK:=hid hk
  have HG23:=hid (show w2.heap.size≤w3.heap.size from hg.size)
  have hP3:=hid (show w3.heap.size≠P∧w3.heap.size≠g∧w.heap.size<w3.heap.size by have:=hs.blocks; have:=N3.out.lt; omega)
  obtain ⟨W4,hW4⟩ : ∃ W,W=w3.alloc (.cells #[.int .i64 t.kind,.string t.text,.int .i64 t.n,.slice a t.kids.length cp,.int .i64 t.place] 24):=⟨_,rfl⟩
  have HB4:=hid (show Below w3.heap.size w3 W4 from hW4 ▸ c6 _ _)
  have M4:=hid (show f6 w3.heap.size t a cp W4 from hW4 ▸ f6.make w3 t a cp)
  have N4:=hid (N3.out.below HB4)
  have HS4:=hid (SP.below hs HB4)
  have G4:=hid (d8 G3 (HB4.out.mono G3.out.size))
  have K4:=hid (b8 (r:=some P) HB4)
  have D1:=hid (kO P g cap ts nest (p5 y) ⟨#[60]⟩ W4 HS4)
  clear hs hg hk
  unfold Nd.val
  go_wp2_with fail
  rw [← hW4]
  clear hW4 C3
  (with_reducible refine Calls.mono D1.out ?_)
  rintro e w5 ⟨b1,rfl,hb,hb1⟩
  have HT1:=hid hb1
  have HS5:=hid (HS4.out.below hb)
  have N5:=hid (N4.out.below hb)
  have M5:=hid (M4.out.below hb)
  have G5:=hid (d8 G4 (hb.mono G4.out.size))
  have K5:=hid (d8 K4 (hb.mono K4.out.size))
  have D2:=hid (kO P g cap ts nest (p5 y) ⟨#[60,61]⟩ w5 HS5)
  clear hb hb1
  go_wp2_with fail
  (with_reducible refine Calls.mono D2.out ?_)
  rintro e w6 ⟨b2,rfl,hb,hb2⟩
  have HT2:=hid hb2
  have HS6:=hid (HS5.out.below hb)
  have N6:=hid (N5.out.below hb)
  have M6:=hid (M5.out.below hb)
  have G6:=hid (d8 G5 (hb.mono G5.out.size))
  have K6:=hid (d8 K5 (hb.mono K5.out.size))
  have D3:=hid (kO P g cap ts nest (p5 y) ⟨#[61]⟩ w6 HS6)
  clear hb hb2
  go_wp2_with fail
  (with_reducible refine Calls.mono D3.out ?_)
  rintro e w7 ⟨b3,rfl,hb,hb3⟩
  have HT3:=hid hb3
  have HS7:=hid (HS6.out.below hb)
  have N7:=hid (N6.out.below hb)
  have M7:=hid (M6.out.below hb)
  have G7:=hid (d8 G6 (hb.mono G6.out.size))
  have K7:=hid (d8 K6 (hb.mono K6.out.size))
  clear hb hb3 D1 D2 D3 HS4 HS5 HS6
  obtain ⟨c,p3,hc⟩:=HS7.out.bad
  have hpl:=HS7.out.blocks.1
  have hsz7 : w.heap.size<w7.heap.size∧w3.heap.size<w7.heap.size:=⟨N7.out.lt,M7.out.lt⟩
  have HCc:=hid hc
  clear hc
  have hcase : (c≠0)∨(c=0∧b1=false∧b2=false∧b3=false)∨(c=0∧b1=true)∨(c=0∧b1=false∧b2=true)∨(c=0∧b1=false∧b2=false∧b3=true):=by
   by_cases h : c=0
   ·cases b1 <;> cases b2 <;> cases b3 <;> simp [h]
   ·exact .inl h
  rcases hcase with h | ⟨rfl,rfl,rfl,rfl⟩ | hh
  case inl =>
   have ek : (c != 0)=true:=bne_iff_ne.2 h
   obtain ⟨⟨z0,z1,z2,z3,z4⟩,⟨f0,f1,f2,f3,f4⟩⟩:=N7.out.cells
   obtain ⟨⟨n0,n1,n2,n3,n4⟩,-⟩:=M7.out.cells
   have HE:=hid (show ∃ k p,y=.error (k,p) from by
    cases y with
    | error e => exact ⟨e.1,e.2,rfl⟩
    | ok p => exact absurd (HCc.out.2 ⟨p.2,rfl⟩) h)
   clear h
   go_wp2_with fail
   refine bodyPost_ret (v:=t.val a cp) (by simp [results,Tryz.results157,go_sem,Nd.val,z0,z1,z2,z3,z4]) rfl ?_
   obtain ⟨k,p,rfl⟩:=HE.out
   have hx : X=.error (k,p):=R.out
   rw [hx]
   exact RdP.fin (x:=.error (k,p)) HS7 G7 HP (Nat.le_refl _) (fun _ _ h => by cases h)
  case inr.inl =>
   obtain ⟨⟨z0,z1,z2,z3,z4⟩,⟨f0,f1,f2,f3,f4⟩⟩:=N7.out.cells
   obtain ⟨⟨n0,n1,n2,n3,n4⟩,-⟩:=M7.out.cells
   go_wp2_with fail
   refine bodyPost_ret (v:=t.val a cp) (by simp [results,Tryz.results157,go_sem,Nd.val,z0,z1,z2,z3,z4]) rfl ?_
   obtain ⟨r,hr⟩:=HCc.out.1 trivial
   obtain ⟨t',hy⟩:=D8 hr
   have ht':=(HK.out t' r hy).1
   subst ht'
   have hx : X=y:=by
    rw [R.out,hy]
    show (if U6 kD r=true then _ else _)=_
    rw [if_neg]
    rw [a1F,show isT [60] r=false from (HT1.out r hr).symm,show isT [60,61] r=false from (HT2.out r hr).symm,show isT [61] r=false from (HT3.out r hr).symm]; decide
   rw [hx]
   refine RdP.fin HS7 G7 HP (Nat.le_refl _) fun t2 r2 h2 => ?_
   obtain ⟨e,hl,hd⟩:=HK.out t2 r2 h2
   exact ⟨e,⟨Fr w2.heap.size w3.heap.size,fun c hc => ⟨fun e => by subst e; have:=hc.1; have:=hsz2.out; omega,by have:=hc.1; have:=hsz2.out; omega,Nat.lt_of_lt_of_le hc.2 K7.out.size⟩,d5 hl ((j0.refl _ _).grown K7 fun b hb => ⟨hb.2,fun e => by subst e; have:=hb.1; have:=HS2.out.blocks.1; omega⟩) fun b hb => hb⟩,hd⟩
  case inr.inr =>
   have HA:=hid (show c=0∧(b1=true∨b2=true∨b3=true) by rcases hh with ⟨h,h'⟩ | ⟨h,-,h'⟩ | ⟨h,-,-,h'⟩ <;> simp [h,h'])
   obtain ⟨r,hr⟩:=HCc.out.1 HA.out.1
   obtain ⟨t',hy⟩:=D8 hr
   have HY:=hid hy
   have ht':=(HK.out t' r hy).1
   subst ht'
   have HAny:=hid (show U6 kD r=true by
    rw [a1F,show isT [60] r=b1 from (HT1.out r hr).symm,show isT [60,61] r=b2 from (HT2.out r hr).symm,show isT [61] r=b3 from (HT3.out r hr).symm]
    rcases HA.out.2 with h | h | h <;> simp [h])
   have HS7':=hid (show SP P g cap ts nest (.ok r) w7 from hr ▸ HS7.out)
   have HR:=hid (show X=(rd (.chain 2) nest (b9 r)).then fun b r' => made (mkN 13 (hd r).text 0 [t',b] (hd r).pos) r' by
    rw [R.out,hy]
    show (if U6 kD r=true then _ else _)=_
    rw [if_pos HAny.out])
   have D4:=hid (cP P g cap ts nest (.ok r) w7 HS7' he)
   have HT0:=hid (HTK.out _ HS7'.out.mem)
   have HC5:=hid (HC2.out (b9 r) (by have:=HL.out _ _ hy; have:=kC HAny.out; omega))
   clear hr hy HCc HT1 HT2 HT3
   rcases hh with ⟨rfl,rfl⟩ | ⟨rfl,rfl,rfl⟩ | ⟨rfl,rfl,rfl,rfl⟩
   all_goals
    go_wp2_with fail
    (with_reducible refine Calls.mono D4.out ?_)
    rintro e w8 ⟨T,rfl,hs,hg,hT⟩
    have HT:=hid (hT r rfl)
    have N8:=hid (N7.out.grown hg HP.out.1)
    have M8:=hid (M7.out.grown hg hP3.out.1)
    have G8:=hid (b6 G7 hg)
    have K8:=hid (b6 K7 hg)
    have hP8:=hid (show w8.heap.size≠P∧w8.heap.size≠g by have:=hs.blocks; omega)
    obtain ⟨W9,hW9⟩ : ∃ W,W=w8.alloc (.cells #[.int .i64 T.kind,.string ⟨T.text.toArray⟩,.int .i64 T.n,.int .i64 T.pos] 67):=⟨_,rfl⟩
    have HB9:=hid (show Below w8.heap.size w8 W9 from hW9 ▸ c6 _ _)
    have T9:=hid (show Y0 w8.heap.size T W9 from hW9 ▸ Y0.make w8 T)
    have HS9:=hid (SP.below hs HB9)
    have N9:=hid (N8.out.below HB9)
    have M9:=hid (M8.out.below HB9)
    have G9:=hid (d8 G8 (HB9.out.mono G8.out.size))
    have K9:=hid (d8 K8 (HB9.out.mono K8.out.size))
    have C5:=hid (HC5.out nest W9 hn HS9)
    generalize rd (.chain 2) nest (b9 r)=y2 at HR C5
    clear hs hg hT p3 hpl
    unfold tkV
    go_wp2_with fail
    rw [← hW9]
    clear hW9
    (with_reducible refine Calls.mono C5.out ?_)
    rintro e w10 ⟨u,a',cp',rfl,hs,hg,hk⟩
    have HK2:=hid hk
    have N10:=hid (N9.out.grown hg HP.out.1)
    have M10:=hid (M9.out.grown hg hP3.out.1)
    have T10:=hid (T9.out.grown hg hP8.out.1)
    have G10:=hid (b6 G9 hg)
    have K10:=hid (b6 K9 hg)
    have hsz9:=hid (show W9.heap.size≤w10.heap.size from hg.size)
    have hP9:=hid (show P<W9.heap.size from HS9.out.blocks.1)
    have hP10:=hid (show w10.heap.size≠P∧w10.heap.size≠g by have:=hs.blocks; omega)
    obtain ⟨W11,hW11⟩ : ∃ W,W=w10.alloc (.cells #[.int .i64 u.kind,.string u.text,.int .i64 u.n,.slice a' u.kids.length cp',.int .i64 u.place] 24):=⟨_,rfl⟩
    have HB11:=hid (show Below w10.heap.size w10 W11 from hW11 ▸ c6 _ _)
    have U11:=hid (show f6 w10.heap.size u a' cp' W11 from hW11 ▸ f6.make w10 u a' cp')
    have HS11:=hid (SP.below hs HB11)
    have N11:=hid (N10.out.below HB11)
    have M11:=hid (M10.out.below HB11)
    have T11:=hid (T10.out.below HB11)
    have G11:=hid (d8 G10 (HB11.out.mono G10.out.size))
    have K11:=hid (d8 K10 (HB11.out.mono K10.out.size))
    clear hs hg hk
    unfold Nd.val
    go_upto_region 12 with fail
    rw [← hW11]
    clear hW11
    obtain ⟨⟨t0,t1,t2,t3⟩,-⟩:=T11.out.cells
    obtain ⟨⟨n0,n1,n2,n3,n4⟩,-⟩:=M11.out.cells
    obtain ⟨⟨m0,m1,m2,m3,m4⟩,-⟩:=U11.out.cells
    obtain ⟨W12,hW12⟩ : ∃ W,W=W11.alloc (.cells #[.int .i64 t'.kind,.string t'.text,.int .i64 t'.n,.slice a t'.kids.length cp,.int .i64 t'.place,.int .i64 u.kind,.string u.text,.int .i64 u.n,.slice a' u.kids.length cp',.int .i64 u.place] 24):=⟨_,rfl⟩
    have HB12:=hid (show Below W11.heap.size W11 W12 from hW12 ▸ c6 _ _)
    have A12:=hid (show W12.heap[W11.heap.size]?=some (.cells #[.int .i64 t'.kind,.string t'.text,.int .i64 t'.n,.slice a t'.kids.length cp,.int .i64 t'.place,.int .i64 u.kind,.string u.text,.int .i64 u.n,.slice a' u.kids.length cp',.int .i64 u.place] 24 (0,0)) from by
     rw [hW12]; show (W11.heap.push _)[W11.heap.size]?=_; simp)
    have N12:=hid (N11.out.below HB12)
    have T12:=hid (T11.out.below HB12)
    have HS12:=hid (HS11.out.below HB12)
    have G12:=hid (d8 G11 (HB12.out.mono G11.out.size))
    have K12:=hid (d8 K11 (HB12.out.mono K11.out.size))
    have B1012:=hid (HB11.out.trans (HB12.out.mono HB11.out.size))
    have hlt12:=hid (show W11.heap.size<W12.heap.size from by rw [hW12]; simp)
    have HD:=hid (show ∀ r,p5 y2=.ok r→c8 (mkN 13 T.text 0 [t',u] T.pos)≤101∧(mkN 13 T.text 0 [t',u] T.pos).lies (Fr w2.heap.size W12.heap.size) W12 (some ⟨W11.heap.size,0,none⟩) 2 from fun r hr => by
     obtain ⟨u',hu'⟩:=D8 hr
     obtain ⟨rfl,hl,hd⟩:=HK2.out u' r hu'
     obtain ⟨-,hl0,hd0⟩:=HK.out _ _ HY
     have hle : w2.heap.size≤W9.heap.size:=Nat.le_trans HG23 K9.out.size
     refine ⟨by rw [pW]; omega,tK rfl (HT.out ▸ HT0.out) ⟨?_,hlt12⟩ A12 (d5 hl0 ((j0.refl _ _).grown K12 fun b hb => ⟨hb.2,fun e => by subst e; have:=hb.1; have:=HS2.out.blocks.1; omega⟩) fun b hb => ⟨hb.1,Nat.lt_of_lt_of_le hb.2 K12.out.size⟩)
      (d5 hl (fun b hb => B1012.out.block b hb.2) fun b hb => ⟨Nat.le_trans hle hb.1,Nat.lt_of_lt_of_le hb.2 B1012.out.size⟩)⟩
     have:=B1012.out.size
     have:=HB11.out.size
     have:=hsz9.out
     omega)
    have C6:=hid (eG P g cap ts nest (p5 y2) 13 T.text 0 [t',u] T.pos (some ⟨W11.heap.size,0,none⟩) 2 2 rfl W12 hn HS12 fun r hr => ⟨(HD.out r hr).1,_,fun b hb => hb.2,(HD.out r hr).2⟩)
    obtain ⟨⟨u0,u1,u2,u3⟩,-⟩:=T12.out.cells
    subst hW12
    go_wp2_with fail
    (with_reducible refine Calls.mono C6.out ?_)
    rintro e w13 ⟨rfl,hs,hg⟩
    obtain ⟨⟨z0,z1,z2,z3,z4⟩,⟨f0,f1,f2,f3,f4⟩⟩:=(N12.out.grown hg HP.out.1).cells
    have hsz13 : w.heap.size<w13.heap.size:=(N12.out.grown hg HP.out.1).lt
    have HS13:=hid hs
    have G13:=hid (b6 G12 hg)
    have HG13:=hid hg
    clear hs hg t0 t1 t2 t3 n0 n1 n2 n3 n4 m0 m1 m2 m3 m4 u0 u1 u2 u3
    rw [show (mkN 13 T.text 0 [t',u] T.pos).val (some ⟨W11.heap.size,0,none⟩) 2=.agg #[.int .i64 13,.string ⟨T.text.toArray⟩,.int .i64 0,.slice (some ⟨W11.heap.size,0,none⟩) 2 2,.int .i64 T.pos] from rfl]
    go_wp2_with fail
    refine bodyPost_ret (v:=(mkN 13 T.text 0 [t',u] T.pos).val (some ⟨W11.heap.size,0,none⟩) 2) (by simp [results,Tryz.results157,go_sem,Nd.val,mkN,Nd.kind,Nd.text,Nd.n,Nd.kids,Nd.place,z0,z1,z2,z3,z4]) rfl ?_
    have hX : X=goX (p5 y2) (made (mkN 13 T.text 0 [t',u] T.pos)):=by
     rw [HR.out,aP (t:=u) (fun t' r h => (HK2.out t' r h).1),HT.out]
    have hO : p5 X=gV (mkN 13 T.text 0 [t',u] T.pos) (p5 y2):=by rw [hX,fD]
    refine RdP.fin (by rw [hO]; exact HS13) G13 HP (Nat.le_refl _) fun t2 r2 hx => ?_
    rw [hX] at hx
    obtain ⟨e1,e2,e3⟩:=fS _ _ hx
    refine ⟨e1,⟨_,fun c hc => ⟨?_,?_,Nat.lt_of_lt_of_le hc.2 HG13.out.size⟩,d5 (HD.out r2 e2).2 ((j0.refl _ _).grown HG13 fun b hb => ⟨hb.2,?_⟩) fun b hb => hb⟩,e3⟩
    ·rintro rfl
     have:=hc.1; have:=hsz2.out; omega
    ·have:=hc.1; have:=hsz2.out; omega
    ·rintro rfl
     have:=hb.1; have:=HS2.out.blocks.1; omega
end
section
open Go.RowKit
def jV (lv : Nat) (b : Nat) (w : World) : Prop:=∀ i (hi : i<(s9 lv).length),w.cell? ⟨b,i,none⟩=some (.string ⟨(s9 lv)[i].toArray⟩)
theorem tL {lv b : Nat} {w : World} {x : List UInt8} {T : TypeId} (hs : s9 lv=[x]) (h : w.heap[b]?=some (.cells #[.string ⟨x.toArray⟩] T (0,0))) : jV lv b w:=by
 unfold jV
 rw [hs]
 intro i hi
 obtain rfl : i=0:=by simp at hi; omega
 simp [World.cell?,h]
theorem tZ {lv b : Nat} {w : World} {x y : List UInt8} {T : TypeId} (hs : s9 lv=[x,y]) (h : w.heap[b]?=some (.cells #[.string ⟨x.toArray⟩,.string ⟨y.toArray⟩] T (0,0))) : jV lv b w:=by
 unfold jV
 rw [hs]
 intro i hi
 rcases (show i=0∨i=1 by simp at hi; omega) with rfl | rfl <;> simp [World.cell?,h]
theorem jL {W : World} {b : Nat} (o : Obj) (hb : b=W.heap.size) : (W.alloc o).heap[b]?=some o:=by
 subst hb; show (W.heap.push o)[W.heap.size]?=_; simp
theorem eU {W : World} {b : Nat} (o : Obj) (hb : b<W.heap.size) : (W.alloc o).heap[b]?=W.heap[b]?:=by
 show (W.heap.push o)[b]?=_
 rw [Array.getElem?_push,if_neg (Nat.ne_of_lt hb)]
theorem zZ (lv : Nat) (hlv : lv≤3) (w : World) :
 Calls Tryz.prog 129 #[.int .i64 lv] w fun e w' => ∃ b,e=.returned (.slice (some ⟨b,0,none⟩) (s9 lv).length (s9 lv).length)∧Below w.heap.size w w'∧(w.heap.size≤b∧b<w'.heap.size)∧jV lv b w':=by
 have hc : lv=0∨lv=1∨lv=2∨lv=3:=by omega
 clear hlv
 rcases hc with rfl | rfl | rfl | rfl
 all_goals
  go_enter Tryz.func129,Tryz.ntmps129
  go_wp2_with fail
  go_ret
  refine ⟨_,rfl,((((c6 w _).alloc (by simp only [World.size_alloc]; omega) _).alloc (by simp only [World.size_alloc]; omega) _).alloc (by simp only [World.size_alloc]; omega) _).alloc (by simp only [World.size_alloc]; omega) _,⟨by omega,by simp only [World.size_alloc]; omega⟩,?_⟩
 ·exact tL rfl ((eU _ (by simp only [World.size_alloc]; omega)).trans ((eU _ (by simp only [World.size_alloc]; omega)).trans ((eU _ (by simp only [World.size_alloc]; omega)).trans ((eU _ (by simp only [World.size_alloc]; omega)).trans (jL _ rfl)))))
 ·exact tL rfl ((eU _ (by simp only [World.size_alloc]; omega)).trans ((eU _ (by simp only [World.size_alloc]; omega)).trans ((eU _ (by simp only [World.size_alloc]; omega)).trans (jL _ (by simp only [World.size_alloc])))))
 ·exact tZ rfl ((eU _ (by simp only [World.size_alloc]; omega)).trans ((eU _ (by simp only [World.size_alloc]; omega)).trans (jL _ (by simp only [World.size_alloc]))))
 ·exact tZ rfl ((eU _ (by simp only [World.size_alloc]; omega)).trans (jL _ (by simp only [World.size_alloc])))
end
section
open Lib (hid)
open Go.RowKit
theorem rT (ws : List (List UInt8)) (r : List Tk) (k : Nat) (hk : k<ws.length) : (ws.take (k + 1)).any (fun w => isT w r)=((ws.take k).any (fun w => isT w r) || isT ws[k] r):=by
 rw [List.take_succ_eq_append_getElem hk,List.any_append,List.any_cons,List.any_nil,Bool.or_false]
def a4u (P g cap : Nat) (ts : List Tk) (nest lv : Nat) (l : List Tk) (X : Rd) (lo : Nat) (b5 : Nat) (wr : World) (t : Nd) (a : Option Addr) (cp : Nat) (y : Rd) : Prop :=
 f6 b5 t a cp wr∧SP P g cap ts nest (p5 y) wr∧(X=y.then fun t r => rd (.loop lv t) nest r)∧∀ t' r,y=.ok (t',r)→t'=t∧(∃ av : Nat→Prop,(∀ c,av c→lo≤c∧c<wr.heap.size∧c≠b5)∧t.lies av wr a cp)∧c8 t≤100∧r.length≤l.length
theorem a6E (lv : Nat) (t : Nd) (nest : Nat) (r : List Tk) : rd (.loop lv t) nest r=if U6 (s9 lv) r=true then (rd (I6 lv) nest (b9 r)).then fun m r' => (made (mkN 13 (hd r).text 0 [t,m] (hd r).pos) r').then fun t r => rd (.loop lv t) nest r else .ok (t,r):=t7 (.loop lv t) nest r
theorem fU (P g cap : Nat) (ts : List Tk) (he : y7 ts) (htk : ∀ t∈ts,z8 t) (lv : Nat) (hlv : lv≤3) (l : List Tk) (hL : CL P g cap ts lv l) (hL2 : ∀ r,r.length<l.length→CL P g cap ts lv r) : CC P g cap ts lv l:=by
 intro nest w hn h
 obtain ⟨V,hV⟩ : ∃ V,V=w.alloc (.cells #[.int .i64 0,.string ⟨#[]⟩,.int .i64 0,.slice none 0 0,.int .i64 0] 24):=⟨_,rfl⟩
 have HBV:=hid (show Below w.heap.size w V from hV ▸ c6 w _)
 have N1:=hid (show f6 w.heap.size nd0 none 0 V from hV ▸ f6.make w nd0 none 0)
 have hS:=hid (h.below HBV)
 have hb0:=hid h.blocks
 have HP:=hid (show w.heap.size≠P∧w.heap.size≠g from ⟨Nat.ne_of_gt hb0.out.1,Nat.ne_of_gt hb0.out.2⟩)
 have HL2:=hid hL2
 have HTK:=hid htk
 have HLV:=hid hlv
 have HE:=hid he
 obtain ⟨X,hX⟩ : ∃ X,X=rd (.chain lv) nest l:=⟨_,rfl⟩
 rw [← hX]
 have HX:=hid (show X=(rd (I6 lv) nest l).then fun t r => rd (.loop lv t) nest r from hX.trans (t7 (.chain lv) nest l))
 have C1:=hid (hL nest V hn hS)
 have HLen:=hid (fun t r (h : rd (I6 lv) nest l=.ok (t,r)) => aZ (I6 lv) nest l h)
 generalize rd (I6 lv) nest l=y at HX C1 HLen
 have HVs:=hid (show w.heap.size<V.heap.size from N1.out.lt)
 have HPV:=hid (show P<V.heap.size from hS.out.blocks.1)
 clear hX h hL hL2 htk hlv he
 go_enter Tryz.func105,Tryz.ntmps105
 go_wp2_with fail
 rw [← hV]
 clear hV
 (with_reducible refine Calls.mono C1.out ?_)
 rintro e w2 ⟨t,a,cp,rfl,hs,hg,hk⟩
 have N2:=hid (N1.out.grown hg HP.out.1)
 have G2:=hid (b6 (b8 HBV) hg)
 have HK:=hid hk
 have hP2:=hid (show w2.heap.size≠P∧w2.heap.size≠g∧w.heap.size<w2.heap.size∧V.heap.size≤w2.heap.size by have:=hs.blocks; have:=N2.out.lt; have:=hg.size; omega)
 obtain ⟨W3,hW3⟩ : ∃ W,W=w2.alloc (.cells #[.int .i64 t.kind,.string t.text,.int .i64 t.n,.slice a t.kids.length cp,.int .i64 t.place] 24):=⟨_,rfl⟩
 have HB3:=hid (show Below w2.heap.size w2 W3 from hW3 ▸ c6 _ _)
 have M3:=hid (show f6 w2.heap.size t a cp W3 from hW3 ▸ f6.make w2 t a cp)
 have N3:=hid (N2.out.below HB3)
 have G3:=hid (d8 G2 (HB3.out.mono G2.out.size))
 have I3:=hid (show a4u P g cap ts nest lv l X V.heap.size w2.heap.size W3 t a cp y from ⟨M3,SP.below hs HB3,HX,fun t' r hy => by
  obtain ⟨e,hl,hd⟩:=HK.out t' r hy
  exact ⟨e,⟨Fr V.heap.size w2.heap.size,fun c hc => ⟨hc.1,Nat.lt_of_lt_of_le hc.2 HB3.out.size,Nat.ne_of_lt hc.2⟩,d5 hl (fun b hb => HB3.out.block b hb.2) fun b hb => hb⟩,hd,HLen.out t' r hy⟩⟩)
 clear hs hg hk
 unfold Nd.val
 go_upto_region 2 with fail
 rw [← hW3]
 have HW3:=hid (show W3.heap.size≤W3.heap.size from Nat.le_refl _)
 clear hW3 C1
 go_loopw [6,7,8,9,10,11] (fun _ _ _ _ _ _ wr => ∃ (t : Nd) (a : Option Addr) (cp : Nat) (y : Rd),Hid (a4u P g cap ts nest lv l X V.heap.size w2.heap.size wr t a cp y)∧Hid (f6 w.heap.size nd0 none 0 wr)∧Hid (w.grownBy wr (some P))∧Hid (W3.heap.size≤wr.heap.size)) (fun _ _ _ _ _ _ wr => a2G P ts wr)
 case atStart => exact ⟨t,a,cp,y,I3,N3,G3,HW3⟩
 case round =>
  obtain ⟨t,a,cp,y,HI,HN,HG,HW⟩:=hrel
  clear N1 N2 N3 M3 G2 G3 I3 HK HX HLen
  have HI0:=HI
  obtain ⟨M,hs,hX,hk⟩:=HI.out
  have hpl:=hs.blocks.1
  cases y with
  | error q =>
    obtain ⟨k,p⟩:=q
    obtain ⟨hk0,i,n,hp,-,-⟩:=hs.error
    obtain ⟨⟨p0,p1,p2,p3,p4⟩,-⟩:=hp.cells
    have ek : (k == 0)=false:=beq_eq_false_iff_ne.2 hk0
    have HS:=hid hs
    obtain ⟨⟨z0,z1,z2,z3,z4⟩,⟨f0,f1,f2,f3,f4⟩⟩:=HN.out.cells
    obtain ⟨⟨n0,n1,n2,n3,n4⟩,-⟩:=M.cells
    have hsz : w.heap.size<wr.heap.size∧w2.heap.size<wr.heap.size:=⟨HN.out.lt,M.lt⟩
    have HX:=hid (show X=.error (k,p) from hX)
    clear HI HI0 M hs hX hk hk0 hp
    go_wp2_with fail
    refine bodyPost_ret (v:=t.val a cp) (by simp [results,Tryz.results105,go_sem,Nd.val,z0,z1,z2,z3,z4]) rfl ?_
    rw [HX.out]
    exact RdP.fin (x:=.error (k,p)) HS HG HP (Nat.le_refl _) (fun _ _ h => by cases h)
  | ok q =>
    obtain ⟨t',r⟩:=q
    obtain ⟨rfl,hlies,hd,hlen⟩:=hk t' r rfl
    have HS:=hid (show SP P g cap ts nest (.ok r) wr from hs)
    obtain ⟨i,-,hp⟩:=HS.out.ok
    obtain ⟨⟨p0,p1,p2,p3,p4⟩,-⟩:=hp.cells
    have HX:=hid (show X=rd (.loop lv t') nest r from hX)
    have HM:=hid M
    have HLies:=hid hlies
    have HD:=hid hd
    have HLen:=hid hlen
    have HFar:=hid (show a2G P ts wr=r.length + 1 from HS.out.far)
    have C2:=hid (zZ lv HLV wr)
    clear HI HI0 M hs hX hk hp hlies hd hlen
    go_wp2_with fail
    (with_reducible refine Calls.mono C2.out ?_)
    rintro e w4 ⟨b,rfl,hb,hbb,hsg⟩
    have HS4:=hid (HS.out.below hb)
    have HN4:=hid (HN.out.below hb)
    have HM4:=hid (HM.out.below hb)
    have HB4:=hid hb
    have HSG:=hid (show ∀ i (hi : i<(s9 lv).length),w4.cell? ⟨b,i,none⟩=some (.string ⟨(s9 lv)[i].toArray⟩) from hsg)
    have HSA:=hid (show U6 (s9 lv) r=(s9 lv).any (fun w => isT w r) from rfl)
    have hsgl : b<w4.heap.size:=hbb.2
    have HBB:=hid hbb
    have HLQ:=hid (a6E lv t' nest r)
    have HSL:=hid (show (s9 lv).length≤4 from by unfold s9; split; decide; split; decide; split <;> decide)
    generalize s9 lv=sg at HSG HSA HLQ HSL ⊢
    have hsgm : sg.length≤4:=HSL.out
    have G4:=hid (d8 HG (HB4.out.mono HG.out.size))
    have HW4:=hid (Nat.le_trans HW HB4.out.size)
    have HL4:=hid (show ∃ av : Nat→Prop,(∀ c,av c→V.heap.size≤c∧c<w4.heap.size∧c≠w2.heap.size)∧t'.lies av w4 a cp from by
     obtain ⟨av,hav,hl⟩:=HLies.out
     exact ⟨av,fun c hc => ⟨(hav c hc).1,Nat.lt_of_lt_of_le (hav c hc).2.1 HB4.out.size,(hav c hc).2.2⟩,d5 hl (fun b hb => HB4.out.block b (hav b hb).2.1) fun b hb => hb⟩)
    clear hb hsg hbb p0 p1 p2 p3 p4 hpl C2
    go_wp2_with fail
    go_loopw [6,8,9] (fun f i _ wi => ∃ (k : Nat),k≤sg.length∧i=.int .i64 k∧f=.bool ((sg.take k).any fun w => isT w r)∧Hid (Below w4.heap.size w4 wi)) (fun _ i _ _ => sg.length - (intOf i).toNat)
    case atStart => exact ⟨0,Nat.zero_le _,rfl,rfl,Below.refl _ _⟩
    case round =>
     obtain ⟨k,hk,rfl,rfl,HBi⟩:=hrel
     have HSi:=hid (HS4.out.below HBi)
     by_cases hlt : k<sg.length
     ·have hc0:=(HBi.out.cell (p:=⟨b,k,none⟩) hsgl).trans (HSG.out k hlt)
      have D1:=hid (kO P g cap ts nest (.ok r) ⟨sg[k].toArray⟩ wr HSi)
      have HTk:=hid (rT sg r k hlt)
      generalize ((sg.take k).any fun w => isT w r)=f0 at HTk ⊢
      go_wp2_with fail
      (with_reducible refine Calls.mono D1.out ?_)
      rintro e w6 ⟨b1,rfl,hb,hb1⟩
      have HB6:=hid (HBi.out.trans (hb.mono HBi.out.size))
      have HT1:=hid (hb1 r rfl)
      clear hb hb1
      cases f0
      ·go_wp2_with fail
       go_roundw
       case rel => exact ⟨k + 1,by omega,by go_num,by rw [HTk.out,HT1.out]; simp,HB6⟩
       case measure => simp [intOf]; omega
      ·go_wp2_with fail
       go_roundw
       case rel => exact ⟨k + 1,by omega,by go_num,by rw [HTk.out]; simp,HB6⟩
       case measure => simp [intOf]; omega
     ·have HF:=hid (show ((sg.take k).any fun w => isT w r)=U6 sg r from by rw [List.take_of_length_le (by omega)]; rfl)
      have HNi:=hid (HN4.out.below HBi)
      have HMi:=hid (HM4.out.below HBi)
      have Gi:=hid (d8 G4 (HBi.out.mono G4.out.size))
      have HWi:=hid (Nat.le_trans HW4 HBi.out.size)
      have HLi:=hid (show ∃ av : Nat→Prop,(∀ c,av c→V.heap.size≤c∧c<wr.heap.size∧c≠w2.heap.size)∧t'.lies av wr a cp from by
       obtain ⟨av,hav,hl⟩:=HL4.out
       exact ⟨av,fun c hc => ⟨(hav c hc).1,Nat.lt_of_lt_of_le (hav c hc).2.1 HBi.out.size,(hav c hc).2.2⟩,d5 hl (fun b hb => HBi.out.block b (hav b hb).2.1) fun b hb => hb⟩)
      generalize ((sg.take k).any fun w => isT w r)=B at HF ⊢
      clear HN4 HM4 HL4 HLies HN HM
      cases B
      ·obtain ⟨⟨z0,z1,z2,z3,z4⟩,⟨f0,f1,f2,f3,f4⟩⟩:=HNi.out.cells
       obtain ⟨⟨n0,n1,n2,n3,n4⟩,-⟩:=HMi.out.cells
       have hsz : w.heap.size<wr.heap.size∧w2.heap.size<wr.heap.size:=⟨HNi.out.lt,HMi.out.lt⟩
       go_wp2_with fail
       refine bodyPost_ret (v:=t'.val a cp) (by simp [results,Tryz.results105,go_sem,Nd.val,z0,z1,z2,z3,z4]) rfl ?_
       have hx : X=.ok (t',r):=by rw [HX.out,HLQ.out,if_neg (by rw [← HF.out]; decide)]
       rw [hx]
       refine RdP.fin (x:=.ok (t',r)) HSi Gi HP (Nat.le_refl _) fun t2 r2 h2 => ?_
       cases h2
       obtain ⟨av,hav,hl⟩:=HLi.out
       exact ⟨rfl,⟨av,fun c hc => ⟨fun e => by subst e; have:=(hav _ hc).1; have:=HVs.out; omega,by have:=(hav _ hc).1; have:=HVs.out; omega,(hav c hc).2.1⟩,hl⟩,HD⟩
      ·have HAny:=hid (show U6 sg r=true from HF.out.symm)
       have D4:=hid (cP P g cap ts nest (.ok r) wr HSi HE)
       have HT0:=hid (HTK.out _ HSi.out.mem)
       have hstep:=kC HAny
       have HC5:=hid (HL2.out (b9 r) (by have:=HLen.out; omega))
       have HR:=hid (show X=(rd (I6 lv) nest (b9 r)).then fun m r' => (made (mkN 13 (hd r).text 0 [t',m] (hd r).pos) r').then fun t r => rd (.loop lv t) nest r from by
        rw [HX.out,HLQ.out,if_pos HAny.out])
       have HRL:=hid (fun t q (h : rd (I6 lv) nest (b9 r)=.ok (t,q)) => aZ (I6 lv) nest (b9 r) h)
       have HST:=hid hstep
       clear hstep HF HX HLQ HSA
       go_wp2_with fail
       (with_reducible refine Calls.mono D4.out ?_)
       rintro e w8 ⟨T,rfl,hs,hg,hT⟩
       have HT:=hid (hT r rfl)
       have N8:=hid (HNi.out.grown hg HP.out.1)
       have M8:=hid (HMi.out.grown hg hP2.out.1)
       have G8:=hid (b6 Gi hg)
       have K8:=hid hg
       have hP8:=hid (show w8.heap.size≠P∧w8.heap.size≠g by have:=hs.blocks; omega)
       obtain ⟨W9,hW9⟩ : ∃ W,W=w8.alloc (.cells #[.int .i64 T.kind,.string ⟨T.text.toArray⟩,.int .i64 T.n,.int .i64 T.pos] 67):=⟨_,rfl⟩
       have HB9:=hid (show Below w8.heap.size w8 W9 from hW9 ▸ c6 _ _)
       have T9:=hid (show Y0 w8.heap.size T W9 from hW9 ▸ Y0.make w8 T)
       have HS9:=hid (SP.below hs HB9)
       have N9:=hid (N8.out.below HB9)
       have M9:=hid (M8.out.below HB9)
       have G9:=hid (d8 G8 (HB9.out.mono G8.out.size))
       have K9:=hid (d8 K8 (HB9.out.mono K8.out.size))
       have C5:=hid (HC5.out nest W9 hn HS9)
       generalize rd (I6 lv) nest (b9 r)=y2 at HR C5 HRL
       clear hs hg hT
       unfold tkV
       go_wp2_with fail
       rw [← hW9]
       clear hW9
       (with_reducible refine Calls.mono C5.out ?_)
       rintro e w10 ⟨u,a',cp',rfl,hs,hg,hk⟩
       have HK2:=hid hk
       have N10:=hid (N9.out.grown hg HP.out.1)
       have M10:=hid (M9.out.grown hg hP2.out.1)
       have T10:=hid (T9.out.grown hg hP8.out.1)
       have G10:=hid (b6 G9 hg)
       have K10:=hid (b6 K9 hg)
       have hsz9:=hid (show W9.heap.size≤w10.heap.size from hg.size)
       have hP9:=hid (show P<W9.heap.size from HS9.out.blocks.1)
       have hP10:=hid (show w10.heap.size≠P∧w10.heap.size≠g by have:=hs.blocks; omega)
       obtain ⟨W11,hW11⟩ : ∃ W,W=w10.alloc (.cells #[.int .i64 u.kind,.string u.text,.int .i64 u.n,.slice a' u.kids.length cp',.int .i64 u.place] 24):=⟨_,rfl⟩
       have HB11:=hid (show Below w10.heap.size w10 W11 from hW11 ▸ c6 _ _)
       have U11:=hid (show f6 w10.heap.size u a' cp' W11 from hW11 ▸ f6.make w10 u a' cp')
       have HS11:=hid (SP.below hs HB11)
       have N11:=hid (N10.out.below HB11)
       have M11:=hid (M10.out.below HB11)
       have T11:=hid (T10.out.below HB11)
       have G11:=hid (d8 G10 (HB11.out.mono G10.out.size))
       have K11:=hid (d8 K10 (HB11.out.mono K10.out.size))
       clear hs hg hk
       unfold Nd.val
       go_upto_region 13 with fail
       rw [← hW11]
       clear hW11
       obtain ⟨⟨t0,t1,t2,t3⟩,-⟩:=T11.out.cells
       obtain ⟨⟨n0,n1,n2,n3,n4⟩,-⟩:=M11.out.cells
       obtain ⟨⟨m0,m1,m2,m3,m4⟩,-⟩:=U11.out.cells
       obtain ⟨W12,hW12⟩ : ∃ W,W=W11.alloc (.cells #[.int .i64 t'.kind,.string t'.text,.int .i64 t'.n,.slice a t'.kids.length cp,.int .i64 t'.place,.int .i64 u.kind,.string u.text,.int .i64 u.n,.slice a' u.kids.length cp',.int .i64 u.place] 24):=⟨_,rfl⟩
       have HB12:=hid (show Below W11.heap.size W11 W12 from hW12 ▸ c6 _ _)
       have A12:=hid (show W12.heap[W11.heap.size]?=some (.cells #[.int .i64 t'.kind,.string t'.text,.int .i64 t'.n,.slice a t'.kids.length cp,.int .i64 t'.place,.int .i64 u.kind,.string u.text,.int .i64 u.n,.slice a' u.kids.length cp',.int .i64 u.place] 24 (0,0)) from by
        rw [hW12]; exact jL _ rfl)
       have N12:=hid (N11.out.below HB12)
       have M12:=hid (M11.out.below HB12)
       have T12:=hid (T11.out.below HB12)
       have HS12:=hid (HS11.out.below HB12)
       have G12:=hid (d8 G11 (HB12.out.mono G11.out.size))
       have K12:=hid (d8 K11 (HB12.out.mono K11.out.size))
       have B1012:=hid (HB11.out.trans (HB12.out.mono HB11.out.size))
       have hlt12:=hid (show W11.heap.size<W12.heap.size from by rw [hW12]; simp)
       have hVw:=hid (show V.heap.size≤w2.heap.size∧w2.heap.size<W9.heap.size from ⟨hP2.out.2.2.2,M9.out.lt⟩)
       have HD2:=hid (show ∀ r,p5 y2=.ok r→c8 (mkN 13 T.text 0 [t',u] T.pos)≤101∧(mkN 13 T.text 0 [t',u] T.pos).lies (fun c => V.heap.size≤c∧c<W12.heap.size∧c≠w2.heap.size) W12 (some ⟨W11.heap.size,0,none⟩) 2 from fun r hr => by
        obtain ⟨u',hu'⟩:=D8 hr
        obtain ⟨rfl,hl,hd⟩:=HK2.out u' r hu'
        obtain ⟨av,hav,hl0⟩:=HLi.out
        have hd0:=HD.out
        have hB:=B1012.out.size
        refine ⟨by rw [pW]; omega,tK rfl (HT.out ▸ HT0.out) ?_ A12 (d5 hl0 ((j0.refl _ _).grown K12 fun b hb => ⟨(hav b hb).2.1,fun e => by subst e; have:=(hav _ hb).1; have:=HPV.out; omega⟩) fun b hb => ⟨(hav b hb).1,Nat.lt_of_lt_of_le (hav b hb).2.1 K12.out.size,(hav b hb).2.2⟩)
         (d5 hl (fun b hb => B1012.out.block b hb.2) fun b hb => ?_)⟩
        ·have:=hlt12.out; have:=HB11.out.size; have:=hsz9.out; have:=hVw.out
         exact ⟨by omega,by omega,by omega⟩
        ·have:=hb.1; have:=hb.2; have:=hVw.out
         exact ⟨by omega,by omega,by omega⟩)
       have C6:=hid (eG P g cap ts nest (p5 y2) 13 T.text 0 [t',u] T.pos (some ⟨W11.heap.size,0,none⟩) 2 2 rfl W12 hn HS12 fun r hr => ⟨(HD2.out r hr).1,_,fun b hb => hb.2.1,(HD2.out r hr).2⟩)
       obtain ⟨⟨u0,u1,u2,u3⟩,-⟩:=T12.out.cells
       subst hW12
       go_wp2_with fail
       (with_reducible refine Calls.mono C6.out ?_)
       rintro e w13 ⟨rfl,hs,hg⟩
       have M13:=hid (M12.out.grown hg hP2.out.1)
       obtain ⟨⟨z0,z1,z2,z3,z4⟩,⟨f0,f1,f2,f3,f4⟩⟩:=M13.out.cells
       have hsz13 : w2.heap.size<w13.heap.size:=M13.out.lt
       have HS13:=hid hs
       have N13:=hid (N12.out.grown hg HP.out.1)
       have G13:=hid (b6 G12 hg)
       have HG13:=hid hg
       have HWK:=hid (Nat.le_trans HWi (Nat.le_trans K12.out.size hg.size))
       clear hs hg t0 t1 t2 t3 n0 n1 n2 n3 n4 m0 m1 m2 m3 m4 u0 u1 u2 u3
       rw [show (mkN 13 T.text 0 [t',u] T.pos).val (some ⟨W11.heap.size,0,none⟩) 2=.agg #[.int .i64 13,.string ⟨T.text.toArray⟩,.int .i64 0,.slice (some ⟨W11.heap.size,0,none⟩) 2 2,.int .i64 T.pos] from rfl]
       go_wp2_with fail
       have HO:=hid (show p5 (goX (p5 y2) (made (mkN 13 T.text 0 [t',u] T.pos)))=gV (mkN 13 T.text 0 [t',u] T.pos) (p5 y2) from fD _ _)
       have HSf:=hid (show SP P g cap ts nest (p5 (goX (p5 y2) (made (mkN 13 T.text 0 [t',u] T.pos)))) (V6 w13 w2.heap.size (mkN 13 T.text 0 [t',u] T.pos) (some ⟨W11.heap.size,0,none⟩) 2) from by
        rw [HO.out]; exact HS13.out.put hP2.out.1 hP2.out.2.1 _ _ _)
       have HY2:=hid (show ∀ t2 r2,goX (p5 y2) (made (mkN 13 T.text 0 [t',u] T.pos))=.ok (t2,r2)→r2.length<r.length from fun t2 r2 h => by
        obtain ⟨-,e2,-⟩:=fS _ _ h
        obtain ⟨u',hu'⟩:=D8 e2
        have:=HRL.out u' r2 hu'
        have:=HST.out
        omega)
       go_roundw
       case rel =>
        refine ⟨mkN 13 T.text 0 [t',u] T.pos,some ⟨W11.heap.size,0,none⟩,2,goX (p5 y2) (made (mkN 13 T.text 0 [t',u] T.pos)),⟨M13.out.put _ _ _,HSf,?_,fun t2 r2 h => ?_⟩,N13.out.oput (Nat.ne_of_lt hP2.out.2.2.1) (mkN 13 T.text 0 [t',u] T.pos) (some ⟨W11.heap.size,0,none⟩) 2,r7 G13 (Nat.le_of_lt hP2.out.2.2.1) (mkN 13 T.text 0 [t',u] T.pos) (some ⟨W11.heap.size,0,none⟩) 2,?_⟩
        ·rw [HR.out,aP (t:=u) (fun t' r h => (HK2.out t' r h).1),← HT.out]
         exact iM (p5 y2) (made (mkN 13 T.text 0 [t',u] T.pos)) _
        ·obtain ⟨e1,e2,e3⟩:=fS _ _ h
         refine ⟨e1,⟨_,fun c hc => ⟨hc.1,?_,hc.2.2⟩,d5 (HD2.out r2 e2).2 (((j0.refl _ _).grown HG13 fun b hb => ⟨hb.2.1,?_⟩).put (fun b hb => hb.2.2) (mkN 13 T.text 0 [t',u] T.pos) (some ⟨W11.heap.size,0,none⟩) 2) fun b hb => hb⟩,e3,Nat.le_of_lt (Nat.lt_of_lt_of_le (HY2.out t2 r2 h) HLen)⟩
         ·have:=hc.2.1; have:=HG13.out.size
          refine Nat.lt_of_lt_of_le hc.2.1 ?_
          show _≤(V6 w13 w2.heap.size (mkN 13 T.text 0 [t',u] T.pos) (some ⟨W11.heap.size,0,none⟩) 2).heap.size
          rw [L8]; exact HG13.out.size
         ·rintro rfl
          have:=hb.1; have:=HPV.out; omega
        ·show _≤(V6 w13 w2.heap.size (mkN 13 T.text 0 [t',u] T.pos) (some ⟨W11.heap.size,0,none⟩) 2).heap.size
         rw [L8]; exact HWK
       case measure =>
        rw [HFar.out]
        refine Nat.lt_of_le_of_lt (Nat.le_of_eq HSf.out.far) ?_
        cases hy : goX (p5 y2) (made (mkN 13 T.text 0 [t',u] T.pos)) with
        | error e => exact Nat.succ_pos _
        | ok q => obtain ⟨t2,r2⟩:=q; have:=HY2.out t2 r2 hy; show r2.length + 1 < r.length + 1; omega
end
end Go.Proofs.YtibiccacafjjfaaGreatDoor
