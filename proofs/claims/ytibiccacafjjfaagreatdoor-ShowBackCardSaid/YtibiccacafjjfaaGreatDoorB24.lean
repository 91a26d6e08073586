/-
  Laws that the proof rests on.
-/
import Derived.Test.YtibiccacafjjfaaGreatDoorB23
import Derived.Test.YtibiccacafjjfaaGreatDoorB08
namespace Go.Proofs.YtibiccacafjjfaaGreatDoor
set_option maxRecDepth 100000
set_option maxHeartbeats 16000000
section
open Lib (hid)
open Go.RowKit
def sQ (nest : Nat) (l : List Tk) : Rd:=if isT tIf l=true then
 (rd .expr nest (b9 l)).then fun a r => d9 fJ r fun r => (rd .expr nest r).then fun b r => d9 eJ r fun r => (rd .expr nest r).then fun c r => made (mkN 14 [] 0 [a,b,c] (hd l).pos) r
 else rd (.chain 0) nest l
theorem a6x (nest : Nat) (l : List Tk) : rd .expr nest l=U0 nest l (sQ (nest + 1) l):=by rw [t7]; rfl
theorem L7 {w : List UInt8} {l : List Tk} {f : List Tk→Rd} (h : isT w l=true) : d9 w l f=f (b9 l):=if_pos h
theorem X9 {w : List UInt8} {l : List Tk} {f : List Tk→Rd} (h : isT w l=false) : d9 w l f=.error (74,(hd l).pos):=if_neg (by rw [h]; decide)
def eR (P g cap : Nat) (ts : List Tk) (nest : Nat) (y : List UInt8) (l : List Tk) (w : World) (e : Ending) (w' : World) : Prop:=w.grownBy w' (some P)∧(isT y l=true→e=.returned (.tuple #[])∧SQ P g cap ts nest (b9 l) w')∧(isT y l=false→e=flt 74 (hd l).pos)
theorem V0 (P g cap : Nat) (ts : List Tk) (nest : Nat) (l : List Tk) (x : ByteArray) (y : List UInt8) (hy : x.data.toList=y) (w : World) (h : SQ P g cap ts nest l w) (he : y7 ts) :
 Calls Tryz.prog 53 #[.pointer (some ⟨P,0,none⟩),.string x] w (eR P g cap ts nest y l w):=by
 subst hy
 refine (a10 P g cap ts nest l x w h he).mono fun e w' hq => ?_
 rw [show bP x.data.toList (.ok l)=if isT x.data.toList l=true then .ok (b9 l) else .error (74,(hd l).pos) from rfl] at hq
 cases hb : isT x.data.toList l
 ·rw [hb] at hq
  exact ⟨hq.2,(fun h => by rw [hb] at h; cases h),fun _ => hq.1⟩
 ·rw [hb] at hq
  exact ⟨hq.2.2,fun _ => ⟨hq.1,hq.2.1⟩,fun h => by rw [hb] at h; cases h⟩
theorem Y8 {av av' : Nat→Prop} {A B : World} {t : Nd} {a : Option Addr} {cp P : Nat} (h : t.lies av A a cp) (g : A.grownBy B (some P)) (ha : ∀ c,av c→c<A.heap.size∧c≠P∧av' c) : t.lies av' B a cp :=
 d5 h (fun c hc => g.block c (ha c hc).1 (fun e => (ha c hc).2.1 (Option.some.inj e))) fun c hc => (ha c hc).2.2
theorem zX (P g cap : Nat) (ts : List Tk) (he : y7 ts) (htk : ∀ t∈ts,z8 t) (nest : Nat) (l : List Tk) (pb : Nat) (w : World) (hn : nest≤300) (h : SQ P g cap ts nest l w) (hp : w.cell? ⟨pb,0,none⟩=some (.pointer (some ⟨P,0,none⟩))) (hpb : pb≠P∧pb<w.heap.size)
 (hO : CQ 51 (.chain 0) P g cap ts l) (hE : ∀ r,r.length<l.length→CQ 25 .expr P g cap ts r) :
 Calls Tryz.prog 49 #[.pointer (some ⟨pb,0,none⟩)] w (QP P g cap ts nest (sQ nest l) w):=by
 obtain ⟨W1,hW1⟩ : ∃ W,W=w.alloc (.cells #[.int .i64 0,.string ⟨#[]⟩,.int .i64 0,.slice none 0 0,.int .i64 0,.int .i64 0] 50):=⟨_,rfl⟩
 have B1:=hid (show Below w.heap.size w W1 from hW1 ▸ c6 _ _)
 have Z1:=hid (show T6 w.heap.size 0 ⟨#[]⟩ 0 none 0 0 0 0 W1 from hW1 ▸ T6.make w _ _ _ _ _ _ _ _)
 have HB:=hid h.blocks
 have HPB:=hid hpb
 have S1:=hid (h.below B1)
 have HC:=hid (show ∀ W : World,w.grownBy W (some P)→W.cell? ⟨pb,0,none⟩=some (.pointer (some ⟨P,0,none⟩)) from fun W hg => (World.cell?_of_block (hg.block pb hpb.2 (fun e => hpb.1 (Option.some.inj e)))).trans hp)
 have hp1:=HC.out W1 (b8 B1)
 have C1:=hid (show Calls Tryz.prog 50 #[.pointer (some ⟨P,0,none⟩),.string ⟨#[105,102]⟩] W1 (fun e w' => e=.returned (.bool (isT tIf l))∧Below W1.heap.size W1 w') from aO P g cap ts nest l ⟨#[105,102]⟩ W1 S1)
 cases hm : isT tIf l
 case false =>
  rw [hm] at C1
  rw [show sQ nest l=rd (.chain 0) nest l from if_neg (by rw [hm]; decide)]
  have C2:=hid (fun W hs => hO nest W hn hs)
  generalize rd (.chain 0) nest l=x at C2 ⊢
  clear h hO hE he htk hm hp
  go_enter Tryz.func49,Tryz.ntmps49
  go_upto_region 1 with fail
  rw [← hW1]
  clear hW1
  go_wp2_with fail
  (with_reducible refine Calls.mono C1.out ?_)
  rintro e W2 ⟨rfl,hb⟩
  have B2:=hid (B1.out.trans (hb.mono B1.out.size))
  have Z2:=hid (Z1.out.below hb)
  have C:=hid (C2.out W2 (S1.out.below hb))
  have hp2:=HC.out W2 (b8 B2)
  clear hb C1 C2 hp1
  go_wp2_with fail
  (with_reducible refine Calls.mono C.out ?_)
  intro e w3 hq
  cases x with
  | error q =>
    obtain ⟨k,p⟩:=q
    obtain ⟨rfl,hg⟩:=hq
    refine And.intro rfl ?_
    exact ⟨rfl,b6 (b8 B2) hg⟩
  | ok q =>
    obtain ⟨t,r⟩:=q
    obtain ⟨a,cp,rfl,hs,hg,hl,hd⟩:=hq
    have Z3:=hid (Z2.out.grown hg (fun e => by have:=Option.some.inj e; have:=HB.out; omega))
    have HS:=hid hs
    have HG:=hid hg
    have HL:=hid hl
    have HD:=hid hd
    obtain ⟨⟨z0,z1,z2,z3,z4,z5⟩,⟨f0,f1,f2,f3,f4,f5⟩⟩:=Z3.out.cells
    have hzl:=Z3.out.lt
    clear hs hg hl hd C
    unfold trV
    go_wp2_with fail
    refine bodyPost_ret (v:=trV t a cp) (by simp [results,Tryz.results49,go_sem,trV,z0,z1,z2,z3,z4,z5]) rfl ?_
    exact eH HS (b8 B2) Z2.out.lt HG HL HD ⟨HB.out.1,HB.out.2.1⟩
 case true =>
 rw [hm] at C1
 obtain ⟨X,hX⟩ : ∃ X,X=sQ nest l:=⟨_,rfl⟩
 rw [← hX]
 rw [show sQ nest l=(rd .expr nest (b9 l)).then fun a r => d9 fJ r fun r => (rd .expr nest r).then fun b r => d9 eJ r fun r => (rd .expr nest r).then fun c r => made (mkN 14 [] 0 [a,b,c] (hd l).pos) r from if_pos hm] at hX
 have HLn:=hid (n5 hm)
 have HE:=hid he
 have HEx:=hid hE
 have HT0:=hid (htk _ h.mem)
 generalize hT : hd l=T at hX HT0
 have HTe:=hid hT
 have HX:=hid hX
 clear h he htk hO hE hX hm hp hT
 go_enter Tryz.func49,Tryz.ntmps49
 go_upto_region 1 with fail
 rw [← hW1]
 clear hW1
 go_wp2_with fail
 (with_reducible refine Calls.mono C1.out ?_)
 rintro e W2 ⟨rfl,hb⟩
 have B2:=hid (B1.out.trans (hb.mono B1.out.size))
 have Z2:=hid (Z1.out.below hb)
 have S2:=hid (S1.out.below hb)
 have hp2:=HC.out W2 (b8 B2)
 have C2:=hid (show Calls Tryz.prog 52 #[.pointer (some ⟨P,0,none⟩)] W2 (fun e w' => e=.returned (tkV T)∧SQ P g cap ts nest (b9 l) w'∧W2.grownBy w' (some P)) by
  have:=dG P g cap ts nest l W2 S2 HE
  rwa [HTe.out] at this)
 have hfd:=iL T.kind T.n T.pos ⟨T.text.toArray⟩
 clear hb C1 hp1
 go_wp2_with fail
 (with_reducible refine Calls.mono C2.out ?_)
 rintro e w3 ⟨rfl,hs,hg⟩
 have S3:=hid hs
 have G3:=hid (b6 (b8 B2) hg)
 have Z3:=hid (Z2.out.grown hg (fun e => by have:=Option.some.inj e; have:=HB.out; omega))
 clear hs hg C2 hp2
 obtain ⟨W4,hW4⟩ : ∃ W,W=w3.alloc (.cells #[.int .i64 14,.string ⟨#[]⟩,.int .i64 0,.slice none 0 0,.int .i64 T.pos] 24):=⟨_,rfl⟩
 have B4:=hid (show Below w3.heap.size w3 W4 from hW4 ▸ c6 _ _)
 have N4:=hid (show f6 w3.heap.size (.mk 14 ⟨#[]⟩ 0 [] T.pos) none 0 W4 from hW4 ▸ f6.make w3 (.mk 14 ⟨#[]⟩ 0 [] T.pos) none 0)
 have S4:=hid (S3.out.below B4)
 have G4:=hid (b6 G3 (b8 B4))
 have Z4:=hid (Z3.out.below B4)
 have hp4:=HC.out W4 G4
 have C4:=hid (HEx.out (b9 l) (by have:=HLn.out; omega) nest W4 hn S4)
 have HR4:=hid (fun t q (h : rd .expr nest (b9 l)=.ok (t,q)) => aZ .expr nest (b9 l) h)
 generalize rd .expr nest (b9 l)=x at C4 HX HR4
 unfold tkV
 go_upto_region 4 with fail
 rw [← hW4]
 clear hW4 hfd
 go_wp2_with fail
 (with_reducible refine Calls.mono C4.out ?_)
 intro e wa hq
 cases x with
 | error q =>
   obtain ⟨k,p⟩:=q
   obtain ⟨rfl,hg⟩:=hq
   refine And.intro rfl ?_
   rw [HX.out]
   exact ⟨rfl,b6 G4 hg⟩
 | ok q =>
 obtain ⟨t1,r1⟩:=q
 obtain ⟨a1,c1,rfl,hs,hg,hl,hdp⟩:=hq
 have hr1:=hid (HR4.out t1 r1 rfl)
 have HX1:=hid (show X=d9 fJ r1 fun r => (rd .expr nest r).then fun b r => d9 eJ r fun r => (rd .expr nest r).then fun c r => made (mkN 14 [] 0 [t1,b,c] T.pos) r from HX)
 have SA:=hid hs
 have GA:=hid (b6 G4 hg)
 have G4A:=hid hg
 have NA:=hid (N4.out.grown hg (by have:=S3.out.blocks; omega))
 have ZA:=hid (Z4.out.grown hg (fun e => by have:=Option.some.inj e; have:=HB.out; omega))
 have HL1:=hid hl
 have HD1:=hid hdp
 clear hs hg hl hdp C4 hp4 HX HR4
 obtain ⟨W5,hW5⟩ : ∃ W,W=wa.alloc (.cells #[.int .i64 t1.kind,.string t1.text,.int .i64 t1.n,.slice a1 t1.kids.length c1,.int .i64 t1.place,.int .i64 (c8 t1)] 50):=⟨_,rfl⟩
 have B5:=hid (show Below wa.heap.size wa W5 from hW5 ▸ c6 _ _)
 have A5:=hid (show T6 wa.heap.size t1.kind t1.text t1.n a1 t1.kids.length c1 t1.place (c8 t1) W5 from hW5 ▸ T6.make wa _ _ _ _ _ _ _ _)
 have S5:=hid (SA.out.below B5)
 have G5:=hid (b6 GA (b8 B5))
 have hp5:=HC.out W5 G5
 have C5:=hid (show Calls Tryz.prog 53 #[.pointer (some ⟨P,0,none⟩),.string ⟨#[116,104,101,110]⟩] W5 (eR P g cap ts nest fJ r1 W5) from V0 P g cap ts nest r1 ⟨#[116,104,101,110]⟩ fJ rfl W5 S5 HE)
 unfold trV
 go_upto_region 5 with fail
 rw [← hW5]
 clear hW5
 go_wp2_with fail
 (with_reducible refine Calls.mono C5.out ?_)
 rintro e w6 ⟨hg,hq⟩
 have G56:=hid hg
 have G6:=hid (b6 G5 hg)
 have hp6:=HC.out w6 G6
 cases hw : isT fJ r1
 case false =>
  obtain rfl:=hq.2 hw
  refine And.intro rfl ?_
  rw [HX1.out,X9 hw]
  exact ⟨rfl,G6⟩
 case true =>
 obtain ⟨rfl,hs⟩:=hq.1 hw
 have S6:=hid hs
 have hr2:=hid (n5 hw)
 have C6:=hid (HEx.out (b9 r1) (by have:=HLn.out; have:=hr1.out; have:=hr2.out; omega) nest w6 hn S6)
 have HX2:=hid (HX1.out.trans (L7 hw))
 have HR6:=hid (fun t q (h : rd .expr nest (b9 r1)=.ok (t,q)) => aZ .expr nest (b9 r1) h)
 generalize rd .expr nest (b9 r1)=x at C6 HX2 HR6
 clear hs hg C5 hp5 hw
 go_wp2_with fail
 (with_reducible refine Calls.mono C6.out ?_)
 intro e wb hq
 cases x with
 | error q =>
   obtain ⟨k,p⟩:=q
   obtain ⟨rfl,hg⟩:=hq
   refine And.intro rfl ?_
   rw [HX2.out]
   exact ⟨rfl,b6 G6 hg⟩
 | ok q =>
 obtain ⟨t2,r2⟩:=q
 obtain ⟨a2,c2,rfl,hs,hg,hl,hdp⟩:=hq
 have hr3:=hid (HR6.out t2 r2 rfl)
 have HX3:=hid (show X=d9 eJ r2 fun r => (rd .expr nest r).then fun c r => made (mkN 14 [] 0 [t1,t2,c] T.pos) r from HX2)
 have SB:=hid hs
 have GB:=hid (b6 G6 hg)
 have G5B:=hid (b6 G56 hg)
 have HL2:=hid hl
 have HD2:=hid hdp
 have h6b:=hid hg.size
 clear hs hg hl hdp C6 hp6 HX2 HR6
 obtain ⟨W7,hW7⟩ : ∃ W,W=wb.alloc (.cells #[.int .i64 t2.kind,.string t2.text,.int .i64 t2.n,.slice a2 t2.kids.length c2,.int .i64 t2.place,.int .i64 (c8 t2)] 50):=⟨_,rfl⟩
 have B7:=hid (show Below wb.heap.size wb W7 from hW7 ▸ c6 _ _)
 have E7:=hid (show T6 wb.heap.size t2.kind t2.text t2.n a2 t2.kids.length c2 t2.place (c8 t2) W7 from hW7 ▸ T6.make wb _ _ _ _ _ _ _ _)
 have S7:=hid (SB.out.below B7)
 have G7:=hid (b6 GB (b8 B7))
 have hp7:=HC.out W7 G7
 have C7:=hid (show Calls Tryz.prog 53 #[.pointer (some ⟨P,0,none⟩),.string ⟨#[101,108,115,101]⟩] W7 (eR P g cap ts nest eJ r2 W7) from V0 P g cap ts nest r2 ⟨#[101,108,115,101]⟩ eJ rfl W7 S7 HE)
 unfold trV
 go_upto_region 7 with fail
 rw [← hW7]
 clear hW7
 go_wp2_with fail
 (with_reducible refine Calls.mono C7.out ?_)
 rintro e w8 ⟨hg,hq⟩
 have G78:=hid hg
 have G8:=hid (b6 G7 hg)
 cases hw : isT eJ r2
 case false =>
  obtain rfl:=hq.2 hw
  refine And.intro rfl ?_
  rw [HX3.out,X9 hw]
  exact ⟨rfl,G8⟩
 case true =>
 obtain ⟨rfl,hs⟩:=hq.1 hw
 have S8:=hid hs
 have hr4:=hid (n5 hw)
 have BD:=hid (show Below w8.heap.size w8 w8.drew from A7 (Below.refl _ _))
 have C8:=hid (HEx.out (b9 r2) (by have:=HLn.out; have:=hr1.out; have:=hr2.out; have:=hr3.out; have:=hr4.out; omega) nest w8.drew hn (S8.out.below BD))
 have HX4:=hid (show X=(rd .expr nest (b9 r2)).then fun c r => made (mkN 14 [] 0 [t1,t2,c] T.pos) r from HX3.out.trans (L7 hw))
 generalize rd .expr nest (b9 r2)=x at C8 HX4
 have hsz:=hid (show P<w.heap.size∧w.heap.size<w3.heap.size∧w3.heap.size<W4.heap.size∧W4.heap.size≤wa.heap.size∧wa.heap.size<W5.heap.size∧W5.heap.size≤w6.heap.size∧w6.heap.size≤wb.heap.size∧wb.heap.size<W7.heap.size∧W7.heap.size≤w8.heap.size from
  ⟨HB.out.1,Z3.out.lt,N4.out.lt,G4A.out.size,A5.out.lt,G56.out.size,h6b,E7.out.lt,G78.out.size⟩)
 have GW:=hid (show w.grownBy w8.drew (some P) from b6 G8 (b8 BD))
 have GA8:=hid (show wa.grownBy w8.drew (some P) from b6 (b8 B5) (b6 G5B (b6 (b8 B7) (b6 G78 (b8 BD)))))
 have GB8:=hid (show wb.grownBy w8.drew (some P) from b6 (b8 B7) (b6 G78 (b8 BD)))
 have N8:=hid (NA.out.grown GA8 (by have:=hsz.out; omega))
 have Z8:=hid (ZA.out.grown GA8 (fun e => by have:=Option.some.inj e; have:=hsz.out; omega))
 have A8:=hid (A5.out.grown (b6 G5B (b6 (b8 B7) (b6 G78 (b8 BD)))) (fun e => by have:=Option.some.inj e; have:=hsz.out; omega))
 have E8:=hid (E7.out.grown (b6 G78 (b8 BD)) (fun e => by have:=Option.some.inj e; have:=hsz.out; omega))
 have HL1':=hid (Y8 (av':=fun c => w.heap.size<c∧c<w8.drew.heap.size) HL1 GA8 fun c hc => ⟨hc.2,by have:=hc.1; have:=hsz.out; omega,by have:=hc.1; have:=hsz.out; omega,Nat.lt_of_lt_of_le hc.2 GA8.out.size⟩)
 have HL2':=hid (Y8 (av':=fun c => w.heap.size<c∧c<w8.drew.heap.size) HL2 GB8 fun c hc => ⟨hc.2,by have:=hc.1; have:=hsz.out; omega,by have:=hc.1; have:=hsz.out; omega,Nat.lt_of_lt_of_le hc.2 GB8.out.size⟩)
 have HP8:=hid (HC.out w8.drew GW)
 clear hs hg C7 hp7 hw
 go_upto_region 8 with fail
 refine e8 (S:=(fun cur => cur.cell? ⟨pb,0,none⟩=some (.pointer (some ⟨P,0,none⟩))∧(cur.cell? ⟨w3.heap.size,0,none⟩=some (.int .i64 14)∧cur.cell? ⟨w3.heap.size,1,none⟩=some (.string ⟨#[]⟩)∧cur.cell? ⟨w3.heap.size,2,none⟩=some (.int .i64 0)∧cur.cell? ⟨w3.heap.size,3,none⟩=some (.slice none 0 0)∧cur.cell? ⟨w3.heap.size,4,none⟩=some (.int .i64 T.pos))∧(cur.cell? ⟨wa.heap.size,0,none⟩=some (.int .i64 t1.kind)∧cur.cell? ⟨wa.heap.size,1,none⟩=some (.string t1.text)∧cur.cell? ⟨wa.heap.size,2,none⟩=some (.int .i64 t1.n)∧cur.cell? ⟨wa.heap.size,3,none⟩=some (.slice a1 t1.kids.length c1)∧cur.cell? ⟨wa.heap.size,4,none⟩=some (.int .i64 t1.place)∧cur.cell? ⟨wa.heap.size,5,none⟩=some (.int .i64 (c8 t1)))∧(cur.cell? ⟨wb.heap.size,0,none⟩=some (.int .i64 t2.kind)∧cur.cell? ⟨wb.heap.size,1,none⟩=some (.string t2.text)∧cur.cell? ⟨wb.heap.size,2,none⟩=some (.int .i64 t2.n)∧cur.cell? ⟨wb.heap.size,3,none⟩=some (.slice a2 t2.kids.length c2)∧cur.cell? ⟨wb.heap.size,4,none⟩=some (.int .i64 t2.place)∧cur.cell? ⟨wb.heap.size,5,none⟩=some (.int .i64 (c8 t2))))) (z:=8) (by kernel_rfl) ?_ (fun hHeld => ?_)
 ·exact ⟨HP8,N8.out.cells.1,A8.out.cells.1,E8.out.cells.1⟩
 refine b7.t 0 ?_; refine b7.t 1 ?_; refine b7.t 2 ?_; refine b7.t 3 ?_; refine b7.t 4 ?_
 refine b7.nx 5 fun K hK => ?_
 go_simp
 (with_reducible refine Calls.mono C8.out ?_)
 intro e w9 hq
 cases x with
 | error q =>
   obtain ⟨k0,p0⟩:=q
   obtain ⟨rfl,hg⟩:=hq
   refine And.intro rfl ?_
   rw [HX4.out]
   exact ⟨rfl,b6 GW hg⟩
 | ok q =>
 obtain ⟨m,q⟩:=q
 obtain ⟨a3,c3,rfl,hs6,hg6,hl6,hd6⟩:=hq
 have S9:=hid hs6
 have G9:=hid (b6 GW hg6)
 have hd8:=hid (show w8.drew.heap.size=w8.heap.size from rfl)
 have N9:=hid (N8.out.grown hg6 (by have:=hsz.out; omega))
 have A9:=hid (A8.out.grown hg6 (fun e => by have:=Option.some.inj e; have:=hsz.out; omega))
 have E9:=hid (E8.out.grown hg6 (fun e => by have:=Option.some.inj e; have:=hsz.out; omega))
 have Z9:=hid (Z8.out.grown hg6 (fun e => by have:=Option.some.inj e; have:=hsz.out; omega))
 have HP9:=hid (HC.out w9 G9)
 have HG9:=hid hg6
 have HL3:=hid hl6
 have HD3:=hid hd6
 clear hs6 hg6 hl6 hd6 C8
 unfold trV
 go_wp2_with fail
 refine hK.out _ _ ?_ (fun hHeld => ?_)
 ·exact ⟨HP9,N9.out.cells.1,A9.out.cells.1,E9.out.cells.1⟩
 clear hK K
 try simp only [Act.put,c9,f8,f7]
 refine b7.nx 6 fun K hK => ?_
 go_simp
 obtain ⟨Wx,hWx⟩ : ∃ W,W=w9.alloc (.cells #[.int .i64 t1.kind,.string t1.text,.int .i64 t1.n,.slice a1 t1.kids.length c1,.int .i64 t1.place,.int .i64 (c8 t1),.int .i64 t2.kind,.string t2.text,.int .i64 t2.n,.slice a2 t2.kids.length c2,.int .i64 t2.place,.int .i64 (c8 t2),.int .i64 m.kind,.string m.text,.int .i64 m.n,.slice a3 m.kids.length c3,.int .i64 m.place,.int .i64 (c8 m)] 50):=⟨_,rfl⟩
 have Rx:=hid (show mG Wx w9.heap.size 0 [(t1,a1,c1),(t2,a2,c2),(m,a3,c3)] from hWx ▸ a6J w9 _ (t1,a1,c1) (t2,a2,c2) (m,a3,c3))
 have Bx:=hid (show Below w9.heap.size w9 Wx from hWx ▸ c6 _ _)
 have hzx:=hid (show Wx.heap.size=w9.heap.size + 1 by rw [hWx]; simp)
 have Nx:=hid (N9.out.below Bx)
 have Ax:=hid (A9.out.below Bx)
 have Ex:=hid (E9.out.below Bx)
 have HPx:=hid (HC.out Wx (b6 G9 (b8 Bx)))
 have Cx:=hid (show Calls Tryz.prog 54 #[.pointer (some ⟨P,0,none⟩),.agg #[.int .i64 14,.string ⟨#[]⟩,.int .i64 0,.slice none 0 0,.int .i64 T.pos],.slice (some ⟨w9.heap.size,0,none⟩) 3 3] Wx (gI 14 [] 0 T.pos [(t1,a1,c1),(t2,a2,c2),(m,a3,c3)] Wx) from
  aG P 14 [] 0 T.pos (some ⟨w9.heap.size,0,none⟩) 3 [(t1,a1,c1),(t2,a2,c2),(m,a3,c3)] Wx (by show 3≤8; decide) (fun _ => ⟨w9.heap.size,0,rfl,by have:=hzx.out; omega,Rx⟩) (fun e he => by
   rcases List.mem_cons.1 he with rfl | he
   ·exact HD1
   rcases List.mem_cons.1 he with rfl | he
   ·exact HD2
   obtain rfl:=List.mem_singleton.1 he; exact HD3))
 rw [← hWx]
 clear hWx
 refine hK.out _ _ ?_ (fun hHeld => ?_)
 ·exact ⟨HPx,Nx.out.cells.1,Ax.out.cells.1,Ex.out.cells.1⟩
 clear hK K
 try simp only [Act.put,c9,f8,f7]
 refine b7.nx 7 fun K hK => ?_
 go_simp
 (with_reducible refine Calls.mono Cx.out ?_)
 intro e wy hm
 have HMR:=hid (show jB (made (mkN 14 [] 0 [t1,t2,m] T.pos) q) (fun c => w.heap.size<c∧c<Wx.heap.size) Wx e wy from by
  have h1:=hsz.out
  have h2:=hzx.out
  have h3:=HG9.out.size
  have h4:=hd8.out
  have hgx:=b6 HG9 (b8 Bx)
  refine hm.use rfl (by show 0≤16384; decide) rfl HT0.out.2.1 (fun c hc => hc.2) (fun e he => ?_) q
  rcases List.mem_cons.1 he with rfl | he
  ·exact Y8 HL1' hgx fun c hc => ⟨hc.2,by have:=hc.1; omega,hc.1,by have:=hc.2; omega⟩
  rcases List.mem_cons.1 he with rfl | he
  ·exact Y8 HL2' hgx fun c hc => ⟨hc.2,by have:=hc.1; omega,hc.1,by have:=hc.2; omega⟩
  ·obtain rfl:=List.mem_singleton.1 he
   exact d5 HL3 (fun c hc => Bx.out.block c hc.2) fun c hc => ⟨by have:=hc.1; omega,by have:=hc.2; omega⟩)
 clear hm Cx
 obtain ⟨hb8,hm⟩:=HMR.out
 have By:=hid hb8
 have HXm:=hid (show X=made (mkN 14 [] 0 [t1,t2,m] T.pos) q from HX4)
 cases hmd : made (mkN 14 [] 0 [t1,t2,m] T.pos) q with
 | error z =>
   obtain ⟨k0,p0⟩:=z
   rw [hmd] at hm
   obtain rfl:=hm
   refine And.intro rfl ?_
   rw [HXm.out,hmd]
   exact ⟨rfl,b6 G9 (b8 (Bx.out.trans (By.out.mono Bx.out.size)))⟩
 | ok z =>
 obtain ⟨t4,q2⟩:=z
 have hq2 : q2=q:=dT hmd
 subst hq2
 rw [hmd] at hm
 obtain ⟨a4,c4,rfl,hl3,hd3⟩:=hm
 have HMD:=hid hmd
 have HL4:=hid hl3
 have HD4:=hid hd3
 have Ny:=hid (Nx.out.below By)
 have Ay:=hid (Ax.out.below By)
 have Ey:=hid (Ex.out.below By)
 have hb78:=Bx.out.trans (By.out.mono Bx.out.size)
 have B9y:=hid hb78
 have HPy:=hid (HC.out wy (b6 G9 (b8 hb78)))
 clear hmd hl3 hd3 hb8 hb78
 unfold trV
 go_wp2_with fail
 refine hK.out _ _ ?_ (fun hHeld => ?_)
 ·exact ⟨HPy,Ny.out.cells.1,Ay.out.cells.1,Ey.out.cells.1⟩
 clear hK K
 try simp only [Act.put,c9,f8,f7]
 have Zy:=hid (Z9.out.below B9y)
 obtain ⟨⟨z0,z1,z2,z3,z4,z5⟩,⟨f0,f1,f2,f3,f4,f5⟩⟩:=Zy.out.cells
 have hzl:=Zy.out.lt
 refine b7.la fun K hK => ?_
 go_simp
 refine hK.out _ _ ?_
 clear hK K
 go_wp2_with fail
 refine bodyPost_ret (v:=trV t4 a4 c4) (by simp [results,Tryz.results49,go_sem,trV,z0,z1,z2,z3,z4,z5]) rfl ?_
 rw [HXm.out,HMD.out]
 have h1:=hzx.out
 have h2:=By.out.size
 have hb:=HB.out
 have h4:=G9.out.size
 exact QP.fin ((S9.out.below Bx).below By) (b6 G9 (b8 B9y)) (Nat.le_refl _) (by omega) HL4 (fun c hc => by
  rcases hc with hc | hc
  ·have:=hc.1; have:=hc.2; omega
  ·have:=hc.1; have:=hc.2; omega) HD4
theorem a3f (P g cap : Nat) (ts : List Tk) (he : y7 ts) (htk : ∀ t∈ts,z8 t) (l : List Tk) (hO : CQ 51 (.chain 0) P g cap ts l) (hE : ∀ r,r.length<l.length→CQ 25 .expr P g cap ts r) : CQ 25 .expr P g cap ts l:=by
 intro nest w hle h
 obtain ⟨W1,hW1⟩ : ∃ W,W=w.alloc (.cells #[.pointer (some ⟨P,0,none⟩)] 48):=⟨_,rfl⟩
 have B1:=hid (show Below w.heap.size w W1 from hW1 ▸ c6 _ _)
 have hz1:=hid (show W1.heap.size=w.heap.size + 1 by rw [hW1]; simp)
 have hp:=hid (show W1.cell? ⟨w.heap.size,0,none⟩=some (.pointer (some ⟨P,0,none⟩)) by rw [hW1]; simp)
 obtain ⟨W2,hW2⟩ : ∃ W,W=W1.alloc (.cells #[.int .i64 0,.string ⟨#[]⟩,.int .i64 0,.slice none 0 0,.int .i64 0,.int .i64 0] 50):=⟨_,rfl⟩
 have B2':=hid (show Below W1.heap.size W1 W2 from hW2 ▸ c6 _ _)
 have B2:=hid (B1.out.trans (B2'.out.mono B1.out.size))
 have Z2:=hid (show T6 (w.heap.size + 1) 0 ⟨#[]⟩ 0 none 0 0 0 0 W2 from hW2 ▸ (show w.heap.size + 1=W1.heap.size by rw [hz1.out]) ▸ T6.make W1 _ _ _ _ _ _ _ _)
 have HB:=hid h.blocks
 have eg : m7 49:=enters_of Tryz.func49 (by kernel_rfl) rfl
 have hp2:=hid (show W2.cell? ⟨w.heap.size,0,none⟩=some (.pointer (some ⟨P,0,none⟩)) from (B2'.out.cell (p:=⟨w.heap.size,0,none⟩) (by show w.heap.size<W1.heap.size; rw [hz1.out]; omega)).trans hp)
 have hz2:=hid (show w.heap.size + 1<W2.heap.size from Z2.out.lt)
 have C:=hid (show Calls Tryz.prog 48 #[.pointer (some ⟨P,0,none⟩),.func (.func 49) #[] #[.pointer (some ⟨w.heap.size,0,none⟩)]] W2 (QP P g cap ts nest (U0 nest l (sQ (nest + 1) l)) W2) from
  nA P g cap ts nest l 49 _ _ W2 hle (h.below B2) eg fun hn1 W hs hg => by
   have hb:=HB.out
   have hsz:=hz2.out
   have hgs:=hg.size
   have c1 : W.cell? ⟨w.heap.size,0,none⟩=W2.cell? ⟨w.heap.size,0,none⟩:=World.cell?_of_block (hg.block w.heap.size (by omega) (fun e => by have:=Option.some.inj e; omega))
   exact zX P g cap ts he htk (nest + 1) l w.heap.size W hn1 hs (c1.trans hp2) (by omega) hO hE)
 rw [a6x]
 generalize U0 nest l _=x at C ⊢
 have hpr:=hp2.out
 clear h htk he eg hO hE
 go_enter Tryz.func25,Tryz.ntmps25
 go_upto_region 1 with fail
 rw [← hW1,← hW2]
 clear hW1 hW2
 go_wp2_with fail
 (with_reducible refine Calls.mono C.out ?_)
 intro e w3 hq
 cases x with
 | error q =>
   obtain ⟨k,p⟩:=q
   obtain ⟨rfl,hg⟩:=hq
   refine And.intro rfl ?_
   exact ⟨rfl,b6 (b8 B2) hg⟩
 | ok q =>
   obtain ⟨t,r⟩:=q
   obtain ⟨a,cp,rfl,hs,hg,hl,hd⟩:=hq
   have Z3:=hid (Z2.out.grown hg (fun e => by have:=Option.some.inj e; have:=HB.out; omega))
   have HS:=hid hs
   have HG:=hid hg
   have HL:=hid hl
   have HD:=hid hd
   obtain ⟨⟨z0,z1,z2,z3,z4,z5⟩,⟨f0,f1,f2,f3,f4,f5⟩⟩:=Z3.out.cells
   have hzl:=Z3.out.lt
   clear hs hg hl hd C
   unfold trV
   go_wp2_with fail
   refine bodyPost_ret (v:=trV t a cp) (by simp [results,Tryz.results25,go_sem,trV,z0,z1,z2,z3,z4,z5]) rfl ?_
   have hz:=hz2.out
   have hb:=HB.out
   exact QP.fin HS (b6 (b8 B2) HG) (by omega) (by omega) HL (fun c hc => ⟨by have:=hc.1; omega,hc.2,by have:=hc.1; omega⟩) HD
end
section
open Lib (hid)
open Go.RowKit
structure Gx (P b B : Nat) (W W' : World) : Prop where
 os : W'.os=W.os
 tape : W'.tape=W.tape
 output : W'.output=W.output
 size : W.heap.size≤W'.heap.size
 block : ∀ k,k<B→k<W.heap.size→k≠P→k≠b→W'.heap[k]?=W.heap[k]?
theorem Gx.of {P b B : Nat} {W W' : World} (g : W.grownBy W' (some P)) : Gx P b B W W':=⟨g.os,g.tape,g.output,g.size,fun k _ hk hp _ => g.block k hk (fun e => hp (Option.some.inj e))⟩
theorem Gx.trans {P b B : Nat} {A C D : World} (h : Gx P b B A C) (k : Gx P b B C D) : Gx P b B A D :=
 ⟨k.os.trans h.os,k.tape.trans h.tape,k.output.trans h.output,Nat.le_trans h.size k.size,fun i hB hi hp hb => (k.block i hB (Nat.lt_of_lt_of_le hi h.size) hp hb).trans (h.block i hB hi hp hb)⟩
theorem Gx.grown {P b B : Nat} {w A C : World} (h : Gx P b B A C) (g : w.grownBy A (some P)) (hb : w.heap.size≤b) (hB : w.heap.size≤B) : w.grownBy C (some P) :=
 ⟨h.os.trans g.os,h.tape.trans g.tape,h.output.trans g.output,Nat.le_trans g.size h.size,fun i hi hp => (h.block i (by omega) (Nat.lt_of_lt_of_le hi g.size) (fun e => hp (by rw [e])) (by omega)).trans (g.block i hi hp)⟩
def a6v (P g cap : Nat) (ts : List Tk) (nest bx B : Nat) (J : List Nd→World→Prop) (acc : List Nd) (x : Rd) (w : World) (e : Ending) (w' : World) : Prop:=Gx P bx B w w'∧match x with
 | .ok (t,q) => e=.returned (.tuple #[])∧SQ P g cap ts nest q w'∧J (acc ++ [t]) w'
 | .error (k,p) => e=flt k p
def a4P (P g cap : Nat) (ts : List Tk) (nest bx B : Nat) (J : List Nd→World→Prop) (x : Rd) (w : World) (e : Ending) (w' : World) : Prop:=Gx P bx B w w'∧match x with
 | .ok (t,q) => e=.returned (.tuple #[])∧SQ P g cap ts nest q w'∧J t.kids w'
 | .error (k,p) => e=flt k p
def a5e (P g cap : Nat) (ts : List Tk) (nest bx B most : Nat) (J : List Nd→World→Prop) (rdr : List Tk→Rd) (l : List Tk) (X : Rd) (w : World) (acc : List Nd) (r : List Tk) (wr : World) : Prop :=
 SQ P g cap ts nest r wr∧J acc wr∧Gx P bx B w wr∧X=H5 rdr (most - acc.length) acc r∧r.length<l.length
theorem uG (P g cap : Nat) (ts : List Tk) (he : y7 ts) (nest : Nat) (l : List Tk) (most : Nat) (hm : most≤8) (K : Nat) (cs : Array Value) (rdr : List Tk→Rd) (bx B : Nat) (J : List Nd→World→Prop) (w : World) (hK : m7 K)
 (hJ : ∀ acc W W',J acc W→W.grownBy W' (some P)→J acc W') (hlen : ∀ r t q,rdr r=.ok (t,q)→q.length≤r.length)
 (hread : ∀ acc r W,r.length<l.length→acc.length<most→J acc W→SQ P g cap ts nest r W→Gx P bx B w W→Calls Tryz.prog K cs W (a6v P g cap ts nest bx B J acc (rdr r) W))
 (h : SQ P g cap ts nest l w) (hj : J [] w) (ho : isT o6 l=true) :
 Calls Tryz.prog 97 #[.pointer (some ⟨P,0,none⟩),.int .i64 most,.func (.func K) #[] cs] w (a4P P g cap ts nest bx B J (H5 rdr most [] (b9 l)) w):=by
 unfold m7 at hK
 have hln:=n5 ho
 obtain ⟨X,hX⟩ : ∃ X,X=H5 rdr most [] (b9 l):=⟨_,rfl⟩
 rw [← hX]
 have C1:=hid (V0 P g cap ts nest l ⟨#[40]⟩ o6 rfl w h he)
 have HO:=hid ho
 have HX:=hid hX
 have HJ:=hid hJ
 have HLn:=hid hln
 have HLe:=hid hlen
 have HR:=hid hread
 have HE:=hid he
 have HJ0:=hid hj
 clear h he hJ hlen hread hj ho hX hln
 go_enter Tryz.func97,Tryz.ntmps97
 go_wp2_with fail
 (with_reducible refine Calls.mono C1.out ?_)
 rintro e w1 ⟨hg,hq⟩
 obtain ⟨rfl,hs⟩:=hq.1 HO
 have I1:=hid (show a5e P g cap ts nest bx B most J rdr l X w [] (b9 l) w1 from ⟨hs,HJ.out _ _ _ HJ0 hg,Gx.of hg,HX,by have:=HLn.out; omega⟩)
 clear hg hq hs C1
 go_upto_block 0 with fail
 go_wp2_with fail
 go_loopw [6] (fun v wr => ∃ (acc : List Nd) (r : List Tk),v=.int .i64 acc.length∧acc.length≤most∧Hid (a5e P g cap ts nest bx B most J rdr l X w acc r wr)) (fun v _ => (most - (intOf v).toNat))
 case atStart => exact ⟨[],_,rfl,Nat.zero_le _,I1⟩
 case round =>
  obtain ⟨acc,r,rfl,ha,HI⟩:=hrel
  clear I1
  by_cases hk : acc.length=most
  ·have e0 : ((acc.length : Int) == (most : Int))=true:=by rw [hk]; exact beq_self_eq_true _
   have HXe:=hid (show X=.error (76,(hd r).pos) by rw [HI.out.2.2.2.1,hk,Nat.sub_self]; rfl)
   obtain ⟨a,rfl,hp⟩:=HI.out.1
   have hpos:=hp.pos
   have D:=hid (O0 hpos)
   obtain ⟨⟨p0,p1⟩,-⟩:=hp.cells
   obtain ⟨t0,t1,t2,t3⟩:=hp.tok
   have hL : 0<ts.length - a:=by omega
   have C3:=hid (aE P 76 (ts[a]'hpos).pos wr)
   generalize ts[a]'hpos=T at t0 t1 t2 t3 D C3
   generalize ts.length - a=L at p0 hL
   generalize cap - a=C at p0
   generalize a * 4=off at p0 t0 t1 t2 t3
   clear hp hpos hk
   go_wp2_with fail
   (with_reducible refine Calls.mono C3.out ?_)
   rintro e w2 ⟨rfl,rfl⟩
   refine And.intro rfl ?_
   rw [HXe.out,D.out]
   exact ⟨HI.out.2.2.1,rfl⟩
  ·have e0 : ((acc.length : Int) == (most : Int))=false:=beq_eq_false_iff_ne.2 (by omega)
   have hlt : acc.length<most:=by omega
   obtain ⟨f,hf⟩ : ∃ f,most - acc.length=f + 1:=⟨most - acc.length - 1,by omega⟩
   have HXn:=hid (show X=(rdr r).then fun t q => if isT l0 q=true then H5 rdr (most - (acc ++ [t]).length) (acc ++ [t]) (b9 q) else d9 m5 q fun q => .ok (mkN 0 [] 0 (acc ++ [t]) 0,q) by
    rw [HI.out.2.2.2.1,hf,H5]
    congr 1
    funext t q
    rw [show most - (acc ++ [t]).length=f by rw [List.length_append]; simp; omega])
   have C2:=hid (HR.out acc r wr HI.out.2.2.2.2 hlt HI.out.2.1 HI.out.1 HI.out.2.2.1)
   have HL2:=hid (fun t q (h : rdr r=.ok (t,q)) => HLe.out r t q h)
   generalize rdr r=x at C2 HXn HL2
   clear hk hf
   go_wp2_with fail
   (with_reducible refine Calls.mono C2.out ?_)
   intro e w3 hq
   obtain ⟨hg,hq⟩:=hq
   have G3:=hid (HI.out.2.2.1.trans hg)
   cases x with
   | error q =>
     obtain ⟨k,p⟩:=q
     obtain rfl:=hq
     refine And.intro rfl ?_
     rw [HXn.out]
     exact ⟨G3,rfl⟩
   | ok q =>
   obtain ⟨t,q⟩:=q
   obtain ⟨rfl,hs,hj⟩:=hq
   have S3:=hid hs
   have J3:=hid hj
   have HL3:=hid (HL2.out t q rfl)
   have C4:=hid (show Calls Tryz.prog 89 #[.pointer (some ⟨P,0,none⟩),.string ⟨#[44]⟩] w3 (fun e w' => e=.returned (.bool (isT l0 q))∧SQ P g cap ts nest (if isT l0 q=true then b9 q else q) w'∧w3.grownBy w' (some P)) from O9 P g cap ts nest q ⟨#[44]⟩ w3 S3 HE)
   have HXm:=hid (show X=if isT l0 q=true then H5 rdr (most - (acc ++ [t]).length) (acc ++ [t]) (b9 q) else d9 m5 q fun q => .ok (mkN 0 [] 0 (acc ++ [t]) 0,q) from HXn)
   have HC:=hid (fun h : isT l0 q=true => n5 h)
   generalize isT l0 q=b at C4 HXm HC
   clear hs hj hg C2 HXn HL2
   cases b
   ·have HX5:=hid (show X=d9 m5 q fun q => .ok (mkN 0 [] 0 (acc ++ [t]) 0,q) from HXm.out.trans (if_neg (by decide)))
    go_wp2_with fail
    (with_reducible refine Calls.mono C4.out ?_)
    rintro e w5 ⟨rfl,hs,hg⟩
    rw [if_neg (by decide)] at hs
    have C5:=hid (show Calls Tryz.prog 53 #[.pointer (some ⟨P,0,none⟩),.string ⟨#[41]⟩] w5 (eR P g cap ts nest m5 q w5) from V0 P g cap ts nest q ⟨#[41]⟩ m5 rfl w5 hs HE)
    have G5:=hid (G3.out.trans (Gx.of hg))
    have J5:=hid (HJ.out _ _ _ J3 hg)
    clear hs hg C4
    go_wp2_with fail
    (with_reducible refine Calls.mono C5.out ?_)
    rintro e w6 ⟨hg,hq⟩
    cases hw : isT m5 q
    ·obtain rfl:=hq.2 hw
     refine And.intro rfl ?_
     rw [HX5.out,X9 hw]
     exact ⟨G5.out.trans (Gx.of hg),rfl⟩
    ·obtain ⟨rfl,hs⟩:=hq.1 hw
     have HX6:=hid (HX5.out.trans (L7 hw))
     have S6:=hid hs
     have G6:=hid (G5.out.trans (Gx.of hg))
     have J6:=hid (HJ.out _ _ _ J5 hg)
     clear hs hg hq hw
     go_wp2_with fail
     (first | (refine bodyPost_end (results_none rfl _ _ _) rfl ?_) | (refine bodyPost_ret (results_none rfl _ _ _) rfl ?_))
     rw [HX6.out]
     exact ⟨G6,rfl,S6,J6⟩
   ·have HX5:=hid (show X=H5 rdr (most - (acc ++ [t]).length) (acc ++ [t]) (b9 q) from HXm.out.trans (if_pos rfl))
    have HC':=hid (HC.out rfl)
    go_wp2_with fail
    (with_reducible refine Calls.mono C4.out ?_)
    rintro e w5 ⟨rfl,hs,hg⟩
    replace hs : SQ P g cap ts nest (b9 q) w5:=by simpa using hs
    have I5:=hid (show a5e P g cap ts nest bx B most J rdr l X w (acc ++ [t]) (b9 q) w5 from ⟨hs,HJ.out _ _ _ J3 hg,G3.out.trans (Gx.of hg),HX5,by have:=HC'.out; have:=HL3.out; have:=HI.out.2.2.2.2; omega⟩)
    clear hs hg C4
    go_wp2_with fail
    go_roundw
    case rel => exact ⟨acc ++ [t],b9 q,by rw [List.length_append]; rfl,by rw [List.length_append]; simp; omega,I5⟩
    case measure => simp [intOf]; omega
end
section
open Lib (hid)
open Go.RowKit
def rV (L : List Ent) : List Value:=L.flatMap trC
theorem a45 (L : List Ent) (e : Ent) : rV (L ++ [e])=rV L ++ trC e:=by unfold rV; simp
theorem a1H : ∀ (L : List Ent) (j : Nat) (hj : j<L.length) (i : Nat) (_ : i<6),(rV L)[j * 6 + i]?=(trC L[j])[i]?
 | e :: L,0,_,i,hi => by
   unfold rV
   rw [List.flatMap_cons,Nat.zero_mul,Nat.zero_add,List.getElem?_append_left (by exact hi)]
   rfl
 | e :: L,j + 1,hj,i,hi => by
   have:=a1H L j (by simpa using hj) i hi
   unfold rV at this ⊢
   rw [List.flatMap_cons,List.getElem?_append_right (by show 6≤_; omega)]
   rw [show (j + 1) * 6 + i - (trC e).length=j * 6 + i by show (j + 1) * 6 + i - 6=_; omega]
   exact this
theorem a66 (e : Ent) : ∀ u∈trC e,u.oneCell'=true:=by
 intro u hu
 unfold trC at hu
 rcases List.mem_append.1 hu with h | h
 ·exact oF e u h
 ·obtain rfl:=List.mem_singleton.1 h; rfl
theorem a0I (W : World) (T : TypeId) (v0 v1 v2 v3 v4 v5 : Value) : ∀ j u,[v0,v1,v2,v3,v4,v5][j]?=some u→(W.alloc (.cells #[v0,v1,v2,v3,v4,v5] T)).cell? ((⟨W.heap.size,0,none⟩ : Addr).add j)=some u:=by
 intro j u h
 rw [Go.WideShapes.add_plain,Nat.zero_add]
 have h' : (W.alloc (.cells #[v0,v1,v2,v3,v4,v5] T)).heap[W.heap.size]?=some (.cells #[v0,v1,v2,v3,v4,v5] T (0,0)):=by show (W.heap.push _)[W.heap.size]?=_; simp
 rw [World.cell?]
 simp only [h']
 match j,h with
 | 0,h => exact h
 | 1,h => exact h
 | 2,h => exact h
 | 3,h => exact h
 | 4,h => exact h
 | 5,h => exact h
theorem a3Y {base T : Nat} {W : World} {g cp : Nat} {L : List Ent} (h : W.ownsRow base T 6 (.slice (some ⟨g,0,none⟩) L.length cp) L.length (rV L)) : mG W g 0 L:=by
 have hc:=h.cells (g:=g) rfl
 intro j hj
 have q : ∀ i,i<6→∀ u,(trC L[j])[i]?=some u→W.cell? ⟨g,0 + j * 6 + i,none⟩=some u:=fun i hi u hu => by
  have:=hc (j * 6 + i) u (by rw [a1H L j hj i hi]; exact hu)
  rw [Go.WideShapes.add_plain] at this
  rw [Nat.add_assoc]
  exact this
 exact ⟨q 0 (by decide) _ rfl,q 1 (by decide) _ rfl,q 2 (by decide) _ rfl,q 3 (by decide) _ rfl,q 4 (by decide) _ rfl,q 5 (by decide) _ rfl⟩
def nE (base kb pb P : Nat) (acc : List Nd) (W : World) : Prop:=W.cell? ⟨pb,0,none⟩=some (.pointer (some ⟨P,0,none⟩))∧base≤W.heap.size∧∃ (L : List Ent) (ao : Option Addr) (cp : Nat),L.map (·.1)=acc∧W.heap[kb]?=some (.cells #[.slice ao L.length cp] 114 (0,0)) ∧
 W.ownsRow base 50 6 (.slice ao L.length cp) L.length (rV L)∧∀ e∈L,c8 e.1≤100∧e.1.lies (fun c => base≤c∧c<W.heap.size∧(Value.slice ao L.length cp).ownBlock≠some c) W e.2.1 e.2.2
theorem nE.grown {base kb pb P : Nat} {acc : List Nd} {W W' : World} (h : nE base kb pb P acc W) (g : W.grownBy W' (some P)) (hP : P<base) (hk : kb≠P) (hp : pb≠P∧pb<base) : nE base kb pb P acc W':=by
 obtain ⟨h1,h2,L,ao,cp,h3,h4,h5,h6⟩:=h
 have hkb : kb<W.heap.size:=(Array.getElem?_eq_some_iff.1 h4).1
 refine ⟨(World.cell?_of_block (g.block pb (by omega) (fun e => hp.1 (Option.some.inj e)))).trans h1,Nat.le_trans h2 g.size,L,ao,cp,h3,(g.block kb hkb (fun e => hk (Option.some.inj e))).trans h4,h5.kept g ?_,fun e he => ?_⟩
 ·cases hv : (Value.slice ao L.length cp).ownBlock with
  | none => exact .inl rfl
  | some c => exact .inr (fun e => by have:=(h5.lt c hv).1; cases e; omega)
 ·obtain ⟨hd,hl⟩:=h6 e he
  exact ⟨hd,d5 hl (fun c hc => g.block c hc.2.1 (fun e => by have:=Option.some.inj e; have:=hc.1; omega)) fun c hc => ⟨hc.1,Nat.lt_of_lt_of_le hc.2.1 g.size,hc.2.2⟩⟩
theorem a08 (P g cap : Nat) (ts : List Tk) (nest base kb pb : Nat) (acc : List Nd) (r : List Tk) (w : World) (hn : nest≤300) (h : SQ P g cap ts nest r w) (hj : nE base kb pb P acc w) (ha : acc.length≤8) (hP : P<base∧g<base) (hk : kb≠P∧kb≠g∧kb<base) (hp : pb≠P∧pb<base∧pb≠kb)
 (hE : CQ 25 .expr P g cap ts r) : Calls Tryz.prog 222 #[.pointer (some ⟨kb,0,none⟩),.pointer (some ⟨pb,0,none⟩)] w (a6v P g cap ts nest kb base (nE base kb pb P) acc (rd .expr nest r) w):=by
 obtain ⟨i0,hi,hz0,hz1,hz2⟩:=info_parts (show (Tryz.prog.info? 50).map (fun i => (i.zero,i.size,i.bytes))=some (some (.agg #[.int .i64 0,.string ⟨#[]⟩,.int .i64 0,.slice none 0 0,.int .i64 0,.int .i64 0]),6,72) by kernel_rfl)
 have HI0:=hid (show _∧_∧_∧_ from ⟨hi,hz0,hz1,hz2⟩)
 clear hi hz0 hz1 hz2
 have BD:=hid (show Below w.heap.size w w.drew from A7 (Below.refl _ _))
 have HJ:=hid hj
 obtain ⟨q1,q2,L,ao,cp,q3,q4,q5,q6⟩:=hj
 have HL6:=hid q6
 have HO:=hid q5
 have HM:=hid q3
 have HK4:=hid q4
 have hLl : L.length≤8:=by rw [← q3,List.length_map] at ha; exact ha
 have hkc : w.cell? ⟨kb,0,none⟩=some (.slice ao L.length cp):=by simp [World.cell?,q4]
 have C1:=hid (hE nest w.drew hn (h.below BD))
 have HS:=hid h.blocks
 have HC0:=hid (show w.cell? ⟨kb,0,none⟩=some (.slice ao L.length cp)∧w.cell? ⟨pb,0,none⟩=some (.pointer (some ⟨P,0,none⟩)) from ⟨hkc,q1⟩)
 have hkw : kb<w.heap.size:=(Array.getElem?_eq_some_iff.1 q4).1
 generalize rd .expr nest r=x at C1 ⊢
 clear h hE q3 q4 q5 q6 hkc
 go_enter Tryz.func222,Tryz.ntmps222
 refine e8 (S:=(fun cur => cur.cell? ⟨kb,0,none⟩=some (.slice ao L.length cp)∧cur.cell? ⟨pb,0,none⟩=some (.pointer (some ⟨P,0,none⟩)))) (z:=5) (by kernel_rfl) ?_ (fun hHeld => ?_)
 ·exact HC0
 refine b7.t 0 ?_; refine b7.t 1 ?_
 refine b7.nx 2 fun K hK => ?_
 go_simp
 (with_reducible refine Calls.mono C1.out ?_)
 intro e w4 hq
 cases x with
 | error q =>
   obtain ⟨k0,p0⟩:=q
   obtain ⟨rfl,hg⟩:=hq
   refine And.intro rfl ?_
   exact ⟨Gx.of (b6 (b8 BD) hg),rfl⟩
 | ok q =>
 obtain ⟨t,q⟩:=q
 obtain ⟨a,c,rfl,hs,hg,hl,hdp⟩:=hq
 have S4:=hid hs
 have G4:=hid (show w.grownBy w4 (some P) from b6 (b8 BD) hg)
 have HL4:=hid (show t.lies (Fr w.heap.size w4.heap.size) w4 a c from hl)
 have HD4:=hid hdp
 have HK5:=hid (show w4.heap[kb]?=some (.cells #[.slice ao L.length cp] 114 (0,0)) from (G4.out.block kb hkw (fun e => hk.1 (Option.some.inj e))).trans HK4)
 have HC4:=hid (show w4.cell? ⟨kb,0,none⟩=some (.slice ao L.length cp)∧w4.cell? ⟨pb,0,none⟩=some (.pointer (some ⟨P,0,none⟩)) from
  ⟨(World.cell?_of_block (G4.out.block kb hkw (fun e => hk.1 (Option.some.inj e)))).trans HC0.out.1,(World.cell?_of_block (G4.out.block pb (by omega) (fun e => hp.1 (Option.some.inj e)))).trans HC0.out.2⟩)
 have HO4:=hid (show w4.ownsRow base 50 6 (.slice ao L.length cp) L.length (rV L) from HO.out.kept G4 (by
  cases hv : (Value.slice ao L.length cp).ownBlock with
  | none => exact .inl rfl
  | some c => exact .inr (fun e => by have:=(HO.out.lt c hv).1; cases e; omega)))
 have HOB:=hid (show ∀ d,(Value.slice ao L.length cp).ownBlock=some d→base≤d∧d<w.heap.size from fun d hd => HO.out.lt d hd)
 clear hs hg hl hdp C1
 unfold trV
 go_wp2_with fail
 refine hK.out _ _ ?_ (fun hHeld => ?_)
 ·exact HC4
 clear hK K
 try simp only [Act.put,c9,f8,f7]
 refine b7.nx 3 fun K hK => ?_
 go_simp
 obtain ⟨W5,hW5⟩ : ∃ W,W=w4.alloc (.cells #[.int .i64 t.kind,.string t.text,.int .i64 t.n,.slice a t.kids.length c,.int .i64 t.place,.int .i64 (c8 t)] 50):=⟨_,rfl⟩
 have B5:=hid (show Below w4.heap.size w4 W5 from hW5 ▸ c6 _ _)
 have N5:=hid (show ∀ i u,(trC (t,a,c))[i]?=some u→W5.cell? ((⟨w4.heap.size,0,none⟩ : Addr).add i)=some u from hW5 ▸ a0I _ _ _ _ _ _ _ _)
 have O5:=hid (show W5.ownsRow base 50 6 (.slice ao L.length cp) L.length (rV L) from n7 HO4 B5)
 have hz5:=hid (show W5.heap.size=w4.heap.size + 1 by rw [hW5]; simp)
 have HK6:=hid (show W5.heap[kb]?=some (.cells #[.slice ao L.length cp] 114 (0,0)) from (B5.out.block kb (by have:=G4.out.size; omega)).trans HK5)
 have HC5:=hid (show W5.cell? ⟨kb,0,none⟩=some (.slice ao L.length cp)∧W5.cell? ⟨pb,0,none⟩=some (.pointer (some ⟨P,0,none⟩)) from
  ⟨(B5.out.cell (p:=⟨kb,0,none⟩) (by show kb<w4.heap.size; have:=G4.out.size; omega)).trans HC4.out.1,(B5.out.cell (p:=⟨pb,0,none⟩) (by show pb<w4.heap.size; have:=G4.out.size; omega)).trans HC4.out.2⟩)
 have HF:=hid (show ∀ w6,W5.grownBy w6 (Value.slice ao L.length cp).ownBlock→w6.heap[kb]?=some (.cells #[.slice ao L.length cp] 114 (0,0))∧(w6.cell? ⟨kb,0,none⟩=some (.slice ao L.length cp)∧w6.cell? ⟨pb,0,none⟩=some (.pointer (some ⟨P,0,none⟩))) from fun w6 hg6 => by
  have h1 : ∀ d,d<base→w6.heap[d]?=W5.heap[d]?:=fun d hd => hg6.block d (by have:=G4.out.size; have:=hz5.out; omega) (fun e => by have:=(HOB.out d e.symm).1; omega)
  exact ⟨(h1 kb hk.2.2).trans HK6,(World.cell?_of_block (h1 kb hk.2.2)).trans HC5.out.1,(World.cell?_of_block (h1 pb hp.2.1)).trans HC5.out.2⟩)
 rw [← hW5]
 clear hW5
 refine hK.out _ _ ?_ (fun hHeld => ?_)
 ·exact HC5
 clear hK K
 try simp only [Act.put,c9,f8,f7]
 refine b7.nx 4 fun K hK => ?_
 refine step_append_lies _ rfl _ _ 114 rfl base 50 i0 (.agg #[.int .i64 0,.string ⟨#[]⟩,.int .i64 0,.slice none 0 0,.int .i64 0,.int .i64 0]) 6 72 Tryz.underlying114 HI0.out.1 HI0.out.2.1 HI0.out.2.2.1 HI0.out.2.2.2 rfl (by decide) _ _ _ rfl O5 ⟨w4.heap.size,0,none⟩ 1 1 (trC (t,a,c)) rfl rfl N5 (a66 _) (by decide) (by unfold maxLen; omega) (by omega) (by have:=G4.out.size; have:=hz5.out; omega) _ rfl ?_
 intro gb cap' w6 hown' hgrow' hat hltg
 have X6:=hid (HF.out w6 hgrow')
 have HO6:=hid hown'
 have HG6:=hid hgrow'
 have HAT:=hid hat
 clear hown' hgrow' hat
 refine hK.out _ _ ?_ (fun hHeld => ?_)
 ·exact X6.out.2
 clear hK K
 try simp only [Act.put,c9,f8,f7]
 have hk6:=X6.out.2.1
 have hf6 : w6.frozen? ⟨kb,0,none⟩=false:=by simp [World.frozen?,X6.out.1]
 have hkl : kb<w6.heap.size:=(Array.getElem?_eq_some_iff.1 X6.out.1).1
 refine b7.la fun K hK => ?_
 go_simp
 refine hK.out _ _ ?_
 clear hK K
 go_wp2_with fail
 (first | (refine bodyPost_end (results_none rfl _ _ _) rfl ?_) | (refine bodyPost_ret (results_none rfl _ _ _) rfl ?_))
 have h4:=G4.out.size
 have h5:=hz5.out
 have h6:=HG6.out.size
 have h1 : ∀ d,d<w4.heap.size→(Value.slice ao L.length cp).ownBlock≠some d→w6.heap[d]?=w4.heap[d]?:=fun d hd hne => (HG6.out.block d (by omega) (fun e => hne e.symm)).trans (B5.out.block d hd)
 have hlow : ∀ d,d<base→(Value.slice ao L.length cp).ownBlock≠some d:=fun d hd e => by have:=(HOB.out d e).1; omega
 have hset : ∀ d,d≠kb→(w6.setCell ⟨kb,0,none⟩ (.slice (some ⟨gb,0,none⟩) (L.length + 1) cap')).heap[d]?=w6.heap[d]?:=fun d hd => Below.heap_setCell _ _ _ _ hd
 have hgb:=HO6.out.lt gb rfl
 have hgbk : gb≠kb:=by omega
 have hold : (Value.slice ao L.length cp).ownBlock=some gb∨gb=W5.heap.size:=HAT.out
 have hgb2 : ∀ c,c<w4.heap.size→(Value.slice ao L.length cp).ownBlock≠some c→c≠gb:=fun c hc hne e => by
  subst e
  rcases hold with e | e
  ·exact hne e
  ·omega
 refine ⟨⟨HG6.out.os.trans (B5.out.os.trans G4.out.os),HG6.out.tape.trans (B5.out.tape.trans G4.out.tape),HG6.out.output.trans (B5.out.output.trans G4.out.output),by simp [World.setCell]; omega,fun d hdB hdw hdP hdk => (hset d hdk).trans ((h1 d (by omega) (hlow d hdB)).trans (G4.out.block d hdw (fun e => hdP (Option.some.inj e))))⟩,rfl,?_,?_⟩
 ·refine S4.out.keeps (fun d hd => ?_) (by simp [World.setCell]; omega)
  have hb:=S4.out.blocks
  rcases hd with rfl | rfl
  ·exact (hset _ (fun e => hk.1 e.symm)).trans (h1 _ (by omega) (hlow _ hP.1))
  ·exact (hset _ (fun e => hk.2.1 e.symm)).trans (h1 _ (by omega) (hlow _ hP.2))
 ·refine ⟨(World.cell?_of_block (hset pb hp.2.2)).trans X6.out.2.2,by simp [World.setCell]; omega,L ++ [(t,a,c)],some ⟨gb,0,none⟩,cap',by rw [List.map_append,HM.out]; rfl,?_,?_,fun e he => ?_⟩
  ·rw [show (L ++ [(t,a,c)]).length=L.length + 1 by simp]
   exact l5 X6.out.1 0 _
  ·rw [a45,show (L ++ [(t,a,c)]).length=L.length + 1 by simp]
   exact HO6.out.kept (e9 w6 kb 0 _) (.inr (fun e => hgbk (Option.some.inj e)))
  ·have key : ∀ {av : Nat→Prop} {u : Nd} {ua : Option Addr} {uc : Nat},u.lies av w4 ua uc→(∀ d,av d→base≤d∧d<w4.heap.size∧(Value.slice ao L.length cp).ownBlock≠some d)→u.lies (fun d => base≤d∧d<(w6.setCell ⟨kb,0,none⟩ (.slice (some ⟨gb,0,none⟩) (L.length + 1) cap')).heap.size∧(Value.slice (some ⟨gb,0,none⟩) (L ++ [(t,a,c)]).length cap').ownBlock≠some d) (w6.setCell ⟨kb,0,none⟩ (.slice (some ⟨gb,0,none⟩) (L.length + 1) cap')) ua uc:=fun hl hav =>
    d5 hl (fun d hd => (hset d (by have:=(hav d hd).1; omega)).trans (h1 d (hav d hd).2.1 (hav d hd).2.2)) fun d hd => ⟨(hav d hd).1,by simp [World.setCell]; have:=(hav d hd).2.1; omega,fun e => hgb2 d (hav d hd).2.1 (hav d hd).2.2 (Option.some.inj e).symm⟩
   rcases List.mem_append.1 he with he | he
   ·obtain ⟨hd1,hl1⟩:=HL6.out e he
    exact ⟨hd1,key (d5 hl1 (fun d hd => G4.out.block d hd.2.1 (fun e => by have:=Option.some.inj e; have:=hd.1; omega)) fun d hd => hd) fun d hd => ⟨hd.1,by have:=hd.2.1; omega,hd.2.2⟩⟩
   ·obtain rfl:=List.mem_singleton.1 he
    exact ⟨HD4,key HL4 fun d hd => ⟨by have:=hd.1; omega,hd.2,fun e => by have:=(HOB.out d e).2; have:=hd.1; omega⟩⟩
end
end Go.Proofs.YtibiccacafjjfaaGreatDoor
