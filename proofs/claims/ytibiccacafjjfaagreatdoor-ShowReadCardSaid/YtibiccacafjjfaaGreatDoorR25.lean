/-
  Laws that the proof rests on.
-/
import Derived.Test.YtibiccacafjjfaaGreatDoorR24
import Derived.Test.YtibiccacafjjfaaGreatDoorR20
import Derived.Deep.Cut
namespace Go.Proofs.YtibiccacafjjfaaGreatDoor
set_option maxRecDepth 100000
set_option maxHeartbeats 16000000
section
open Lib (hid)
open Go.RowKit
theorem fH (P g cap : Nat) (ts : List Tk) (he : y6 ts) (htk : ∀ t∈ts,z7 t) (nest : Nat) (l : List Tk) (k : Int) (s : List UInt8) (n : Int) (pb : Nat) (w : World) (h : SQ P g cap ts nest l w) (hp : w.cell? ⟨pb,0,none⟩=some (.pointer (some ⟨P,0,none⟩))) (hpb : pb≠P∧pb<w.heap.size)
 (hk : (Lit.int .i64 k).wf=true) (hs : s.length≤16384) (hn : (Lit.int .i64 n).wf=true) :
 Calls Tryz.prog 218 #[.agg #[.int .i64 k,.string ⟨s.toArray⟩,.int .i64 n,.slice none 0 0,.int .i64 0],.pointer (some ⟨pb,0,none⟩)] w (QP P g cap ts nest (.ok (mkN k s n [] (hd l).pos,b9 l)) w):=by
 have HT0:=hid (htk _ h.mem)
 have HB:=hid h.blocks
 have HH:=hid (show (Lit.int .i64 k).wf=true∧s.length≤16384∧(Lit.int .i64 n).wf=true from ⟨hk,hs,hn⟩)
 obtain ⟨W1,hW1⟩ : ∃ W,W=w.alloc (.cells #[.int .i64 k,.string ⟨s.toArray⟩,.int .i64 n,.slice none 0 0,.int .i64 0] 24):=⟨_,rfl⟩
 have B1:=hid (show Below w.heap.size w W1 from hW1 ▸ c6 _ _)
 have hz1:=hid (show W1.heap.size=w.heap.size + 1 by rw [hW1]; simp)
 have N1:=hid (show f6 w.heap.size (.mk k ⟨s.toArray⟩ n [] 0) none 0 W1 from hW1 ▸ f6.make w (.mk k ⟨s.toArray⟩ n [] 0) none 0)
 obtain ⟨W2,hW2⟩ : ∃ W,W=W1.alloc (.cells #[.int .i64 0,.string ⟨#[]⟩,.int .i64 0,.slice none 0 0,.int .i64 0,.int .i64 0] 50):=⟨_,rfl⟩
 have B2':=hid (show Below W1.heap.size W1 W2 from hW2 ▸ c6 _ _)
 have B2:=hid (B1.out.trans (B2'.out.mono B1.out.size))
 have Z2:=hid (show T6 (w.heap.size + 1) 0 ⟨#[]⟩ 0 none 0 0 0 0 W2 from hW2 ▸ (show w.heap.size + 1=W1.heap.size by rw [hz1.out]) ▸ T6.make W1 _ _ _ _ _ _ _ _)
 have N2:=hid (N1.out.below B2')
 have hp2:=(B2.out.cell (p:=⟨pb,0,none⟩) hpb.2).trans hp
 have C1:=hid (dP P g cap ts nest l W2 (h.below B2) he)
 generalize hd l=T at C1 HT0 ⊢
 have hfd:=iY T.kind T.n T.pos ⟨T.text.toArray⟩
 have HPc:=hid hp
 have hz2:=hid (show w.heap.size + 1<W2.heap.size from Z2.out.lt)
 generalize hsb : (⟨s.toArray⟩ : ByteArray)=sb at hW1 N1 N2 ⊢
 have HSB:=hid hsb
 clear h he htk hk hs hn hp hsb
 go_enter Tryz.func218,Tryz.ntmps218
 go_upto_region 1 with fail
 rw [← hW1,← hW2]
 clear hW1 hW2
 go_wp2_with fail
 (with_reducible refine Calls.mono C1.out ?_)
 rintro e w3 ⟨rfl,hs,hg⟩
 have G3:=hid (b6 (b8 B2) hg)
 have S3:=hid hs
 have N3:=hid (N2.out.grown hg (by have:=HB.out; omega))
 have Z3:=hid (Z2.out.grown hg (fun e => by have:=Option.some.inj e; have:=HB.out; omega))
 have hp3 : w3.cell? ⟨pb,0,none⟩=some (.pointer (some ⟨P,0,none⟩)):=(World.cell?_of_block (G3.out.block pb hpb.2 (fun e => hpb.1 (Option.some.inj e)))).trans HPc
 obtain ⟨⟨n0,n1,n2,n3,n4⟩,⟨m0,m1,m2,m3,m4⟩⟩:=N3.out.cells
 have hn3:=N3.out.lt
 simp only [Nd.kind,Nd.text,Nd.n,Nd.kids,Nd.place,List.length_nil] at n0 n1 n2 n3 n4
 have N4:=hid (show f6 w.heap.size (.mk k sb n [] T.pos) none 0 (w3.setCell ⟨w.heap.size,4,none⟩ (.int .i64 T.pos)) from
  l3 (show w3.heap[w.heap.size]?=some (.cells #[.int .i64 k,.string sb,.int .i64 n,.slice none 0 0,.int .i64 0] 24 (0,0)) from N3) 4 _)
 obtain ⟨W4,hW4⟩ : ∃ W,W=w3.setCell ⟨w.heap.size,4,none⟩ (.int .i64 T.pos):=⟨_,rfl⟩
 rw [← hW4] at N4
 have HBk:=hid (show ∀ d,d≠w.heap.size→W4.heap[d]?=w3.heap[d]? from fun d hd => hW4 ▸ Below.heap_setCell _ _ _ _ hd)
 have hz4:=hid (show W4.heap.size=w3.heap.size by rw [hW4]; simp [World.setCell])
 have G4:=hid (show w.grownBy W4 (some P) from eA G3 (hW4 ▸ e9 w3 w.heap.size 4 _) (Nat.le_refl _))
 have S4:=hid (show SQ P g cap ts nest (b9 l) W4 from hW4 ▸ S3.out.set_other (by have:=HB.out; omega) (by have:=HB.out; omega) 4 _)
 have Z4:=hid (show T6 (w.heap.size + 1) 0 ⟨#[]⟩ 0 none 0 0 0 0 W4 from (HBk.out _ (by omega)).trans Z3)
 clear hs hg C1 hp2
 unfold tkV
 go_upto_region 2 with fail
 rw [← hW4]
 clear hW4 n0 n1 n2 n3 n4 m0 m1 m2 m3 m4 hn3 hp3 hfd
 have hp4 : W4.cell? ⟨pb,0,none⟩=some (.pointer (some ⟨P,0,none⟩)):=(World.cell?_of_block (G4.out.block pb hpb.2 (fun e => hpb.1 (Option.some.inj e)))).trans HPc
 obtain ⟨⟨n0,n1,n2,n3,n4⟩,-⟩:=N4.out.cells
 have hn4:=N4.out.lt
 simp only [Nd.kind,Nd.text,Nd.n,Nd.kids,Nd.place,List.length_nil] at n0 n1 n2 n3 n4
 have C5:=hid (show Calls Tryz.prog 54 #[.pointer (some ⟨P,0,none⟩),.agg #[.int .i64 k,.string sb,.int .i64 n,.slice none 0 0,.int .i64 T.pos],.slice none 0 0] W4 (gR k s n T.pos [] W4) by
  have:=aO P k s n T.pos none 0 [] W4 (by decide) (fun h => absurd rfl h) (fun e he => (by cases he))
  rw [HSB.out] at this
  exact this)
 go_wp2_with fail
 (with_reducible refine Calls.mono C5.out ?_)
 intro e wy hm
 have HMR:=hid (show jL (made (mkN k s n [] T.pos) (b9 l)) (fun _ => False) W4 e wy from hm.use HH.out.1 HH.out.2.1 HH.out.2.2 HT0.out.2.1 (fun c hc => hc.elim) (fun e he => (by cases he)) (b9 l))
 have hmd : made (mkN k s n [] T.pos) (b9 l)=.ok (mkN k s n [] T.pos,b9 l):=cS (by unfold mkN; rw [c8,i7]; decide)
 rw [hmd] at HMR
 clear hm C5
 obtain ⟨hb8,a4,c4,rfl,hl3,hd3⟩:=HMR.out
 have By:=hid hb8
 have HL4:=hid hl3
 have HD4:=hid hd3
 have Zy:=hid (Z4.out.below By)
 obtain ⟨⟨z0,z1,z2,z3,z4,z5⟩,⟨f0,f1,f2,f3,f4,f5⟩⟩:=Zy.out.cells
 have hzl:=Zy.out.lt
 obtain ⟨t4,ht4⟩ : ∃ t,t=mkN k s n [] T.pos:=⟨_,rfl⟩
 rw [← ht4] at HL4 HD4 ⊢
 have HT4:=hid ht4
 clear ht4
 clear hmd hl3 hd3 hb8 HMR
 unfold trV
 go_wp2_with fail
 refine bodyPost_ret (v:=trV t4 a4 c4) (by simp [results,Tryz.results218,go_sem,trV,z0,z1,z2,z3,z4,z5]) rfl ?_
 rw [← HT4.out]
 have h2:=By.out.size
 have hb:=HB.out
 have h4:=hz4.out
 have h5:=Z3.out.lt
 exact QP.fin (S4.out.below By) (b6 G4 (b8 By)) (by omega) (by omega) HL4 (fun c hc => by
  rcases hc with hc | hc
  ·exact hc.elim
  ·have:=hc.1; have:=hc.2; omega) HD4
def cF (P : Nat) (T : Tk) (w : World) : World:=((w.alloc (.cells #[.pointer (some ⟨P,0,none⟩)] 48)).alloc (.cells #[.int .i64 0,.string ⟨#[]⟩,.int .i64 0,.slice none 0 0,.int .i64 0,.int .i64 0] 50)).alloc (.cells #[.int .i64 T.kind,.string ⟨T.text.toArray⟩,.int .i64 T.n,.int .i64 T.pos] 79)
theorem bM {P g cap : Nat} {ts : List Tk} {nest : Nat} {l : List Tk} {w : World} (h : SQ P g cap ts nest l w) (htk : ∀ t∈ts,z7 t) : ∃ (T : Tk) (Ln C off : Nat),Hid (hd l=T)∧Hid (z7 T)∧P<w.heap.size∧g<w.heap.size∧0<Ln ∧
 w.cell? ⟨P,0,none⟩=some (.slice (some ⟨g,off,none⟩) Ln C)∧w.cell? ⟨P,1,none⟩=some (.int .i64 nest)∧w.cell? ⟨g,off,none⟩=some (.int .i64 T.kind)∧w.cell? ⟨g,off + 1,none⟩=some (.string ⟨T.text.toArray⟩)∧w.cell? ⟨g,off + 2,none⟩=some (.int .i64 T.n)∧w.cell? ⟨g,off + 3,none⟩=some (.int .i64 T.pos) ∧
 ∀ W3,W3=cF P T w→Hid (Below w.heap.size w W3)∧Hid (W3.heap.size=w.heap.size + 3)∧Hid (W3.cell? ⟨w.heap.size,0,none⟩=some (.pointer (some ⟨P,0,none⟩)))∧Hid (T6 (w.heap.size + 1) 0 ⟨#[]⟩ 0 none 0 0 0 0 W3)∧Hid (QT (w.heap.size + 1 + 1) T W3)∧Hid (SQ P g cap ts nest l W3)∧Hid (w.grownBy W3 (some P)) ∧
  Hid (∀ W : World,W3.grownBy W (some P)→W.cell? ⟨w.heap.size,0,none⟩=some (.pointer (some ⟨P,0,none⟩))∧T6 (w.heap.size + 1) 0 ⟨#[]⟩ 0 none 0 0 0 0 W∧QT (w.heap.size + 1 + 1) T W):=by
 have HT0:=hid (htk _ h.mem)
 obtain ⟨a,hl,hp⟩:=h
 have h : SQ P g cap ts nest l w:=⟨a,hl,hp⟩
 have hpos:=hp.pos
 have hPlt:=hp.plt
 have hg0:=hp.lt
 have D:=hid (show hd l=ts[a]'hpos by rw [hl,O7 hpos])
 obtain ⟨⟨p0,p1⟩,-⟩:=hp.cells
 obtain ⟨t0,t1,t2,t3⟩:=hp.tok
 have hL : 0<ts.length - a:=by omega
 generalize ts[a]'hpos=T at t0 t1 t2 t3 D
 generalize ts.length - a=Ln at p0 hL
 generalize cap - a=C at p0
 generalize a * 4=off at p0 t0 t1 t2 t3
 rw [D.out] at HT0
 refine ⟨T,Ln,C,off,D,HT0,hPlt,hg0,hL,p0,p1,t0,t1,t2,t3,fun W3 hW3 => ?_⟩
 unfold cF at hW3
 have B3:=hid (show Below w.heap.size w W3 from hW3 ▸ (D6 w _ _).alloc (D6 w _ _).size _)
 have hz3:=hid (show W3.heap.size=w.heap.size + 3 by rw [hW3]; simp)
 have hpc:=hid (show W3.cell? ⟨w.heap.size,0,none⟩=some (.pointer (some ⟨P,0,none⟩)) by
  rw [hW3]
  exact ((D6 (w.alloc (.cells #[.pointer (some ⟨P,0,none⟩)] 48)) _ _).cell (p:=⟨w.heap.size,0,none⟩) (by simp)).trans (by simp))
 have Z3:=hid (show T6 (w.heap.size + 1) 0 ⟨#[]⟩ 0 none 0 0 0 0 W3 from hW3 ▸ by
  have:=T6.make (w.alloc (.cells #[.pointer (some ⟨P,0,none⟩)] 48)) 0 ⟨#[]⟩ 0 none 0 0 0 0
  rw [World.size_alloc] at this
  exact this.below (c6 _ _))
 have Q3:=hid (show QT (w.heap.size + 1 + 1) T W3 from hW3 ▸ by
  have:=QT.make ((w.alloc (.cells #[.pointer (some ⟨P,0,none⟩)] 48)).alloc (.cells #[.int .i64 0,.string ⟨#[]⟩,.int .i64 0,.slice none 0 0,.int .i64 0,.int .i64 0] 50)) T
  rw [World.size_alloc,World.size_alloc] at this
  exact this)
 have S3:=hid (h.below B3)
 have G3:=hid (show w.grownBy W3 (some P) from b8 B3)
 have HC:=hid (show ∀ W : World,W3.grownBy W (some P)→W.cell? ⟨w.heap.size,0,none⟩=some (.pointer (some ⟨P,0,none⟩))∧T6 (w.heap.size + 1) 0 ⟨#[]⟩ 0 none 0 0 0 0 W∧QT (w.heap.size + 1 + 1) T W from fun W hg =>
  ⟨(World.cell?_of_block (hg.block w.heap.size (by have:=hz3.out; omega) (fun e => by have:=Option.some.inj e; omega))).trans hpc,Z3.out.grown hg (fun e => by have:=Option.some.inj e; omega),Q3.out.grown hg (fun e => by have:=Option.some.inj e; omega)⟩)
 exact ⟨B3,hz3,hpc,Z3,Q3,S3,G3,HC⟩
theorem a25 (P g cap : Nat) (ts : List Tk) (he : y6 ts) (htk : ∀ t∈ts,z7 t) (nest : Nat) (l : List Tk) (w : World) (h : SQ P g cap ts nest l w) (hk : (hd l).kind=6) : Calls Tryz.prog 210 #[.pointer (some ⟨P,0,none⟩)] w (QP P g cap ts nest (.ok (mkN 5 [] (hd l).n [] (hd l).pos,b9 l)) w):=by
 have HB:=hid h.blocks
 have HE:=hid he
 obtain ⟨T,Ln,C,off,D,HT0,hPlt,hg0,hL,p0,p1,t0,t1,t2,t3,HW⟩:=bM h htk
 obtain ⟨W3,hW3⟩ : ∃ W,W=cF P T w:=⟨_,rfl⟩
 obtain ⟨B3,hz3,hpc,Z3,Q3,S3,G3,HC⟩:=HW W3 hW3
 unfold cF at hW3
 clear HW
 have eg : m9 218:=enters_of Tryz.func218 (by kernel_rfl) rfl
 unfold m9 at eg
 rw [D.out] at hk
 have e6 : (T.kind == 6)=true:=by rw [hk]; rfl
 have C:=hid (show Calls Tryz.prog 218 #[.agg #[.int .i64 5,.string ⟨#[]⟩,.int .i64 T.n,.slice none 0 0,.int .i64 0],.pointer (some ⟨w.heap.size,0,none⟩)] W3 (QP P g cap ts nest (.ok (mkN 5 [] (hd l).n [] (hd l).pos,b9 l)) W3) by
  have:=fH P g cap ts he htk nest l 5 [] (hd l).n w.heap.size W3 S3 hpc (by have:=HB.out; have:=hz3.out; omega) rfl (by decide) (by rw [D.out]; exact HT0.out.1)
  rw [D.out] at this ⊢
  exact this)
 generalize (.ok (mkN 5 [] (hd l).n [] (hd l).pos,b9 l) : Rd)=x at C ⊢
 clear hk
 clear h he htk
 go_enter Tryz.func210,Tryz.ntmps210
 go_upto_region 2 with fail
 rw [← hW3]
 clear hW3 t0 t1 t2 t3 p0 p1 hL
 obtain ⟨⟨t0,t1,t2,t3⟩,-⟩:=Q3.out.cells
 have htl:=Q3.out.lt
 have hp3:=hpc.out
 go_wp2_with fail
 have GW3:=hid (show W3.grownBy W3 (some P) from b8 (Below.refl _ _))
 have Zi:=hid (HC.out W3 GW3).2.1
 have hzi:=hid (show w.heap.size + 1<W3.heap.size from Zi.out.lt)
 (with_reducible refine Calls.mono C.out ?_)
 intro e w3 hq
 cases x with
 | error q =>
   obtain ⟨k,p⟩:=q
   obtain ⟨rfl,hg⟩:=hq
   refine And.intro rfl ?_
   exact ⟨rfl,b6 (b6 G3 GW3) hg⟩
 | ok q =>
   obtain ⟨t,r⟩:=q
   obtain ⟨a,cp,rfl,hs,hg,hl,hd⟩:=hq
   have Z3:=hid (Zi.out.grown hg (fun e => by have:=Option.some.inj e; have:=HB.out; omega))
   have HS:=hid hs
   have HG:=hid hg
   have HL:=hid hl
   have HD:=hid hd
   obtain ⟨⟨z0,z1,z2,z3,z4,z5⟩,⟨f0,f1,f2,f3,f4,f5⟩⟩:=Z3.out.cells
   have hzl:=Z3.out.lt
   clear hs hg hl hd C
   unfold trV
   go_wp2_with fail
   refine bodyPost_ret (v:=trV t a cp) (by simp [results,Tryz.results210,go_sem,trV,z0,z1,z2,z3,z4,z5]) rfl ?_
   have hz:=hzi.out
   have hb:=HB.out
   exact QP.fin HS (b6 (b6 G3 GW3) HG) (by omega) (by omega) HL (fun c hc => ⟨by have:=hc.1; omega,hc.2,by have:=hc.1; omega⟩) HD
theorem a2S (P g cap : Nat) (ts : List Tk) (he : y6 ts) (htk : ∀ t∈ts,z7 t) (nest : Nat) (l : List Tk) (w : World) (h : SQ P g cap ts nest l w) (hk : (hd l).kind=5) : Calls Tryz.prog 210 #[.pointer (some ⟨P,0,none⟩)] w (QP P g cap ts nest (.ok (mkN 6 [] (hd l).n [] (hd l).pos,b9 l)) w):=by
 have HB:=hid h.blocks
 have HE:=hid he
 obtain ⟨T,Ln,C,off,D,HT0,hPlt,hg0,hL,p0,p1,t0,t1,t2,t3,HW⟩:=bM h htk
 obtain ⟨W3,hW3⟩ : ∃ W,W=cF P T w:=⟨_,rfl⟩
 obtain ⟨B3,hz3,hpc,Z3,Q3,S3,G3,HC⟩:=HW W3 hW3
 unfold cF at hW3
 clear HW
 have eg : m9 218:=enters_of Tryz.func218 (by kernel_rfl) rfl
 unfold m9 at eg
 rw [D.out] at hk
 have e6 : (T.kind == 6)=false:=beq_eq_false_iff_ne.2 (by rw [hk]; decide)
 have e5 : (T.kind == 5)=true:=by rw [hk]; rfl
 have C:=hid (show Calls Tryz.prog 218 #[.agg #[.int .i64 6,.string ⟨#[]⟩,.int .i64 T.n,.slice none 0 0,.int .i64 0],.pointer (some ⟨w.heap.size,0,none⟩)] W3 (QP P g cap ts nest (.ok (mkN 6 [] (hd l).n [] (hd l).pos,b9 l)) W3) by
  have:=fH P g cap ts he htk nest l 6 [] (hd l).n w.heap.size W3 S3 hpc (by have:=HB.out; have:=hz3.out; omega) rfl (by decide) (by rw [D.out]; exact HT0.out.1)
  rw [D.out] at this ⊢
  exact this)
 generalize (.ok (mkN 6 [] (hd l).n [] (hd l).pos,b9 l) : Rd)=x at C ⊢
 clear hk
 clear h he htk
 go_enter Tryz.func210,Tryz.ntmps210
 go_upto_region 2 with fail
 rw [← hW3]
 clear hW3 t0 t1 t2 t3 p0 p1 hL
 obtain ⟨⟨t0,t1,t2,t3⟩,-⟩:=Q3.out.cells
 have htl:=Q3.out.lt
 have hp3:=hpc.out
 go_wp2_with fail
 have GW3:=hid (show W3.grownBy W3 (some P) from b8 (Below.refl _ _))
 have Zi:=hid (HC.out W3 GW3).2.1
 have hzi:=hid (show w.heap.size + 1<W3.heap.size from Zi.out.lt)
 (with_reducible refine Calls.mono C.out ?_)
 intro e w3 hq
 cases x with
 | error q =>
   obtain ⟨k,p⟩:=q
   obtain ⟨rfl,hg⟩:=hq
   refine And.intro rfl ?_
   exact ⟨rfl,b6 (b6 G3 GW3) hg⟩
 | ok q =>
   obtain ⟨t,r⟩:=q
   obtain ⟨a,cp,rfl,hs,hg,hl,hd⟩:=hq
   have Z3:=hid (Zi.out.grown hg (fun e => by have:=Option.some.inj e; have:=HB.out; omega))
   have HS:=hid hs
   have HG:=hid hg
   have HL:=hid hl
   have HD:=hid hd
   obtain ⟨⟨z0,z1,z2,z3,z4,z5⟩,⟨f0,f1,f2,f3,f4,f5⟩⟩:=Z3.out.cells
   have hzl:=Z3.out.lt
   clear hs hg hl hd C
   unfold trV
   go_wp2_with fail
   refine bodyPost_ret (v:=trV t a cp) (by simp [results,Tryz.results210,go_sem,trV,z0,z1,z2,z3,z4,z5]) rfl ?_
   have hz:=hzi.out
   have hb:=HB.out
   exact QP.fin HS (b6 (b6 G3 GW3) HG) (by omega) (by omega) HL (fun c hc => ⟨by have:=hc.1; omega,hc.2,by have:=hc.1; omega⟩) HD
theorem a2b (P g cap : Nat) (ts : List Tk) (he : y6 ts) (htk : ∀ t∈ts,z7 t) (nest : Nat) (l : List Tk) (w : World) (h : SQ P g cap ts nest l w) (hk : (hd l).kind=4) : Calls Tryz.prog 210 #[.pointer (some ⟨P,0,none⟩)] w (QP P g cap ts nest (.ok (mkN 7 (hd l).text 0 [] (hd l).pos,b9 l)) w):=by
 have HB:=hid h.blocks
 have HE:=hid he
 obtain ⟨T,Ln,C,off,D,HT0,hPlt,hg0,hL,p0,p1,t0,t1,t2,t3,HW⟩:=bM h htk
 obtain ⟨W3,hW3⟩ : ∃ W,W=cF P T w:=⟨_,rfl⟩
 obtain ⟨B3,hz3,hpc,Z3,Q3,S3,G3,HC⟩:=HW W3 hW3
 unfold cF at hW3
 clear HW
 have eg : m9 218:=enters_of Tryz.func218 (by kernel_rfl) rfl
 unfold m9 at eg
 rw [D.out] at hk
 have e6 : (T.kind == 6)=false:=beq_eq_false_iff_ne.2 (by rw [hk]; decide)
 have e5 : (T.kind == 5)=false:=beq_eq_false_iff_ne.2 (by rw [hk]; decide)
 have e4 : (T.kind == 4)=true:=by rw [hk]; rfl
 have C:=hid (show Calls Tryz.prog 218 #[.agg #[.int .i64 7,.string ⟨T.text.toArray⟩,.int .i64 0,.slice none 0 0,.int .i64 0],.pointer (some ⟨w.heap.size,0,none⟩)] W3 (QP P g cap ts nest (.ok (mkN 7 (hd l).text 0 [] (hd l).pos,b9 l)) W3) by
  have:=fH P g cap ts he htk nest l 7 (hd l).text 0 w.heap.size W3 S3 hpc (by have:=HB.out; have:=hz3.out; omega) rfl (by have:=HT0.out.2.2; rw [D.out]; omega) (by rfl)
  rw [D.out] at this ⊢
  exact this)
 generalize (.ok (mkN 7 (hd l).text 0 [] (hd l).pos,b9 l) : Rd)=x at C ⊢
 clear hk
 clear h he htk
 go_enter Tryz.func210,Tryz.ntmps210
 go_upto_region 2 with fail
 rw [← hW3]
 clear hW3 t0 t1 t2 t3 p0 p1 hL
 obtain ⟨⟨t0,t1,t2,t3⟩,-⟩:=Q3.out.cells
 have htl:=Q3.out.lt
 have hp3:=hpc.out
 go_wp2_with fail
 have GW3:=hid (show W3.grownBy W3 (some P) from b8 (Below.refl _ _))
 have Zi:=hid (HC.out W3 GW3).2.1
 have hzi:=hid (show w.heap.size + 1<W3.heap.size from Zi.out.lt)
 (with_reducible refine Calls.mono C.out ?_)
 intro e w3 hq
 cases x with
 | error q =>
   obtain ⟨k,p⟩:=q
   obtain ⟨rfl,hg⟩:=hq
   refine And.intro rfl ?_
   exact ⟨rfl,b6 (b6 G3 GW3) hg⟩
 | ok q =>
   obtain ⟨t,r⟩:=q
   obtain ⟨a,cp,rfl,hs,hg,hl,hd⟩:=hq
   have Z3:=hid (Zi.out.grown hg (fun e => by have:=Option.some.inj e; have:=HB.out; omega))
   have HS:=hid hs
   have HG:=hid hg
   have HL:=hid hl
   have HD:=hid hd
   obtain ⟨⟨z0,z1,z2,z3,z4,z5⟩,⟨f0,f1,f2,f3,f4,f5⟩⟩:=Z3.out.cells
   have hzl:=Z3.out.lt
   clear hs hg hl hd C
   unfold trV
   go_wp2_with fail
   refine bodyPost_ret (v:=trV t a cp) (by simp [results,Tryz.results210,go_sem,trV,z0,z1,z2,z3,z4,z5]) rfl ?_
   have hz:=hzi.out
   have hb:=HB.out
   exact QP.fin HS (b6 (b6 G3 GW3) HG) (by omega) (by omega) HL (fun c hc => ⟨by have:=hc.1; omega,hc.2,by have:=hc.1; omega⟩) HD
theorem a1g (P g cap : Nat) (ts : List Tk) (he : y6 ts) (htk : ∀ t∈ts,z7 t) (nest : Nat) (l : List Tk) (w : World) (h : SQ P g cap ts nest l w) (hn : nest≤300) (hk : (hd l).kind=1∨(hd l).kind=3) (hE : ∀ r,r.length<l.length→CQ 25 .expr P g cap ts r) : Calls Tryz.prog 210 #[.pointer (some ⟨P,0,none⟩)] w (QP P g cap ts nest (tL nest l) w):=by
 have HB:=hid h.blocks
 have HE:=hid he
 obtain ⟨T,Ln,C,off,D,HT0,hPlt,hg0,hL,p0,p1,t0,t1,t2,t3,HW⟩:=bM h htk
 obtain ⟨W3,hW3⟩ : ∃ W,W=cF P T w:=⟨_,rfl⟩
 obtain ⟨B3,hz3,hpc,Z3,Q3,S3,G3,HC⟩:=HW W3 hW3
 unfold cF at hW3
 clear HW
 have eg : m9 218:=enters_of Tryz.func218 (by kernel_rfl) rfl
 unfold m9 at eg
 have C:=hid (a26 P g cap ts he htk nest l W3 hn S3 (by rcases hk with e | e <;> (rw [e]; decide)) hE)
 rw [D.out] at hk
 have e6 : (T.kind == 6)=false:=beq_eq_false_iff_ne.2 (by omega)
 have e5 : (T.kind == 5)=false:=beq_eq_false_iff_ne.2 (by omega)
 have e4 : (T.kind == 4)=false:=beq_eq_false_iff_ne.2 (by omega)
 generalize tL nest l=x at C ⊢
 have GW3:=hid (show W3.grownBy W3 (some P) from b8 (Below.refl _ _))
 have Zi:=hid (HC.out W3 GW3).2.1
 have hzi:=hid (show w.heap.size + 1<W3.heap.size from Zi.out.lt)
 have HK:=hid hk
 clear hk hE
 clear h he htk
 go_enter Tryz.func210,Tryz.ntmps210
 go_upto_region 2 with fail
 rw [← hW3]
 clear hW3 t0 t1 t2 t3 p0 p1 hL
 obtain ⟨⟨t0,t1,t2,t3⟩,-⟩:=Q3.out.cells
 have htl:=Q3.out.lt
 have hp3:=hpc.out
 rcases HK.out with hk | hk
 ·have e1 : (T.kind == 1)=true:=by rw [hk]; rfl
  have e3 : (T.kind == 3)=false:=by rw [hk]; rfl
  clear hk HK
  go_wp2_with fail
  (with_reducible refine Calls.mono C.out ?_)
  intro e w3 hq
  cases x with
  | error q =>
    obtain ⟨k,p⟩:=q
    obtain ⟨rfl,hg⟩:=hq
    refine And.intro rfl ?_
    exact ⟨rfl,b6 (b6 G3 GW3) hg⟩
  | ok q =>
    obtain ⟨t,r⟩:=q
    obtain ⟨a,cp,rfl,hs,hg,hl,hd⟩:=hq
    have Z3:=hid (Zi.out.grown hg (fun e => by have:=Option.some.inj e; have:=HB.out; omega))
    have HS:=hid hs
    have HG:=hid hg
    have HL:=hid hl
    have HD:=hid hd
    obtain ⟨⟨z0,z1,z2,z3,z4,z5⟩,⟨f0,f1,f2,f3,f4,f5⟩⟩:=Z3.out.cells
    have hzl:=Z3.out.lt
    clear hs hg hl hd C
    unfold trV
    go_wp2_with fail
    refine bodyPost_ret (v:=trV t a cp) (by simp [results,Tryz.results210,go_sem,trV,z0,z1,z2,z3,z4,z5]) rfl ?_
    have hz:=hzi.out
    have hb:=HB.out
    exact QP.fin HS (b6 (b6 G3 GW3) HG) (by omega) (by omega) HL (fun c hc => ⟨by have:=hc.1; omega,hc.2,by have:=hc.1; omega⟩) HD
 ·have e1 : (T.kind == 1)=false:=by rw [hk]; rfl
  have e3 : (T.kind == 3)=true:=by rw [hk]; rfl
  clear hk HK
  go_wp2_with fail
  (with_reducible refine Calls.mono C.out ?_)
  intro e w3 hq
  cases x with
  | error q =>
    obtain ⟨k,p⟩:=q
    obtain ⟨rfl,hg⟩:=hq
    refine And.intro rfl ?_
    exact ⟨rfl,b6 (b6 G3 GW3) hg⟩
  | ok q =>
    obtain ⟨t,r⟩:=q
    obtain ⟨a,cp,rfl,hs,hg,hl,hd⟩:=hq
    have Z3:=hid (Zi.out.grown hg (fun e => by have:=Option.some.inj e; have:=HB.out; omega))
    have HS:=hid hs
    have HG:=hid hg
    have HL:=hid hl
    have HD:=hid hd
    obtain ⟨⟨z0,z1,z2,z3,z4,z5⟩,⟨f0,f1,f2,f3,f4,f5⟩⟩:=Z3.out.cells
    have hzl:=Z3.out.lt
    clear hs hg hl hd C
    unfold trV
    go_wp2_with fail
    refine bodyPost_ret (v:=trV t a cp) (by simp [results,Tryz.results210,go_sem,trV,z0,z1,z2,z3,z4,z5]) rfl ?_
    have hz:=hzi.out
    have hb:=HB.out
    exact QP.fin HS (b6 (b6 G3 GW3) HG) (by omega) (by omega) HL (fun c hc => ⟨by have:=hc.1; omega,hc.2,by have:=hc.1; omega⟩) HD
theorem a1u (P g cap : Nat) (ts : List Tk) (he : y6 ts) (htk : ∀ t∈ts,z7 t) (nest : Nat) (l : List Tk) (w : World) (h : SQ P g cap ts nest l w) (hN : (hd l).kind≠6∧(hd l).kind≠5∧(hd l).kind≠4∧(hd l).kind≠1∧(hd l).kind≠3) (hT : isT bO l=true) : Calls Tryz.prog 210 #[.pointer (some ⟨P,0,none⟩)] w (QP P g cap ts nest (.ok (mkN 8 [] 1 [] (hd l).pos,b9 l)) w):=by
 have HB:=hid h.blocks
 have HE:=hid he
 obtain ⟨T,Ln,C,off,D,HT0,hPlt,hg0,hL,p0,p1,t0,t1,t2,t3,HW⟩:=bM h htk
 obtain ⟨W3,hW3⟩ : ∃ W,W=cF P T w:=⟨_,rfl⟩
 obtain ⟨B3,hz3,hpc,Z3,Q3,S3,G3,HC⟩:=HW W3 hW3
 unfold cF at hW3
 clear HW
 have eg : m9 218:=enters_of Tryz.func218 (by kernel_rfl) rfl
 unfold m9 at eg
 obtain ⟨x,hx⟩ : ∃ x : Rd,x=.ok (mkN 8 [] 1 [] (hd l).pos,b9 l):=⟨_,rfl⟩
 rw [← hx]
 have HX:=hid hx
 have HTK:=hid htk
 rw [D.out] at hN
 have e6 : (T.kind == 6)=false:=beq_eq_false_iff_ne.2 (by omega)
 have e5 : (T.kind == 5)=false:=beq_eq_false_iff_ne.2 (by omega)
 have e4 : (T.kind == 4)=false:=beq_eq_false_iff_ne.2 (by omega)
 have e1 : (T.kind == 1)=false:=beq_eq_false_iff_ne.2 (by omega)
 have e3 : (T.kind == 3)=false:=beq_eq_false_iff_ne.2 (by omega)
 clear hx hN
 clear h he htk
 go_enter Tryz.func210,Tryz.ntmps210
 go_upto_region 2 with fail
 rw [← hW3]
 clear hW3 t0 t1 t2 t3 p0 p1 hL
 obtain ⟨⟨t0,t1,t2,t3⟩,-⟩:=Q3.out.cells
 have htl:=Q3.out.lt
 have hp3:=hpc.out
 have C4:=hid (show Calls Tryz.prog 50 #[.pointer (some ⟨P,0,none⟩),.string ⟨#[116,114,117,101]⟩] W3 (fun e w' => e=.returned (.bool true)∧Below W3.heap.size W3 w') by
  have:=aV P g cap ts nest l ⟨#[116,114,117,101]⟩ W3 S3
  rwa [show isT (⟨#[116,114,117,101]⟩ : ByteArray).data.toList l=true from hT] at this)
 go_wp2_with fail
 (with_reducible refine Calls.mono C4.out ?_)
 rintro e w4 ⟨rfl,hb⟩
 have GW4:=hid (show W3.grownBy w4 (some P) from b8 hb)
 have S4:=hid (S3.out.below hb)
 clear hb C4 hp3 t0 t1 t2 t3 htl
 have hp4:=(HC.out w4 GW4).1
 obtain ⟨⟨t0,t1,t2,t3⟩,-⟩:=(HC.out w4 GW4).2.2.cells
 have htl:=(HC.out w4 GW4).2.2.lt
 have C:=hid (show Calls Tryz.prog 218 #[.agg #[.int .i64 8,.string ⟨#[]⟩,.int .i64 1,.slice none 0 0,.int .i64 0],.pointer (some ⟨w.heap.size,0,none⟩)] w4 (QP P g cap ts nest x w4) by
  rw [HX.out]
  exact fH P g cap ts HE HTK nest l 8 [] 1 w.heap.size w4 S4 (HC.out w4 GW4).1 (by have:=HB.out; have:=hz3.out; have:=GW4.out.size; omega) rfl (by decide) rfl)
 go_wp2_with fail
 have Zi:=hid (HC.out w4 GW4).2.1
 have hzi:=hid (show w.heap.size + 1<w4.heap.size from Zi.out.lt)
 (with_reducible refine Calls.mono C.out ?_)
 intro e w3 hq
 cases x with
 | error q =>
   obtain ⟨k,p⟩:=q
   obtain ⟨rfl,hg⟩:=hq
   refine And.intro rfl ?_
   exact ⟨rfl,b6 (b6 G3 GW4) hg⟩
 | ok q =>
   obtain ⟨t,r⟩:=q
   obtain ⟨a,cp,rfl,hs,hg,hl,hd⟩:=hq
   have Z3:=hid (Zi.out.grown hg (fun e => by have:=Option.some.inj e; have:=HB.out; omega))
   have HS:=hid hs
   have HG:=hid hg
   have HL:=hid hl
   have HD:=hid hd
   obtain ⟨⟨z0,z1,z2,z3,z4,z5⟩,⟨f0,f1,f2,f3,f4,f5⟩⟩:=Z3.out.cells
   have hzl:=Z3.out.lt
   clear hs hg hl hd C
   unfold trV
   go_wp2_with fail
   refine bodyPost_ret (v:=trV t a cp) (by simp [results,Tryz.results210,go_sem,trV,z0,z1,z2,z3,z4,z5]) rfl ?_
   have hz:=hzi.out
   have hb:=HB.out
   exact QP.fin HS (b6 (b6 G3 GW4) HG) (by omega) (by omega) HL (fun c hc => ⟨by have:=hc.1; omega,hc.2,by have:=hc.1; omega⟩) HD
theorem zO (P g cap : Nat) (ts : List Tk) (he : y6 ts) (htk : ∀ t∈ts,z7 t) (nest : Nat) (l : List Tk) (w : World) (h : SQ P g cap ts nest l w) (hN : (hd l).kind≠6∧(hd l).kind≠5∧(hd l).kind≠4∧(hd l).kind≠1∧(hd l).kind≠3) (hT : isT bO l=false) (hF : isT X4 l=true) : Calls Tryz.prog 210 #[.pointer (some ⟨P,0,none⟩)] w (QP P g cap ts nest (.ok (mkN 8 [] 0 [] (hd l).pos,b9 l)) w):=by
 have HB:=hid h.blocks
 have HE:=hid he
 obtain ⟨T,Ln,C,off,D,HT0,hPlt,hg0,hL,p0,p1,t0,t1,t2,t3,HW⟩:=bM h htk
 obtain ⟨W3,hW3⟩ : ∃ W,W=cF P T w:=⟨_,rfl⟩
 obtain ⟨B3,hz3,hpc,Z3,Q3,S3,G3,HC⟩:=HW W3 hW3
 unfold cF at hW3
 clear HW
 have eg : m9 218:=enters_of Tryz.func218 (by kernel_rfl) rfl
 unfold m9 at eg
 obtain ⟨x,hx⟩ : ∃ x : Rd,x=.ok (mkN 8 [] 0 [] (hd l).pos,b9 l):=⟨_,rfl⟩
 rw [← hx]
 have HX:=hid hx
 have HTK:=hid htk
 rw [D.out] at hN
 have e6 : (T.kind == 6)=false:=beq_eq_false_iff_ne.2 (by omega)
 have e5 : (T.kind == 5)=false:=beq_eq_false_iff_ne.2 (by omega)
 have e4 : (T.kind == 4)=false:=beq_eq_false_iff_ne.2 (by omega)
 have e1 : (T.kind == 1)=false:=beq_eq_false_iff_ne.2 (by omega)
 have e3 : (T.kind == 3)=false:=beq_eq_false_iff_ne.2 (by omega)
 clear hx hN
 clear h he htk
 go_enter Tryz.func210,Tryz.ntmps210
 go_upto_region 2 with fail
 rw [← hW3]
 clear hW3 t0 t1 t2 t3 p0 p1 hL
 obtain ⟨⟨t0,t1,t2,t3⟩,-⟩:=Q3.out.cells
 have htl:=Q3.out.lt
 have hp3:=hpc.out
 have C4:=hid (show Calls Tryz.prog 50 #[.pointer (some ⟨P,0,none⟩),.string ⟨#[116,114,117,101]⟩] W3 (fun e w' => e=.returned (.bool false)∧Below W3.heap.size W3 w') by
  have:=aV P g cap ts nest l ⟨#[116,114,117,101]⟩ W3 S3
  rwa [show isT (⟨#[116,114,117,101]⟩ : ByteArray).data.toList l=false from hT] at this)
 go_wp2_with fail
 (with_reducible refine Calls.mono C4.out ?_)
 rintro e w4 ⟨rfl,hb⟩
 have GW4:=hid (show W3.grownBy w4 (some P) from b8 hb)
 have S4:=hid (S3.out.below hb)
 clear hb C4 hp3 t0 t1 t2 t3 htl
 have hp4:=(HC.out w4 GW4).1
 obtain ⟨⟨t0,t1,t2,t3⟩,-⟩:=(HC.out w4 GW4).2.2.cells
 have htl:=(HC.out w4 GW4).2.2.lt
 have C5:=hid (show Calls Tryz.prog 50 #[.pointer (some ⟨P,0,none⟩),.string ⟨#[102,97,108,115,101]⟩] w4 (fun e w' => e=.returned (.bool true)∧Below w4.heap.size w4 w') by
  have:=aV P g cap ts nest l ⟨#[102,97,108,115,101]⟩ w4 S4
  rwa [show isT (⟨#[102,97,108,115,101]⟩ : ByteArray).data.toList l=true from hF] at this)
 go_wp2_with fail
 (with_reducible refine Calls.mono C5.out ?_)
 rintro e w5 ⟨rfl,hb⟩
 have GW5:=hid (show W3.grownBy w5 (some P) from b6 GW4 (b8 hb))
 have S5:=hid (S4.out.below hb)
 clear hb C5 hp4 t0 t1 t2 t3 htl
 have hp5:=(HC.out w5 GW5).1
 obtain ⟨⟨t0,t1,t2,t3⟩,-⟩:=(HC.out w5 GW5).2.2.cells
 have htl:=(HC.out w5 GW5).2.2.lt
 have C:=hid (show Calls Tryz.prog 218 #[.agg #[.int .i64 8,.string ⟨#[]⟩,.int .i64 0,.slice none 0 0,.int .i64 0],.pointer (some ⟨w.heap.size,0,none⟩)] w5 (QP P g cap ts nest x w5) by
  rw [HX.out]
  exact fH P g cap ts HE HTK nest l 8 [] 0 w.heap.size w5 S5 (HC.out w5 GW5).1 (by have:=HB.out; have:=hz3.out; have:=GW5.out.size; omega) rfl (by decide) rfl)
 go_wp2_with fail
 have Zi:=hid (HC.out w5 GW5).2.1
 have hzi:=hid (show w.heap.size + 1<w5.heap.size from Zi.out.lt)
 (with_reducible refine Calls.mono C.out ?_)
 intro e w3 hq
 cases x with
 | error q =>
   obtain ⟨k,p⟩:=q
   obtain ⟨rfl,hg⟩:=hq
   refine And.intro rfl ?_
   exact ⟨rfl,b6 (b6 G3 GW5) hg⟩
 | ok q =>
   obtain ⟨t,r⟩:=q
   obtain ⟨a,cp,rfl,hs,hg,hl,hd⟩:=hq
   have Z3:=hid (Zi.out.grown hg (fun e => by have:=Option.some.inj e; have:=HB.out; omega))
   have HS:=hid hs
   have HG:=hid hg
   have HL:=hid hl
   have HD:=hid hd
   obtain ⟨⟨z0,z1,z2,z3,z4,z5⟩,⟨f0,f1,f2,f3,f4,f5⟩⟩:=Z3.out.cells
   have hzl:=Z3.out.lt
   clear hs hg hl hd C
   unfold trV
   go_wp2_with fail
   refine bodyPost_ret (v:=trV t a cp) (by simp [results,Tryz.results210,go_sem,trV,z0,z1,z2,z3,z4,z5]) rfl ?_
   have hz:=hzi.out
   have hb:=HB.out
   exact QP.fin HS (b6 (b6 G3 GW5) HG) (by omega) (by omega) HL (fun c hc => ⟨by have:=hc.1; omega,hc.2,by have:=hc.1; omega⟩) HD
theorem a1t (P g cap : Nat) (ts : List Tk) (he : y6 ts) (htk : ∀ t∈ts,z7 t) (nest : Nat) (l : List Tk) (w : World) (h : SQ P g cap ts nest l w) (hN : (hd l).kind≠6∧(hd l).kind≠5∧(hd l).kind≠4∧(hd l).kind≠1∧(hd l).kind≠3) (hT : isT bO l=false) (hF : isT X4 l=false) (hD : isT cE l=false) (hK : isT cD l=false) (hO : isT o7 l=false) : Calls Tryz.prog 210 #[.pointer (some ⟨P,0,none⟩)] w (QP P g cap ts nest (.error (74,(hd l).pos)) w):=by
 have HB:=hid h.blocks
 have HE:=hid he
 obtain ⟨T,Ln,C,off,D,HT0,hPlt,hg0,hL,p0,p1,t0,t1,t2,t3,HW⟩:=bM h htk
 obtain ⟨W3,hW3⟩ : ∃ W,W=cF P T w:=⟨_,rfl⟩
 obtain ⟨B3,hz3,hpc,Z3,Q3,S3,G3,HC⟩:=HW W3 hW3
 unfold cF at hW3
 clear HW
 have eg : m9 218:=enters_of Tryz.func218 (by kernel_rfl) rfl
 unfold m9 at eg
 rw [D.out] at hN
 have e6 : (T.kind == 6)=false:=beq_eq_false_iff_ne.2 (by omega)
 have e5 : (T.kind == 5)=false:=beq_eq_false_iff_ne.2 (by omega)
 have e4 : (T.kind == 4)=false:=beq_eq_false_iff_ne.2 (by omega)
 have e1 : (T.kind == 1)=false:=beq_eq_false_iff_ne.2 (by omega)
 have e3 : (T.kind == 3)=false:=beq_eq_false_iff_ne.2 (by omega)
 clear hN
 clear h he htk
 go_enter Tryz.func210,Tryz.ntmps210
 go_upto_region 2 with fail
 rw [← hW3]
 clear hW3 t0 t1 t2 t3 p0 p1 hL
 obtain ⟨⟨t0,t1,t2,t3⟩,-⟩:=Q3.out.cells
 have htl:=Q3.out.lt
 have hp3:=hpc.out
 have C4:=hid (show Calls Tryz.prog 50 #[.pointer (some ⟨P,0,none⟩),.string ⟨#[116,114,117,101]⟩] W3 (fun e w' => e=.returned (.bool false)∧Below W3.heap.size W3 w') by
  have:=aV P g cap ts nest l ⟨#[116,114,117,101]⟩ W3 S3
  rwa [show isT (⟨#[116,114,117,101]⟩ : ByteArray).data.toList l=false from hT] at this)
 go_wp2_with fail
 (with_reducible refine Calls.mono C4.out ?_)
 rintro e w4 ⟨rfl,hb⟩
 have GW4:=hid (show W3.grownBy w4 (some P) from b8 hb)
 have S4:=hid (S3.out.below hb)
 clear hb C4 hp3 t0 t1 t2 t3 htl
 have hp4:=(HC.out w4 GW4).1
 obtain ⟨⟨t0,t1,t2,t3⟩,-⟩:=(HC.out w4 GW4).2.2.cells
 have htl:=(HC.out w4 GW4).2.2.lt
 have C5:=hid (show Calls Tryz.prog 50 #[.pointer (some ⟨P,0,none⟩),.string ⟨#[102,97,108,115,101]⟩] w4 (fun e w' => e=.returned (.bool false)∧Below w4.heap.size w4 w') by
  have:=aV P g cap ts nest l ⟨#[102,97,108,115,101]⟩ w4 S4
  rwa [show isT (⟨#[102,97,108,115,101]⟩ : ByteArray).data.toList l=false from hF] at this)
 go_wp2_with fail
 (with_reducible refine Calls.mono C5.out ?_)
 rintro e w5 ⟨rfl,hb⟩
 have GW5:=hid (show W3.grownBy w5 (some P) from b6 GW4 (b8 hb))
 have S5:=hid (S4.out.below hb)
 clear hb C5 hp4 t0 t1 t2 t3 htl
 have hp5:=(HC.out w5 GW5).1
 obtain ⟨⟨t0,t1,t2,t3⟩,-⟩:=(HC.out w5 GW5).2.2.cells
 have htl:=(HC.out w5 GW5).2.2.lt
 have C6:=hid (show Calls Tryz.prog 89 #[.pointer (some ⟨P,0,none⟩),.string ⟨#[102,101,101,100]⟩] w5 (fun e w' => e=.returned (.bool false)∧SQ P g cap ts nest (l) w'∧w5.grownBy w' (some P)) by
  have:=V0 P g cap ts nest l ⟨#[102,101,101,100]⟩ w5 S5 HE
  rw [show isT (⟨#[102,101,101,100]⟩ : ByteArray).data.toList l=false from hD] at this
  simpa using this)
 go_wp2_with fail
 (with_reducible refine Calls.mono C6.out ?_)
 rintro e w6 ⟨rfl,hs,hg⟩
 have GW6:=hid (show W3.grownBy w6 (some P) from b6 GW5 hg)
 have S6:=hid hs
 clear hs hg C6 hp5 t0 t1 t2 t3 htl
 have hp6:=(HC.out w6 GW6).1
 obtain ⟨⟨t0,t1,t2,t3⟩,-⟩:=(HC.out w6 GW6).2.2.cells
 have htl:=(HC.out w6 GW6).2.2.lt
 have C7:=hid (show Calls Tryz.prog 89 #[.pointer (some ⟨P,0,none⟩),.string ⟨#[112,105,99,107]⟩] w6 (fun e w' => e=.returned (.bool false)∧SQ P g cap ts nest (l) w'∧w6.grownBy w' (some P)) by
  have:=V0 P g cap ts nest l ⟨#[112,105,99,107]⟩ w6 S6 HE
  rw [show isT (⟨#[112,105,99,107]⟩ : ByteArray).data.toList l=false from hK] at this
  simpa using this)
 go_wp2_with fail
 (with_reducible refine Calls.mono C7.out ?_)
 rintro e w7 ⟨rfl,hs,hg⟩
 have GW7:=hid (show W3.grownBy w7 (some P) from b6 GW6 hg)
 have S7:=hid hs
 clear hs hg C7 hp6 t0 t1 t2 t3 htl
 have hp7:=(HC.out w7 GW7).1
 obtain ⟨⟨t0,t1,t2,t3⟩,-⟩:=(HC.out w7 GW7).2.2.cells
 have htl:=(HC.out w7 GW7).2.2.lt
 have C8:=hid (show Calls Tryz.prog 89 #[.pointer (some ⟨P,0,none⟩),.string ⟨#[40]⟩] w7 (fun e w' => e=.returned (.bool false)∧SQ P g cap ts nest (l) w'∧w7.grownBy w' (some P)) by
  have:=V0 P g cap ts nest l ⟨#[40]⟩ w7 S7 HE
  rw [show isT (⟨#[40]⟩ : ByteArray).data.toList l=false from hO] at this
  simpa using this)
 go_wp2_with fail
 (with_reducible refine Calls.mono C8.out ?_)
 rintro e w8 ⟨rfl,hs,hg⟩
 have GW8:=hid (show W3.grownBy w8 (some P) from b6 GW7 hg)
 have S8:=hid hs
 clear hs hg C8 hp7 t0 t1 t2 t3 htl
 have hp8:=(HC.out w8 GW8).1
 obtain ⟨⟨t0,t1,t2,t3⟩,-⟩:=(HC.out w8 GW8).2.2.cells
 have htl:=(HC.out w8 GW8).2.2.lt
 have C9:=hid (aM P 74 T.pos w8)
 go_wp2_with fail
 (with_reducible refine Calls.mono C9.out ?_)
 rintro e w9 ⟨rfl,rfl⟩
 refine And.intro rfl ?_
 rw [D.out]
 exact ⟨rfl,b6 G3 GW8⟩
theorem xR (P g cap : Nat) (ts : List Tk) (he : y6 ts) (htk : ∀ t∈ts,z7 t) (nest : Nat) (l : List Tk) (w : World) (h : SQ P g cap ts nest l w) (hN : (hd l).kind≠6∧(hd l).kind≠5∧(hd l).kind≠4∧(hd l).kind≠1∧(hd l).kind≠3) (hT : isT bO l=false) (hF : isT X4 l=false) (hD : isT cE l=false) (hK : isT cD l=false) (hn : nest≤300) (hO : isT o7 l=true) (hE : ∀ r,r.length<l.length→CQ 25 .expr P g cap ts r) : Calls Tryz.prog 210 #[.pointer (some ⟨P,0,none⟩)] w (QP P g cap ts nest ((rd .expr nest (b9 l)).then fun x r => d7 m7 r fun r => .ok (x,r)) w):=by
 have HB:=hid h.blocks
 have HE:=hid he
 obtain ⟨T,Ln,C,off,D,HT0,hPlt,hg0,hL,p0,p1,t0,t1,t2,t3,HW⟩:=bM h htk
 obtain ⟨W3,hW3⟩ : ∃ W,W=cF P T w:=⟨_,rfl⟩
 obtain ⟨B3,hz3,hpc,Z3,Q3,S3,G3,HC⟩:=HW W3 hW3
 unfold cF at hW3
 clear HW
 have eg : m9 218:=enters_of Tryz.func218 (by kernel_rfl) rfl
 unfold m9 at eg
 rw [D.out] at hN
 have e6 : (T.kind == 6)=false:=beq_eq_false_iff_ne.2 (by omega)
 have e5 : (T.kind == 5)=false:=beq_eq_false_iff_ne.2 (by omega)
 have e4 : (T.kind == 4)=false:=beq_eq_false_iff_ne.2 (by omega)
 have e1 : (T.kind == 1)=false:=beq_eq_false_iff_ne.2 (by omega)
 have e3 : (T.kind == 3)=false:=beq_eq_false_iff_ne.2 (by omega)
 clear hN
 obtain ⟨X,hX⟩ : ∃ X,X=((rd .expr nest (b9 l)).then fun x r => d7 m7 r fun r => .ok (x,r) : Rd):=⟨_,rfl⟩
 rw [← hX]
 have HX:=hid hX
 have HEx:=hid (hE (b9 l) (by have:=n5 hO; omega) nest)
 clear hX hE
 clear h he htk
 go_enter Tryz.func210,Tryz.ntmps210
 go_upto_region 2 with fail
 rw [← hW3]
 clear hW3 t0 t1 t2 t3 p0 p1 hL
 obtain ⟨⟨t0,t1,t2,t3⟩,-⟩:=Q3.out.cells
 have htl:=Q3.out.lt
 have hp3:=hpc.out
 have C4:=hid (show Calls Tryz.prog 50 #[.pointer (some ⟨P,0,none⟩),.string ⟨#[116,114,117,101]⟩] W3 (fun e w' => e=.returned (.bool false)∧Below W3.heap.size W3 w') by
  have:=aV P g cap ts nest l ⟨#[116,114,117,101]⟩ W3 S3
  rwa [show isT (⟨#[116,114,117,101]⟩ : ByteArray).data.toList l=false from hT] at this)
 go_wp2_with fail
 (with_reducible refine Calls.mono C4.out ?_)
 rintro e w4 ⟨rfl,hb⟩
 have GW4:=hid (show W3.grownBy w4 (some P) from b8 hb)
 have S4:=hid (S3.out.below hb)
 clear hb C4 hp3 t0 t1 t2 t3 htl
 have hp4:=(HC.out w4 GW4).1
 obtain ⟨⟨t0,t1,t2,t3⟩,-⟩:=(HC.out w4 GW4).2.2.cells
 have htl:=(HC.out w4 GW4).2.2.lt
 have C5:=hid (show Calls Tryz.prog 50 #[.pointer (some ⟨P,0,none⟩),.string ⟨#[102,97,108,115,101]⟩] w4 (fun e w' => e=.returned (.bool false)∧Below w4.heap.size w4 w') by
  have:=aV P g cap ts nest l ⟨#[102,97,108,115,101]⟩ w4 S4
  rwa [show isT (⟨#[102,97,108,115,101]⟩ : ByteArray).data.toList l=false from hF] at this)
 go_wp2_with fail
 (with_reducible refine Calls.mono C5.out ?_)
 rintro e w5 ⟨rfl,hb⟩
 have GW5:=hid (show W3.grownBy w5 (some P) from b6 GW4 (b8 hb))
 have S5:=hid (S4.out.below hb)
 clear hb C5 hp4 t0 t1 t2 t3 htl
 have hp5:=(HC.out w5 GW5).1
 obtain ⟨⟨t0,t1,t2,t3⟩,-⟩:=(HC.out w5 GW5).2.2.cells
 have htl:=(HC.out w5 GW5).2.2.lt
 have C6:=hid (show Calls Tryz.prog 89 #[.pointer (some ⟨P,0,none⟩),.string ⟨#[102,101,101,100]⟩] w5 (fun e w' => e=.returned (.bool false)∧SQ P g cap ts nest (l) w'∧w5.grownBy w' (some P)) by
  have:=V0 P g cap ts nest l ⟨#[102,101,101,100]⟩ w5 S5 HE
  rw [show isT (⟨#[102,101,101,100]⟩ : ByteArray).data.toList l=false from hD] at this
  simpa using this)
 go_wp2_with fail
 (with_reducible refine Calls.mono C6.out ?_)
 rintro e w6 ⟨rfl,hs,hg⟩
 have GW6:=hid (show W3.grownBy w6 (some P) from b6 GW5 hg)
 have S6:=hid hs
 clear hs hg C6 hp5 t0 t1 t2 t3 htl
 have hp6:=(HC.out w6 GW6).1
 obtain ⟨⟨t0,t1,t2,t3⟩,-⟩:=(HC.out w6 GW6).2.2.cells
 have htl:=(HC.out w6 GW6).2.2.lt
 have C7:=hid (show Calls Tryz.prog 89 #[.pointer (some ⟨P,0,none⟩),.string ⟨#[112,105,99,107]⟩] w6 (fun e w' => e=.returned (.bool false)∧SQ P g cap ts nest (l) w'∧w6.grownBy w' (some P)) by
  have:=V0 P g cap ts nest l ⟨#[112,105,99,107]⟩ w6 S6 HE
  rw [show isT (⟨#[112,105,99,107]⟩ : ByteArray).data.toList l=false from hK] at this
  simpa using this)
 go_wp2_with fail
 (with_reducible refine Calls.mono C7.out ?_)
 rintro e w7 ⟨rfl,hs,hg⟩
 have GW7:=hid (show W3.grownBy w7 (some P) from b6 GW6 hg)
 have S7:=hid hs
 clear hs hg C7 hp6 t0 t1 t2 t3 htl
 have hp7:=(HC.out w7 GW7).1
 obtain ⟨⟨t0,t1,t2,t3⟩,-⟩:=(HC.out w7 GW7).2.2.cells
 have htl:=(HC.out w7 GW7).2.2.lt
 have C8:=hid (show Calls Tryz.prog 89 #[.pointer (some ⟨P,0,none⟩),.string ⟨#[40]⟩] w7 (fun e w' => e=.returned (.bool true)∧SQ P g cap ts nest (b9 l) w'∧w7.grownBy w' (some P)) by
  have:=V0 P g cap ts nest l ⟨#[40]⟩ w7 S7 HE
  rw [show isT (⟨#[40]⟩ : ByteArray).data.toList l=true from hO] at this
  simpa using this)
 go_wp2_with fail
 (with_reducible refine Calls.mono C8.out ?_)
 rintro e w8 ⟨rfl,hs,hg⟩
 have GW8:=hid (show W3.grownBy w8 (some P) from b6 GW7 hg)
 have S8:=hid hs
 clear hs hg C8 hp7 t0 t1 t2 t3 htl
 have hp8:=(HC.out w8 GW8).1
 obtain ⟨⟨t0,t1,t2,t3⟩,-⟩:=(HC.out w8 GW8).2.2.cells
 have htl:=(HC.out w8 GW8).2.2.lt
 have C9:=hid (HEx.out w8 hn S8)
 generalize rd .expr nest (b9 l)=x at C9 HX
 go_wp2_with fail
 (with_reducible refine Calls.mono C9.out ?_)
 intro e w9 hq
 cases x with
 | error q =>
   obtain ⟨k,p⟩:=q
   obtain ⟨rfl,hg⟩:=hq
   refine And.intro rfl ?_
   rw [HX.out]
   exact ⟨rfl,b6 G3 (b6 GW8 hg)⟩
 | ok q =>
 obtain ⟨t,r⟩:=q
 obtain ⟨a2,cp,rfl,hs,hg,hl2,hdp⟩:=hq
 have HX2:=hid (show X=d7 m7 r fun r => .ok (t,r) from HX)
 have GW9:=hid (show W3.grownBy w9 (some P) from b6 GW8 hg)
 have S9:=hid hs
 have HL:=hid hl2
 have HD:=hid hdp
 have hz9:=hid (show w.heap.size + 1<w8.heap.size from (HC.out w8 GW8).2.1.lt)
 have hle89:=hid hg.size
 clear hs hg hl2 hdp C9 hp8 t0 t1 t2 t3 htl
 obtain ⟨Wa,hWa⟩ : ∃ W,W=w9.alloc (.cells #[.int .i64 t.kind,.string t.text,.int .i64 t.n,.slice a2 t.kids.length cp,.int .i64 t.place,.int .i64 (c8 t)] 50):=⟨_,rfl⟩
 have Ba:=hid (show Below w9.heap.size w9 Wa from hWa ▸ c6 _ _)
 have Ta:=hid (show T6 w9.heap.size t.kind t.text t.n a2 t.kids.length cp t.place (c8 t) Wa from hWa ▸ T6.make w9 _ _ _ _ _ _ _ _)
 have GWa:=hid (show W3.grownBy Wa (some P) from b6 GW9 (b8 Ba))
 have Cb:=hid (V9 P g cap ts nest r ⟨#[41]⟩ m7 rfl Wa (S9.out.below Ba) HE)
 have hpa:=(HC.out Wa GWa).1
 have hba:=(HC.out Wa GWa).2.2.lt
 unfold trV
 go_upto_region 31 with fail
 rw [← hWa]
 clear hWa
 go_wp2_with fail
 (with_reducible refine Calls.mono Cb.out ?_)
 rintro e wb ⟨hg,hq⟩
 have GWb:=hid (b6 GWa hg)
 cases hw : isT m7 r
 case false =>
  obtain rfl:=hq.2 hw
  refine And.intro rfl ?_
  rw [HX2.out,Y8 hw]
  exact ⟨rfl,b6 G3 GWb⟩
 case true =>
 obtain ⟨rfl,hs⟩:=hq.1 hw
 have HX3:=hid (HX2.out.trans (O4 hw))
 have Sb:=hid hs
 have hsz:=hid (show w8.heap.size≤w9.heap.size∧w9.heap.size<Wa.heap.size∧Wa.heap.size≤wb.heap.size from ⟨hle89,Ta.out.lt,hg.size⟩)
 have Tb:=hid (Ta.out.grown hg (fun e => by have:=Option.some.inj e; have:=HB.out; have:=hsz.out; have:=hz9.out; omega))
 have HGb:=hid (show w9.grownBy wb (some P) from b6 (b8 Ba) hg)
 have Zb:=hid (HC.out wb GWb).2.1
 obtain ⟨⟨x0,x1,x2,x3,x4,x5⟩,-⟩:=Tb.out.cells
 obtain ⟨⟨z0,z1,z2,z3,z4,z5⟩,⟨f0,f1,f2,f3,f4,f5⟩⟩:=Zb.out.cells
 have hxl:=Tb.out.lt
 have hzl:=Zb.out.lt
 clear hs hg hq hw Cb hpa
 go_wp2_with fail
 refine bodyPost_ret (v:=trV t a2 cp) (by simp [results,Tryz.results210,go_sem,trV,z0,z1,z2,z3,z4,z5]) rfl ?_
 rw [HX3.out]
 have hb:=HB.out
 have h9:=hz9.out
 have hs':=hsz.out
 exact QP.fin (av:=Fr w8.heap.size w9.heap.size) Sb (b6 G3 GWb) (by omega) (by omega) (aG HL HGb fun c hc => ⟨hc.2,by have:=hc.1; omega,hc⟩) (fun c hc => ⟨by have:=hc.1; omega,by have:=hc.2; omega,by have:=hc.1; omega⟩) HD
end
end Go.Proofs.YtibiccacafjjfaaGreatDoor
