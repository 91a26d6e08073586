/-
  Laws that the proof rests on.
-/
import Derived.Test.YtibiccacafjjfaaGreatDoorB24
import Derived.Test.YtibiccacafjjfaaGreatDoorB21
import Derived.Deep.Cut
namespace Go.Proofs.YtibiccacafjjfaaGreatDoor
set_option maxRecDepth 100000
set_option maxHeartbeats 16000000
section
open Lib (hid)
open Go.RowKit
def uK (nest : Nat) (l : List Tk) : Rd:=if isT o6 (b9 l)=true then (rd (.args []) nest (b9 (b9 l))).then fun a r => made (mkN 11 (hd l).text 0 a.kids (hd l).pos) r
 else .ok (mkN 10 (hd l).text 0 [] (hd l).pos,b9 l)
theorem lZ {rdr : List Tk→Rd} : ∀ (f : Nat) (acc : List Nd) (l : List Tk) (u : Nd) (q : List Tk),H5 rdr f acc l=.ok (u,q)→u.kids.length≤acc.length + f
 | 0,_,_,_,_,h => by rw [H5] at h; cases h
 | f + 1,acc,l,u,q,h => by
   rw [H5] at h
   cases hx : rdr l with
   | error e => rw [hx] at h; cases h
   | ok p =>
     obtain ⟨t,r⟩:=p
     rw [hx] at h
     replace h : (if isT l0 r=true then H5 rdr f (acc ++ [t]) (b9 r) else d9 m5 r fun r => .ok (mkN 0 [] 0 (acc ++ [t]) 0,r))=.ok (u,q):=h
     split at h
     ·have:=lZ f _ _ _ _ h
      rw [List.length_append] at this
      simp at this; omega
     ·unfold d9 at h
      split at h
      ·cases h
       show (acc ++ [t]).length≤_
       rw [List.length_append]; simp
      ·cases h
theorem a2P (P g cap : Nat) (ts : List Tk) (he : y7 ts) (htk : ∀ t∈ts,z8 t) (nest : Nat) (l : List Tk) (w : World) (hn : nest≤300) (h : SQ P g cap ts nest l w) (hk0 : (hd l).kind≠0) (hE : ∀ r,r.length<l.length→CQ 25 .expr P g cap ts r) :
 Calls Tryz.prog 219 #[.pointer (some ⟨P,0,none⟩)] w (QP P g cap ts nest (uK nest l) w):=by
 have hln:=cZ (l:=l) rfl hk0
 have HT0:=hid (htk _ h.mem)
 have HB:=hid h.blocks
 obtain ⟨X,hX⟩ : ∃ X,X=uK nest l:=⟨_,rfl⟩
 rw [← hX]
 rw [show uK nest l=if isT o6 (b9 l)=true then (rd (.args []) nest (b9 (b9 l))).then fun a r => made (mkN 11 (hd l).text 0 a.kids (hd l).pos) r else .ok (mkN 10 (hd l).text 0 [] (hd l).pos,b9 l) from rfl] at hX
 obtain ⟨W1,hW1⟩ : ∃ W,W=w.alloc (.cells #[.pointer (some ⟨P,0,none⟩)] 48):=⟨_,rfl⟩
 have B1:=hid (show Below w.heap.size w W1 from hW1 ▸ c6 _ _)
 have hz1:=hid (show W1.heap.size=w.heap.size + 1 by rw [hW1]; simp)
 have hp1:=hid (show W1.cell? ⟨w.heap.size,0,none⟩=some (.pointer (some ⟨P,0,none⟩)) by rw [hW1]; simp)
 obtain ⟨W2,hW2⟩ : ∃ W,W=W1.alloc (.cells #[.int .i64 0,.string ⟨#[]⟩,.int .i64 0,.slice none 0 0,.int .i64 0,.int .i64 0] 50):=⟨_,rfl⟩
 have B2':=hid (show Below W1.heap.size W1 W2 from hW2 ▸ c6 _ _)
 have B2:=hid (B1.out.trans (B2'.out.mono B1.out.size))
 have hz2:=hid (show W2.heap.size=w.heap.size + 2 by rw [hW2]; simp [hz1.out])
 have Z2:=hid (show T6 (w.heap.size + 1) 0 ⟨#[]⟩ 0 none 0 0 0 0 W2 from hW2 ▸ (show w.heap.size + 1=W1.heap.size by rw [hz1.out]) ▸ T6.make W1 _ _ _ _ _ _ _ _)
 have hpc:=(B2'.out.cell (p:=⟨w.heap.size,0,none⟩) (by show w.heap.size<W1.heap.size; rw [hz1.out]; omega)).trans hp1
 have HPC:=hid hpc
 have C1:=hid (dG P g cap ts nest l W2 (h.below B2) he)
 have HE:=hid he
 have HEx:=hid hE
 have HLn:=hid hln
 generalize hd l=T at C1 hX HT0
 have HX:=hid hX
 clear h he htk hE hX hln hk0
 go_enter Tryz.func219,Tryz.ntmps219
 go_upto_region 1 with fail
 rw [← hW1,← hW2]
 clear hW1 hW2
 go_wp2_with fail
 (with_reducible refine Calls.mono C1.out ?_)
 rintro e w3 ⟨rfl,hs,hg⟩
 have hsz3:=hid (show w.heap.size + 2≤w3.heap.size by have:=hg.size; have:=hz2.out; omega)
 have G3:=hid (b6 (b8 B2) hg)
 have Z3:=hid (Z2.out.grown hg (fun e => by have:=Option.some.inj e; have:=HB.out; omega))
 have HP3:=hid (show w3.cell? ⟨w.heap.size,0,none⟩=some (.pointer (some ⟨P,0,none⟩)) from (World.cell?_of_block (hg.block w.heap.size (by have:=hz2.out; omega) (fun e => by have:=Option.some.inj e; have:=HB.out; omega))).trans HPC)
 have S3:=hid hs
 clear hs hg C1 hpc
 unfold tkV
 obtain ⟨W4,hW4⟩ : ∃ W,W=w3.alloc (.cells #[.int .i64 T.kind,.string ⟨T.text.toArray⟩,.int .i64 T.n,.int .i64 T.pos] 79):=⟨_,rfl⟩
 have B4:=hid (show Below w3.heap.size w3 W4 from hW4 ▸ c6 _ _)
 have hz4:=hid (show W4.heap.size=w3.heap.size + 1 by rw [hW4]; simp)
 have Q4:=hid (show QT w3.heap.size T W4 from hW4 ▸ QT.make w3 T)
 obtain ⟨⟨t0,t1,t2,t3⟩,-⟩:=Q4.out.cells
 have htl:=Q4.out.lt
 go_upto_region 2 with fail
 rw [← hW4]
 clear hW4
 obtain ⟨W5,hW5⟩ : ∃ W,W=W4.alloc (.cells #[.int .i64 10,.string ⟨T.text.toArray⟩,.int .i64 0,.slice none 0 0,.int .i64 T.pos] 24):=⟨_,rfl⟩
 have B5:=hid (show Below W4.heap.size W4 W5 from hW5 ▸ c6 _ _)
 have hz5:=hid (show W5.heap.size=W4.heap.size + 1 by rw [hW5]; simp)
 have N5:=hid (show f6 W4.heap.size (.mk 10 ⟨T.text.toArray⟩ 0 [] T.pos) none 0 W5 from hW5 ▸ f6.make W4 (.mk 10 ⟨T.text.toArray⟩ 0 [] T.pos) none 0)
 go_upto_region 3 with fail
 rw [← hW5]
 clear hW5 t0 t1 t2 t3 htl
 obtain ⟨W6,hW6⟩ : ∃ W,W=W5.alloc (.cells #[.slice none 0 0] 114):=⟨_,rfl⟩
 have B6:=hid (show Below W5.heap.size W5 W6 from hW6 ▸ c6 _ _)
 have hz6:=hid (show W6.heap.size=W5.heap.size + 1 by rw [hW6]; simp)
 have K6:=hid (show W6.heap[W5.heap.size]?=some (.cells #[.slice none 0 0] 114 (0,0)) by rw [hW6]; show (W5.heap.push _)[W5.heap.size]?=_; simp)
 have B36:=hid (show Below w3.heap.size w3 W6 from B4.out.trans ((B5.out.trans (B6.out.mono B5.out.size)).mono B4.out.size))
 have N6:=hid (N5.out.below B6)
 have Z6:=hid (Z3.out.below B36)
 have S6:=hid (S3.out.below B36)
 have G6:=hid (b6 G3 (b8 B36))
 have hp6 : W6.cell? ⟨w.heap.size,0,none⟩=some (.pointer (some ⟨P,0,none⟩)):=(B36.out.cell (p:=⟨w.heap.size,0,none⟩) (by show w.heap.size<w3.heap.size; have:=hsz3.out; omega)).trans HP3
 have HP6:=hid hp6
 have C6:=hid (show Calls Tryz.prog 50 #[.pointer (some ⟨P,0,none⟩),.string ⟨#[40]⟩] W6 (fun e w' => e=.returned (.bool (isT o6 (b9 l)))∧Below W6.heap.size W6 w') from aO P g cap ts nest (b9 l) ⟨#[40]⟩ W6 S6)
 have hbp : w.heap.size<W6.heap.size:=by have:=hsz3.out; have:=hz4.out; have:=hz5.out; have:=hz6.out; omega
 go_upto_region 4 with fail
 rw [← hW6]
 clear hW6
 cases hb : isT o6 (b9 l)
 case false =>
  rw [hb] at C6
  have HX':=hid (show X=.ok (mkN 10 T.text 0 [] T.pos,b9 l) by rw [HX.out,if_neg (by rw [hb]; decide)])
  clear hb
  go_wp2_with fail
  (with_reducible refine Calls.mono C6.out ?_)
  rintro e w8 ⟨rfl,hb⟩
  have B8:=hid hb
  have N8:=hid (N6.out.below hb)
  have Z8:=hid (Z6.out.below hb)
  have S8:=hid (S6.out.below hb)
  have G8:=hid (b6 G6 (b8 hb))
  have hz8:=hid (show w.heap.size + 1<w8.heap.size from Z8.out.lt)
  have hp8:=(hb.cell (p:=⟨w.heap.size,0,none⟩) hbp).trans HP6
  have hk8 : w8.cell? ⟨W5.heap.size,0,none⟩=some (.slice none 0 0):=(World.cell?_of_block (hb.block W5.heap.size (by rw [hz6.out]; omega))).trans (by simp [World.cell?,K6.out])
  obtain ⟨⟨n0,n1,n2,n3,n4⟩,-⟩:=N8.out.cells
  have hn8:=N8.out.lt
  simp only [Nd.kind,Nd.text,Nd.n,Nd.kids,Nd.place,List.length_nil] at n0 n1 n2 n3 n4
  have hbl8:=hb.size
  obtain ⟨L,hL⟩ : ∃ L : List Ent,L=[]:=⟨_,rfl⟩
  obtain ⟨q,hq⟩ : ∃ q,q=b9 l:=⟨_,rfl⟩
  have C9:=hid (show Calls Tryz.prog 54 #[.pointer (some ⟨P,0,none⟩),.agg #[.int .i64 10,.string ⟨T.text.toArray⟩,.int .i64 0,.slice none 0 0,.int .i64 T.pos],.slice none 0 0] w8 (gI 10 T.text 0 T.pos L w8) by
   subst hL
   exact aG P 10 T.text 0 T.pos none 0 [] w8 (by decide) (fun h => absurd rfl h) (fun e he => (by cases he)))
  have HXm:=hid (show X=made (mkN 10 T.text 0 (L.map (·.1)) T.pos) q by
   rw [HX'.out,hL,hq]
   exact (cN (by show c8 (mkN 10 T.text 0 [] T.pos)≤100; unfold mkN; rw [c8,i8]; decide)).symm)
  have HLL:=hid (show ∀ e∈L,e.1.lies (fun c => w.heap.size + 1<c∧c<w8.heap.size) w8 e.2.1 e.2.2 from fun e he => by rw [hL] at he; cases he)
  rw [← hq] at S8
  clear hb C6 hL hq
  go_wp2_with fail
  (with_reducible refine Calls.mono C9.out ?_)
  intro e wy hm
  have HMR:=hid (show jB (made (mkN 10 T.text 0 (L.map (·.1)) T.pos) q) (fun c => w.heap.size + 1<c∧c<w8.heap.size) w8 e wy from
   hm.use rfl (by have:=HT0.out.2.2; omega) rfl HT0.out.2.1 (fun c hc => hc.2) HLL q)
  clear hm C9
  obtain ⟨hb8,hm⟩:=HMR.out
  have By:=hid hb8
  cases hmd : made (mkN 10 T.text 0 (L.map (·.1)) T.pos) q with
  | error z =>
    obtain ⟨k0,p0⟩:=z
    rw [hmd] at hm
    obtain rfl:=hm
    refine And.intro rfl ?_
    rw [HXm.out,hmd]
    exact ⟨rfl,b6 G8 (b8 By)⟩
  | ok z =>
  obtain ⟨t4,q2⟩:=z
  have hq2 : q2=q:=dT hmd
  subst hq2
  rw [hmd] at hm
  obtain ⟨a4,c4,rfl,hl3,hd3⟩:=hm
  have HMD:=hid hmd
  have HL4:=hid hl3
  have HD4:=hid hd3
  have Zy:=hid (Z8.out.below By)
  obtain ⟨⟨z0,z1,z2,z3,z4,z5⟩,⟨f0,f1,f2,f3,f4,f5⟩⟩:=Zy.out.cells
  have hzl:=Zy.out.lt
  clear hmd hl3 hd3 hb8
  unfold trV
  go_wp2_with fail
  refine bodyPost_ret (v:=trV t4 a4 c4) (by simp [results,Tryz.results219,go_sem,trV,z0,z1,z2,z3,z4,z5]) rfl ?_
  rw [HXm.out,HMD.out]
  have h2:=By.out.size
  have hb:=HB.out
  have h4:=G8.out.size
  have h5:=hz8.out
  exact QP.fin (S8.out.below By) (b6 G8 (b8 By)) (by omega) (by omega) HL4 (fun c hc => by
   rcases hc with hc | hc
   ·have:=hc.1; have:=hc.2; omega
   ·have:=hc.1; have:=hc.2; omega) HD4
 case true =>
 rw [hb] at C6
 have HX':=hid (show X=(H5 (rd .expr nest) 8 [] (b9 (b9 l))).then fun a r => made (mkN 11 T.text 0 a.kids T.pos) r by rw [HX.out,if_pos hb,sP nest 8 [] _ rfl])
 have HO:=hid hb
 clear hb
 go_wp2_with fail
 (with_reducible refine Calls.mono C6.out ?_)
 rintro e w7 ⟨rfl,hb⟩
 have B7:=hid hb
 have N7:=hid (N6.out.below hb)
 have Z7:=hid (Z6.out.below hb)
 have S7:=hid (S6.out.below hb)
 have G7:=hid (b6 G6 (b8 hb))
 have hp7:=(hb.cell (p:=⟨w.heap.size,0,none⟩) hbp).trans HP6
 have HK7:=hid (show w7.heap[W5.heap.size]?=some (.cells #[.slice none 0 0] 114 (0,0)) from (hb.block W5.heap.size (by rw [hz6.out]; omega)).trans K6)
 have hz7:=hid (show W6.heap.size≤w7.heap.size from hb.size)
 obtain ⟨⟨n0,n1,n2,n3,n4⟩,⟨m0,m1,m2,m3,m4⟩⟩:=N7.out.cells
 have hn7:=N7.out.lt
 simp only [Nd.kind,Nd.text,Nd.n,Nd.kids,Nd.place,List.length_nil] at n0 n1 n2 n3 n4
 have N8':=hid (show f6 W4.heap.size (.mk 11 ⟨T.text.toArray⟩ 0 [] T.pos) none 0 (w7.setCell ⟨W4.heap.size,0,none⟩ (.int .i64 11)) from
  l5 (show w7.heap[W4.heap.size]?=some (.cells #[.int .i64 10,.string ⟨T.text.toArray⟩,.int .i64 0,.slice none 0 0,.int .i64 T.pos] 24 (0,0)) from N7) 0 _)
 obtain ⟨Wl,hWl⟩ : ∃ W,W=w7.setCell ⟨W4.heap.size,0,none⟩ (.int .i64 11):=⟨_,rfl⟩
 have hsl:=hid (show Wl.heap.size=w7.heap.size by rw [hWl]; simp [World.setCell])
 have HBk:=hid (show ∀ d,d≠W4.heap.size→Wl.heap[d]?=w7.heap[d]? from fun d hd => hWl ▸ Below.heap_setCell _ _ _ _ hd)
 have Nl:=hid (show f6 W4.heap.size (.mk 11 ⟨T.text.toArray⟩ 0 [] T.pos) none 0 Wl from hWl ▸ N8'.out)
 have hnum:=hid (show P<w.heap.size∧g<w.heap.size∧w.heap.size + 2≤w3.heap.size∧W4.heap.size=w3.heap.size + 1∧W5.heap.size=W4.heap.size + 1∧W6.heap.size=W5.heap.size + 1∧W6.heap.size≤w7.heap.size from ⟨HB.out.1,HB.out.2.1,hsz3,hz4,hz5,hz6,hz7⟩)
 have Gl:=hid (show w.grownBy Wl (some P) from dP G7 (hWl ▸ e9 w7 W4.heap.size 0 _) (by have:=hnum.out; omega))
 have Sl:=hid (show SQ P g cap ts nest (b9 l) Wl from hWl ▸ S7.out.set_other (by have:=hnum.out; omega) (by have:=hnum.out; omega) 0 _)
 have Zl:=hid (show T6 (w.heap.size + 1) 0 ⟨#[]⟩ 0 none 0 0 0 0 Wl from (HBk.out _ (by have:=hnum.out; omega)).trans Z7)
 have hpl' : Wl.cell? ⟨w.heap.size,0,none⟩=some (.pointer (some ⟨P,0,none⟩)):=(World.cell?_of_block (HBk.out w.heap.size (by have:=hnum.out; omega))).trans hp7
 have HPl:=hid hpl'
 have Jl:=hid (show nE Wl.heap.size W5.heap.size w.heap.size P [] Wl from ⟨hpl',Nat.le_refl _,[],none,0,rfl,(HBk.out _ (by have:=hnum.out; omega)).trans HK7,World.ownsRow_nil _ _ _ _,fun e he => (by cases he)⟩)
 have eg : m7 222:=enters_of Tryz.func222 (by kernel_rfl) rfl
 have C7:=hid (show Calls Tryz.prog 97 #[.pointer (some ⟨P,0,none⟩),.int .i64 8,.func (.func 222) #[] #[.pointer (some ⟨W5.heap.size,0,none⟩),.pointer (some ⟨w.heap.size,0,none⟩)]] Wl (a4P P g cap ts nest W5.heap.size Wl.heap.size (nE Wl.heap.size W5.heap.size w.heap.size P) (H5 (rd .expr nest) 8 [] (b9 (b9 l))) Wl) from by
  have hnm:=hnum.out
  have hsl':=hsl.out
  have hln:=HLn.out
  exact uG P g cap ts HE nest (b9 l) 8 (by decide) 222 _ (rd .expr nest) W5.heap.size Wl.heap.size (nE Wl.heap.size W5.heap.size w.heap.size P) Wl eg
   (fun acc W W' hj hg => hj.grown hg (by omega) (by omega) (by omega)) (fun r t q h => aZ .expr nest r h)
   (fun acc r W hr ha hj hs hgx => a08 P g cap ts nest Wl.heap.size W5.heap.size w.heap.size acc r W hn hs hj (by omega) (by omega) (by omega) (by omega) (HEx.out r (by omega))) Sl Jl HO)
 have HLR:=hid (fun u q (h : H5 (rd .expr nest) 8 [] (b9 (b9 l))=.ok (u,q)) => lZ 8 [] _ u q h)
 generalize H5 (rd .expr nest) 8 [] (b9 (b9 l))=x at C7 HX' HLR
 go_upto_region 6 with fail
 rw [← hWl]
 clear hWl hp7 n0 n1 n2 n3 n4 m0 m1 m2 m3 m4 hn7 hb C6 hp6 hpl' eg
 have hpl:=HPl.out
 go_wp2_with fail
 (with_reducible refine Calls.mono C7.out ?_)
 intro e w8 hq
 obtain ⟨hgx,hq⟩:=hq
 have GX:=hid hgx
 have G8:=hid (show w.grownBy w8 (some P) from hgx.grown Gl (by have:=hnum.out; omega) (by have:=hnum.out; have:=hsl.out; omega))
 cases x with
 | error q =>
   obtain ⟨k,p⟩:=q
   obtain rfl:=hq
   refine And.intro rfl ?_
   rw [HX'.out]
   exact ⟨rfl,G8⟩
 | ok q =>
 obtain ⟨u,q⟩:=q
 obtain ⟨rfl,hs,hj⟩:=hq
 have S8:=hid hs
 obtain ⟨j1,j2,L,ao,cp,j3,j4,j5,j6⟩:=hj
 have HLl:=hid (show L.length≤8 by have:=HLR.out u q rfl; rw [← j3,List.length_map] at this; exact this)
 have N8:=hid (show f6 W4.heap.size (.mk 11 ⟨T.text.toArray⟩ 0 [] T.pos) none 0 w8 from (hgx.block _ (by have:=hnum.out; have:=hsl.out; omega) (by have:=hnum.out; have:=hsl.out; omega) (by have:=hnum.out; omega) (by have:=hnum.out; omega)).trans Nl)
 have Z8:=hid (show T6 (w.heap.size + 1) 0 ⟨#[]⟩ 0 none 0 0 0 0 w8 from (hgx.block _ (by have:=hnum.out; have:=hsl.out; omega) (by have:=hnum.out; have:=hsl.out; omega) (by have:=hnum.out; omega) (by have:=hnum.out; omega)).trans Zl)
 have hz8:=hid (show w.heap.size + 1<w8.heap.size from Z8.out.lt)
 have HJ3:=hid j3
 have hk8 : w8.cell? ⟨W5.heap.size,0,none⟩=some (.slice ao L.length cp):=by simp [World.cell?,j4]
 obtain ⟨⟨n0,n1,n2,n3,n4⟩,-⟩:=N8.out.cells
 have hn8:=N8.out.lt
 simp only [Nd.kind,Nd.text,Nd.n,Nd.kids,Nd.place,List.length_nil] at n0 n1 n2 n3 n4
 have C9:=hid (show Calls Tryz.prog 54 #[.pointer (some ⟨P,0,none⟩),.agg #[.int .i64 11,.string ⟨T.text.toArray⟩,.int .i64 0,.slice none 0 0,.int .i64 T.pos],.slice ao L.length cp] w8 (gI 11 T.text 0 T.pos L w8) from
  aG P 11 T.text 0 T.pos ao cp L w8 HLl (fun hne => by
   obtain ⟨g',c',e',hb',hl'⟩:=j5.form (by have:=List.length_pos_iff.2 hne; omega)
   obtain ⟨rfl,-,rfl⟩:=Value.slice.inj e'
   exact ⟨g',0,rfl,hl',a3Y j5⟩) fun e he => (j6 e he).1)
 have HXm:=hid (show X=made (mkN 11 T.text 0 (L.map (·.1)) T.pos) q by rw [HX'.out,HJ3.out]; rfl)
 have HLL:=hid (show ∀ e∈L,e.1.lies (fun c => w.heap.size + 1<c∧c<w8.heap.size) w8 e.2.1 e.2.2 from fun e he => d5 (j6 e he).2 (j0.refl _ _) fun c hc => ⟨by have:=hc.1; have:=hnum.out; have:=hsl.out; omega,hc.2.1⟩)
 clear hs j2 j3 j4 j5 j6 hgx C7 hpl
 go_wp2_with fail
 (with_reducible refine Calls.mono C9.out ?_)
 intro e wy hm
 have HMR:=hid (show jB (made (mkN 11 T.text 0 (L.map (·.1)) T.pos) q) (fun c => w.heap.size + 1<c∧c<w8.heap.size) w8 e wy from
  hm.use rfl (by have:=HT0.out.2.2; omega) rfl HT0.out.2.1 (fun c hc => hc.2) HLL q)
 clear hm C9
 obtain ⟨hb8,hm⟩:=HMR.out
 have By:=hid hb8
 cases hmd : made (mkN 11 T.text 0 (L.map (·.1)) T.pos) q with
 | error z =>
   obtain ⟨k0,p0⟩:=z
   rw [hmd] at hm
   obtain rfl:=hm
   refine And.intro rfl ?_
   rw [HXm.out,hmd]
   exact ⟨rfl,b6 G8 (b8 By)⟩
 | ok z =>
 obtain ⟨t4,q2⟩:=z
 have hq2 : q2=q:=dT hmd
 subst hq2
 rw [hmd] at hm
 obtain ⟨a4,c4,rfl,hl3,hd3⟩:=hm
 have HMD:=hid hmd
 have HL4:=hid hl3
 have HD4:=hid hd3
 have Zy:=hid (Z8.out.below By)
 obtain ⟨⟨z0,z1,z2,z3,z4,z5⟩,⟨f0,f1,f2,f3,f4,f5⟩⟩:=Zy.out.cells
 have hzl:=Zy.out.lt
 clear hmd hl3 hd3 hb8
 unfold trV
 go_wp2_with fail
 refine bodyPost_ret (v:=trV t4 a4 c4) (by simp [results,Tryz.results219,go_sem,trV,z0,z1,z2,z3,z4,z5]) rfl ?_
 rw [HXm.out,HMD.out]
 have h2:=By.out.size
 have hb:=HB.out
 have h4:=G8.out.size
 have h5:=hz8.out
 exact QP.fin (S8.out.below By) (b6 G8 (b8 By)) (by omega) (by omega) HL4 (fun c hc => by
  rcases hc with hc | hc
  ·have:=hc.1; have:=hc.2; omega
  ·have:=hc.1; have:=hc.2; omega) HD4
end
section
open Lib (hid)
open Go.RowKit
theorem fB (P g cap : Nat) (ts : List Tk) (he : y7 ts) (htk : ∀ t∈ts,z8 t) (nest : Nat) (l : List Tk) (k : Int) (s : List UInt8) (n : Int) (pb : Nat) (w : World) (h : SQ P g cap ts nest l w) (hp : w.cell? ⟨pb,0,none⟩=some (.pointer (some ⟨P,0,none⟩))) (hpb : pb≠P∧pb<w.heap.size)
 (hk : (Lit.int .i64 k).wf=true) (hs : s.length≤16384) (hn : (Lit.int .i64 n).wf=true) :
 Calls Tryz.prog 218 #[.agg #[.int .i64 k,.string ⟨s.toArray⟩,.int .i64 n,.slice none 0 0,.int .i64 0],.pointer (some ⟨pb,0,none⟩)] w (QP P g cap ts nest (.ok (mkN k s n [] (hd l).pos,b9 l)) w):=by
 have HT0:=hid (htk _ h.mem)
 have HB:=hid h.blocks
 have HH:=hid (show (Lit.int .i64 k).wf=true∧s.length≤16384∧(Lit.int .i64 n).wf=true from ⟨hk,hs,hn⟩)
 obtain ⟨W1,hW1⟩ : ∃ W,W=w.alloc (.cells #[.int .i64 k,.string ⟨s.toArray⟩,.int .i64 n,.slice none 0 0,.int .i64 0] 24):=⟨_,rfl⟩
 have B1:=hid (show Below w.heap.size w W1 from hW1 ▸ c6 _ _)
 have hz1:=hid (show W1.heap.size=w.heap.size + 1 by rw [hW1]; simp)
 have N1:=hid (show f6 w.heap.size (.mk k ⟨s.toArray⟩ n [] 0) none 0 W1 from hW1 ▸ f6.make w (.mk k ⟨s.toArray⟩ n [] 0) none 0)
 obtain ⟨W2,hW2⟩ : ∃ W,W=W1.alloc (.cells #[.int .i64 0,.string ⟨#[]⟩,.int .i64 0,.slice none 0 0,.int .i64 0,.int .i64 0] 50):=⟨_,rfl⟩
 have B2':=hid (show Below W1.heap.size W1 W2 from hW2 ▸ c6 _ _)
 have B2:=hid (B1.out.trans (B2'.out.mono B1.out.size))
 have Z2:=hid (show T6 (w.heap.size + 1) 0 ⟨#[]⟩ 0 none 0 0 0 0 W2 from hW2 ▸ (show w.heap.size + 1=W1.heap.size by rw [hz1.out]) ▸ T6.make W1 _ _ _ _ _ _ _ _)
 have N2:=hid (N1.out.below B2')
 have hp2:=(B2.out.cell (p:=⟨pb,0,none⟩) hpb.2).trans hp
 have C1:=hid (dG P g cap ts nest l W2 (h.below B2) he)
 generalize hd l=T at C1 HT0 ⊢
 have hfd:=iL T.kind T.n T.pos ⟨T.text.toArray⟩
 have HPc:=hid hp
 have hz2:=hid (show w.heap.size + 1<W2.heap.size from Z2.out.lt)
 generalize hsb : (⟨s.toArray⟩ : ByteArray)=sb at hW1 N1 N2 ⊢
 have HSB:=hid hsb
 clear h he htk hk hs hn hp hsb
 go_enter Tryz.func218,Tryz.ntmps218
 go_upto_region 1 with fail
 rw [← hW1,← hW2]
 clear hW1 hW2
 go_wp2_with fail
 (with_reducible refine Calls.mono C1.out ?_)
 rintro e w3 ⟨rfl,hs,hg⟩
 have G3:=hid (b6 (b8 B2) hg)
 have S3:=hid hs
 have N3:=hid (N2.out.grown hg (by have:=HB.out; omega))
 have Z3:=hid (Z2.out.grown hg (fun e => by have:=Option.some.inj e; have:=HB.out; omega))
 have hp3 : w3.cell? ⟨pb,0,none⟩=some (.pointer (some ⟨P,0,none⟩)):=(World.cell?_of_block (G3.out.block pb hpb.2 (fun e => hpb.1 (Option.some.inj e)))).trans HPc
 obtain ⟨⟨n0,n1,n2,n3,n4⟩,⟨m0,m1,m2,m3,m4⟩⟩:=N3.out.cells
 have hn3:=N3.out.lt
 simp only [Nd.kind,Nd.text,Nd.n,Nd.kids,Nd.place,List.length_nil] at n0 n1 n2 n3 n4
 have N4:=hid (show f6 w.heap.size (.mk k sb n [] T.pos) none 0 (w3.setCell ⟨w.heap.size,4,none⟩ (.int .i64 T.pos)) from
  l5 (show w3.heap[w.heap.size]?=some (.cells #[.int .i64 k,.string sb,.int .i64 n,.slice none 0 0,.int .i64 0] 24 (0,0)) from N3) 4 _)
 obtain ⟨W4,hW4⟩ : ∃ W,W=w3.setCell ⟨w.heap.size,4,none⟩ (.int .i64 T.pos):=⟨_,rfl⟩
 rw [← hW4] at N4
 have HBk:=hid (show ∀ d,d≠w.heap.size→W4.heap[d]?=w3.heap[d]? from fun d hd => hW4 ▸ Below.heap_setCell _ _ _ _ hd)
 have hz4:=hid (show W4.heap.size=w3.heap.size by rw [hW4]; simp [World.setCell])
 have G4:=hid (show w.grownBy W4 (some P) from dP G3 (hW4 ▸ e9 w3 w.heap.size 4 _) (Nat.le_refl _))
 have S4:=hid (show SQ P g cap ts nest (b9 l) W4 from hW4 ▸ S3.out.set_other (by have:=HB.out; omega) (by have:=HB.out; omega) 4 _)
 have Z4:=hid (show T6 (w.heap.size + 1) 0 ⟨#[]⟩ 0 none 0 0 0 0 W4 from (HBk.out _ (by omega)).trans Z3)
 clear hs hg C1 hp2
 unfold tkV
 go_upto_region 2 with fail
 rw [← hW4]
 clear hW4 n0 n1 n2 n3 n4 m0 m1 m2 m3 m4 hn3 hp3 hfd
 have hp4 : W4.cell? ⟨pb,0,none⟩=some (.pointer (some ⟨P,0,none⟩)):=(World.cell?_of_block (G4.out.block pb hpb.2 (fun e => hpb.1 (Option.some.inj e)))).trans HPc
 obtain ⟨⟨n0,n1,n2,n3,n4⟩,-⟩:=N4.out.cells
 have hn4:=N4.out.lt
 simp only [Nd.kind,Nd.text,Nd.n,Nd.kids,Nd.place,List.length_nil] at n0 n1 n2 n3 n4
 have C5:=hid (show Calls Tryz.prog 54 #[.pointer (some ⟨P,0,none⟩),.agg #[.int .i64 k,.string sb,.int .i64 n,.slice none 0 0,.int .i64 T.pos],.slice none 0 0] W4 (gI k s n T.pos [] W4) by
  have:=aG P k s n T.pos none 0 [] W4 (by decide) (fun h => absurd rfl h) (fun e he => (by cases he))
  rw [HSB.out] at this
  exact this)
 go_wp2_with fail
 (with_reducible refine Calls.mono C5.out ?_)
 intro e wy hm
 have HMR:=hid (show jB (made (mkN k s n [] T.pos) (b9 l)) (fun _ => False) W4 e wy from hm.use HH.out.1 HH.out.2.1 HH.out.2.2 HT0.out.2.1 (fun c hc => hc.elim) (fun e he => (by cases he)) (b9 l))
 have hmd : made (mkN k s n [] T.pos) (b9 l)=.ok (mkN k s n [] T.pos,b9 l):=cN (by unfold mkN; rw [c8,i8]; decide)
 rw [hmd] at HMR
 clear hm C5
 obtain ⟨hb8,a4,c4,rfl,hl3,hd3⟩:=HMR.out
 have By:=hid hb8
 have HL4:=hid hl3
 have HD4:=hid hd3
 have Zy:=hid (Z4.out.below By)
 obtain ⟨⟨z0,z1,z2,z3,z4,z5⟩,⟨f0,f1,f2,f3,f4,f5⟩⟩:=Zy.out.cells
 have hzl:=Zy.out.lt
 obtain ⟨t4,ht4⟩ : ∃ t,t=mkN k s n [] T.pos:=⟨_,rfl⟩
 rw [← ht4] at HL4 HD4 ⊢
 have HT4:=hid ht4
 clear ht4
 clear hmd hl3 hd3 hb8 HMR
 unfold trV
 go_wp2_with fail
 refine bodyPost_ret (v:=trV t4 a4 c4) (by simp [results,Tryz.results218,go_sem,trV,z0,z1,z2,z3,z4,z5]) rfl ?_
 rw [← HT4.out]
 have h2:=By.out.size
 have hb:=HB.out
 have h4:=hz4.out
 have h5:=Z3.out.lt
 exact QP.fin (S4.out.below By) (b6 G4 (b8 By)) (by omega) (by omega) HL4 (fun c hc => by
  rcases hc with hc | hc
  ·exact hc.elim
  ·have:=hc.1; have:=hc.2; omega) HD4
def bZ (P : Nat) (T : Tk) (w : World) : World:=((w.alloc (.cells #[.pointer (some ⟨P,0,none⟩)] 48)).alloc (.cells #[.int .i64 0,.string ⟨#[]⟩,.int .i64 0,.slice none 0 0,.int .i64 0,.int .i64 0] 50)).alloc (.cells #[.int .i64 T.kind,.string ⟨T.text.toArray⟩,.int .i64 T.n,.int .i64 T.pos] 79)
theorem bC {P g cap : Nat} {ts : List Tk} {nest : Nat} {l : List Tk} {w : World} (h : SQ P g cap ts nest l w) (htk : ∀ t∈ts,z8 t) : ∃ (T : Tk) (Ln C off : Nat),Hid (hd l=T)∧Hid (z8 T)∧P<w.heap.size∧g<w.heap.size∧0<Ln ∧
 w.cell? ⟨P,0,none⟩=some (.slice (some ⟨g,off,none⟩) Ln C)∧w.cell? ⟨P,1,none⟩=some (.int .i64 nest)∧w.cell? ⟨g,off,none⟩=some (.int .i64 T.kind)∧w.cell? ⟨g,off + 1,none⟩=some (.string ⟨T.text.toArray⟩)∧w.cell? ⟨g,off + 2,none⟩=some (.int .i64 T.n)∧w.cell? ⟨g,off + 3,none⟩=some (.int .i64 T.pos) ∧
 ∀ W3,W3=bZ P T w→Hid (Below w.heap.size w W3)∧Hid (W3.heap.size=w.heap.size + 3)∧Hid (W3.cell? ⟨w.heap.size,0,none⟩=some (.pointer (some ⟨P,0,none⟩)))∧Hid (T6 (w.heap.size + 1) 0 ⟨#[]⟩ 0 none 0 0 0 0 W3)∧Hid (QT (w.heap.size + 1 + 1) T W3)∧Hid (SQ P g cap ts nest l W3)∧Hid (w.grownBy W3 (some P)) ∧
  Hid (∀ W : World,W3.grownBy W (some P)→W.cell? ⟨w.heap.size,0,none⟩=some (.pointer (some ⟨P,0,none⟩))∧T6 (w.heap.size + 1) 0 ⟨#[]⟩ 0 none 0 0 0 0 W∧QT (w.heap.size + 1 + 1) T W):=by
 have HT0:=hid (htk _ h.mem)
 obtain ⟨a,hl,hp⟩:=h
 have h : SQ P g cap ts nest l w:=⟨a,hl,hp⟩
 have hpos:=hp.pos
 have hPlt:=hp.plt
 have hg0:=hp.lt
 have D:=hid (show hd l=ts[a]'hpos by rw [hl,O0 hpos])
 obtain ⟨⟨p0,p1⟩,-⟩:=hp.cells
 obtain ⟨t0,t1,t2,t3⟩:=hp.tok
 have hL : 0<ts.length - a:=by omega
 generalize ts[a]'hpos=T at t0 t1 t2 t3 D
 generalize ts.length - a=Ln at p0 hL
 generalize cap - a=C at p0
 generalize a * 4=off at p0 t0 t1 t2 t3
 rw [D.out] at HT0
 refine ⟨T,Ln,C,off,D,HT0,hPlt,hg0,hL,p0,p1,t0,t1,t2,t3,fun W3 hW3 => ?_⟩
 unfold bZ at hW3
 have B3:=hid (show Below w.heap.size w W3 from hW3 ▸ (A6 w _ _).alloc (A6 w _ _).size _)
 have hz3:=hid (show W3.heap.size=w.heap.size + 3 by rw [hW3]; simp)
 have hpc:=hid (show W3.cell? ⟨w.heap.size,0,none⟩=some (.pointer (some ⟨P,0,none⟩)) by
  rw [hW3]
  exact ((A6 (w.alloc (.cells #[.pointer (some ⟨P,0,none⟩)] 48)) _ _).cell (p:=⟨w.heap.size,0,none⟩) (by simp)).trans (by simp))
 have Z3:=hid (show T6 (w.heap.size + 1) 0 ⟨#[]⟩ 0 none 0 0 0 0 W3 from hW3 ▸ by
  have:=T6.make (w.alloc (.cells #[.pointer (some ⟨P,0,none⟩)] 48)) 0 ⟨#[]⟩ 0 none 0 0 0 0
  rw [World.size_alloc] at this
  exact this.below (c6 _ _))
 have Q3:=hid (show QT (w.heap.size + 1 + 1) T W3 from hW3 ▸ by
  have:=QT.make ((w.alloc (.cells #[.pointer (some ⟨P,0,none⟩)] 48)).alloc (.cells #[.int .i64 0,.string ⟨#[]⟩,.int .i64 0,.slice none 0 0,.int .i64 0,.int .i64 0] 50)) T
  rw [World.size_alloc,World.size_alloc] at this
  exact this)
 have S3:=hid (h.below B3)
 have G3:=hid (show w.grownBy W3 (some P) from b8 B3)
 have HC:=hid (show ∀ W : World,W3.grownBy W (some P)→W.cell? ⟨w.heap.size,0,none⟩=some (.pointer (some ⟨P,0,none⟩))∧T6 (w.heap.size + 1) 0 ⟨#[]⟩ 0 none 0 0 0 0 W∧QT (w.heap.size + 1 + 1) T W from fun W hg =>
  ⟨(World.cell?_of_block (hg.block w.heap.size (by have:=hz3.out; omega) (fun e => by have:=Option.some.inj e; omega))).trans hpc,Z3.out.grown hg (fun e => by have:=Option.some.inj e; omega),Q3.out.grown hg (fun e => by have:=Option.some.inj e; omega)⟩)
 exact ⟨B3,hz3,hpc,Z3,Q3,S3,G3,HC⟩
theorem a3q (P g cap : Nat) (ts : List Tk) (he : y7 ts) (htk : ∀ t∈ts,z8 t) (nest : Nat) (l : List Tk) (w : World) (h : SQ P g cap ts nest l w) (hk : (hd l).kind=6) : Calls Tryz.prog 210 #[.pointer (some ⟨P,0,none⟩)] w (QP P g cap ts nest (.ok (mkN 5 [] (hd l).n [] (hd l).pos,b9 l)) w):=by
 have HB:=hid h.blocks
 have HE:=hid he
 obtain ⟨T,Ln,C,off,D,HT0,hPlt,hg0,hL,p0,p1,t0,t1,t2,t3,HW⟩:=bC h htk
 obtain ⟨W3,hW3⟩ : ∃ W,W=bZ P T w:=⟨_,rfl⟩
 obtain ⟨B3,hz3,hpc,Z3,Q3,S3,G3,HC⟩:=HW W3 hW3
 unfold bZ at hW3
 clear HW
 have eg : m7 218:=enters_of Tryz.func218 (by kernel_rfl) rfl
 unfold m7 at eg
 rw [D.out] at hk
 have e6 : (T.kind == 6)=true:=by rw [hk]; rfl
 have C:=hid (show Calls Tryz.prog 218 #[.agg #[.int .i64 5,.string ⟨#[]⟩,.int .i64 T.n,.slice none 0 0,.int .i64 0],.pointer (some ⟨w.heap.size,0,none⟩)] W3 (QP P g cap ts nest (.ok (mkN 5 [] (hd l).n [] (hd l).pos,b9 l)) W3) by
  have:=fB P g cap ts he htk nest l 5 [] (hd l).n w.heap.size W3 S3 hpc (by have:=HB.out; have:=hz3.out; omega) rfl (by decide) (by rw [D.out]; exact HT0.out.1)
  rw [D.out] at this ⊢
  exact this)
 generalize (.ok (mkN 5 [] (hd l).n [] (hd l).pos,b9 l) : Rd)=x at C ⊢
 clear hk
 clear h he htk
 go_enter Tryz.func210,Tryz.ntmps210
 go_upto_region 2 with fail
 rw [← hW3]
 clear hW3 t0 t1 t2 t3 p0 p1 hL
 obtain ⟨⟨t0,t1,t2,t3⟩,-⟩:=Q3.out.cells
 have htl:=Q3.out.lt
 have hp3:=hpc.out
 go_wp2_with fail
 have GW3:=hid (show W3.grownBy W3 (some P) from b8 (Below.refl _ _))
 have Zi:=hid (HC.out W3 GW3).2.1
 have hzi:=hid (show w.heap.size + 1<W3.heap.size from Zi.out.lt)
 (with_reducible refine Calls.mono C.out ?_)
 intro e w3 hq
 cases x with
 | error q =>
   obtain ⟨k,p⟩:=q
   obtain ⟨rfl,hg⟩:=hq
   refine And.intro rfl ?_
   exact ⟨rfl,b6 (b6 G3 GW3) hg⟩
 | ok q =>
   obtain ⟨t,r⟩:=q
   obtain ⟨a,cp,rfl,hs,hg,hl,hd⟩:=hq
   have Z3:=hid (Zi.out.grown hg (fun e => by have:=Option.some.inj e; have:=HB.out; omega))
   have HS:=hid hs
   have HG:=hid hg
   have HL:=hid hl
   have HD:=hid hd
   obtain ⟨⟨z0,z1,z2,z3,z4,z5⟩,⟨f0,f1,f2,f3,f4,f5⟩⟩:=Z3.out.cells
   have hzl:=Z3.out.lt
   clear hs hg hl hd C
   unfold trV
   go_wp2_with fail
   refine bodyPost_ret (v:=trV t a cp) (by simp [results,Tryz.results210,go_sem,trV,z0,z1,z2,z3,z4,z5]) rfl ?_
   have hz:=hzi.out
   have hb:=HB.out
   exact QP.fin HS (b6 (b6 G3 GW3) HG) (by omega) (by omega) HL (fun c hc => ⟨by have:=hc.1; omega,hc.2,by have:=hc.1; omega⟩) HD
theorem a2m (P g cap : Nat) (ts : List Tk) (he : y7 ts) (htk : ∀ t∈ts,z8 t) (nest : Nat) (l : List Tk) (w : World) (h : SQ P g cap ts nest l w) (hk : (hd l).kind=5) : Calls Tryz.prog 210 #[.pointer (some ⟨P,0,none⟩)] w (QP P g cap ts nest (.ok (mkN 6 [] (hd l).n [] (hd l).pos,b9 l)) w):=by
 have HB:=hid h.blocks
 have HE:=hid he
 obtain ⟨T,Ln,C,off,D,HT0,hPlt,hg0,hL,p0,p1,t0,t1,t2,t3,HW⟩:=bC h htk
 obtain ⟨W3,hW3⟩ : ∃ W,W=bZ P T w:=⟨_,rfl⟩
 obtain ⟨B3,hz3,hpc,Z3,Q3,S3,G3,HC⟩:=HW W3 hW3
 unfold bZ at hW3
 clear HW
 have eg : m7 218:=enters_of Tryz.func218 (by kernel_rfl) rfl
 unfold m7 at eg
 rw [D.out] at hk
 have e6 : (T.kind == 6)=false:=beq_eq_false_iff_ne.2 (by rw [hk]; decide)
 have e5 : (T.kind == 5)=true:=by rw [hk]; rfl
 have C:=hid (show Calls Tryz.prog 218 #[.agg #[.int .i64 6,.string ⟨#[]⟩,.int .i64 T.n,.slice none 0 0,.int .i64 0],.pointer (some ⟨w.heap.size,0,none⟩)] W3 (QP P g cap ts nest (.ok (mkN 6 [] (hd l).n [] (hd l).pos,b9 l)) W3) by
  have:=fB P g cap ts he htk nest l 6 [] (hd l).n w.heap.size W3 S3 hpc (by have:=HB.out; have:=hz3.out; omega) rfl (by decide) (by rw [D.out]; exact HT0.out.1)
  rw [D.out] at this ⊢
  exact this)
 generalize (.ok (mkN 6 [] (hd l).n [] (hd l).pos,b9 l) : Rd)=x at C ⊢
 clear hk
 clear h he htk
 go_enter Tryz.func210,Tryz.ntmps210
 go_upto_region 2 with fail
 rw [← hW3]
 clear hW3 t0 t1 t2 t3 p0 p1 hL
 obtain ⟨⟨t0,t1,t2,t3⟩,-⟩:=Q3.out.cells
 have htl:=Q3.out.lt
 have hp3:=hpc.out
 go_wp2_with fail
 have GW3:=hid (show W3.grownBy W3 (some P) from b8 (Below.refl _ _))
 have Zi:=hid (HC.out W3 GW3).2.1
 have hzi:=hid (show w.heap.size + 1<W3.heap.size from Zi.out.lt)
 (with_reducible refine Calls.mono C.out ?_)
 intro e w3 hq
 cases x with
 | error q =>
   obtain ⟨k,p⟩:=q
   obtain ⟨rfl,hg⟩:=hq
   refine And.intro rfl ?_
   exact ⟨rfl,b6 (b6 G3 GW3) hg⟩
 | ok q =>
   obtain ⟨t,r⟩:=q
   obtain ⟨a,cp,rfl,hs,hg,hl,hd⟩:=hq
   have Z3:=hid (Zi.out.grown hg (fun e => by have:=Option.some.inj e; have:=HB.out; omega))
   have HS:=hid hs
   have HG:=hid hg
   have HL:=hid hl
   have HD:=hid hd
   obtain ⟨⟨z0,z1,z2,z3,z4,z5⟩,⟨f0,f1,f2,f3,f4,f5⟩⟩:=Z3.out.cells
   have hzl:=Z3.out.lt
   clear hs hg hl hd C
   unfold trV
   go_wp2_with fail
   refine bodyPost_ret (v:=trV t a cp) (by simp [results,Tryz.results210,go_sem,trV,z0,z1,z2,z3,z4,z5]) rfl ?_
   have hz:=hzi.out
   have hb:=HB.out
   exact QP.fin HS (b6 (b6 G3 GW3) HG) (by omega) (by omega) HL (fun c hc => ⟨by have:=hc.1; omega,hc.2,by have:=hc.1; omega⟩) HD
theorem a2c (P g cap : Nat) (ts : List Tk) (he : y7 ts) (htk : ∀ t∈ts,z8 t) (nest : Nat) (l : List Tk) (w : World) (h : SQ P g cap ts nest l w) (hk : (hd l).kind=4) : Calls Tryz.prog 210 #[.pointer (some ⟨P,0,none⟩)] w (QP P g cap ts nest (.ok (mkN 7 (hd l).text 0 [] (hd l).pos,b9 l)) w):=by
 have HB:=hid h.blocks
 have HE:=hid he
 obtain ⟨T,Ln,C,off,D,HT0,hPlt,hg0,hL,p0,p1,t0,t1,t2,t3,HW⟩:=bC h htk
 obtain ⟨W3,hW3⟩ : ∃ W,W=bZ P T w:=⟨_,rfl⟩
 obtain ⟨B3,hz3,hpc,Z3,Q3,S3,G3,HC⟩:=HW W3 hW3
 unfold bZ at hW3
 clear HW
 have eg : m7 218:=enters_of Tryz.func218 (by kernel_rfl) rfl
 unfold m7 at eg
 rw [D.out] at hk
 have e6 : (T.kind == 6)=false:=beq_eq_false_iff_ne.2 (by rw [hk]; decide)
 have e5 : (T.kind == 5)=false:=beq_eq_false_iff_ne.2 (by rw [hk]; decide)
 have e4 : (T.kind == 4)=true:=by rw [hk]; rfl
 have C:=hid (show Calls Tryz.prog 218 #[.agg #[.int .i64 7,.string ⟨T.text.toArray⟩,.int .i64 0,.slice none 0 0,.int .i64 0],.pointer (some ⟨w.heap.size,0,none⟩)] W3 (QP P g cap ts nest (.ok (mkN 7 (hd l).text 0 [] (hd l).pos,b9 l)) W3) by
  have:=fB P g cap ts he htk nest l 7 (hd l).text 0 w.heap.size W3 S3 hpc (by have:=HB.out; have:=hz3.out; omega) rfl (by have:=HT0.out.2.2; rw [D.out]; omega) (by rfl)
  rw [D.out] at this ⊢
  exact this)
 generalize (.ok (mkN 7 (hd l).text 0 [] (hd l).pos,b9 l) : Rd)=x at C ⊢
 clear hk
 clear h he htk
 go_enter Tryz.func210,Tryz.ntmps210
 go_upto_region 2 with fail
 rw [← hW3]
 clear hW3 t0 t1 t2 t3 p0 p1 hL
 obtain ⟨⟨t0,t1,t2,t3⟩,-⟩:=Q3.out.cells
 have htl:=Q3.out.lt
 have hp3:=hpc.out
 go_wp2_with fail
 have GW3:=hid (show W3.grownBy W3 (some P) from b8 (Below.refl _ _))
 have Zi:=hid (HC.out W3 GW3).2.1
 have hzi:=hid (show w.heap.size + 1<W3.heap.size from Zi.out.lt)
 (with_reducible refine Calls.mono C.out ?_)
 intro e w3 hq
 cases x with
 | error q =>
   obtain ⟨k,p⟩:=q
   obtain ⟨rfl,hg⟩:=hq
   refine And.intro rfl ?_
   exact ⟨rfl,b6 (b6 G3 GW3) hg⟩
 | ok q =>
   obtain ⟨t,r⟩:=q
   obtain ⟨a,cp,rfl,hs,hg,hl,hd⟩:=hq
   have Z3:=hid (Zi.out.grown hg (fun e => by have:=Option.some.inj e; have:=HB.out; omega))
   have HS:=hid hs
   have HG:=hid hg
   have HL:=hid hl
   have HD:=hid hd
   obtain ⟨⟨z0,z1,z2,z3,z4,z5⟩,⟨f0,f1,f2,f3,f4,f5⟩⟩:=Z3.out.cells
   have hzl:=Z3.out.lt
   clear hs hg hl hd C
   unfold trV
   go_wp2_with fail
   refine bodyPost_ret (v:=trV t a cp) (by simp [results,Tryz.results210,go_sem,trV,z0,z1,z2,z3,z4,z5]) rfl ?_
   have hz:=hzi.out
   have hb:=HB.out
   exact QP.fin HS (b6 (b6 G3 GW3) HG) (by omega) (by omega) HL (fun c hc => ⟨by have:=hc.1; omega,hc.2,by have:=hc.1; omega⟩) HD
theorem zI (P g cap : Nat) (ts : List Tk) (he : y7 ts) (htk : ∀ t∈ts,z8 t) (nest : Nat) (l : List Tk) (w : World) (h : SQ P g cap ts nest l w) (hn : nest≤300) (hk : (hd l).kind=1∨(hd l).kind=3) (hE : ∀ r,r.length<l.length→CQ 25 .expr P g cap ts r) : Calls Tryz.prog 210 #[.pointer (some ⟨P,0,none⟩)] w (QP P g cap ts nest (uK nest l) w):=by
 have HB:=hid h.blocks
 have HE:=hid he
 obtain ⟨T,Ln,C,off,D,HT0,hPlt,hg0,hL,p0,p1,t0,t1,t2,t3,HW⟩:=bC h htk
 obtain ⟨W3,hW3⟩ : ∃ W,W=bZ P T w:=⟨_,rfl⟩
 obtain ⟨B3,hz3,hpc,Z3,Q3,S3,G3,HC⟩:=HW W3 hW3
 unfold bZ at hW3
 clear HW
 have eg : m7 218:=enters_of Tryz.func218 (by kernel_rfl) rfl
 unfold m7 at eg
 have C:=hid (a2P P g cap ts he htk nest l W3 hn S3 (by rcases hk with e | e <;> (rw [e]; decide)) hE)
 rw [D.out] at hk
 have e6 : (T.kind == 6)=false:=beq_eq_false_iff_ne.2 (by omega)
 have e5 : (T.kind == 5)=false:=beq_eq_false_iff_ne.2 (by omega)
 have e4 : (T.kind == 4)=false:=beq_eq_false_iff_ne.2 (by omega)
 generalize uK nest l=x at C ⊢
 have GW3:=hid (show W3.grownBy W3 (some P) from b8 (Below.refl _ _))
 have Zi:=hid (HC.out W3 GW3).2.1
 have hzi:=hid (show w.heap.size + 1<W3.heap.size from Zi.out.lt)
 have HK:=hid hk
 clear hk hE
 clear h he htk
 go_enter Tryz.func210,Tryz.ntmps210
 go_upto_region 2 with fail
 rw [← hW3]
 clear hW3 t0 t1 t2 t3 p0 p1 hL
 obtain ⟨⟨t0,t1,t2,t3⟩,-⟩:=Q3.out.cells
 have htl:=Q3.out.lt
 have hp3:=hpc.out
 rcases HK.out with hk | hk
 ·have e1 : (T.kind == 1)=true:=by rw [hk]; rfl
  have e3 : (T.kind == 3)=false:=by rw [hk]; rfl
  clear hk HK
  go_wp2_with fail
  (with_reducible refine Calls.mono C.out ?_)
  intro e w3 hq
  cases x with
  | error q =>
    obtain ⟨k,p⟩:=q
    obtain ⟨rfl,hg⟩:=hq
    refine And.intro rfl ?_
    exact ⟨rfl,b6 (b6 G3 GW3) hg⟩
  | ok q =>
    obtain ⟨t,r⟩:=q
    obtain ⟨a,cp,rfl,hs,hg,hl,hd⟩:=hq
    have Z3:=hid (Zi.out.grown hg (fun e => by have:=Option.some.inj e; have:=HB.out; omega))
    have HS:=hid hs
    have HG:=hid hg
    have HL:=hid hl
    have HD:=hid hd
    obtain ⟨⟨z0,z1,z2,z3,z4,z5⟩,⟨f0,f1,f2,f3,f4,f5⟩⟩:=Z3.out.cells
    have hzl:=Z3.out.lt
    clear hs hg hl hd C
    unfold trV
    go_wp2_with fail
    refine bodyPost_ret (v:=trV t a cp) (by simp [results,Tryz.results210,go_sem,trV,z0,z1,z2,z3,z4,z5]) rfl ?_
    have hz:=hzi.out
    have hb:=HB.out
    exact QP.fin HS (b6 (b6 G3 GW3) HG) (by omega) (by omega) HL (fun c hc => ⟨by have:=hc.1; omega,hc.2,by have:=hc.1; omega⟩) HD
 ·have e1 : (T.kind == 1)=false:=by rw [hk]; rfl
  have e3 : (T.kind == 3)=true:=by rw [hk]; rfl
  clear hk HK
  go_wp2_with fail
  (with_reducible refine Calls.mono C.out ?_)
  intro e w3 hq
  cases x with
  | error q =>
    obtain ⟨k,p⟩:=q
    obtain ⟨rfl,hg⟩:=hq
    refine And.intro rfl ?_
    exact ⟨rfl,b6 (b6 G3 GW3) hg⟩
  | ok q =>
    obtain ⟨t,r⟩:=q
    obtain ⟨a,cp,rfl,hs,hg,hl,hd⟩:=hq
    have Z3:=hid (Zi.out.grown hg (fun e => by have:=Option.some.inj e; have:=HB.out; omega))
    have HS:=hid hs
    have HG:=hid hg
    have HL:=hid hl
    have HD:=hid hd
    obtain ⟨⟨z0,z1,z2,z3,z4,z5⟩,⟨f0,f1,f2,f3,f4,f5⟩⟩:=Z3.out.cells
    have hzl:=Z3.out.lt
    clear hs hg hl hd C
    unfold trV
    go_wp2_with fail
    refine bodyPost_ret (v:=trV t a cp) (by simp [results,Tryz.results210,go_sem,trV,z0,z1,z2,z3,z4,z5]) rfl ?_
    have hz:=hzi.out
    have hb:=HB.out
    exact QP.fin HS (b6 (b6 G3 GW3) HG) (by omega) (by omega) HL (fun c hc => ⟨by have:=hc.1; omega,hc.2,by have:=hc.1; omega⟩) HD
theorem a0e (P g cap : Nat) (ts : List Tk) (he : y7 ts) (htk : ∀ t∈ts,z8 t) (nest : Nat) (l : List Tk) (w : World) (h : SQ P g cap ts nest l w) (hN : (hd l).kind≠6∧(hd l).kind≠5∧(hd l).kind≠4∧(hd l).kind≠1∧(hd l).kind≠3) (hT : isT bJ l=true) : Calls Tryz.prog 210 #[.pointer (some ⟨P,0,none⟩)] w (QP P g cap ts nest (.ok (mkN 8 [] 1 [] (hd l).pos,b9 l)) w):=by
 have HB:=hid h.blocks
 have HE:=hid he
 obtain ⟨T,Ln,C,off,D,HT0,hPlt,hg0,hL,p0,p1,t0,t1,t2,t3,HW⟩:=bC h htk
 obtain ⟨W3,hW3⟩ : ∃ W,W=bZ P T w:=⟨_,rfl⟩
 obtain ⟨B3,hz3,hpc,Z3,Q3,S3,G3,HC⟩:=HW W3 hW3
 unfold bZ at hW3
 clear HW
 have eg : m7 218:=enters_of Tryz.func218 (by kernel_rfl) rfl
 unfold m7 at eg
 obtain ⟨x,hx⟩ : ∃ x : Rd,x=.ok (mkN 8 [] 1 [] (hd l).pos,b9 l):=⟨_,rfl⟩
 rw [← hx]
 have HX:=hid hx
 have HTK:=hid htk
 rw [D.out] at hN
 have e6 : (T.kind == 6)=false:=beq_eq_false_iff_ne.2 (by omega)
 have e5 : (T.kind == 5)=false:=beq_eq_false_iff_ne.2 (by omega)
 have e4 : (T.kind == 4)=false:=beq_eq_false_iff_ne.2 (by omega)
 have e1 : (T.kind == 1)=false:=beq_eq_false_iff_ne.2 (by omega)
 have e3 : (T.kind == 3)=false:=beq_eq_false_iff_ne.2 (by omega)
 clear hx hN
 clear h he htk
 go_enter Tryz.func210,Tryz.ntmps210
 go_upto_region 2 with fail
 rw [← hW3]
 clear hW3 t0 t1 t2 t3 p0 p1 hL
 obtain ⟨⟨t0,t1,t2,t3⟩,-⟩:=Q3.out.cells
 have htl:=Q3.out.lt
 have hp3:=hpc.out
 have C4:=hid (show Calls Tryz.prog 50 #[.pointer (some ⟨P,0,none⟩),.string ⟨#[116,114,117,101]⟩] W3 (fun e w' => e=.returned (.bool true)∧Below W3.heap.size W3 w') by
  have:=aO P g cap ts nest l ⟨#[116,114,117,101]⟩ W3 S3
  rwa [show isT (⟨#[116,114,117,101]⟩ : ByteArray).data.toList l=true from hT] at this)
 go_wp2_with fail
 (with_reducible refine Calls.mono C4.out ?_)
 rintro e w4 ⟨rfl,hb⟩
 have GW4:=hid (show W3.grownBy w4 (some P) from b8 hb)
 have S4:=hid (S3.out.below hb)
 clear hb C4 hp3 t0 t1 t2 t3 htl
 have hp4:=(HC.out w4 GW4).1
 obtain ⟨⟨t0,t1,t2,t3⟩,-⟩:=(HC.out w4 GW4).2.2.cells
 have htl:=(HC.out w4 GW4).2.2.lt
 have C:=hid (show Calls Tryz.prog 218 #[.agg #[.int .i64 8,.string ⟨#[]⟩,.int .i64 1,.slice none 0 0,.int .i64 0],.pointer (some ⟨w.heap.size,0,none⟩)] w4 (QP P g cap ts nest x w4) by
  rw [HX.out]
  exact fB P g cap ts HE HTK nest l 8 [] 1 w.heap.size w4 S4 (HC.out w4 GW4).1 (by have:=HB.out; have:=hz3.out; have:=GW4.out.size; omega) rfl (by decide) rfl)
 go_wp2_with fail
 have Zi:=hid (HC.out w4 GW4).2.1
 have hzi:=hid (show w.heap.size + 1<w4.heap.size from Zi.out.lt)
 (with_reducible refine Calls.mono C.out ?_)
 intro e w3 hq
 cases x with
 | error q =>
   obtain ⟨k,p⟩:=q
   obtain ⟨rfl,hg⟩:=hq
   refine And.intro rfl ?_
   exact ⟨rfl,b6 (b6 G3 GW4) hg⟩
 | ok q =>
   obtain ⟨t,r⟩:=q
   obtain ⟨a,cp,rfl,hs,hg,hl,hd⟩:=hq
   have Z3:=hid (Zi.out.grown hg (fun e => by have:=Option.some.inj e; have:=HB.out; omega))
   have HS:=hid hs
   have HG:=hid hg
   have HL:=hid hl
   have HD:=hid hd
   obtain ⟨⟨z0,z1,z2,z3,z4,z5⟩,⟨f0,f1,f2,f3,f4,f5⟩⟩:=Z3.out.cells
   have hzl:=Z3.out.lt
   clear hs hg hl hd C
   unfold trV
   go_wp2_with fail
   refine bodyPost_ret (v:=trV t a cp) (by simp [results,Tryz.results210,go_sem,trV,z0,z1,z2,z3,z4,z5]) rfl ?_
   have hz:=hzi.out
   have hb:=HB.out
   exact QP.fin HS (b6 (b6 G3 GW4) HG) (by omega) (by omega) HL (fun c hc => ⟨by have:=hc.1; omega,hc.2,by have:=hc.1; omega⟩) HD
theorem yL (P g cap : Nat) (ts : List Tk) (he : y7 ts) (htk : ∀ t∈ts,z8 t) (nest : Nat) (l : List Tk) (w : World) (h : SQ P g cap ts nest l w) (hN : (hd l).kind≠6∧(hd l).kind≠5∧(hd l).kind≠4∧(hd l).kind≠1∧(hd l).kind≠3) (hT : isT bJ l=false) (hF : isT U4 l=true) : Calls Tryz.prog 210 #[.pointer (some ⟨P,0,none⟩)] w (QP P g cap ts nest (.ok (mkN 8 [] 0 [] (hd l).pos,b9 l)) w):=by
 have HB:=hid h.blocks
 have HE:=hid he
 obtain ⟨T,Ln,C,off,D,HT0,hPlt,hg0,hL,p0,p1,t0,t1,t2,t3,HW⟩:=bC h htk
 obtain ⟨W3,hW3⟩ : ∃ W,W=bZ P T w:=⟨_,rfl⟩
 obtain ⟨B3,hz3,hpc,Z3,Q3,S3,G3,HC⟩:=HW W3 hW3
 unfold bZ at hW3
 clear HW
 have eg : m7 218:=enters_of Tryz.func218 (by kernel_rfl) rfl
 unfold m7 at eg
 obtain ⟨x,hx⟩ : ∃ x : Rd,x=.ok (mkN 8 [] 0 [] (hd l).pos,b9 l):=⟨_,rfl⟩
 rw [← hx]
 have HX:=hid hx
 have HTK:=hid htk
 rw [D.out] at hN
 have e6 : (T.kind == 6)=false:=beq_eq_false_iff_ne.2 (by omega)
 have e5 : (T.kind == 5)=false:=beq_eq_false_iff_ne.2 (by omega)
 have e4 : (T.kind == 4)=false:=beq_eq_false_iff_ne.2 (by omega)
 have e1 : (T.kind == 1)=false:=beq_eq_false_iff_ne.2 (by omega)
 have e3 : (T.kind == 3)=false:=beq_eq_false_iff_ne.2 (by omega)
 clear hx hN
 clear h he htk
 go_enter Tryz.func210,Tryz.ntmps210
 go_upto_region 2 with fail
 rw [← hW3]
 clear hW3 t0 t1 t2 t3 p0 p1 hL
 obtain ⟨⟨t0,t1,t2,t3⟩,-⟩:=Q3.out.cells
 have htl:=Q3.out.lt
 have hp3:=hpc.out
 have C4:=hid (show Calls Tryz.prog 50 #[.pointer (some ⟨P,0,none⟩),.string ⟨#[116,114,117,101]⟩] W3 (fun e w' => e=.returned (.bool false)∧Below W3.heap.size W3 w') by
  have:=aO P g cap ts nest l ⟨#[116,114,117,101]⟩ W3 S3
  rwa [show isT (⟨#[116,114,117,101]⟩ : ByteArray).data.toList l=false from hT] at this)
 go_wp2_with fail
 (with_reducible refine Calls.mono C4.out ?_)
 rintro e w4 ⟨rfl,hb⟩
 have GW4:=hid (show W3.grownBy w4 (some P) from b8 hb)
 have S4:=hid (S3.out.below hb)
 clear hb C4 hp3 t0 t1 t2 t3 htl
 have hp4:=(HC.out w4 GW4).1
 obtain ⟨⟨t0,t1,t2,t3⟩,-⟩:=(HC.out w4 GW4).2.2.cells
 have htl:=(HC.out w4 GW4).2.2.lt
 have C5:=hid (show Calls Tryz.prog 50 #[.pointer (some ⟨P,0,none⟩),.string ⟨#[102,97,108,115,101]⟩] w4 (fun e w' => e=.returned (.bool true)∧Below w4.heap.size w4 w') by
  have:=aO P g cap ts nest l ⟨#[102,97,108,115,101]⟩ w4 S4
  rwa [show isT (⟨#[102,97,108,115,101]⟩ : ByteArray).data.toList l=true from hF] at this)
 go_wp2_with fail
 (with_reducible refine Calls.mono C5.out ?_)
 rintro e w5 ⟨rfl,hb⟩
 have GW5:=hid (show W3.grownBy w5 (some P) from b6 GW4 (b8 hb))
 have S5:=hid (S4.out.below hb)
 clear hb C5 hp4 t0 t1 t2 t3 htl
 have hp5:=(HC.out w5 GW5).1
 obtain ⟨⟨t0,t1,t2,t3⟩,-⟩:=(HC.out w5 GW5).2.2.cells
 have htl:=(HC.out w5 GW5).2.2.lt
 have C:=hid (show Calls Tryz.prog 218 #[.agg #[.int .i64 8,.string ⟨#[]⟩,.int .i64 0,.slice none 0 0,.int .i64 0],.pointer (some ⟨w.heap.size,0,none⟩)] w5 (QP P g cap ts nest x w5) by
  rw [HX.out]
  exact fB P g cap ts HE HTK nest l 8 [] 0 w.heap.size w5 S5 (HC.out w5 GW5).1 (by have:=HB.out; have:=hz3.out; have:=GW5.out.size; omega) rfl (by decide) rfl)
 go_wp2_with fail
 have Zi:=hid (HC.out w5 GW5).2.1
 have hzi:=hid (show w.heap.size + 1<w5.heap.size from Zi.out.lt)
 (with_reducible refine Calls.mono C.out ?_)
 intro e w3 hq
 cases x with
 | error q =>
   obtain ⟨k,p⟩:=q
   obtain ⟨rfl,hg⟩:=hq
   refine And.intro rfl ?_
   exact ⟨rfl,b6 (b6 G3 GW5) hg⟩
 | ok q =>
   obtain ⟨t,r⟩:=q
   obtain ⟨a,cp,rfl,hs,hg,hl,hd⟩:=hq
   have Z3:=hid (Zi.out.grown hg (fun e => by have:=Option.some.inj e; have:=HB.out; omega))
   have HS:=hid hs
   have HG:=hid hg
   have HL:=hid hl
   have HD:=hid hd
   obtain ⟨⟨z0,z1,z2,z3,z4,z5⟩,⟨f0,f1,f2,f3,f4,f5⟩⟩:=Z3.out.cells
   have hzl:=Z3.out.lt
   clear hs hg hl hd C
   unfold trV
   go_wp2_with fail
   refine bodyPost_ret (v:=trV t a cp) (by simp [results,Tryz.results210,go_sem,trV,z0,z1,z2,z3,z4,z5]) rfl ?_
   have hz:=hzi.out
   have hb:=HB.out
   exact QP.fin HS (b6 (b6 G3 GW5) HG) (by omega) (by omega) HL (fun c hc => ⟨by have:=hc.1; omega,hc.2,by have:=hc.1; omega⟩) HD
theorem zN (P g cap : Nat) (ts : List Tk) (he : y7 ts) (htk : ∀ t∈ts,z8 t) (nest : Nat) (l : List Tk) (w : World) (h : SQ P g cap ts nest l w) (hN : (hd l).kind≠6∧(hd l).kind≠5∧(hd l).kind≠4∧(hd l).kind≠1∧(hd l).kind≠3) (hT : isT bJ l=false) (hF : isT U4 l=false) (hD : isT bX l=false) (hK : isT bY l=false) (hO : isT o6 l=false) : Calls Tryz.prog 210 #[.pointer (some ⟨P,0,none⟩)] w (QP P g cap ts nest (.error (74,(hd l).pos)) w):=by
 have HB:=hid h.blocks
 have HE:=hid he
 obtain ⟨T,Ln,C,off,D,HT0,hPlt,hg0,hL,p0,p1,t0,t1,t2,t3,HW⟩:=bC h htk
 obtain ⟨W3,hW3⟩ : ∃ W,W=bZ P T w:=⟨_,rfl⟩
 obtain ⟨B3,hz3,hpc,Z3,Q3,S3,G3,HC⟩:=HW W3 hW3
 unfold bZ at hW3
 clear HW
 have eg : m7 218:=enters_of Tryz.func218 (by kernel_rfl) rfl
 unfold m7 at eg
 rw [D.out] at hN
 have e6 : (T.kind == 6)=false:=beq_eq_false_iff_ne.2 (by omega)
 have e5 : (T.kind == 5)=false:=beq_eq_false_iff_ne.2 (by omega)
 have e4 : (T.kind == 4)=false:=beq_eq_false_iff_ne.2 (by omega)
 have e1 : (T.kind == 1)=false:=beq_eq_false_iff_ne.2 (by omega)
 have e3 : (T.kind == 3)=false:=beq_eq_false_iff_ne.2 (by omega)
 clear hN
 clear h he htk
 go_enter Tryz.func210,Tryz.ntmps210
 go_upto_region 2 with fail
 rw [← hW3]
 clear hW3 t0 t1 t2 t3 p0 p1 hL
 obtain ⟨⟨t0,t1,t2,t3⟩,-⟩:=Q3.out.cells
 have htl:=Q3.out.lt
 have hp3:=hpc.out
 have C4:=hid (show Calls Tryz.prog 50 #[.pointer (some ⟨P,0,none⟩),.string ⟨#[116,114,117,101]⟩] W3 (fun e w' => e=.returned (.bool false)∧Below W3.heap.size W3 w') by
  have:=aO P g cap ts nest l ⟨#[116,114,117,101]⟩ W3 S3
  rwa [show isT (⟨#[116,114,117,101]⟩ : ByteArray).data.toList l=false from hT] at this)
 go_wp2_with fail
 (with_reducible refine Calls.mono C4.out ?_)
 rintro e w4 ⟨rfl,hb⟩
 have GW4:=hid (show W3.grownBy w4 (some P) from b8 hb)
 have S4:=hid (S3.out.below hb)
 clear hb C4 hp3 t0 t1 t2 t3 htl
 have hp4:=(HC.out w4 GW4).1
 obtain ⟨⟨t0,t1,t2,t3⟩,-⟩:=(HC.out w4 GW4).2.2.cells
 have htl:=(HC.out w4 GW4).2.2.lt
 have C5:=hid (show Calls Tryz.prog 50 #[.pointer (some ⟨P,0,none⟩),.string ⟨#[102,97,108,115,101]⟩] w4 (fun e w' => e=.returned (.bool false)∧Below w4.heap.size w4 w') by
  have:=aO P g cap ts nest l ⟨#[102,97,108,115,101]⟩ w4 S4
  rwa [show isT (⟨#[102,97,108,115,101]⟩ : ByteArray).data.toList l=false from hF] at this)
 go_wp2_with fail
 (with_reducible refine Calls.mono C5.out ?_)
 rintro e w5 ⟨rfl,hb⟩
 have GW5:=hid (show W3.grownBy w5 (some P) from b6 GW4 (b8 hb))
 have S5:=hid (S4.out.below hb)
 clear hb C5 hp4 t0 t1 t2 t3 htl
 have hp5:=(HC.out w5 GW5).1
 obtain ⟨⟨t0,t1,t2,t3⟩,-⟩:=(HC.out w5 GW5).2.2.cells
 have htl:=(HC.out w5 GW5).2.2.lt
 have C6:=hid (show Calls Tryz.prog 89 #[.pointer (some ⟨P,0,none⟩),.string ⟨#[102,101,101,100]⟩] w5 (fun e w' => e=.returned (.bool false)∧SQ P g cap ts nest (l) w'∧w5.grownBy w' (some P)) by
  have:=O9 P g cap ts nest l ⟨#[102,101,101,100]⟩ w5 S5 HE
  rw [show isT (⟨#[102,101,101,100]⟩ : ByteArray).data.toList l=false from hD] at this
  simpa using this)
 go_wp2_with fail
 (with_reducible refine Calls.mono C6.out ?_)
 rintro e w6 ⟨rfl,hs,hg⟩
 have GW6:=hid (show W3.grownBy w6 (some P) from b6 GW5 hg)
 have S6:=hid hs
 clear hs hg C6 hp5 t0 t1 t2 t3 htl
 have hp6:=(HC.out w6 GW6).1
 obtain ⟨⟨t0,t1,t2,t3⟩,-⟩:=(HC.out w6 GW6).2.2.cells
 have htl:=(HC.out w6 GW6).2.2.lt
 have C7:=hid (show Calls Tryz.prog 89 #[.pointer (some ⟨P,0,none⟩),.string ⟨#[112,105,99,107]⟩] w6 (fun e w' => e=.returned (.bool false)∧SQ P g cap ts nest (l) w'∧w6.grownBy w' (some P)) by
  have:=O9 P g cap ts nest l ⟨#[112,105,99,107]⟩ w6 S6 HE
  rw [show isT (⟨#[112,105,99,107]⟩ : ByteArray).data.toList l=false from hK] at this
  simpa using this)
 go_wp2_with fail
 (with_reducible refine Calls.mono C7.out ?_)
 rintro e w7 ⟨rfl,hs,hg⟩
 have GW7:=hid (show W3.grownBy w7 (some P) from b6 GW6 hg)
 have S7:=hid hs
 clear hs hg C7 hp6 t0 t1 t2 t3 htl
 have hp7:=(HC.out w7 GW7).1
 obtain ⟨⟨t0,t1,t2,t3⟩,-⟩:=(HC.out w7 GW7).2.2.cells
 have htl:=(HC.out w7 GW7).2.2.lt
 have C8:=hid (show Calls Tryz.prog 89 #[.pointer (some ⟨P,0,none⟩),.string ⟨#[40]⟩] w7 (fun e w' => e=.returned (.bool false)∧SQ P g cap ts nest (l) w'∧w7.grownBy w' (some P)) by
  have:=O9 P g cap ts nest l ⟨#[40]⟩ w7 S7 HE
  rw [show isT (⟨#[40]⟩ : ByteArray).data.toList l=false from hO] at this
  simpa using this)
 go_wp2_with fail
 (with_reducible refine Calls.mono C8.out ?_)
 rintro e w8 ⟨rfl,hs,hg⟩
 have GW8:=hid (show W3.grownBy w8 (some P) from b6 GW7 hg)
 have S8:=hid hs
 clear hs hg C8 hp7 t0 t1 t2 t3 htl
 have hp8:=(HC.out w8 GW8).1
 obtain ⟨⟨t0,t1,t2,t3⟩,-⟩:=(HC.out w8 GW8).2.2.cells
 have htl:=(HC.out w8 GW8).2.2.lt
 have C9:=hid (aE P 74 T.pos w8)
 go_wp2_with fail
 (with_reducible refine Calls.mono C9.out ?_)
 rintro e w9 ⟨rfl,rfl⟩
 refine And.intro rfl ?_
 rw [D.out]
 exact ⟨rfl,b6 G3 GW8⟩
theorem yE (P g cap : Nat) (ts : List Tk) (he : y7 ts) (htk : ∀ t∈ts,z8 t) (nest : Nat) (l : List Tk) (w : World) (h : SQ P g cap ts nest l w) (hN : (hd l).kind≠6∧(hd l).kind≠5∧(hd l).kind≠4∧(hd l).kind≠1∧(hd l).kind≠3) (hT : isT bJ l=false) (hF : isT U4 l=false) (hD : isT bX l=false) (hK : isT bY l=false) (hn : nest≤300) (hO : isT o6 l=true) (hE : ∀ r,r.length<l.length→CQ 25 .expr P g cap ts r) : Calls Tryz.prog 210 #[.pointer (some ⟨P,0,none⟩)] w (QP P g cap ts nest ((rd .expr nest (b9 l)).then fun x r => d9 m5 r fun r => .ok (x,r)) w):=by
 have HB:=hid h.blocks
 have HE:=hid he
 obtain ⟨T,Ln,C,off,D,HT0,hPlt,hg0,hL,p0,p1,t0,t1,t2,t3,HW⟩:=bC h htk
 obtain ⟨W3,hW3⟩ : ∃ W,W=bZ P T w:=⟨_,rfl⟩
 obtain ⟨B3,hz3,hpc,Z3,Q3,S3,G3,HC⟩:=HW W3 hW3
 unfold bZ at hW3
 clear HW
 have eg : m7 218:=enters_of Tryz.func218 (by kernel_rfl) rfl
 unfold m7 at eg
 rw [D.out] at hN
 have e6 : (T.kind == 6)=false:=beq_eq_false_iff_ne.2 (by omega)
 have e5 : (T.kind == 5)=false:=beq_eq_false_iff_ne.2 (by omega)
 have e4 : (T.kind == 4)=false:=beq_eq_false_iff_ne.2 (by omega)
 have e1 : (T.kind == 1)=false:=beq_eq_false_iff_ne.2 (by omega)
 have e3 : (T.kind == 3)=false:=beq_eq_false_iff_ne.2 (by omega)
 clear hN
 obtain ⟨X,hX⟩ : ∃ X,X=((rd .expr nest (b9 l)).then fun x r => d9 m5 r fun r => .ok (x,r) : Rd):=⟨_,rfl⟩
 rw [← hX]
 have HX:=hid hX
 have HEx:=hid (hE (b9 l) (by have:=n5 hO; omega) nest)
 clear hX hE
 clear h he htk
 go_enter Tryz.func210,Tryz.ntmps210
 go_upto_region 2 with fail
 rw [← hW3]
 clear hW3 t0 t1 t2 t3 p0 p1 hL
 obtain ⟨⟨t0,t1,t2,t3⟩,-⟩:=Q3.out.cells
 have htl:=Q3.out.lt
 have hp3:=hpc.out
 have C4:=hid (show Calls Tryz.prog 50 #[.pointer (some ⟨P,0,none⟩),.string ⟨#[116,114,117,101]⟩] W3 (fun e w' => e=.returned (.bool false)∧Below W3.heap.size W3 w') by
  have:=aO P g cap ts nest l ⟨#[116,114,117,101]⟩ W3 S3
  rwa [show isT (⟨#[116,114,117,101]⟩ : ByteArray).data.toList l=false from hT] at this)
 go_wp2_with fail
 (with_reducible refine Calls.mono C4.out ?_)
 rintro e w4 ⟨rfl,hb⟩
 have GW4:=hid (show W3.grownBy w4 (some P) from b8 hb)
 have S4:=hid (S3.out.below hb)
 clear hb C4 hp3 t0 t1 t2 t3 htl
 have hp4:=(HC.out w4 GW4).1
 obtain ⟨⟨t0,t1,t2,t3⟩,-⟩:=(HC.out w4 GW4).2.2.cells
 have htl:=(HC.out w4 GW4).2.2.lt
 have C5:=hid (show Calls Tryz.prog 50 #[.pointer (some ⟨P,0,none⟩),.string ⟨#[102,97,108,115,101]⟩] w4 (fun e w' => e=.returned (.bool false)∧Below w4.heap.size w4 w') by
  have:=aO P g cap ts nest l ⟨#[102,97,108,115,101]⟩ w4 S4
  rwa [show isT (⟨#[102,97,108,115,101]⟩ : ByteArray).data.toList l=false from hF] at this)
 go_wp2_with fail
 (with_reducible refine Calls.mono C5.out ?_)
 rintro e w5 ⟨rfl,hb⟩
 have GW5:=hid (show W3.grownBy w5 (some P) from b6 GW4 (b8 hb))
 have S5:=hid (S4.out.below hb)
 clear hb C5 hp4 t0 t1 t2 t3 htl
 have hp5:=(HC.out w5 GW5).1
 obtain ⟨⟨t0,t1,t2,t3⟩,-⟩:=(HC.out w5 GW5).2.2.cells
 have htl:=(HC.out w5 GW5).2.2.lt
 have C6:=hid (show Calls Tryz.prog 89 #[.pointer (some ⟨P,0,none⟩),.string ⟨#[102,101,101,100]⟩] w5 (fun e w' => e=.returned (.bool false)∧SQ P g cap ts nest (l) w'∧w5.grownBy w' (some P)) by
  have:=O9 P g cap ts nest l ⟨#[102,101,101,100]⟩ w5 S5 HE
  rw [show isT (⟨#[102,101,101,100]⟩ : ByteArray).data.toList l=false from hD] at this
  simpa using this)
 go_wp2_with fail
 (with_reducible refine Calls.mono C6.out ?_)
 rintro e w6 ⟨rfl,hs,hg⟩
 have GW6:=hid (show W3.grownBy w6 (some P) from b6 GW5 hg)
 have S6:=hid hs
 clear hs hg C6 hp5 t0 t1 t2 t3 htl
 have hp6:=(HC.out w6 GW6).1
 obtain ⟨⟨t0,t1,t2,t3⟩,-⟩:=(HC.out w6 GW6).2.2.cells
 have htl:=(HC.out w6 GW6).2.2.lt
 have C7:=hid (show Calls Tryz.prog 89 #[.pointer (some ⟨P,0,none⟩),.string ⟨#[112,105,99,107]⟩] w6 (fun e w' => e=.returned (.bool false)∧SQ P g cap ts nest (l) w'∧w6.grownBy w' (some P)) by
  have:=O9 P g cap ts nest l ⟨#[112,105,99,107]⟩ w6 S6 HE
  rw [show isT (⟨#[112,105,99,107]⟩ : ByteArray).data.toList l=false from hK] at this
  simpa using this)
 go_wp2_with fail
 (with_reducible refine Calls.mono C7.out ?_)
 rintro e w7 ⟨rfl,hs,hg⟩
 have GW7:=hid (show W3.grownBy w7 (some P) from b6 GW6 hg)
 have S7:=hid hs
 clear hs hg C7 hp6 t0 t1 t2 t3 htl
 have hp7:=(HC.out w7 GW7).1
 obtain ⟨⟨t0,t1,t2,t3⟩,-⟩:=(HC.out w7 GW7).2.2.cells
 have htl:=(HC.out w7 GW7).2.2.lt
 have C8:=hid (show Calls Tryz.prog 89 #[.pointer (some ⟨P,0,none⟩),.string ⟨#[40]⟩] w7 (fun e w' => e=.returned (.bool true)∧SQ P g cap ts nest (b9 l) w'∧w7.grownBy w' (some P)) by
  have:=O9 P g cap ts nest l ⟨#[40]⟩ w7 S7 HE
  rw [show isT (⟨#[40]⟩ : ByteArray).data.toList l=true from hO] at this
  simpa using this)
 go_wp2_with fail
 (with_reducible refine Calls.mono C8.out ?_)
 rintro e w8 ⟨rfl,hs,hg⟩
 have GW8:=hid (show W3.grownBy w8 (some P) from b6 GW7 hg)
 have S8:=hid hs
 clear hs hg C8 hp7 t0 t1 t2 t3 htl
 have hp8:=(HC.out w8 GW8).1
 obtain ⟨⟨t0,t1,t2,t3⟩,-⟩:=(HC.out w8 GW8).2.2.cells
 have htl:=(HC.out w8 GW8).2.2.lt
 have C9:=hid (HEx.out w8 hn S8)
 generalize rd .expr nest (b9 l)=x at C9 HX
 go_wp2_with fail
 (with_reducible refine Calls.mono C9.out ?_)
 intro e w9 hq
 cases x with
 | error q =>
   obtain ⟨k,p⟩:=q
   obtain ⟨rfl,hg⟩:=hq
   refine And.intro rfl ?_
   rw [HX.out]
   exact ⟨rfl,b6 G3 (b6 GW8 hg)⟩
 | ok q =>
 obtain ⟨t,r⟩:=q
 obtain ⟨a2,cp,rfl,hs,hg,hl2,hdp⟩:=hq
 have HX2:=hid (show X=d9 m5 r fun r => .ok (t,r) from HX)
 have GW9:=hid (show W3.grownBy w9 (some P) from b6 GW8 hg)
 have S9:=hid hs
 have HL:=hid hl2
 have HD:=hid hdp
 have hz9:=hid (show w.heap.size + 1<w8.heap.size from (HC.out w8 GW8).2.1.lt)
 have hle89:=hid hg.size
 clear hs hg hl2 hdp C9 hp8 t0 t1 t2 t3 htl
 obtain ⟨Wa,hWa⟩ : ∃ W,W=w9.alloc (.cells #[.int .i64 t.kind,.string t.text,.int .i64 t.n,.slice a2 t.kids.length cp,.int .i64 t.place,.int .i64 (c8 t)] 50):=⟨_,rfl⟩
 have Ba:=hid (show Below w9.heap.size w9 Wa from hWa ▸ c6 _ _)
 have Ta:=hid (show T6 w9.heap.size t.kind t.text t.n a2 t.kids.length cp t.place (c8 t) Wa from hWa ▸ T6.make w9 _ _ _ _ _ _ _ _)
 have GWa:=hid (show W3.grownBy Wa (some P) from b6 GW9 (b8 Ba))
 have Cb:=hid (V0 P g cap ts nest r ⟨#[41]⟩ m5 rfl Wa (S9.out.below Ba) HE)
 have hpa:=(HC.out Wa GWa).1
 have hba:=(HC.out Wa GWa).2.2.lt
 unfold trV
 go_upto_region 31 with fail
 rw [← hWa]
 clear hWa
 go_wp2_with fail
 (with_reducible refine Calls.mono Cb.out ?_)
 rintro e wb ⟨hg,hq⟩
 have GWb:=hid (b6 GWa hg)
 cases hw : isT m5 r
 case false =>
  obtain rfl:=hq.2 hw
  refine And.intro rfl ?_
  rw [HX2.out,X9 hw]
  exact ⟨rfl,b6 G3 GWb⟩
 case true =>
 obtain ⟨rfl,hs⟩:=hq.1 hw
 have HX3:=hid (HX2.out.trans (L7 hw))
 have Sb:=hid hs
 have hsz:=hid (show w8.heap.size≤w9.heap.size∧w9.heap.size<Wa.heap.size∧Wa.heap.size≤wb.heap.size from ⟨hle89,Ta.out.lt,hg.size⟩)
 have Tb:=hid (Ta.out.grown hg (fun e => by have:=Option.some.inj e; have:=HB.out; have:=hsz.out; have:=hz9.out; omega))
 have HGb:=hid (show w9.grownBy wb (some P) from b6 (b8 Ba) hg)
 have Zb:=hid (HC.out wb GWb).2.1
 obtain ⟨⟨x0,x1,x2,x3,x4,x5⟩,-⟩:=Tb.out.cells
 obtain ⟨⟨z0,z1,z2,z3,z4,z5⟩,⟨f0,f1,f2,f3,f4,f5⟩⟩:=Zb.out.cells
 have hxl:=Tb.out.lt
 have hzl:=Zb.out.lt
 clear hs hg hq hw Cb hpa
 go_wp2_with fail
 refine bodyPost_ret (v:=trV t a2 cp) (by simp [results,Tryz.results210,go_sem,trV,z0,z1,z2,z3,z4,z5]) rfl ?_
 rw [HX3.out]
 have hb:=HB.out
 have h9:=hz9.out
 have hs':=hsz.out
 exact QP.fin (av:=Fr w8.heap.size w9.heap.size) Sb (b6 G3 GWb) (by omega) (by omega) (Y8 HL HGb fun c hc => ⟨hc.2,by have:=hc.1; omega,hc⟩) (fun c hc => ⟨by have:=hc.1; omega,by have:=hc.2; omega,by have:=hc.1; omega⟩) HD
end
end Go.Proofs.YtibiccacafjjfaaGreatDoor
