/-
  Laws that the proof rests on.
-/
import Derived.Test.YtibiccacafjjfaaGreatDoorR22
namespace Go.Proofs.YtibiccacafjjfaaGreatDoor
set_option maxRecDepth 100000
set_option maxHeartbeats 16000000
section
open Lib (hid)
open Go.RowKit
theorem nC (P g cap : Nat) (ts : List Tk) (he : y6 ts) (htk : ∀ t∈ts,z7 t) (nest : Nat) (l : List Tk) (md : Md) (K : Nat) (fs : Array Value) (w : World) (hn : nest≤300) (hK : m9 K) (h : SQ P g cap ts nest l w)
 (hread : nest + 1≤300→∀ W,SQ P g cap ts (nest + 1) (b9 l) W→Calls Tryz.prog K fs W (QP P g cap ts (nest + 1) (rd md (nest + 1) (b9 l)) W)) :
 Calls Tryz.prog 152 #[.pointer (some ⟨P,0,none⟩),.func (.func K) fs #[]] w (QP P g cap ts nest (S0 nest l ((rd md (nest + 1) (b9 l)).then fun t r => made (mkN 12 (hd l).text 0 [t] (hd l).pos) r)) w):=by
 obtain ⟨W1,hW1⟩ : ∃ W,W=(w.alloc (.cells #[.pointer (some ⟨P,0,none⟩)] 48)).alloc (.cells #[.func (.func K) fs #[]] 51):=⟨_,rfl⟩
 have B1:=hid (show Below w.heap.size w W1 from hW1 ▸ D6 _ _ _)
 have hz1:=hid (show W1.heap.size=w.heap.size + 2 by rw [hW1]; simp)
 have hp:=hid (show W1.cell? ⟨w.heap.size,0,none⟩=some (.pointer (some ⟨P,0,none⟩))∧W1.cell? ⟨w.heap.size + 1,0,none⟩=some (.func (.func K) fs #[]) by rw [hW1]; constructor <;> simp)
 obtain ⟨W2,hW2⟩ : ∃ W,W=W1.alloc (.cells #[.int .i64 0,.string ⟨#[]⟩,.int .i64 0,.slice none 0 0,.int .i64 0,.int .i64 0] 50):=⟨_,rfl⟩
 have B2':=hid (show Below W1.heap.size W1 W2 from hW2 ▸ c6 _ _)
 have B2:=hid (B1.out.trans (B2'.out.mono B1.out.size))
 have Z2:=hid (show T6 (w.heap.size + 1 + 1) 0 ⟨#[]⟩ 0 none 0 0 0 0 W2 from hW2 ▸ (show w.heap.size + 1 + 1=W1.heap.size by rw [hz1.out]) ▸ T6.make W1 _ _ _ _ _ _ _ _)
 have HB:=hid h.blocks
 have eg : m9 180:=enters_of Tryz.func180 (by kernel_rfl) rfl
 have hp2:=hid (show W2.cell? ⟨w.heap.size,0,none⟩=some (.pointer (some ⟨P,0,none⟩))∧W2.cell? ⟨w.heap.size + 1,0,none⟩=some (.func (.func K) fs #[]) from
  ⟨(B2'.out.cell (p:=⟨w.heap.size,0,none⟩) (by show w.heap.size<W1.heap.size; rw [hz1.out]; omega)).trans hp.out.1,(B2'.out.cell (p:=⟨w.heap.size + 1,0,none⟩) (by show w.heap.size + 1<W1.heap.size; rw [hz1.out]; omega)).trans hp.out.2⟩)
 have hz2:=hid (show w.heap.size + 2<W2.heap.size from Z2.out.lt)
 obtain ⟨x,hx⟩ : ∃ x,x=((rd md (nest + 1) (b9 l)).then fun t r => made (mkN 12 (hd l).text 0 [t] (hd l).pos) r):=⟨_,rfl⟩
 have C:=hid (show Calls Tryz.prog 48 #[.pointer (some ⟨P,0,none⟩),.func (.func 180) #[] #[.pointer (some ⟨w.heap.size,0,none⟩),.pointer (some ⟨w.heap.size + 1,0,none⟩)]] W2 (QP P g cap ts nest (S0 nest l x) W2) from
  mZ P g cap ts nest l 180 _ x W2 hn (h.below B2) eg fun hn1 W hs hg => by
   have hb:=HB.out
   have hsz:=hz2.out
   have hgs:=hg.size
   have c1 : ∀ b,b<W2.heap.size→b≠P→W.cell? ⟨b,0,none⟩=W2.cell? ⟨b,0,none⟩:=fun b hb hp => World.cell?_of_block (hg.block b hb (fun e => hp (Option.some.inj e)))
   rw [hx]
   exact wG P g cap ts he htk (nest + 1) l md K fs w.heap.size (w.heap.size + 1) W hK hs ((c1 _ (by omega) (by omega)).trans hp2.out.1) ((c1 _ (by omega) (by omega)).trans hp2.out.2) (by omega) (by omega) (hread hn1))
 rw [← hx]
 clear hx
 generalize S0 nest l x=x at C ⊢
 have hpr:=hp2.out.1
 clear h htk he eg hread
 unfold m9 at hK
 go_enter Tryz.func152,Tryz.ntmps152
 go_upto_region 1 with fail
 rw [← hW1,← hW2]
 clear hW1 hW2
 go_wp2_with fail
 (with_reducible refine Calls.mono C.out ?_)
 intro e w3 hq
 cases x with
 | error q =>
   obtain ⟨k,p⟩:=q
   obtain ⟨rfl,hg⟩:=hq
   refine And.intro rfl ?_
   exact ⟨rfl,b6 (b8 B2) hg⟩
 | ok q =>
   obtain ⟨t,r⟩:=q
   obtain ⟨a,cp,rfl,hs,hg,hl,hd⟩:=hq
   have Z3:=hid (Z2.out.grown hg (fun e => by have:=Option.some.inj e; have:=HB.out; omega))
   have HS:=hid hs
   have HG:=hid hg
   have HL:=hid hl
   have HD:=hid hd
   obtain ⟨⟨z0,z1,z2,z3,z4,z5⟩,⟨f0,f1,f2,f3,f4,f5⟩⟩:=Z3.out.cells
   have hzl:=Z3.out.lt
   clear hs hg hl hd C
   unfold trV
   go_wp2_with fail
   refine bodyPost_ret (v:=trV t a cp) (by simp [results,Tryz.results152,go_sem,trV,z0,z1,z2,z3,z4,z5]) rfl ?_
   have hz:=hz2.out
   have hb:=HB.out
   exact QP.fin HS (b6 (b8 B2) HG) (by omega) (by omega) HL (fun c hc => ⟨by have:=hc.1; omega,hc.2,by have:=hc.1; omega⟩) HD
theorem a0o (P g cap : Nat) (ts : List Tk) (he : y6 ts) (htk : ∀ t∈ts,z7 t) (l : List Tk) (hA : CQ 210 .atom P g cap ts l) (hU : isT cP l=true→CQ 197 .unary P g cap ts (b9 l)) : CQ 197 .unary P g cap ts l:=by
 intro nest w hle h
 obtain ⟨W1,hW1⟩ : ∃ W,W=w.alloc (.cells #[.int .i64 0,.string ⟨#[]⟩,.int .i64 0,.slice none 0 0,.int .i64 0,.int .i64 0] 50):=⟨_,rfl⟩
 have B1:=hid (show Below w.heap.size w W1 from hW1 ▸ c6 _ _)
 have Z1:=hid (show T6 w.heap.size 0 ⟨#[]⟩ 0 none 0 0 0 0 W1 from hW1 ▸ T6.make w _ _ _ _ _ _ _ _)
 have HB:=hid h.blocks
 have S1:=hid (h.below B1)
 have C1:=hid (show Calls Tryz.prog 50 #[.pointer (some ⟨P,0,none⟩),.string ⟨#[45]⟩] W1 (fun e w' => e=.returned (.bool (isT cP l))∧Below W1.heap.size W1 w') from aV P g cap ts nest l ⟨#[45]⟩ W1 S1)
 have eg : m9 197:=enters_of Tryz.func197 (by kernel_rfl) rfl
 cases hm : isT cP l
 ·have HX:=hid (show rd .unary nest l=rd .atom nest l by rw [t7]; exact if_neg (by rw [hm]; decide))
  rw [hm] at C1
  rw [HX.out]
  have C2:=hid (fun W hs => hA nest W hle hs)
  generalize rd .atom nest l=x at C2 ⊢
  clear h hA hU he htk eg hm
  go_enter Tryz.func197,Tryz.ntmps197
  go_wp2_with fail
  rw [← hW1]
  clear hW1
  (with_reducible refine Calls.mono C1.out ?_)
  rintro e W2 ⟨rfl,hb⟩
  have B2:=hid (B1.out.trans (hb.mono B1.out.size))
  have Z2:=hid (Z1.out.below hb)
  have C:=hid (C2.out W2 (S1.out.below hb))
  clear hb C1 C2
  go_wp2_with fail
  (with_reducible refine Calls.mono C.out ?_)
  intro e w3 hq
  cases x with
  | error q =>
    obtain ⟨k,p⟩:=q
    obtain ⟨rfl,hg⟩:=hq
    refine And.intro rfl ?_
    exact ⟨rfl,b6 (b8 B2) hg⟩
  | ok q =>
    obtain ⟨t,r⟩:=q
    obtain ⟨a,cp,rfl,hs,hg,hl,hd⟩:=hq
    have Z3:=hid (Z2.out.grown hg (fun e => by have:=Option.some.inj e; have:=HB.out; omega))
    have HS:=hid hs
    have HG:=hid hg
    have HL:=hid hl
    have HD:=hid hd
    obtain ⟨⟨z0,z1,z2,z3,z4,z5⟩,⟨f0,f1,f2,f3,f4,f5⟩⟩:=Z3.out.cells
    have hzl:=Z3.out.lt
    clear hs hg hl hd C
    unfold trV
    go_wp2_with fail
    refine bodyPost_ret (v:=trV t a cp) (by simp [results,Tryz.results197,go_sem,trV,z0,z1,z2,z3,z4,z5]) rfl ?_
    exact eX HS (b8 B2) Z2.out.lt HG HL HD ⟨HB.out.1,HB.out.2.1⟩
 ·have HX:=hid (show rd .unary nest l=S0 nest l ((rd .unary (nest + 1) (b9 l)).then fun t r => made (mkN 12 (hd l).text 0 [t] (hd l).pos) r) by rw [t7]; exact if_pos hm)
  rw [hm] at C1
  rw [HX.out]
  have C2:=hid (fun W hs => show Calls Tryz.prog 152 #[.pointer (some ⟨P,0,none⟩),.func (.func 197) #[.pointer (some ⟨P,0,none⟩)] #[]] W _ from nC P g cap ts he htk nest l .unary 197 #[.pointer (some ⟨P,0,none⟩)] W hle eg hs fun hn1 W hs => hU hm (nest + 1) W hn1 hs)
  generalize S0 nest l _=x at C2 ⊢
  clear h hA hU he htk eg hm
  go_enter Tryz.func197,Tryz.ntmps197
  go_wp2_with fail
  rw [← hW1]
  clear hW1
  (with_reducible refine Calls.mono C1.out ?_)
  rintro e W2 ⟨rfl,hb⟩
  have B2:=hid (B1.out.trans (hb.mono B1.out.size))
  have Z2:=hid (Z1.out.below hb)
  have C:=hid (C2.out W2 (S1.out.below hb))
  clear hb C1 C2
  go_wp2_with fail
  (with_reducible refine Calls.mono C.out ?_)
  intro e w3 hq
  cases x with
  | error q =>
    obtain ⟨k,p⟩:=q
    obtain ⟨rfl,hg⟩:=hq
    refine And.intro rfl ?_
    exact ⟨rfl,b6 (b8 B2) hg⟩
  | ok q =>
    obtain ⟨t,r⟩:=q
    obtain ⟨a,cp,rfl,hs,hg,hl,hd⟩:=hq
    have Z3:=hid (Z2.out.grown hg (fun e => by have:=Option.some.inj e; have:=HB.out; omega))
    have HS:=hid hs
    have HG:=hid hg
    have HL:=hid hl
    have HD:=hid hd
    obtain ⟨⟨z0,z1,z2,z3,z4,z5⟩,⟨f0,f1,f2,f3,f4,f5⟩⟩:=Z3.out.cells
    have hzl:=Z3.out.lt
    clear hs hg hl hd C
    unfold trV
    go_wp2_with fail
    refine bodyPost_ret (v:=trV t a cp) (by simp [results,Tryz.results197,go_sem,trV,z0,z1,z2,z3,z4,z5]) rfl ?_
    exact eX HS (b8 B2) Z2.out.lt HG HL HD ⟨HB.out.1,HB.out.2.1⟩
end
section
open Lib (hid)
open Go.RowKit
def dQ : List ByteArray:=[⟨#[60]⟩,⟨#[60,61]⟩,⟨#[61]⟩]
theorem a7l {r : List Tk} (h : ∀ j (hj : j<dQ.length),isT dQ[j].data.toList r=false) : U0 jA r=false:=by
 unfold U0 jA
 have h0:=h 0 (by decide)
 have h1:=h 1 (by decide)
 have h2:=h 2 (by decide)
 simp only [dQ,List.getElem_cons_zero,List.getElem_cons_succ] at h0 h1 h2
 simp [List.any_cons,h0,h1,h2]
theorem a6J {r : List Tk} {k : Nat} (hk : k<dQ.length) (h : isT dQ[k].data.toList r=true) : U0 jA r=true:=by
 unfold U0
 refine List.any_eq_true.2 ⟨dQ[k].data.toList,?_,h⟩
 have : k=0∨k=1∨k=2:=by simp [dQ] at hk; omega
 rcases this with rfl | rfl | rfl <;> simp [dQ,jA]
theorem a3x (w : World) (j : Nat) (hj : j<dQ.length) : (w.alloc (.cells #[.string ⟨#[60]⟩,.string ⟨#[60,61]⟩,.string ⟨#[61]⟩] 9)).cell? ⟨w.heap.size,j,none⟩=some (.string dQ[j]):=by
 have : j=0∨j=1∨j=2:=by simp [dQ] at hj; omega
 rcases this with rfl | rfl | rfl <;> simp [dQ]
theorem a7G {nest : Nat} {l : List Tk} (h : isT fX l=false) : rd .not nest l=(rd (.chain 2) nest l).then fun a r => if U0 jA r=true then (rd (.chain 2) nest (b9 r)).then fun b r' => made (mkN 13 (hd r).text 0 [a,b] (hd r).pos) r' else .ok (a,r):=by
 rw [t7]; exact if_neg (by rw [h]; decide)
theorem a4F (P g cap : Nat) (ts : List Tk) (he : y6 ts) (htk : ∀ t∈ts,z7 t) (l : List Tk) (hS : ∀ r,r.length≤l.length→CQ 153 (.chain 2) P g cap ts r) (hU : isT fX l=true→CQ 124 .not P g cap ts (b9 l)) : CQ 124 .not P g cap ts l:=by
 intro nest w hle h
 obtain ⟨W1,hW1⟩ : ∃ W,W=w.alloc (.cells #[.int .i64 0,.string ⟨#[]⟩,.int .i64 0,.slice none 0 0,.int .i64 0,.int .i64 0] 50):=⟨_,rfl⟩
 have B1:=hid (show Below w.heap.size w W1 from hW1 ▸ c6 _ _)
 have Z1:=hid (show T6 w.heap.size 0 ⟨#[]⟩ 0 none 0 0 0 0 W1 from hW1 ▸ T6.make w _ _ _ _ _ _ _ _)
 have HB:=hid h.blocks
 have S1:=hid (h.below B1)
 have C1:=hid (show Calls Tryz.prog 50 #[.pointer (some ⟨P,0,none⟩),.string ⟨#[110,111,116]⟩] W1 (fun e w' => e=.returned (.bool (isT fX l))∧Below W1.heap.size W1 w') from aV P g cap ts nest l ⟨#[110,111,116]⟩ W1 S1)
 have eg : m9 124:=enters_of Tryz.func124 (by kernel_rfl) rfl
 cases hm : isT fX l
 case true =>
  have HX:=hid (show rd .not nest l=S0 nest l ((rd .not (nest + 1) (b9 l)).then fun t r => made (mkN 12 (hd l).text 0 [t] (hd l).pos) r) by rw [t7]; exact if_pos hm)
  rw [hm] at C1
  rw [HX.out]
  have C2:=hid (fun W hs => show Calls Tryz.prog 152 #[.pointer (some ⟨P,0,none⟩),.func (.func 124) #[.pointer (some ⟨P,0,none⟩)] #[]] W _ from nC P g cap ts he htk nest l .not 124 #[.pointer (some ⟨P,0,none⟩)] W hle eg hs fun hn1 W hs => hU hm (nest + 1) W hn1 hs)
  generalize S0 nest l _=x at C2 ⊢
  clear h hS hU he htk eg hm
  go_enter Tryz.func124,Tryz.ntmps124
  go_wp2_with fail
  rw [← hW1]
  clear hW1
  (with_reducible refine Calls.mono C1.out ?_)
  rintro e W2 ⟨rfl,hb⟩
  have B2:=hid (B1.out.trans (hb.mono B1.out.size))
  have Z2:=hid (Z1.out.below hb)
  have C:=hid (C2.out W2 (S1.out.below hb))
  clear hb C1 C2
  go_wp2_with fail
  (with_reducible refine Calls.mono C.out ?_)
  intro e w3 hq
  cases x with
  | error q =>
    obtain ⟨k,p⟩:=q
    obtain ⟨rfl,hg⟩:=hq
    refine And.intro rfl ?_
    exact ⟨rfl,b6 (b8 B2) hg⟩
  | ok q =>
    obtain ⟨t,r⟩:=q
    obtain ⟨a,cp,rfl,hs,hg,hl,hd⟩:=hq
    have Z3:=hid (Z2.out.grown hg (fun e => by have:=Option.some.inj e; have:=HB.out; omega))
    have HS:=hid hs
    have HG:=hid hg
    have HL:=hid hl
    have HD:=hid hd
    obtain ⟨⟨z0,z1,z2,z3,z4,z5⟩,⟨f0,f1,f2,f3,f4,f5⟩⟩:=Z3.out.cells
    have hzl:=Z3.out.lt
    clear hs hg hl hd C
    unfold trV
    go_wp2_with fail
    refine bodyPost_ret (v:=trV t a cp) (by simp [results,Tryz.results124,go_sem,trV,z0,z1,z2,z3,z4,z5]) rfl ?_
    exact eX HS (b8 B2) Z2.out.lt HG HL HD ⟨HB.out.1,HB.out.2.1⟩
 case false =>
 obtain ⟨X,hX⟩ : ∃ X,X=rd .not nest l:=⟨_,rfl⟩
 rw [← hX]
 rw [a7G hm] at hX
 have HX:=hid hX
 rw [hm] at C1
 have HP:=hid hS
 have HE:=hid he
 have HTK:=hid htk
 clear h he htk hS hU hX hm eg
 go_enter Tryz.func124,Tryz.ntmps124
 go_wp2_with fail
 rw [← hW1]
 clear hW1
 (with_reducible refine Calls.mono C1.out ?_)
 rintro e W2 ⟨rfl,hb⟩
 have B2:=hid (B1.out.trans (hb.mono B1.out.size))
 have Z2:=hid (Z1.out.below hb)
 have C2:=hid (HP.out l (Nat.le_refl _) nest W2 hle (S1.out.below hb))
 have HRL:=hid (fun t q (h : rd (.chain 2) nest l=.ok (t,q)) => bC (.chain 2) nest l h)
 generalize rd (.chain 2) nest l=x at HX C2 HRL
 clear hb C1
 go_wp2_with fail
 (with_reducible refine Calls.mono C2.out ?_)
 intro e w3 hq
 cases x with
 | error q =>
   obtain ⟨k,p⟩:=q
   obtain ⟨rfl,hg⟩:=hq
   refine And.intro rfl ?_
   rw [HX.out]
   exact ⟨rfl,b6 (b8 B2) hg⟩
 | ok q =>
 obtain ⟨t,r⟩:=q
 obtain ⟨a,cp,rfl,hs,hg,hl,hdp⟩:=hq
 have hb3:=hid (show w.heap.size<W2.heap.size∧W2.heap.size≤w3.heap.size from ⟨Z2.out.lt,hg.size⟩)
 have HL:=hid hl
 have HD:=hid hdp
 have S3:=hid hs
 have G3:=hid (b6 (b8 B2) hg)
 have Z3:=hid (Z2.out.grown hg (fun e => by have:=Option.some.inj e; have:=HB.out; omega))
 have HXr:=hid (show X=if U0 jA r=true then (rd (.chain 2) nest (b9 r)).then fun b r' => made (mkN 13 (hd r).text 0 [t,b] (hd r).pos) r' else .ok (t,r) from HX)
 have hrl:=hid (HRL.out t r rfl)
 clear hs hg hl hdp C2 HX HRL
 obtain ⟨W4,hW4⟩ : ∃ W,W=w3.alloc (.cells #[.int .i64 t.kind,.string t.text,.int .i64 t.n,.slice a t.kids.length cp,.int .i64 t.place,.int .i64 (c8 t)] 50):=⟨_,rfl⟩
 have T4:=hid (show T6 w3.heap.size t.kind t.text t.n a t.kids.length cp t.place (c8 t) W4 from hW4 ▸ T6.make w3 _ _ _ _ _ _ _ _)
 have B4:=hid (show Below w3.heap.size w3 W4 from hW4 ▸ c6 _ _)
 obtain ⟨wo,hW5⟩ : ∃ W,W=W4.alloc (.cells #[.string ⟨#[60]⟩,.string ⟨#[60,61]⟩,.string ⟨#[61]⟩] 9):=⟨_,rfl⟩
 have HSC:=hid (show ∀ j (hj : j<dQ.length),wo.cell? ⟨W4.heap.size,j,none⟩=some (.string dQ[j]) from hW5 ▸ a3x W4)
 have hsa:=hid (show W4.heap.size<wo.heap.size by rw [hW5]; simp)
 have B45:=hid (show Below W4.heap.size W4 wo from hW5 ▸ c6 _ _)
 have B5:=hid (B4.out.trans (B45.out.mono B4.out.size))
 have TO:=hid (T4.out.below B45)
 have SO:=hid (S3.out.below B5)
 have GO:=hid (b6 G3 (b8 B5))
 have ZO:=hid (Z3.out.below B5)
 unfold trV
 go_upto_region 4 with fail
 rw [← hW4]
 clear hW4
 go_upto_block 0 with fail
 rw [← hW5]
 clear hW5
 go_wp2_with fail
 go_loopw [17] (fun i wr => ∃ k : Nat,k≤3∧i=.int .i64 k∧Hid (∀ j (hj : j<dQ.length),j<k→isT dQ[j].data.toList r=false)∧Hid (Below wo.heap.size wo wr)) (fun i _ => (3 - (intOf i).toNat))
 case atStart => exact ⟨0,Nat.zero_le _,rfl,fun j hj h => by omega,Below.refl _ _⟩
 case round =>
  obtain ⟨k,hk,rfl,HN,HBw⟩:=hrel
  by_cases hlt : k<3
  ·have hlt' : k<dQ.length:=hlt
   have c0 : wr.cell? ⟨W4.heap.size,k,none⟩=some (.string dQ[k]):=(HBw.out.cell (p:=⟨W4.heap.size,k,none⟩) hsa).trans (HSC.out k hlt')
   have HM:=hid (fun h => a6J (r:=r) hlt' h)
   have HAll:=hid (show isT dQ[k].data.toList r=false→∀ j (hj : j<dQ.length),j<k + 1→isT dQ[j].data.toList r=false from fun h j hj hjk => by
    by_cases e : j=k
    ·subst e; exact h
    ·exact HN.out j hj (by omega))
   have SW:=hid (SO.out.below HBw)
   have hlen : dQ[k].data.toList.length≤2:=by
    have : k=0∨k=1∨k=2:=by omega
    rcases this with rfl | rfl | rfl <;> simp [dQ]
   have HSL:=hid hlen
   generalize dQ[k]=s at c0 HM HAll HSL
   have C2:=hid (aV P g cap ts nest r s wr SW)
   generalize hbe : isT s.data.toList r=b at C2 HAll HM
   have HBE:=hid hbe
   clear hbe HN hlen hlt'
   cases b
   ·have HA:=hid (HAll.out rfl)
    clear HAll HM
    go_wp2_with fail
    (with_reducible refine Calls.mono C2.out ?_)
    rintro e w4 ⟨rfl,hb⟩
    have HB4:=hid (HBw.out.trans (hb.mono HBw.out.size))
    clear hb C2
    go_wp2_with fail
    go_roundw
    case rel => exact ⟨k + 1,by omega,by go_num,HA,HB4⟩
    case measure => simp [intOf]; omega
   ·have HXn:=hid (show X=(rd (.chain 2) nest (b9 r)).then fun b r' => made (mkN 13 s.data.toList 0 [t,b] (hd r).pos) r' by
     rw [HXr.out,if_pos (HM.out rfl),(cX HBE).2])
    have HLn:=hid (n5 HBE)
    clear HAll HM
    go_wp2_with fail
    (with_reducible refine Calls.mono C2.out ?_)
    rintro e w4 ⟨rfl,hb⟩
    have HB4:=hid (HBw.out.trans (hb.mono HBw.out.size))
    have S4:=hid (SW.out.below hb)
    have C3:=hid (dP P g cap ts nest r w4 S4 HE)
    have HT0:=hid (HTK.out _ S4.out.mem)
    generalize hd r=T at C3 HXn HT0
    have hfd:=iY T.kind T.n T.pos ⟨T.text.toArray⟩
    clear hb C2
    go_wp2_with fail
    (with_reducible refine Calls.mono C3.out ?_)
    rintro e wi ⟨rfl,hs5,hg5⟩
    have S5:=hid hs5
    have G0:=hid hg5
    have G5:=hid (b6 GO (b6 (b8 HB4) hg5))
    clear hs5 hg5 C3
    unfold tkV
    obtain ⟨W5,hW5⟩ : ∃ W,W=wi.alloc (.cells #[.int .i64 13,.string s,.int .i64 0,.slice none 0 0,.int .i64 T.pos] 24):=⟨_,rfl⟩
    have B6:=hid (show Below wi.heap.size wi W5 from hW5 ▸ c6 _ _)
    have TI:=hid ((TO.out.below HB4).grown G0 (fun e => by have:=Option.some.inj e; have:=hb3.out; have:=HB.out; omega))
    have N5:=hid (show f6 wi.heap.size (.mk 13 s 0 [] T.pos) none 0 W5 from hW5 ▸ f6.make wi (.mk 13 s 0 [] T.pos) none 0)
    have T5:=hid (TI.out.below B6)
    have Z5:=hid (((ZO.out.below HB4).grown G0 (fun e => by have:=Option.some.inj e; have:=HB.out; omega)).below B6)
    have BD:=hid (show Below W5.heap.size W5 W5.drew from z8 (Below.refl _ _))
    have C6:=hid (HP.out (b9 r) (by have:=HLn.out; have:=hrl.out; omega) nest W5.drew hle ((S5.out.below B6).below BD))
    have GW:=hid (show w.grownBy W5.drew (some P) from b6 G5 (b8 (B6.out.trans (BD.out.mono B6.out.size))))
    generalize rd (.chain 2) nest (b9 r)=x at C6 HXn
    go_upto_region 9 with fail
    rw [← hW5]
    clear hW5
    refine e8 (S:=(fun cur => (cur.cell? ⟨wi.heap.size,0,none⟩=some (.int .i64 13)∧cur.cell? ⟨wi.heap.size,1,none⟩=some (.string s)∧cur.cell? ⟨wi.heap.size,2,none⟩=some (.int .i64 0)∧cur.cell? ⟨wi.heap.size,3,none⟩=some (.slice none 0 0)∧cur.cell? ⟨wi.heap.size,4,none⟩=some (.int .i64 T.pos))∧(cur.cell? ⟨w3.heap.size,0,none⟩=some (.int .i64 t.kind)∧cur.cell? ⟨w3.heap.size,1,none⟩=some (.string t.text)∧cur.cell? ⟨w3.heap.size,2,none⟩=some (.int .i64 t.n)∧cur.cell? ⟨w3.heap.size,3,none⟩=some (.slice a t.kids.length cp)∧cur.cell? ⟨w3.heap.size,4,none⟩=some (.int .i64 t.place)∧cur.cell? ⟨w3.heap.size,5,none⟩=some (.int .i64 (c8 t))))) (z:=7) (by kernel_rfl) ?_ (fun hHeld => ?_)
    ·exact ⟨N5.out.cells.1,T5.out.cells.1⟩
    refine b7.t 0 ?_; refine b7.t 1 ?_; refine b7.t 2 ?_; refine b7.t 3 ?_
    refine b7.nx 4 fun K hK => ?_
    go_simp
    (with_reducible refine Calls.mono C6.out ?_)
    intro e w6 hq
    cases x with
    | error q =>
      obtain ⟨k0,p0⟩:=q
      obtain ⟨rfl,hg⟩:=hq
      refine And.intro rfl ?_
      rw [HXn.out]
      exact ⟨rfl,b6 GW hg⟩
    | ok q =>
    obtain ⟨m,q⟩:=q
    obtain ⟨a2,cp2,rfl,hs6,hg6,hl6,hd6⟩:=hq
    have S6:=hid hs6
    have G6:=hid (b6 GW hg6)
    have N6:=hid (f6.grown (show f6 wi.heap.size (.mk 13 s 0 [] T.pos) none 0 W5.drew from N5) hg6 (by have:=S5.out.blocks; omega))
    have T6':=hid (T6.grown (show T6 w3.heap.size t.kind t.text t.n a t.kids.length cp t.place (c8 t) W5.drew from T5) hg6 (fun e => by have:=Option.some.inj e; have:=hb3.out; have:=HB.out; omega))
    have Z6:=hid (T6.grown (show T6 w.heap.size 0 ⟨#[]⟩ 0 none 0 0 0 0 W5.drew from Z5) hg6 (fun e => by have:=Option.some.inj e; have:=HB.out; omega))
    have HG6:=hid hg6
    have HL6:=hid hl6
    have HD6:=hid hd6
    clear hs6 hg6 hl6 hd6 C6
    unfold trV
    go_wp2_with fail
    refine hK.out _ _ ?_ (fun hHeld => ?_)
    ·exact ⟨N6.out.cells.1,T6'.out.cells.1⟩
    clear hK K
    try simp only [Act.put,c9,f8,f7]
    refine b7.nx 5 fun K hK => ?_
    go_simp
    obtain ⟨W7,hW7⟩ : ∃ W,W=w6.alloc (.cells #[.int .i64 t.kind,.string t.text,.int .i64 t.n,.slice a t.kids.length cp,.int .i64 t.place,.int .i64 (c8 t),.int .i64 m.kind,.string m.text,.int .i64 m.n,.slice a2 m.kids.length cp2,.int .i64 m.place,.int .i64 (c8 m)] 50):=⟨_,rfl⟩
    have R7:=hid (show lK W7 w6.heap.size 0 [(t,a,cp),(m,a2,cp2)] from hW7 ▸ a6Y w6 _ (t,a,cp) (m,a2,cp2))
    have B7:=hid (show Below w6.heap.size w6 W7 from hW7 ▸ c6 _ _)
    have hz7:=hid (show W7.heap.size=w6.heap.size + 1 by rw [hW7]; simp)
    have N7:=hid (N6.out.below B7)
    have T7:=hid (T6'.out.below B7)
    have C7:=hid (show Calls Tryz.prog 54 #[.pointer (some ⟨P,0,none⟩),.agg #[.int .i64 13,.string s,.int .i64 0,.slice none 0 0,.int .i64 T.pos],.slice (some ⟨w6.heap.size,0,none⟩) 2 2] W7 (gR 13 s.data.toList 0 T.pos [(t,a,cp),(m,a2,cp2)] W7) by
     have:=aO P 13 s.data.toList 0 T.pos (some ⟨w6.heap.size,0,none⟩) 2 [(t,a,cp),(m,a2,cp2)] W7 (by show 2≤8; decide) (fun _ => ⟨w6.heap.size,0,rfl,by have:=hz7.out; omega,R7⟩) (fun e he => by
      rcases List.mem_cons.1 he with rfl | he
      ·exact HD
      ·obtain rfl:=List.mem_singleton.1 he; exact HD6)
     rw [a13] at this
     exact this)
    rw [← hW7]
    clear hW7
    refine hK.out _ _ ?_ (fun hHeld => ?_)
    ·exact ⟨N7.out.cells.1,T7.out.cells.1⟩
    clear hK K
    try simp only [Act.put,c9,f8,f7]
    refine b7.nx 6 fun K hK => ?_
    go_simp
    (with_reducible refine Calls.mono C7.out ?_)
    intro e w8 hm
    have HMR:=hid (show jL (made (mkN 13 s.data.toList 0 [t,m] T.pos) q) (fun c => w.heap.size<c∧c<W7.heap.size) W7 e w8 from by
     have hsz6:=HG6.out.size
     have hszo:=HB4.out.size
     have hszi:=G0.out.size
     have hsz5:=B6.out.size
     have hszO:=B5.out.size
     have hh:=hz7.out
     have hPw:=HB.out
     have hsd : W5.drew.heap.size=W5.heap.size:=rfl
     have hb3':=hb3.out
     refine hm.use rfl (by have:=HSL.out; omega) rfl HT0.out.2.1 (fun c hc => hc.2) (fun e he => ?_) q
     rcases List.mem_cons.1 he with rfl | he
     ·refine d5 HL (fun c hc => ?_) fun c hc => ⟨by have:=hc.1; omega,by have:=hc.2; omega⟩
      have h1:=hc.1
      have h2:=hc.2
      refine (B7.out.block c (by omega)).trans ((HG6.out.block c (by omega) (fun e => by have:=Option.some.inj e; omega)).trans ?_)
      exact (B6.out.block c (by omega)).trans ((G0.out.block c (by omega) (fun e => by have:=Option.some.inj e; omega)).trans ((HB4.out.block c (by omega)).trans (B5.out.block c h2)))
     ·obtain rfl:=List.mem_singleton.1 he
      exact d5 HL6 (fun c hc => B7.out.block c hc.2) fun c hc => ⟨by have:=hc.1; omega,by have:=hc.2; omega⟩)
    clear hm C7
    obtain ⟨hb8,hm⟩:=HMR.out
    have B8:=hid hb8
    have HXm:=hid (show X=made (mkN 13 s.data.toList 0 [t,m] T.pos) q from HXn)
    cases hmd : made (mkN 13 s.data.toList 0 [t,m] T.pos) q with
    | error z =>
      obtain ⟨k0,p0⟩:=z
      rw [hmd] at hm
      obtain rfl:=hm
      refine And.intro rfl ?_
      rw [HXm.out,hmd]
      exact ⟨rfl,b6 G6 (b8 (B7.out.trans (B8.out.mono B7.out.size)))⟩
    | ok z =>
    obtain ⟨t2,q2⟩:=z
    have hq2 : q2=q:=dU hmd
    subst hq2
    rw [hmd] at hm
    obtain ⟨a3,cp3,rfl,hl3,hd3⟩:=hm
    have HMD:=hid hmd
    have HL3:=hid hl3
    have HD3:=hid hd3
    have N8:=hid (N7.out.below B8)
    have T8:=hid (T7.out.below B8)
    have hb78:=B7.out.trans (B8.out.mono B7.out.size)
    have B68:=hid hb78
    clear hmd hl3 hd3 hb8 hb78
    unfold trV
    go_wp2_with fail
    refine hK.out _ _ ?_ (fun hHeld => ?_)
    ·exact ⟨N8.out.cells.1,T8.out.cells.1⟩
    clear hK K
    try simp only [Act.put,c9,f8,f7]
    have Z8:=hid (Z6.out.below B68)
    obtain ⟨⟨z0,z1,z2,z3,z4,z5⟩,⟨f0,f1,f2,f3,f4,f5⟩⟩:=Z8.out.cells
    have hzl:=Z8.out.lt
    refine b7.la fun K hK => ?_
    go_simp
    refine hK.out _ _ ?_
    clear hK K
    go_wp2_with fail
    refine bodyPost_ret (v:=trV t2 a3 cp3) (by simp [results,Tryz.results124,go_sem,trV,z0,z1,z2,z3,z4,z5]) rfl ?_
    rw [HXm.out,HMD.out]
    have h1:=hz7.out
    have h2:=B8.out.size
    have hb:=HB.out
    have h4:=G6.out.size
    exact QP.fin ((S6.out.below B7).below B8) (b6 G6 (b8 B68)) (Nat.le_refl _) (by omega) HL3 (fun c hc => by
     rcases hc with hc | hc
     ·have:=hc.1; have:=hc.2; omega
     ·have:=hc.1; have:=hc.2; omega) HD3
  ·have hkk : k=3:=by omega
   have HXe:=hid (show X=.ok (t,r) by
    rw [HXr.out,if_neg]
    rw [a7l fun j hj => HN.out j hj (by have : j<3:=hj; omega)]
    decide)
   have TR:=hid (TO.out.below HBw)
   have ZR:=hid (ZO.out.below HBw)
   obtain ⟨⟨x0,x1,x2,x3,x4,x5⟩,-⟩:=TR.out.cells
   obtain ⟨⟨z0,z1,z2,z3,z4,z5⟩,⟨f0,f1,f2,f3,f4,f5⟩⟩:=ZR.out.cells
   have hxl:=TR.out.lt
   have hzl:=ZR.out.lt
   clear hkk
   go_wp2_with fail
   refine bodyPost_ret (v:=trV t a cp) (by simp [results,Tryz.results124,go_sem,trV,z0,z1,z2,z3,z4,z5]) rfl ?_
   rw [HXe.out]
   have hb:=HB.out
   have hsz:=HBw.out.size
   have hb3':=hb3.out
   have hs5:=B5.out.size
   exact QP.fin (av:=Fr W2.heap.size w3.heap.size) (SO.out.below HBw) (b6 GO (b8 HBw)) (Nat.le_refl _) (by omega) (d5 HL (fun c hc => (HBw.out.block c (by have:=hc.2; omega)).trans (B5.out.block c hc.2)) fun c hc => hc) (fun c hc => ⟨by have:=hc.1; omega,by have:=hc.2; omega,by have:=hc.1; omega⟩) HD
end
section
open Lib (hid)
open Go.RowKit
def tQ (nest : Nat) (l : List Tk) : Rd:=if isT tIf l=true then
 (rd .expr nest (b9 l)).then fun a r => d7 fF r fun r => (rd .expr nest r).then fun b r => d7 eY r fun r => (rd .expr nest r).then fun c r => made (mkN 14 [] 0 [a,b,c] (hd l).pos) r
 else rd (.chain 0) nest l
theorem a6w (nest : Nat) (l : List Tk) : rd .expr nest l=S0 nest l (tQ (nest + 1) l):=by rw [t7]; rfl
theorem O4 {w : List UInt8} {l : List Tk} {f : List Tk→Rd} (h : isT w l=true) : d7 w l f=f (b9 l):=if_pos h
theorem Y8 {w : List UInt8} {l : List Tk} {f : List Tk→Rd} (h : isT w l=false) : d7 w l f=.error (74,(hd l).pos):=if_neg (by rw [h]; decide)
def eV (P g cap : Nat) (ts : List Tk) (nest : Nat) (y : List UInt8) (l : List Tk) (w : World) (e : Ending) (w' : World) : Prop:=w.grownBy w' (some P)∧(isT y l=true→e=.returned (.tuple #[])∧SQ P g cap ts nest (b9 l) w')∧(isT y l=false→e=flt 74 (hd l).pos)
theorem V9 (P g cap : Nat) (ts : List Tk) (nest : Nat) (l : List Tk) (x : ByteArray) (y : List UInt8) (hy : x.data.toList=y) (w : World) (h : SQ P g cap ts nest l w) (he : y6 ts) :
 Calls Tryz.prog 53 #[.pointer (some ⟨P,0,none⟩),.string x] w (eV P g cap ts nest y l w):=by
 subst hy
 refine (a2R P g cap ts nest l x w h he).mono fun e w' hq => ?_
 rw [show bZ x.data.toList (.ok l)=if isT x.data.toList l=true then .ok (b9 l) else .error (74,(hd l).pos) from rfl] at hq
 cases hb : isT x.data.toList l
 ·rw [hb] at hq
  exact ⟨hq.2,(fun h => by rw [hb] at h; cases h),fun _ => hq.1⟩
 ·rw [hb] at hq
  exact ⟨hq.2.2,fun _ => ⟨hq.1,hq.2.1⟩,fun h => by rw [hb] at h; cases h⟩
theorem aG {av av' : Nat→Prop} {A B : World} {t : Nd} {a : Option Addr} {cp P : Nat} (h : t.lies av A a cp) (g : A.grownBy B (some P)) (ha : ∀ c,av c→c<A.heap.size∧c≠P∧av' c) : t.lies av' B a cp :=
 d5 h (fun c hc => g.block c (ha c hc).1 (fun e => (ha c hc).2.1 (Option.some.inj e))) fun c hc => (ha c hc).2.2
theorem a0A (P g cap : Nat) (ts : List Tk) (he : y6 ts) (htk : ∀ t∈ts,z7 t) (nest : Nat) (l : List Tk) (pb : Nat) (w : World) (hn : nest≤300) (h : SQ P g cap ts nest l w) (hp : w.cell? ⟨pb,0,none⟩=some (.pointer (some ⟨P,0,none⟩))) (hpb : pb≠P∧pb<w.heap.size)
 (hO : CQ 51 (.chain 0) P g cap ts l) (hE : ∀ r,r.length<l.length→CQ 25 .expr P g cap ts r) :
 Calls Tryz.prog 49 #[.pointer (some ⟨pb,0,none⟩)] w (QP P g cap ts nest (tQ nest l) w):=by
 obtain ⟨W1,hW1⟩ : ∃ W,W=w.alloc (.cells #[.int .i64 0,.string ⟨#[]⟩,.int .i64 0,.slice none 0 0,.int .i64 0,.int .i64 0] 50):=⟨_,rfl⟩
 have B1:=hid (show Below w.heap.size w W1 from hW1 ▸ c6 _ _)
 have Z1:=hid (show T6 w.heap.size 0 ⟨#[]⟩ 0 none 0 0 0 0 W1 from hW1 ▸ T6.make w _ _ _ _ _ _ _ _)
 have HB:=hid h.blocks
 have HPB:=hid hpb
 have S1:=hid (h.below B1)
 have HC:=hid (show ∀ W : World,w.grownBy W (some P)→W.cell? ⟨pb,0,none⟩=some (.pointer (some ⟨P,0,none⟩)) from fun W hg => (World.cell?_of_block (hg.block pb hpb.2 (fun e => hpb.1 (Option.some.inj e)))).trans hp)
 have hp1:=HC.out W1 (b8 B1)
 have C1:=hid (show Calls Tryz.prog 50 #[.pointer (some ⟨P,0,none⟩),.string ⟨#[105,102]⟩] W1 (fun e w' => e=.returned (.bool (isT tIf l))∧Below W1.heap.size W1 w') from aV P g cap ts nest l ⟨#[105,102]⟩ W1 S1)
 cases hm : isT tIf l
 case false =>
  rw [hm] at C1
  rw [show tQ nest l=rd (.chain 0) nest l from if_neg (by rw [hm]; decide)]
  have C2:=hid (fun W hs => hO nest W hn hs)
  generalize rd (.chain 0) nest l=x at C2 ⊢
  clear h hO hE he htk hm hp
  go_enter Tryz.func49,Tryz.ntmps49
  go_upto_region 1 with fail
  rw [← hW1]
  clear hW1
  go_wp2_with fail
  (with_reducible refine Calls.mono C1.out ?_)
  rintro e W2 ⟨rfl,hb⟩
  have B2:=hid (B1.out.trans (hb.mono B1.out.size))
  have Z2:=hid (Z1.out.below hb)
  have C:=hid (C2.out W2 (S1.out.below hb))
  have hp2:=HC.out W2 (b8 B2)
  clear hb C1 C2 hp1
  go_wp2_with fail
  (with_reducible refine Calls.mono C.out ?_)
  intro e w3 hq
  cases x with
  | error q =>
    obtain ⟨k,p⟩:=q
    obtain ⟨rfl,hg⟩:=hq
    refine And.intro rfl ?_
    exact ⟨rfl,b6 (b8 B2) hg⟩
  | ok q =>
    obtain ⟨t,r⟩:=q
    obtain ⟨a,cp,rfl,hs,hg,hl,hd⟩:=hq
    have Z3:=hid (Z2.out.grown hg (fun e => by have:=Option.some.inj e; have:=HB.out; omega))
    have HS:=hid hs
    have HG:=hid hg
    have HL:=hid hl
    have HD:=hid hd
    obtain ⟨⟨z0,z1,z2,z3,z4,z5⟩,⟨f0,f1,f2,f3,f4,f5⟩⟩:=Z3.out.cells
    have hzl:=Z3.out.lt
    clear hs hg hl hd C
    unfold trV
    go_wp2_with fail
    refine bodyPost_ret (v:=trV t a cp) (by simp [results,Tryz.results49,go_sem,trV,z0,z1,z2,z3,z4,z5]) rfl ?_
    exact eX HS (b8 B2) Z2.out.lt HG HL HD ⟨HB.out.1,HB.out.2.1⟩
 case true =>
 rw [hm] at C1
 obtain ⟨X,hX⟩ : ∃ X,X=tQ nest l:=⟨_,rfl⟩
 rw [← hX]
 rw [show tQ nest l=(rd .expr nest (b9 l)).then fun a r => d7 fF r fun r => (rd .expr nest r).then fun b r => d7 eY r fun r => (rd .expr nest r).then fun c r => made (mkN 14 [] 0 [a,b,c] (hd l).pos) r from if_pos hm] at hX
 have HLn:=hid (n5 hm)
 have HE:=hid he
 have HEx:=hid hE
 have HT0:=hid (htk _ h.mem)
 generalize hT : hd l=T at hX HT0
 have HTe:=hid hT
 have HX:=hid hX
 clear h he htk hO hE hX hm hp hT
 go_enter Tryz.func49,Tryz.ntmps49
 go_upto_region 1 with fail
 rw [← hW1]
 clear hW1
 go_wp2_with fail
 (with_reducible refine Calls.mono C1.out ?_)
 rintro e W2 ⟨rfl,hb⟩
 have B2:=hid (B1.out.trans (hb.mono B1.out.size))
 have Z2:=hid (Z1.out.below hb)
 have S2:=hid (S1.out.below hb)
 have hp2:=HC.out W2 (b8 B2)
 have C2:=hid (show Calls Tryz.prog 52 #[.pointer (some ⟨P,0,none⟩)] W2 (fun e w' => e=.returned (tkV T)∧SQ P g cap ts nest (b9 l) w'∧W2.grownBy w' (some P)) by
  have:=dP P g cap ts nest l W2 S2 HE
  rwa [HTe.out] at this)
 have hfd:=iY T.kind T.n T.pos ⟨T.text.toArray⟩
 clear hb C1 hp1
 go_wp2_with fail
 (with_reducible refine Calls.mono C2.out ?_)
 rintro e w3 ⟨rfl,hs,hg⟩
 have S3:=hid hs
 have G3:=hid (b6 (b8 B2) hg)
 have Z3:=hid (Z2.out.grown hg (fun e => by have:=Option.some.inj e; have:=HB.out; omega))
 clear hs hg C2 hp2
 obtain ⟨W4,hW4⟩ : ∃ W,W=w3.alloc (.cells #[.int .i64 14,.string ⟨#[]⟩,.int .i64 0,.slice none 0 0,.int .i64 T.pos] 24):=⟨_,rfl⟩
 have B4:=hid (show Below w3.heap.size w3 W4 from hW4 ▸ c6 _ _)
 have N4:=hid (show f6 w3.heap.size (.mk 14 ⟨#[]⟩ 0 [] T.pos) none 0 W4 from hW4 ▸ f6.make w3 (.mk 14 ⟨#[]⟩ 0 [] T.pos) none 0)
 have S4:=hid (S3.out.below B4)
 have G4:=hid (b6 G3 (b8 B4))
 have Z4:=hid (Z3.out.below B4)
 have hp4:=HC.out W4 G4
 have C4:=hid (HEx.out (b9 l) (by have:=HLn.out; omega) nest W4 hn S4)
 have HR4:=hid (fun t q (h : rd .expr nest (b9 l)=.ok (t,q)) => bC .expr nest (b9 l) h)
 generalize rd .expr nest (b9 l)=x at C4 HX HR4
 unfold tkV
 go_upto_region 4 with fail
 rw [← hW4]
 clear hW4 hfd
 go_wp2_with fail
 (with_reducible refine Calls.mono C4.out ?_)
 intro e wa hq
 cases x with
 | error q =>
   obtain ⟨k,p⟩:=q
   obtain ⟨rfl,hg⟩:=hq
   refine And.intro rfl ?_
   rw [HX.out]
   exact ⟨rfl,b6 G4 hg⟩
 | ok q =>
 obtain ⟨t1,r1⟩:=q
 obtain ⟨a1,c1,rfl,hs,hg,hl,hdp⟩:=hq
 have hr1:=hid (HR4.out t1 r1 rfl)
 have HX1:=hid (show X=d7 fF r1 fun r => (rd .expr nest r).then fun b r => d7 eY r fun r => (rd .expr nest r).then fun c r => made (mkN 14 [] 0 [t1,b,c] T.pos) r from HX)
 have SA:=hid hs
 have GA:=hid (b6 G4 hg)
 have G4A:=hid hg
 have NA:=hid (N4.out.grown hg (by have:=S3.out.blocks; omega))
 have ZA:=hid (Z4.out.grown hg (fun e => by have:=Option.some.inj e; have:=HB.out; omega))
 have HL1:=hid hl
 have HD1:=hid hdp
 clear hs hg hl hdp C4 hp4 HX HR4
 obtain ⟨W5,hW5⟩ : ∃ W,W=wa.alloc (.cells #[.int .i64 t1.kind,.string t1.text,.int .i64 t1.n,.slice a1 t1.kids.length c1,.int .i64 t1.place,.int .i64 (c8 t1)] 50):=⟨_,rfl⟩
 have B5:=hid (show Below wa.heap.size wa W5 from hW5 ▸ c6 _ _)
 have A5:=hid (show T6 wa.heap.size t1.kind t1.text t1.n a1 t1.kids.length c1 t1.place (c8 t1) W5 from hW5 ▸ T6.make wa _ _ _ _ _ _ _ _)
 have S5:=hid (SA.out.below B5)
 have G5:=hid (b6 GA (b8 B5))
 have hp5:=HC.out W5 G5
 have C5:=hid (show Calls Tryz.prog 53 #[.pointer (some ⟨P,0,none⟩),.string ⟨#[116,104,101,110]⟩] W5 (eV P g cap ts nest fF r1 W5) from V9 P g cap ts nest r1 ⟨#[116,104,101,110]⟩ fF rfl W5 S5 HE)
 unfold trV
 go_upto_region 5 with fail
 rw [← hW5]
 clear hW5
 go_wp2_with fail
 (with_reducible refine Calls.mono C5.out ?_)
 rintro e w6 ⟨hg,hq⟩
 have G56:=hid hg
 have G6:=hid (b6 G5 hg)
 have hp6:=HC.out w6 G6
 cases hw : isT fF r1
 case false =>
  obtain rfl:=hq.2 hw
  refine And.intro rfl ?_
  rw [HX1.out,Y8 hw]
  exact ⟨rfl,G6⟩
 case true =>
 obtain ⟨rfl,hs⟩:=hq.1 hw
 have S6:=hid hs
 have hr2:=hid (n5 hw)
 have C6:=hid (HEx.out (b9 r1) (by have:=HLn.out; have:=hr1.out; have:=hr2.out; omega) nest w6 hn S6)
 have HX2:=hid (HX1.out.trans (O4 hw))
 have HR6:=hid (fun t q (h : rd .expr nest (b9 r1)=.ok (t,q)) => bC .expr nest (b9 r1) h)
 generalize rd .expr nest (b9 r1)=x at C6 HX2 HR6
 clear hs hg C5 hp5 hw
 go_wp2_with fail
 (with_reducible refine Calls.mono C6.out ?_)
 intro e wb hq
 cases x with
 | error q =>
   obtain ⟨k,p⟩:=q
   obtain ⟨rfl,hg⟩:=hq
   refine And.intro rfl ?_
   rw [HX2.out]
   exact ⟨rfl,b6 G6 hg⟩
 | ok q =>
 obtain ⟨t2,r2⟩:=q
 obtain ⟨a2,c2,rfl,hs,hg,hl,hdp⟩:=hq
 have hr3:=hid (HR6.out t2 r2 rfl)
 have HX3:=hid (show X=d7 eY r2 fun r => (rd .expr nest r).then fun c r => made (mkN 14 [] 0 [t1,t2,c] T.pos) r from HX2)
 have SB:=hid hs
 have GB:=hid (b6 G6 hg)
 have G5B:=hid (b6 G56 hg)
 have HL2:=hid hl
 have HD2:=hid hdp
 have h6b:=hid hg.size
 clear hs hg hl hdp C6 hp6 HX2 HR6
 obtain ⟨W7,hW7⟩ : ∃ W,W=wb.alloc (.cells #[.int .i64 t2.kind,.string t2.text,.int .i64 t2.n,.slice a2 t2.kids.length c2,.int .i64 t2.place,.int .i64 (c8 t2)] 50):=⟨_,rfl⟩
 have B7:=hid (show Below wb.heap.size wb W7 from hW7 ▸ c6 _ _)
 have E7:=hid (show T6 wb.heap.size t2.kind t2.text t2.n a2 t2.kids.length c2 t2.place (c8 t2) W7 from hW7 ▸ T6.make wb _ _ _ _ _ _ _ _)
 have S7:=hid (SB.out.below B7)
 have G7:=hid (b6 GB (b8 B7))
 have hp7:=HC.out W7 G7
 have C7:=hid (show Calls Tryz.prog 53 #[.pointer (some ⟨P,0,none⟩),.string ⟨#[101,108,115,101]⟩] W7 (eV P g cap ts nest eY r2 W7) from V9 P g cap ts nest r2 ⟨#[101,108,115,101]⟩ eY rfl W7 S7 HE)
 unfold trV
 go_upto_region 7 with fail
 rw [← hW7]
 clear hW7
 go_wp2_with fail
 (with_reducible refine Calls.mono C7.out ?_)
 rintro e w8 ⟨hg,hq⟩
 have G78:=hid hg
 have G8:=hid (b6 G7 hg)
 cases hw : isT eY r2
 case false =>
  obtain rfl:=hq.2 hw
  refine And.intro rfl ?_
  rw [HX3.out,Y8 hw]
  exact ⟨rfl,G8⟩
 case true =>
 obtain ⟨rfl,hs⟩:=hq.1 hw
 have S8:=hid hs
 have hr4:=hid (n5 hw)
 have BD:=hid (show Below w8.heap.size w8 w8.drew from z8 (Below.refl _ _))
 have C8:=hid (HEx.out (b9 r2) (by have:=HLn.out; have:=hr1.out; have:=hr2.out; have:=hr3.out; have:=hr4.out; omega) nest w8.drew hn (S8.out.below BD))
 have HX4:=hid (show X=(rd .expr nest (b9 r2)).then fun c r => made (mkN 14 [] 0 [t1,t2,c] T.pos) r from HX3.out.trans (O4 hw))
 generalize rd .expr nest (b9 r2)=x at C8 HX4
 have hsz:=hid (show P<w.heap.size∧w.heap.size<w3.heap.size∧w3.heap.size<W4.heap.size∧W4.heap.size≤wa.heap.size∧wa.heap.size<W5.heap.size∧W5.heap.size≤w6.heap.size∧w6.heap.size≤wb.heap.size∧wb.heap.size<W7.heap.size∧W7.heap.size≤w8.heap.size from
  ⟨HB.out.1,Z3.out.lt,N4.out.lt,G4A.out.size,A5.out.lt,G56.out.size,h6b,E7.out.lt,G78.out.size⟩)
 have GW:=hid (show w.grownBy w8.drew (some P) from b6 G8 (b8 BD))
 have GA8:=hid (show wa.grownBy w8.drew (some P) from b6 (b8 B5) (b6 G5B (b6 (b8 B7) (b6 G78 (b8 BD)))))
 have GB8:=hid (show wb.grownBy w8.drew (some P) from b6 (b8 B7) (b6 G78 (b8 BD)))
 have N8:=hid (NA.out.grown GA8 (by have:=hsz.out; omega))
 have Z8:=hid (ZA.out.grown GA8 (fun e => by have:=Option.some.inj e; have:=hsz.out; omega))
 have A8:=hid (A5.out.grown (b6 G5B (b6 (b8 B7) (b6 G78 (b8 BD)))) (fun e => by have:=Option.some.inj e; have:=hsz.out; omega))
 have E8:=hid (E7.out.grown (b6 G78 (b8 BD)) (fun e => by have:=Option.some.inj e; have:=hsz.out; omega))
 have HL1':=hid (aG (av':=fun c => w.heap.size<c∧c<w8.drew.heap.size) HL1 GA8 fun c hc => ⟨hc.2,by have:=hc.1; have:=hsz.out; omega,by have:=hc.1; have:=hsz.out; omega,Nat.lt_of_lt_of_le hc.2 GA8.out.size⟩)
 have HL2':=hid (aG (av':=fun c => w.heap.size<c∧c<w8.drew.heap.size) HL2 GB8 fun c hc => ⟨hc.2,by have:=hc.1; have:=hsz.out; omega,by have:=hc.1; have:=hsz.out; omega,Nat.lt_of_lt_of_le hc.2 GB8.out.size⟩)
 have HP8:=hid (HC.out w8.drew GW)
 clear hs hg C7 hp7 hw
 go_upto_region 8 with fail
 refine e8 (S:=(fun cur => cur.cell? ⟨pb,0,none⟩=some (.pointer (some ⟨P,0,none⟩))∧(cur.cell? ⟨w3.heap.size,0,none⟩=some (.int .i64 14)∧cur.cell? ⟨w3.heap.size,1,none⟩=some (.string ⟨#[]⟩)∧cur.cell? ⟨w3.heap.size,2,none⟩=some (.int .i64 0)∧cur.cell? ⟨w3.heap.size,3,none⟩=some (.slice none 0 0)∧cur.cell? ⟨w3.heap.size,4,none⟩=some (.int .i64 T.pos))∧(cur.cell? ⟨wa.heap.size,0,none⟩=some (.int .i64 t1.kind)∧cur.cell? ⟨wa.heap.size,1,none⟩=some (.string t1.text)∧cur.cell? ⟨wa.heap.size,2,none⟩=some (.int .i64 t1.n)∧cur.cell? ⟨wa.heap.size,3,none⟩=some (.slice a1 t1.kids.length c1)∧cur.cell? ⟨wa.heap.size,4,none⟩=some (.int .i64 t1.place)∧cur.cell? ⟨wa.heap.size,5,none⟩=some (.int .i64 (c8 t1)))∧(cur.cell? ⟨wb.heap.size,0,none⟩=some (.int .i64 t2.kind)∧cur.cell? ⟨wb.heap.size,1,none⟩=some (.string t2.text)∧cur.cell? ⟨wb.heap.size,2,none⟩=some (.int .i64 t2.n)∧cur.cell? ⟨wb.heap.size,3,none⟩=some (.slice a2 t2.kids.length c2)∧cur.cell? ⟨wb.heap.size,4,none⟩=some (.int .i64 t2.place)∧cur.cell? ⟨wb.heap.size,5,none⟩=some (.int .i64 (c8 t2))))) (z:=8) (by kernel_rfl) ?_ (fun hHeld => ?_)
 ·exact ⟨HP8,N8.out.cells.1,A8.out.cells.1,E8.out.cells.1⟩
 refine b7.t 0 ?_; refine b7.t 1 ?_; refine b7.t 2 ?_; refine b7.t 3 ?_; refine b7.t 4 ?_
 refine b7.nx 5 fun K hK => ?_
 go_simp
 (with_reducible refine Calls.mono C8.out ?_)
 intro e w9 hq
 cases x with
 | error q =>
   obtain ⟨k0,p0⟩:=q
   obtain ⟨rfl,hg⟩:=hq
   refine And.intro rfl ?_
   rw [HX4.out]
   exact ⟨rfl,b6 GW hg⟩
 | ok q =>
 obtain ⟨m,q⟩:=q
 obtain ⟨a3,c3,rfl,hs6,hg6,hl6,hd6⟩:=hq
 have S9:=hid hs6
 have G9:=hid (b6 GW hg6)
 have hd8:=hid (show w8.drew.heap.size=w8.heap.size from rfl)
 have N9:=hid (N8.out.grown hg6 (by have:=hsz.out; omega))
 have A9:=hid (A8.out.grown hg6 (fun e => by have:=Option.some.inj e; have:=hsz.out; omega))
 have E9:=hid (E8.out.grown hg6 (fun e => by have:=Option.some.inj e; have:=hsz.out; omega))
 have Z9:=hid (Z8.out.grown hg6 (fun e => by have:=Option.some.inj e; have:=hsz.out; omega))
 have HP9:=hid (HC.out w9 G9)
 have HG9:=hid hg6
 have HL3:=hid hl6
 have HD3:=hid hd6
 clear hs6 hg6 hl6 hd6 C8
 unfold trV
 go_wp2_with fail
 refine hK.out _ _ ?_ (fun hHeld => ?_)
 ·exact ⟨HP9,N9.out.cells.1,A9.out.cells.1,E9.out.cells.1⟩
 clear hK K
 try simp only [Act.put,c9,f8,f7]
 refine b7.nx 6 fun K hK => ?_
 go_simp
 obtain ⟨Wx,hWx⟩ : ∃ W,W=w9.alloc (.cells #[.int .i64 t1.kind,.string t1.text,.int .i64 t1.n,.slice a1 t1.kids.length c1,.int .i64 t1.place,.int .i64 (c8 t1),.int .i64 t2.kind,.string t2.text,.int .i64 t2.n,.slice a2 t2.kids.length c2,.int .i64 t2.place,.int .i64 (c8 t2),.int .i64 m.kind,.string m.text,.int .i64 m.n,.slice a3 m.kids.length c3,.int .i64 m.place,.int .i64 (c8 m)] 50):=⟨_,rfl⟩
 have Rx:=hid (show lK Wx w9.heap.size 0 [(t1,a1,c1),(t2,a2,c2),(m,a3,c3)] from hWx ▸ a6Z w9 _ (t1,a1,c1) (t2,a2,c2) (m,a3,c3))
 have Bx:=hid (show Below w9.heap.size w9 Wx from hWx ▸ c6 _ _)
 have hzx:=hid (show Wx.heap.size=w9.heap.size + 1 by rw [hWx]; simp)
 have Nx:=hid (N9.out.below Bx)
 have Ax:=hid (A9.out.below Bx)
 have Ex:=hid (E9.out.below Bx)
 have HPx:=hid (HC.out Wx (b6 G9 (b8 Bx)))
 have Cx:=hid (show Calls Tryz.prog 54 #[.pointer (some ⟨P,0,none⟩),.agg #[.int .i64 14,.string ⟨#[]⟩,.int .i64 0,.slice none 0 0,.int .i64 T.pos],.slice (some ⟨w9.heap.size,0,none⟩) 3 3] Wx (gR 14 [] 0 T.pos [(t1,a1,c1),(t2,a2,c2),(m,a3,c3)] Wx) from
  aO P 14 [] 0 T.pos (some ⟨w9.heap.size,0,none⟩) 3 [(t1,a1,c1),(t2,a2,c2),(m,a3,c3)] Wx (by show 3≤8; decide) (fun _ => ⟨w9.heap.size,0,rfl,by have:=hzx.out; omega,Rx⟩) (fun e he => by
   rcases List.mem_cons.1 he with rfl | he
   ·exact HD1
   rcases List.mem_cons.1 he with rfl | he
   ·exact HD2
   obtain rfl:=List.mem_singleton.1 he; exact HD3))
 rw [← hWx]
 clear hWx
 refine hK.out _ _ ?_ (fun hHeld => ?_)
 ·exact ⟨HPx,Nx.out.cells.1,Ax.out.cells.1,Ex.out.cells.1⟩
 clear hK K
 try simp only [Act.put,c9,f8,f7]
 refine b7.nx 7 fun K hK => ?_
 go_simp
 (with_reducible refine Calls.mono Cx.out ?_)
 intro e wy hm
 have HMR:=hid (show jL (made (mkN 14 [] 0 [t1,t2,m] T.pos) q) (fun c => w.heap.size<c∧c<Wx.heap.size) Wx e wy from by
  have h1:=hsz.out
  have h2:=hzx.out
  have h3:=HG9.out.size
  have h4:=hd8.out
  have hgx:=b6 HG9 (b8 Bx)
  refine hm.use rfl (by show 0≤16384; decide) rfl HT0.out.2.1 (fun c hc => hc.2) (fun e he => ?_) q
  rcases List.mem_cons.1 he with rfl | he
  ·exact aG HL1' hgx fun c hc => ⟨hc.2,by have:=hc.1; omega,hc.1,by have:=hc.2; omega⟩
  rcases List.mem_cons.1 he with rfl | he
  ·exact aG HL2' hgx fun c hc => ⟨hc.2,by have:=hc.1; omega,hc.1,by have:=hc.2; omega⟩
  ·obtain rfl:=List.mem_singleton.1 he
   exact d5 HL3 (fun c hc => Bx.out.block c hc.2) fun c hc => ⟨by have:=hc.1; omega,by have:=hc.2; omega⟩)
 clear hm Cx
 obtain ⟨hb8,hm⟩:=HMR.out
 have By:=hid hb8
 have HXm:=hid (show X=made (mkN 14 [] 0 [t1,t2,m] T.pos) q from HX4)
 cases hmd : made (mkN 14 [] 0 [t1,t2,m] T.pos) q with
 | error z =>
   obtain ⟨k0,p0⟩:=z
   rw [hmd] at hm
   obtain rfl:=hm
   refine And.intro rfl ?_
   rw [HXm.out,hmd]
   exact ⟨rfl,b6 G9 (b8 (Bx.out.trans (By.out.mono Bx.out.size)))⟩
 | ok z =>
 obtain ⟨t4,q2⟩:=z
 have hq2 : q2=q:=dU hmd
 subst hq2
 rw [hmd] at hm
 obtain ⟨a4,c4,rfl,hl3,hd3⟩:=hm
 have HMD:=hid hmd
 have HL4:=hid hl3
 have HD4:=hid hd3
 have Ny:=hid (Nx.out.below By)
 have Ay:=hid (Ax.out.below By)
 have Ey:=hid (Ex.out.below By)
 have hb78:=Bx.out.trans (By.out.mono Bx.out.size)
 have B9y:=hid hb78
 have HPy:=hid (HC.out wy (b6 G9 (b8 hb78)))
 clear hmd hl3 hd3 hb8 hb78
 unfold trV
 go_wp2_with fail
 refine hK.out _ _ ?_ (fun hHeld => ?_)
 ·exact ⟨HPy,Ny.out.cells.1,Ay.out.cells.1,Ey.out.cells.1⟩
 clear hK K
 try simp only [Act.put,c9,f8,f7]
 have Zy:=hid (Z9.out.below B9y)
 obtain ⟨⟨z0,z1,z2,z3,z4,z5⟩,⟨f0,f1,f2,f3,f4,f5⟩⟩:=Zy.out.cells
 have hzl:=Zy.out.lt
 refine b7.la fun K hK => ?_
 go_simp
 refine hK.out _ _ ?_
 clear hK K
 go_wp2_with fail
 refine bodyPost_ret (v:=trV t4 a4 c4) (by simp [results,Tryz.results49,go_sem,trV,z0,z1,z2,z3,z4,z5]) rfl ?_
 rw [HXm.out,HMD.out]
 have h1:=hzx.out
 have h2:=By.out.size
 have hb:=HB.out
 have h4:=G9.out.size
 exact QP.fin ((S9.out.below Bx).below By) (b6 G9 (b8 B9y)) (Nat.le_refl _) (by omega) HL4 (fun c hc => by
  rcases hc with hc | hc
  ·have:=hc.1; have:=hc.2; omega
  ·have:=hc.1; have:=hc.2; omega) HD4
theorem a2L (P g cap : Nat) (ts : List Tk) (he : y6 ts) (htk : ∀ t∈ts,z7 t) (l : List Tk) (hO : CQ 51 (.chain 0) P g cap ts l) (hE : ∀ r,r.length<l.length→CQ 25 .expr P g cap ts r) : CQ 25 .expr P g cap ts l:=by
 intro nest w hle h
 obtain ⟨W1,hW1⟩ : ∃ W,W=w.alloc (.cells #[.pointer (some ⟨P,0,none⟩)] 48):=⟨_,rfl⟩
 have B1:=hid (show Below w.heap.size w W1 from hW1 ▸ c6 _ _)
 have hz1:=hid (show W1.heap.size=w.heap.size + 1 by rw [hW1]; simp)
 have hp:=hid (show W1.cell? ⟨w.heap.size,0,none⟩=some (.pointer (some ⟨P,0,none⟩)) by rw [hW1]; simp)
 obtain ⟨W2,hW2⟩ : ∃ W,W=W1.alloc (.cells #[.int .i64 0,.string ⟨#[]⟩,.int .i64 0,.slice none 0 0,.int .i64 0,.int .i64 0] 50):=⟨_,rfl⟩
 have B2':=hid (show Below W1.heap.size W1 W2 from hW2 ▸ c6 _ _)
 have B2:=hid (B1.out.trans (B2'.out.mono B1.out.size))
 have Z2:=hid (show T6 (w.heap.size + 1) 0 ⟨#[]⟩ 0 none 0 0 0 0 W2 from hW2 ▸ (show w.heap.size + 1=W1.heap.size by rw [hz1.out]) ▸ T6.make W1 _ _ _ _ _ _ _ _)
 have HB:=hid h.blocks
 have eg : m9 49:=enters_of Tryz.func49 (by kernel_rfl) rfl
 have hp2:=hid (show W2.cell? ⟨w.heap.size,0,none⟩=some (.pointer (some ⟨P,0,none⟩)) from (B2'.out.cell (p:=⟨w.heap.size,0,none⟩) (by show w.heap.size<W1.heap.size; rw [hz1.out]; omega)).trans hp)
 have hz2:=hid (show w.heap.size + 1<W2.heap.size from Z2.out.lt)
 have C:=hid (show Calls Tryz.prog 48 #[.pointer (some ⟨P,0,none⟩),.func (.func 49) #[] #[.pointer (some ⟨w.heap.size,0,none⟩)]] W2 (QP P g cap ts nest (S0 nest l (tQ (nest + 1) l)) W2) from
  mZ P g cap ts nest l 49 _ _ W2 hle (h.below B2) eg fun hn1 W hs hg => by
   have hb:=HB.out
   have hsz:=hz2.out
   have hgs:=hg.size
   have c1 : W.cell? ⟨w.heap.size,0,none⟩=W2.cell? ⟨w.heap.size,0,none⟩:=World.cell?_of_block (hg.block w.heap.size (by omega) (fun e => by have:=Option.some.inj e; omega))
   exact a0A P g cap ts he htk (nest + 1) l w.heap.size W hn1 hs (c1.trans hp2) (by omega) hO hE)
 rw [a6w]
 generalize S0 nest l _=x at C ⊢
 have hpr:=hp2.out
 clear h htk he eg hO hE
 go_enter Tryz.func25,Tryz.ntmps25
 go_upto_region 1 with fail
 rw [← hW1,← hW2]
 clear hW1 hW2
 go_wp2_with fail
 (with_reducible refine Calls.mono C.out ?_)
 intro e w3 hq
 cases x with
 | error q =>
   obtain ⟨k,p⟩:=q
   obtain ⟨rfl,hg⟩:=hq
   refine And.intro rfl ?_
   exact ⟨rfl,b6 (b8 B2) hg⟩
 | ok q =>
   obtain ⟨t,r⟩:=q
   obtain ⟨a,cp,rfl,hs,hg,hl,hd⟩:=hq
   have Z3:=hid (Z2.out.grown hg (fun e => by have:=Option.some.inj e; have:=HB.out; omega))
   have HS:=hid hs
   have HG:=hid hg
   have HL:=hid hl
   have HD:=hid hd
   obtain ⟨⟨z0,z1,z2,z3,z4,z5⟩,⟨f0,f1,f2,f3,f4,f5⟩⟩:=Z3.out.cells
   have hzl:=Z3.out.lt
   clear hs hg hl hd C
   unfold trV
   go_wp2_with fail
   refine bodyPost_ret (v:=trV t a cp) (by simp [results,Tryz.results25,go_sem,trV,z0,z1,z2,z3,z4,z5]) rfl ?_
   have hz:=hz2.out
   have hb:=HB.out
   exact QP.fin HS (b6 (b8 B2) HG) (by omega) (by omega) HL (fun c hc => ⟨by have:=hc.1; omega,hc.2,by have:=hc.1; omega⟩) HD
end
end Go.Proofs.YtibiccacafjjfaaGreatDoor
