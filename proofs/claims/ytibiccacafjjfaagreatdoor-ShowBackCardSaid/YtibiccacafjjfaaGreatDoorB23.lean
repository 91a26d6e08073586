/-
  Laws that the proof rests on.
-/
import Derived.Test.YtibiccacafjjfaaGreatDoorB22
namespace Go.Proofs.YtibiccacafjjfaaGreatDoor
set_option maxRecDepth 100000
set_option maxHeartbeats 16000000
section
open Lib (hid)
open Go.RowKit
def CQ (K : Nat) (m : Md) (P g cap : Nat) (ts l : List Tk) : Prop:=∀ (nest : Nat) (w : World),nest≤300→SQ P g cap ts nest l w→Calls Tryz.prog K #[.pointer (some ⟨P,0,none⟩)] w (QP P g cap ts nest (rd m nest l) w)
theorem eH {P g cap : Nat} {ts : List Tk} {nest : Nat} {t : Nd} {a : Option Addr} {cp : Nat} {r : List Tk} {w W2 w3 : World} (hs : SQ P g cap ts nest r w3) (hg2 : w.grownBy W2 (some P)) (hlt : w.heap.size<W2.heap.size) (hg : W2.grownBy w3 (some P)) (hl : t.lies (Fr W2.heap.size w3.heap.size) w3 a cp) (hd : c8 t≤100) (hb : P<w.heap.size∧g<w.heap.size) :
 QP P g cap ts nest (.ok (t,r)) w (.returned (trV t a cp)) (a4Y w3 w.heap.size t.kind t.text t.n a t.kids.length cp t.place (c8 t)) :=
 QP.fin hs (b6 hg2 hg) (Nat.le_refl _) (by omega) hl (fun c hc => ⟨by have:=hc.1; omega,hc.2,by have:=hc.1; omega⟩) hd
theorem a6s (P g cap : Nat) (ts : List Tk) (he : y7 ts) (htk : ∀ t∈ts,z8 t) (l : List Tk) (hn : ∀ r,r.length≤l.length→CQ 88 (.chain 1) P g cap ts r) : CQ 51 (.chain 0) P g cap ts l:=by
 intro nest w hle h
 obtain ⟨W2,hW2⟩ : ∃ W,W=(w.alloc (.cells #[.int .i64 0,.string ⟨#[]⟩,.int .i64 0,.slice none 0 0,.int .i64 0,.int .i64 0] 50)).alloc (.cells #[.string ⟨#[111,114]⟩] 9):=⟨_,rfl⟩
 have B2:=hid (show Below w.heap.size w W2 from hW2 ▸ A6 _ _ _)
 have hsz:=hid (show W2.heap.size=w.heap.size + 2 by rw [hW2]; simp)
 have Z2:=hid (show T6 w.heap.size 0 ⟨#[]⟩ 0 none 0 0 0 0 W2 from hW2 ▸ (T6.make w _ _ _ _ _ _ _ _).below (c6 _ _))
 have HB:=hid h.blocks
 have eg : m7 88:=enters_of Tryz.func88 (by kernel_rfl) rfl
 have C:=hid (show Calls Tryz.prog 87 #[.pointer (some ⟨P,0,none⟩),.func (.func 88) #[.pointer (some ⟨P,0,none⟩)] #[],.slice (some ⟨w.heap.size + 1,0,none⟩) 1 1] W2 (QP P g cap ts nest (rd (.chain 0) nest l) W2) from
  gC P g cap ts he htk nest 0 l 88 #[.pointer (some ⟨P,0,none⟩)] [⟨#[111,114]⟩] (w.heap.size + 1) W2 eg rfl (by show 1≤2; decide) (h.below B2) (by have:=HB.out; have:=hsz.out; omega) (fun j hj => by
   have hj' : j=0:=by simp at hj; omega
   rw [hW2]
   subst hj'; simp) (fun r hr W hs => hn r hr nest W hle hs))
 generalize rd (.chain 0) nest l=x at C ⊢
 clear h hn htk he eg
 go_enter Tryz.func51,Tryz.ntmps51
 go_wp2_with fail
 rw [← hW2]
 clear hW2
 (with_reducible refine Calls.mono C.out ?_)
 intro e w3 hq
 cases x with
 | error q =>
   obtain ⟨k,p⟩:=q
   obtain ⟨rfl,hg⟩:=hq
   exact ⟨rfl,rfl,b6 (b8 B2) hg⟩
 | ok q =>
   obtain ⟨t,r⟩:=q
   obtain ⟨a,cp,rfl,hs,hg,hl,hd⟩:=hq
   have Z3:=hid (Z2.out.grown hg (fun e => by have:=Option.some.inj e; have:=HB.out; omega))
   have HS:=hid hs
   have HG:=hid hg
   have HL:=hid hl
   have HD:=hid hd
   obtain ⟨⟨z0,z1,z2,z3,z4,z5⟩,⟨f0,f1,f2,f3,f4,f5⟩⟩:=Z3.out.cells
   have hzl:=Z3.out.lt
   clear hs hg hl hd C
   unfold trV
   go_wp2_with fail
   refine bodyPost_ret (v:=trV t a cp) (by simp [results,Tryz.results51,go_sem,trV,z0,z1,z2,z3,z4,z5]) rfl ?_
   exact eH HS (b8 B2) Z2.out.lt HG HL HD ⟨HB.out.1,HB.out.2.1⟩
theorem a5x (P g cap : Nat) (ts : List Tk) (he : y7 ts) (htk : ∀ t∈ts,z8 t) (l : List Tk) (hn : ∀ r,r.length≤l.length→CQ 124 .not P g cap ts r) : CQ 88 (.chain 1) P g cap ts l:=by
 intro nest w hle h
 obtain ⟨W2,hW2⟩ : ∃ W,W=(w.alloc (.cells #[.int .i64 0,.string ⟨#[]⟩,.int .i64 0,.slice none 0 0,.int .i64 0,.int .i64 0] 50)).alloc (.cells #[.string ⟨#[97,110,100]⟩] 9):=⟨_,rfl⟩
 have B2:=hid (show Below w.heap.size w W2 from hW2 ▸ A6 _ _ _)
 have hsz:=hid (show W2.heap.size=w.heap.size + 2 by rw [hW2]; simp)
 have Z2:=hid (show T6 w.heap.size 0 ⟨#[]⟩ 0 none 0 0 0 0 W2 from hW2 ▸ (T6.make w _ _ _ _ _ _ _ _).below (c6 _ _))
 have HB:=hid h.blocks
 have eg : m7 124:=enters_of Tryz.func124 (by kernel_rfl) rfl
 have C:=hid (show Calls Tryz.prog 87 #[.pointer (some ⟨P,0,none⟩),.func (.func 124) #[.pointer (some ⟨P,0,none⟩)] #[],.slice (some ⟨w.heap.size + 1,0,none⟩) 1 1] W2 (QP P g cap ts nest (rd (.chain 1) nest l) W2) from
  gC P g cap ts he htk nest 1 l 124 #[.pointer (some ⟨P,0,none⟩)] [⟨#[97,110,100]⟩] (w.heap.size + 1) W2 eg rfl (by show 1≤2; decide) (h.below B2) (by have:=HB.out; have:=hsz.out; omega) (fun j hj => by
   have hj' : j=0:=by simp at hj; omega
   rw [hW2]
   subst hj'; simp) (fun r hr W hs => hn r hr nest W hle hs))
 generalize rd (.chain 1) nest l=x at C ⊢
 clear h hn htk he eg
 go_enter Tryz.func88,Tryz.ntmps88
 go_wp2_with fail
 rw [← hW2]
 clear hW2
 (with_reducible refine Calls.mono C.out ?_)
 intro e w3 hq
 cases x with
 | error q =>
   obtain ⟨k,p⟩:=q
   obtain ⟨rfl,hg⟩:=hq
   exact ⟨rfl,rfl,b6 (b8 B2) hg⟩
 | ok q =>
   obtain ⟨t,r⟩:=q
   obtain ⟨a,cp,rfl,hs,hg,hl,hd⟩:=hq
   have Z3:=hid (Z2.out.grown hg (fun e => by have:=Option.some.inj e; have:=HB.out; omega))
   have HS:=hid hs
   have HG:=hid hg
   have HL:=hid hl
   have HD:=hid hd
   obtain ⟨⟨z0,z1,z2,z3,z4,z5⟩,⟨f0,f1,f2,f3,f4,f5⟩⟩:=Z3.out.cells
   have hzl:=Z3.out.lt
   clear hs hg hl hd C
   unfold trV
   go_wp2_with fail
   refine bodyPost_ret (v:=trV t a cp) (by simp [results,Tryz.results88,go_sem,trV,z0,z1,z2,z3,z4,z5]) rfl ?_
   exact eH HS (b8 B2) Z2.out.lt HG HL HD ⟨HB.out.1,HB.out.2.1⟩
theorem a3N (P g cap : Nat) (ts : List Tk) (he : y7 ts) (htk : ∀ t∈ts,z8 t) (l : List Tk) (hn : ∀ r,r.length≤l.length→CQ 181 (.chain 3) P g cap ts r) : CQ 153 (.chain 2) P g cap ts l:=by
 intro nest w hle h
 obtain ⟨W2,hW2⟩ : ∃ W,W=(w.alloc (.cells #[.int .i64 0,.string ⟨#[]⟩,.int .i64 0,.slice none 0 0,.int .i64 0,.int .i64 0] 50)).alloc (.cells #[.string ⟨#[43]⟩,.string ⟨#[45]⟩] 9):=⟨_,rfl⟩
 have B2:=hid (show Below w.heap.size w W2 from hW2 ▸ A6 _ _ _)
 have hsz:=hid (show W2.heap.size=w.heap.size + 2 by rw [hW2]; simp)
 have Z2:=hid (show T6 w.heap.size 0 ⟨#[]⟩ 0 none 0 0 0 0 W2 from hW2 ▸ (T6.make w _ _ _ _ _ _ _ _).below (c6 _ _))
 have HB:=hid h.blocks
 have eg : m7 181:=enters_of Tryz.func181 (by kernel_rfl) rfl
 have C:=hid (show Calls Tryz.prog 87 #[.pointer (some ⟨P,0,none⟩),.func (.func 181) #[.pointer (some ⟨P,0,none⟩)] #[],.slice (some ⟨w.heap.size + 1,0,none⟩) 2 2] W2 (QP P g cap ts nest (rd (.chain 2) nest l) W2) from
  gC P g cap ts he htk nest 2 l 181 #[.pointer (some ⟨P,0,none⟩)] [⟨#[43]⟩,⟨#[45]⟩] (w.heap.size + 1) W2 eg rfl (by show 2≤2; decide) (h.below B2) (by have:=HB.out; have:=hsz.out; omega) (fun j hj => by
   have hj' : j=0∨j=1:=by simp at hj; omega
   rw [hW2]
   rcases hj' with rfl | rfl <;> simp) (fun r hr W hs => hn r hr nest W hle hs))
 generalize rd (.chain 2) nest l=x at C ⊢
 clear h hn htk he eg
 go_enter Tryz.func153,Tryz.ntmps153
 go_wp2_with fail
 rw [← hW2]
 clear hW2
 (with_reducible refine Calls.mono C.out ?_)
 intro e w3 hq
 cases x with
 | error q =>
   obtain ⟨k,p⟩:=q
   obtain ⟨rfl,hg⟩:=hq
   exact ⟨rfl,rfl,b6 (b8 B2) hg⟩
 | ok q =>
   obtain ⟨t,r⟩:=q
   obtain ⟨a,cp,rfl,hs,hg,hl,hd⟩:=hq
   have Z3:=hid (Z2.out.grown hg (fun e => by have:=Option.some.inj e; have:=HB.out; omega))
   have HS:=hid hs
   have HG:=hid hg
   have HL:=hid hl
   have HD:=hid hd
   obtain ⟨⟨z0,z1,z2,z3,z4,z5⟩,⟨f0,f1,f2,f3,f4,f5⟩⟩:=Z3.out.cells
   have hzl:=Z3.out.lt
   clear hs hg hl hd C
   unfold trV
   go_wp2_with fail
   refine bodyPost_ret (v:=trV t a cp) (by simp [results,Tryz.results153,go_sem,trV,z0,z1,z2,z3,z4,z5]) rfl ?_
   exact eH HS (b8 B2) Z2.out.lt HG HL HD ⟨HB.out.1,HB.out.2.1⟩
theorem a3y (P g cap : Nat) (ts : List Tk) (he : y7 ts) (htk : ∀ t∈ts,z8 t) (l : List Tk) (hn : ∀ r,r.length≤l.length→CQ 197 .unary P g cap ts r) : CQ 181 (.chain 3) P g cap ts l:=by
 intro nest w hle h
 obtain ⟨W2,hW2⟩ : ∃ W,W=(w.alloc (.cells #[.int .i64 0,.string ⟨#[]⟩,.int .i64 0,.slice none 0 0,.int .i64 0,.int .i64 0] 50)).alloc (.cells #[.string ⟨#[42]⟩,.string ⟨#[47]⟩] 9):=⟨_,rfl⟩
 have B2:=hid (show Below w.heap.size w W2 from hW2 ▸ A6 _ _ _)
 have hsz:=hid (show W2.heap.size=w.heap.size + 2 by rw [hW2]; simp)
 have Z2:=hid (show T6 w.heap.size 0 ⟨#[]⟩ 0 none 0 0 0 0 W2 from hW2 ▸ (T6.make w _ _ _ _ _ _ _ _).below (c6 _ _))
 have HB:=hid h.blocks
 have eg : m7 197:=enters_of Tryz.func197 (by kernel_rfl) rfl
 have C:=hid (show Calls Tryz.prog 87 #[.pointer (some ⟨P,0,none⟩),.func (.func 197) #[.pointer (some ⟨P,0,none⟩)] #[],.slice (some ⟨w.heap.size + 1,0,none⟩) 2 2] W2 (QP P g cap ts nest (rd (.chain 3) nest l) W2) from
  gC P g cap ts he htk nest 3 l 197 #[.pointer (some ⟨P,0,none⟩)] [⟨#[42]⟩,⟨#[47]⟩] (w.heap.size + 1) W2 eg rfl (by show 2≤2; decide) (h.below B2) (by have:=HB.out; have:=hsz.out; omega) (fun j hj => by
   have hj' : j=0∨j=1:=by simp at hj; omega
   rw [hW2]
   rcases hj' with rfl | rfl <;> simp) (fun r hr W hs => hn r hr nest W hle hs))
 generalize rd (.chain 3) nest l=x at C ⊢
 clear h hn htk he eg
 go_enter Tryz.func181,Tryz.ntmps181
 go_wp2_with fail
 rw [← hW2]
 clear hW2
 (with_reducible refine Calls.mono C.out ?_)
 intro e w3 hq
 cases x with
 | error q =>
   obtain ⟨k,p⟩:=q
   obtain ⟨rfl,hg⟩:=hq
   exact ⟨rfl,rfl,b6 (b8 B2) hg⟩
 | ok q =>
   obtain ⟨t,r⟩:=q
   obtain ⟨a,cp,rfl,hs,hg,hl,hd⟩:=hq
   have Z3:=hid (Z2.out.grown hg (fun e => by have:=Option.some.inj e; have:=HB.out; omega))
   have HS:=hid hs
   have HG:=hid hg
   have HL:=hid hl
   have HD:=hid hd
   obtain ⟨⟨z0,z1,z2,z3,z4,z5⟩,⟨f0,f1,f2,f3,f4,f5⟩⟩:=Z3.out.cells
   have hzl:=Z3.out.lt
   clear hs hg hl hd C
   unfold trV
   go_wp2_with fail
   refine bodyPost_ret (v:=trV t a cp) (by simp [results,Tryz.results181,go_sem,trV,z0,z1,z2,z3,z4,z5]) rfl ?_
   exact eH HS (b8 B2) Z2.out.lt HG HL HD ⟨HB.out.1,HB.out.2.1⟩
end
section
open Lib (hid)
open Go.RowKit
def QT (b : Nat) (t : Tk) (W : World) : Prop:=W.heap[b]?=some (.cells #[.int .i64 t.kind,.string ⟨t.text.toArray⟩,.int .i64 t.n,.int .i64 t.pos] 79 (0,0))
section
variable {b : Nat} {k : Tk} {W W' : World}
theorem QT.lt (h : QT b k W) : b<W.heap.size:=(Array.getElem?_eq_some_iff.1 h).1
theorem QT.cells (h : QT b k W) : (W.cell? ⟨b,0,none⟩=some (.int .i64 k.kind)∧W.cell? ⟨b,1,none⟩=some (.string ⟨k.text.toArray⟩)∧W.cell? ⟨b,2,none⟩=some (.int .i64 k.n)∧W.cell? ⟨b,3,none⟩=some (.int .i64 k.pos)) ∧
 (W.frozen? ⟨b,0,none⟩=false∧W.frozen? ⟨b,1,none⟩=false∧W.frozen? ⟨b,2,none⟩=false∧W.frozen? ⟨b,3,none⟩=false):=by
 have h' : W.heap[b]?=some (.cells #[.int .i64 k.kind,.string ⟨k.text.toArray⟩,.int .i64 k.n,.int .i64 k.pos] 79 (0,0)):=h
 refine ⟨⟨?_,?_,?_,?_⟩,?_,?_,?_,?_⟩ <;> simp [World.cell?,World.frozen?,h']
theorem QT.make (w : World) (k : Tk) : QT w.heap.size k (w.alloc (.cells #[.int .i64 k.kind,.string ⟨k.text.toArray⟩,.int .i64 k.n,.int .i64 k.pos] 79)):=by
 show (w.heap.push _)[w.heap.size]?=_; simp
theorem QT.below (h : QT b k W) (hb : Below W.heap.size W W') : QT b k W':=(hb.block b h.lt).trans h
theorem QT.grown {r : Option Nat} (h : QT b k W) (g : W.grownBy W' r) (hp : r≠some b) : QT b k W':=(g.block b h.lt (fun e => hp e.symm)).trans h
end
theorem dT {t t' : Nd} {q q' : List Tk} (h : made t q=.ok (t',q')) : q'=q:=by
 unfold made at h
 split at h
 ·cases h
 ·cases h; rfl
theorem uT (P g cap : Nat) (ts : List Tk) (he : y7 ts) (htk : ∀ t∈ts,z8 t) (nest : Nat) (l : List Tk) (md : Md) (K : Nat) (fs : Array Value) (pb rb : Nat) (w : World) (hK : m7 K) (h : SQ P g cap ts nest l w)
 (hp : w.cell? ⟨pb,0,none⟩=some (.pointer (some ⟨P,0,none⟩))) (hr : w.cell? ⟨rb,0,none⟩=some (.func (.func K) fs #[])) (hpb : pb≠P∧pb<w.heap.size) (hrb : rb≠P∧rb<w.heap.size)
 (hread : ∀ W,SQ P g cap ts nest (b9 l) W→Calls Tryz.prog K fs W (QP P g cap ts nest (rd md nest (b9 l)) W)) :
 Calls Tryz.prog 180 #[.pointer (some ⟨pb,0,none⟩),.pointer (some ⟨rb,0,none⟩)] w (QP P g cap ts nest ((rd md nest (b9 l)).then fun t r => made (mkN 12 (hd l).text 0 [t] (hd l).pos) r) w):=by
 unfold m7 at hK
 have HT0:=hid (htk _ h.mem)
 have hbl:=h.blocks
 have HR:=hid hread
 obtain ⟨X,hX⟩ : ∃ X,X=((rd md nest (b9 l)).then fun t r => made (mkN 12 (hd l).text 0 [t] (hd l).pos) r):=⟨_,rfl⟩
 rw [← hX]
 have HX:=hid hX
 obtain ⟨W1,hW1⟩ : ∃ W,W=w.alloc (.cells #[.int .i64 0,.string ⟨#[]⟩,.int .i64 0,.slice none 0 0,.int .i64 0,.int .i64 0] 50):=⟨_,rfl⟩
 have B1:=hid (show Below w.heap.size w W1 from hW1 ▸ c6 _ _)
 have Z1:=hid (show T6 w.heap.size 0 ⟨#[]⟩ 0 none 0 0 0 0 W1 from hW1 ▸ T6.make w _ _ _ _ _ _ _ _)
 have C1:=hid (dG P g cap ts nest l W1 (h.below B1) he)
 have HPR:=hid (show w.cell? ⟨pb,0,none⟩=some (.pointer (some ⟨P,0,none⟩))∧w.cell? ⟨rb,0,none⟩=some (.func (.func K) fs #[]) from ⟨hp,hr⟩)
 have hp1 : W1.cell? ⟨pb,0,none⟩=some (.pointer (some ⟨P,0,none⟩)):=(B1.out.cell (p:=⟨pb,0,none⟩) hpb.2).trans hp
 have HH:=hid h
 generalize hd l=T at C1 HX HT0
 clear h htk he hread hX hp hr
 go_enter Tryz.func180,Tryz.ntmps180
 go_upto_region 1 with fail
 rw [← hW1]
 clear hW1
 go_wp2_with fail
 (with_reducible refine Calls.mono C1.out ?_)
 rintro e w3 ⟨rfl,hs3,hg3⟩
 have G3:=hid (b6 (b8 B1) hg3)
 have S3:=hid hs3
 have Z3:=hid (Z1.out.grown hg3 (fun e => by have:=Option.some.inj e; omega))
 have hsz3:=hid (show w.heap.size + 1≤w3.heap.size by have:=Z3.out.lt; omega)
 clear hs3 hg3 C1 hp1
 unfold tkV
 obtain ⟨W4,hW4⟩ : ∃ W,W=w3.alloc (.cells #[.int .i64 T.kind,.string ⟨T.text.toArray⟩,.int .i64 T.n,.int .i64 T.pos] 79):=⟨_,rfl⟩
 have B4:=hid (show Below w3.heap.size w3 W4 from hW4 ▸ c6 _ _)
 have hsz4:=hid (show W4.heap.size=w3.heap.size + 1 by rw [hW4]; simp)
 have Q4:=hid (show QT w3.heap.size T W4 from hW4 ▸ QT.make w3 T)
 have Z4:=hid (Z3.out.below B4)
 have S4:=hid (S3.out.below B4)
 have BD:=hid (show Below W4.heap.size W4 W4.drew from A7 (Below.refl _ _))
 have GW:=hid (show w.grownBy W4.drew (some P) from b6 G3 (b8 (B4.out.trans (BD.out.mono B4.out.size))))
 have HSy:=hid (show ∀ cur : World,cur.heap[pb]?=w.heap[pb]?→cur.heap[rb]?=w.heap[rb]?→QT w3.heap.size T cur→(cur.cell? ⟨pb,0,none⟩=some (.pointer (some ⟨P,0,none⟩))∧cur.cell? ⟨rb,0,none⟩=some (.func (.func K) fs #[]))∧(cur.cell? ⟨w3.heap.size,0,none⟩=some (.int .i64 T.kind)∧cur.cell? ⟨w3.heap.size,1,none⟩=some (.string ⟨T.text.toArray⟩)∧cur.cell? ⟨w3.heap.size,2,none⟩=some (.int .i64 T.n)∧cur.cell? ⟨w3.heap.size,3,none⟩=some (.int .i64 T.pos)) from
  fun cur h1 h2 h3 => ⟨⟨(World.cell?_of_block h1).trans HPR.out.1,(World.cell?_of_block h2).trans HPR.out.2⟩,h3.cells.1⟩)
 have HSx:=hid (show (W4.drew.cell? ⟨pb,0,none⟩=some (.pointer (some ⟨P,0,none⟩))∧W4.drew.cell? ⟨rb,0,none⟩=some (.func (.func K) fs #[]))∧(W4.drew.cell? ⟨w3.heap.size,0,none⟩=some (.int .i64 T.kind)∧W4.drew.cell? ⟨w3.heap.size,1,none⟩=some (.string ⟨T.text.toArray⟩)∧W4.drew.cell? ⟨w3.heap.size,2,none⟩=some (.int .i64 T.n)∧W4.drew.cell? ⟨w3.heap.size,3,none⟩=some (.int .i64 T.pos)) from
  HSy.out _ (GW.out.block pb hpb.2 (fun e => hpb.1 (Option.some.inj e))) (GW.out.block rb hrb.2 (fun e => hrb.1 (Option.some.inj e))) Q4)
 have C6:=hid (HR.out W4.drew (S4.out.below BD))
 generalize rd md nest (b9 l)=x at C6 HX
 go_upto_region 2 with fail
 rw [← hW4]
 clear hW4
 refine e8 (S:=(fun cur => (cur.cell? ⟨pb,0,none⟩=some (.pointer (some ⟨P,0,none⟩))∧cur.cell? ⟨rb,0,none⟩=some (.func (.func K) fs #[]))∧(cur.cell? ⟨w3.heap.size,0,none⟩=some (.int .i64 T.kind)∧cur.cell? ⟨w3.heap.size,1,none⟩=some (.string ⟨T.text.toArray⟩)∧cur.cell? ⟨w3.heap.size,2,none⟩=some (.int .i64 T.n)∧cur.cell? ⟨w3.heap.size,3,none⟩=some (.int .i64 T.pos)))) (z:=10) (by kernel_rfl) ?_ (fun hHeld => ?_)
 ·exact HSx
 refine b7.t 0 ?_; refine b7.t 1 ?_; refine b7.t 2 ?_; refine b7.t 3 ?_; refine b7.t 4 ?_; refine b7.t 5 ?_; refine b7.t 6 ?_
 refine b7.nx 7 fun K hK => ?_
 go_simp
 (with_reducible refine Calls.mono C6.out ?_)
 intro e w6 hq
 cases x with
 | error q =>
   obtain ⟨k0,p0⟩:=q
   obtain ⟨rfl,hg⟩:=hq
   refine And.intro rfl ?_
   rw [HX.out]
   exact ⟨rfl,b6 GW hg⟩
 | ok q =>
 obtain ⟨m,q⟩:=q
 obtain ⟨a2,cp2,rfl,hs6,hg6,hl6,hd6⟩:=hq
 have S6:=hid hs6
 have G6:=hid (b6 GW hg6)
 have Q6:=hid (QT.grown (show QT w3.heap.size T W4.drew from Q4) hg6 (fun e => by have:=Option.some.inj e; have:=hsz3.out; omega))
 have HP6:=hid (show w6.heap[pb]?=w.heap[pb]?∧w6.heap[rb]?=w.heap[rb]? from ⟨G6.out.block pb hpb.2 (fun e => hpb.1 (Option.some.inj e)),G6.out.block rb hrb.2 (fun e => hrb.1 (Option.some.inj e))⟩)
 have HG6:=hid hg6
 have HL6:=hid hl6
 have HD6:=hid hd6
 have Z6:=hid (T6.grown (show T6 w.heap.size 0 ⟨#[]⟩ 0 none 0 0 0 0 W4.drew from Z4) hg6 (fun e => by have:=Option.some.inj e; omega))
 clear hs6 hg6 hl6 hd6 C6
 unfold trV
 go_wp2_with fail
 refine hK.out _ _ ?_ (fun hHeld => ?_)
 ·exact HSy.out _ HP6.out.1 HP6.out.2 Q6
 clear hK K
 try simp only [Act.put,c9,f8,f7]
 refine b7.nx 8 fun K hK => ?_
 go_simp
 obtain ⟨W7,hW7⟩ : ∃ W,W=w6.alloc (.cells #[.int .i64 m.kind,.string m.text,.int .i64 m.n,.slice a2 m.kids.length cp2,.int .i64 m.place,.int .i64 (c8 m)] 50):=⟨_,rfl⟩
 have R7:=hid (show mG W7 w6.heap.size 0 [(m,a2,cp2)] from hW7 ▸ a7z w6 _ (m,a2,cp2))
 have B7:=hid (show Below w6.heap.size w6 W7 from hW7 ▸ c6 _ _)
 have hz7:=hid (show W7.heap.size=w6.heap.size + 1 by rw [hW7]; simp)
 have Q7:=hid (Q6.out.below B7)
 have hsz6:=hid (show w.heap.size≤w6.heap.size from G6.out.size)
 have C7:=hid (show Calls Tryz.prog 54 #[.pointer (some ⟨P,0,none⟩),.agg #[.int .i64 12,.string ⟨T.text.toArray⟩,.int .i64 0,.slice none 0 0,.int .i64 T.pos],.slice (some ⟨w6.heap.size,0,none⟩) 1 1] W7 (gI 12 T.text 0 T.pos [(m,a2,cp2)] W7) from
  aG P 12 T.text 0 T.pos (some ⟨w6.heap.size,0,none⟩) 1 [(m,a2,cp2)] W7 (by show 1≤8; decide) (fun _ => ⟨w6.heap.size,0,rfl,by have:=hz7.out; omega,R7⟩) (fun e he => by
   obtain rfl:=List.mem_singleton.1 he; exact HD6))
 rw [← hW7]
 clear hW7
 refine hK.out _ _ ?_ (fun hHeld => ?_)
 ·exact HSy.out _ ((B7.out.block pb (by have:=hsz6.out; omega)).trans HP6.out.1) ((B7.out.block rb (by have:=hsz6.out; omega)).trans HP6.out.2) Q7
 clear hK K
 try simp only [Act.put,c9,f8,f7]
 refine b7.nx 9 fun K hK => ?_
 go_simp
 (with_reducible refine Calls.mono C7.out ?_)
 intro e w8 hm
 have HMR:=hid (show jB (made (mkN 12 T.text 0 [m] T.pos) q) (Fr W4.heap.size w6.heap.size) W7 e w8 from
  hm.use rfl (by have:=HT0.out.2.2; omega) rfl HT0.out.2.1 (fun c hc => by have:=hc.2; have:=hz7.out; omega) (fun e he => by
   obtain rfl:=List.mem_singleton.1 he
   exact d5 HL6 (fun c hc => B7.out.block c hc.2) fun c hc => hc) q)
 clear hm C7
 obtain ⟨hb8,hm⟩:=HMR.out
 have B8:=hid hb8
 have HXm:=hid (show X=made (mkN 12 T.text 0 [m] T.pos) q from HX)
 cases hmd : made (mkN 12 T.text 0 [m] T.pos) q with
 | error z =>
   obtain ⟨k0,p0⟩:=z
   rw [hmd] at hm
   obtain rfl:=hm
   refine And.intro rfl ?_
   rw [HXm.out,hmd]
   exact ⟨rfl,b6 G6 (b8 (B7.out.trans (B8.out.mono B7.out.size)))⟩
 | ok z =>
 obtain ⟨t2,q2⟩:=z
 have hq2 : q2=q:=dT hmd
 subst hq2
 rw [hmd] at hm
 obtain ⟨a3,cp3,rfl,hl3,hd3⟩:=hm
 have HMD:=hid hmd
 have HL3:=hid hl3
 have HD3:=hid hd3
 have Q8:=hid (Q7.out.below B8)
 have hb78:=B7.out.trans (B8.out.mono B7.out.size)
 have B68:=hid hb78
 have HP8:=hid (show w8.heap[pb]?=w.heap[pb]?∧w8.heap[rb]?=w.heap[rb]? from ⟨(hb78.block pb (by have:=hsz6.out; omega)).trans HP6.out.1,(hb78.block rb (by have:=hsz6.out; omega)).trans HP6.out.2⟩)
 clear hmd hl3 hd3 hb8 hb78
 unfold trV
 go_wp2_with fail
 refine hK.out _ _ ?_ (fun hHeld => ?_)
 ·exact HSy.out _ HP8.out.1 HP8.out.2 Q8
 clear hK K
 try simp only [Act.put,c9,f8,f7]
 have Z8:=hid (Z6.out.below B68)
 obtain ⟨⟨z0,z1,z2,z3,z4,z5⟩,⟨f0,f1,f2,f3,f4,f5⟩⟩:=Z8.out.cells
 have hzl:=Z8.out.lt
 refine b7.la fun K hK => ?_
 go_simp
 refine hK.out _ _ ?_
 clear hK K
 go_wp2_with fail
 refine bodyPost_ret (v:=trV t2 a3 cp3) (by simp [results,Tryz.results180,go_sem,trV,z0,z1,z2,z3,z4,z5]) rfl ?_
 rw [HXm.out,HMD.out]
 have h1:=hz7.out
 have h2:=B8.out.size
 have h3:=hsz4.out
 have h6:=hsz3.out
 have h4:=HG6.out.size
 have h5 : W4.drew.heap.size=W4.heap.size:=rfl
 exact QP.fin ((S6.out.below B7).below B8) (b6 G6 (b8 B68)) (Nat.le_refl _) (by omega) HL3 (fun c hc => by
  rcases hc with hc | hc
  ·have:=hc.1; have:=hc.2; omega
  ·have:=hc.1; have:=hc.2; omega) HD3
end
section
open Lib (hid)
open Go.RowKit
theorem mN (P g cap : Nat) (ts : List Tk) (he : y7 ts) (htk : ∀ t∈ts,z8 t) (nest : Nat) (l : List Tk) (md : Md) (K : Nat) (fs : Array Value) (w : World) (hn : nest≤300) (hK : m7 K) (h : SQ P g cap ts nest l w)
 (hread : nest + 1≤300→∀ W,SQ P g cap ts (nest + 1) (b9 l) W→Calls Tryz.prog K fs W (QP P g cap ts (nest + 1) (rd md (nest + 1) (b9 l)) W)) :
 Calls Tryz.prog 152 #[.pointer (some ⟨P,0,none⟩),.func (.func K) fs #[]] w (QP P g cap ts nest (U0 nest l ((rd md (nest + 1) (b9 l)).then fun t r => made (mkN 12 (hd l).text 0 [t] (hd l).pos) r)) w):=by
 obtain ⟨W1,hW1⟩ : ∃ W,W=(w.alloc (.cells #[.pointer (some ⟨P,0,none⟩)] 48)).alloc (.cells #[.func (.func K) fs #[]] 51):=⟨_,rfl⟩
 have B1:=hid (show Below w.heap.size w W1 from hW1 ▸ A6 _ _ _)
 have hz1:=hid (show W1.heap.size=w.heap.size + 2 by rw [hW1]; simp)
 have hp:=hid (show W1.cell? ⟨w.heap.size,0,none⟩=some (.pointer (some ⟨P,0,none⟩))∧W1.cell? ⟨w.heap.size + 1,0,none⟩=some (.func (.func K) fs #[]) by rw [hW1]; constructor <;> simp)
 obtain ⟨W2,hW2⟩ : ∃ W,W=W1.alloc (.cells #[.int .i64 0,.string ⟨#[]⟩,.int .i64 0,.slice none 0 0,.int .i64 0,.int .i64 0] 50):=⟨_,rfl⟩
 have B2':=hid (show Below W1.heap.size W1 W2 from hW2 ▸ c6 _ _)
 have B2:=hid (B1.out.trans (B2'.out.mono B1.out.size))
 have Z2:=hid (show T6 (w.heap.size + 1 + 1) 0 ⟨#[]⟩ 0 none 0 0 0 0 W2 from hW2 ▸ (show w.heap.size + 1 + 1=W1.heap.size by rw [hz1.out]) ▸ T6.make W1 _ _ _ _ _ _ _ _)
 have HB:=hid h.blocks
 have eg : m7 180:=enters_of Tryz.func180 (by kernel_rfl) rfl
 have hp2:=hid (show W2.cell? ⟨w.heap.size,0,none⟩=some (.pointer (some ⟨P,0,none⟩))∧W2.cell? ⟨w.heap.size + 1,0,none⟩=some (.func (.func K) fs #[]) from
  ⟨(B2'.out.cell (p:=⟨w.heap.size,0,none⟩) (by show w.heap.size<W1.heap.size; rw [hz1.out]; omega)).trans hp.out.1,(B2'.out.cell (p:=⟨w.heap.size + 1,0,none⟩) (by show w.heap.size + 1<W1.heap.size; rw [hz1.out]; omega)).trans hp.out.2⟩)
 have hz2:=hid (show w.heap.size + 2<W2.heap.size from Z2.out.lt)
 obtain ⟨x,hx⟩ : ∃ x,x=((rd md (nest + 1) (b9 l)).then fun t r => made (mkN 12 (hd l).text 0 [t] (hd l).pos) r):=⟨_,rfl⟩
 have C:=hid (show Calls Tryz.prog 48 #[.pointer (some ⟨P,0,none⟩),.func (.func 180) #[] #[.pointer (some ⟨w.heap.size,0,none⟩),.pointer (some ⟨w.heap.size + 1,0,none⟩)]] W2 (QP P g cap ts nest (U0 nest l x) W2) from
  nA P g cap ts nest l 180 _ x W2 hn (h.below B2) eg fun hn1 W hs hg => by
   have hb:=HB.out
   have hsz:=hz2.out
   have hgs:=hg.size
   have c1 : ∀ b,b<W2.heap.size→b≠P→W.cell? ⟨b,0,none⟩=W2.cell? ⟨b,0,none⟩:=fun b hb hp => World.cell?_of_block (hg.block b hb (fun e => hp (Option.some.inj e)))
   rw [hx]
   exact uT P g cap ts he htk (nest + 1) l md K fs w.heap.size (w.heap.size + 1) W hK hs ((c1 _ (by omega) (by omega)).trans hp2.out.1) ((c1 _ (by omega) (by omega)).trans hp2.out.2) (by omega) (by omega) (hread hn1))
 rw [← hx]
 clear hx
 generalize U0 nest l x=x at C ⊢
 have hpr:=hp2.out.1
 clear h htk he eg hread
 unfold m7 at hK
 go_enter Tryz.func152,Tryz.ntmps152
 go_upto_region 1 with fail
 rw [← hW1,← hW2]
 clear hW1 hW2
 go_wp2_with fail
 (with_reducible refine Calls.mono C.out ?_)
 intro e w3 hq
 cases x with
 | error q =>
   obtain ⟨k,p⟩:=q
   obtain ⟨rfl,hg⟩:=hq
   refine And.intro rfl ?_
   exact ⟨rfl,b6 (b8 B2) hg⟩
 | ok q =>
   obtain ⟨t,r⟩:=q
   obtain ⟨a,cp,rfl,hs,hg,hl,hd⟩:=hq
   have Z3:=hid (Z2.out.grown hg (fun e => by have:=Option.some.inj e; have:=HB.out; omega))
   have HS:=hid hs
   have HG:=hid hg
   have HL:=hid hl
   have HD:=hid hd
   obtain ⟨⟨z0,z1,z2,z3,z4,z5⟩,⟨f0,f1,f2,f3,f4,f5⟩⟩:=Z3.out.cells
   have hzl:=Z3.out.lt
   clear hs hg hl hd C
   unfold trV
   go_wp2_with fail
   refine bodyPost_ret (v:=trV t a cp) (by simp [results,Tryz.results152,go_sem,trV,z0,z1,z2,z3,z4,z5]) rfl ?_
   have hz:=hz2.out
   have hb:=HB.out
   exact QP.fin HS (b6 (b8 B2) HG) (by omega) (by omega) HL (fun c hc => ⟨by have:=hc.1; omega,hc.2,by have:=hc.1; omega⟩) HD
theorem a0v (P g cap : Nat) (ts : List Tk) (he : y7 ts) (htk : ∀ t∈ts,z8 t) (l : List Tk) (hA : CQ 210 .atom P g cap ts l) (hU : isT cI l=true→CQ 197 .unary P g cap ts (b9 l)) : CQ 197 .unary P g cap ts l:=by
 intro nest w hle h
 obtain ⟨W1,hW1⟩ : ∃ W,W=w.alloc (.cells #[.int .i64 0,.string ⟨#[]⟩,.int .i64 0,.slice none 0 0,.int .i64 0,.int .i64 0] 50):=⟨_,rfl⟩
 have B1:=hid (show Below w.heap.size w W1 from hW1 ▸ c6 _ _)
 have Z1:=hid (show T6 w.heap.size 0 ⟨#[]⟩ 0 none 0 0 0 0 W1 from hW1 ▸ T6.make w _ _ _ _ _ _ _ _)
 have HB:=hid h.blocks
 have S1:=hid (h.below B1)
 have C1:=hid (show Calls Tryz.prog 50 #[.pointer (some ⟨P,0,none⟩),.string ⟨#[45]⟩] W1 (fun e w' => e=.returned (.bool (isT cI l))∧Below W1.heap.size W1 w') from aO P g cap ts nest l ⟨#[45]⟩ W1 S1)
 have eg : m7 197:=enters_of Tryz.func197 (by kernel_rfl) rfl
 cases hm : isT cI l
 ·have HX:=hid (show rd .unary nest l=rd .atom nest l by rw [t7]; exact if_neg (by rw [hm]; decide))
  rw [hm] at C1
  rw [HX.out]
  have C2:=hid (fun W hs => hA nest W hle hs)
  generalize rd .atom nest l=x at C2 ⊢
  clear h hA hU he htk eg hm
  go_enter Tryz.func197,Tryz.ntmps197
  go_wp2_with fail
  rw [← hW1]
  clear hW1
  (with_reducible refine Calls.mono C1.out ?_)
  rintro e W2 ⟨rfl,hb⟩
  have B2:=hid (B1.out.trans (hb.mono B1.out.size))
  have Z2:=hid (Z1.out.below hb)
  have C:=hid (C2.out W2 (S1.out.below hb))
  clear hb C1 C2
  go_wp2_with fail
  (with_reducible refine Calls.mono C.out ?_)
  intro e w3 hq
  cases x with
  | error q =>
    obtain ⟨k,p⟩:=q
    obtain ⟨rfl,hg⟩:=hq
    refine And.intro rfl ?_
    exact ⟨rfl,b6 (b8 B2) hg⟩
  | ok q =>
    obtain ⟨t,r⟩:=q
    obtain ⟨a,cp,rfl,hs,hg,hl,hd⟩:=hq
    have Z3:=hid (Z2.out.grown hg (fun e => by have:=Option.some.inj e; have:=HB.out; omega))
    have HS:=hid hs
    have HG:=hid hg
    have HL:=hid hl
    have HD:=hid hd
    obtain ⟨⟨z0,z1,z2,z3,z4,z5⟩,⟨f0,f1,f2,f3,f4,f5⟩⟩:=Z3.out.cells
    have hzl:=Z3.out.lt
    clear hs hg hl hd C
    unfold trV
    go_wp2_with fail
    refine bodyPost_ret (v:=trV t a cp) (by simp [results,Tryz.results197,go_sem,trV,z0,z1,z2,z3,z4,z5]) rfl ?_
    exact eH HS (b8 B2) Z2.out.lt HG HL HD ⟨HB.out.1,HB.out.2.1⟩
 ·have HX:=hid (show rd .unary nest l=U0 nest l ((rd .unary (nest + 1) (b9 l)).then fun t r => made (mkN 12 (hd l).text 0 [t] (hd l).pos) r) by rw [t7]; exact if_pos hm)
  rw [hm] at C1
  rw [HX.out]
  have C2:=hid (fun W hs => show Calls Tryz.prog 152 #[.pointer (some ⟨P,0,none⟩),.func (.func 197) #[.pointer (some ⟨P,0,none⟩)] #[]] W _ from mN P g cap ts he htk nest l .unary 197 #[.pointer (some ⟨P,0,none⟩)] W hle eg hs fun hn1 W hs => hU hm (nest + 1) W hn1 hs)
  generalize U0 nest l _=x at C2 ⊢
  clear h hA hU he htk eg hm
  go_enter Tryz.func197,Tryz.ntmps197
  go_wp2_with fail
  rw [← hW1]
  clear hW1
  (with_reducible refine Calls.mono C1.out ?_)
  rintro e W2 ⟨rfl,hb⟩
  have B2:=hid (B1.out.trans (hb.mono B1.out.size))
  have Z2:=hid (Z1.out.below hb)
  have C:=hid (C2.out W2 (S1.out.below hb))
  clear hb C1 C2
  go_wp2_with fail
  (with_reducible refine Calls.mono C.out ?_)
  intro e w3 hq
  cases x with
  | error q =>
    obtain ⟨k,p⟩:=q
    obtain ⟨rfl,hg⟩:=hq
    refine And.intro rfl ?_
    exact ⟨rfl,b6 (b8 B2) hg⟩
  | ok q =>
    obtain ⟨t,r⟩:=q
    obtain ⟨a,cp,rfl,hs,hg,hl,hd⟩:=hq
    have Z3:=hid (Z2.out.grown hg (fun e => by have:=Option.some.inj e; have:=HB.out; omega))
    have HS:=hid hs
    have HG:=hid hg
    have HL:=hid hl
    have HD:=hid hd
    obtain ⟨⟨z0,z1,z2,z3,z4,z5⟩,⟨f0,f1,f2,f3,f4,f5⟩⟩:=Z3.out.cells
    have hzl:=Z3.out.lt
    clear hs hg hl hd C
    unfold trV
    go_wp2_with fail
    refine bodyPost_ret (v:=trV t a cp) (by simp [results,Tryz.results197,go_sem,trV,z0,z1,z2,z3,z4,z5]) rfl ?_
    exact eH HS (b8 B2) Z2.out.lt HG HL HD ⟨HB.out.1,HB.out.2.1⟩
end
section
open Lib (hid)
open Go.RowKit
def dK : List ByteArray:=[⟨#[60]⟩,⟨#[60,61]⟩,⟨#[61]⟩]
theorem a60 {r : List Tk} (h : ∀ j (hj : j<dK.length),isT dK[j].data.toList r=false) : U6 kD r=false:=by
 unfold U6 kD
 have h0:=h 0 (by decide)
 have h1:=h 1 (by decide)
 have h2:=h 2 (by decide)
 simp only [dK,List.getElem_cons_zero,List.getElem_cons_succ] at h0 h1 h2
 simp [List.any_cons,h0,h1,h2]
theorem a5G {r : List Tk} {k : Nat} (hk : k<dK.length) (h : isT dK[k].data.toList r=true) : U6 kD r=true:=by
 unfold U6
 refine List.any_eq_true.2 ⟨dK[k].data.toList,?_,h⟩
 have : k=0∨k=1∨k=2:=by simp [dK] at hk; omega
 rcases this with rfl | rfl | rfl <;> simp [dK,kD]
theorem a2s (w : World) (j : Nat) (hj : j<dK.length) : (w.alloc (.cells #[.string ⟨#[60]⟩,.string ⟨#[60,61]⟩,.string ⟨#[61]⟩] 9)).cell? ⟨w.heap.size,j,none⟩=some (.string dK[j]):=by
 have : j=0∨j=1∨j=2:=by simp [dK] at hj; omega
 rcases this with rfl | rfl | rfl <;> simp [dK]
theorem a67 {nest : Nat} {l : List Tk} (h : isT fW l=false) : rd .not nest l=(rd (.chain 2) nest l).then fun a r => if U6 kD r=true then (rd (.chain 2) nest (b9 r)).then fun b r' => made (mkN 13 (hd r).text 0 [a,b] (hd r).pos) r' else .ok (a,r):=by
 rw [t7]; exact if_neg (by rw [h]; decide)
theorem a3V (P g cap : Nat) (ts : List Tk) (he : y7 ts) (htk : ∀ t∈ts,z8 t) (l : List Tk) (hS : ∀ r,r.length≤l.length→CQ 153 (.chain 2) P g cap ts r) (hU : isT fW l=true→CQ 124 .not P g cap ts (b9 l)) : CQ 124 .not P g cap ts l:=by
 intro nest w hle h
 obtain ⟨W1,hW1⟩ : ∃ W,W=w.alloc (.cells #[.int .i64 0,.string ⟨#[]⟩,.int .i64 0,.slice none 0 0,.int .i64 0,.int .i64 0] 50):=⟨_,rfl⟩
 have B1:=hid (show Below w.heap.size w W1 from hW1 ▸ c6 _ _)
 have Z1:=hid (show T6 w.heap.size 0 ⟨#[]⟩ 0 none 0 0 0 0 W1 from hW1 ▸ T6.make w _ _ _ _ _ _ _ _)
 have HB:=hid h.blocks
 have S1:=hid (h.below B1)
 have C1:=hid (show Calls Tryz.prog 50 #[.pointer (some ⟨P,0,none⟩),.string ⟨#[110,111,116]⟩] W1 (fun e w' => e=.returned (.bool (isT fW l))∧Below W1.heap.size W1 w') from aO P g cap ts nest l ⟨#[110,111,116]⟩ W1 S1)
 have eg : m7 124:=enters_of Tryz.func124 (by kernel_rfl) rfl
 cases hm : isT fW l
 case true =>
  have HX:=hid (show rd .not nest l=U0 nest l ((rd .not (nest + 1) (b9 l)).then fun t r => made (mkN 12 (hd l).text 0 [t] (hd l).pos) r) by rw [t7]; exact if_pos hm)
  rw [hm] at C1
  rw [HX.out]
  have C2:=hid (fun W hs => show Calls Tryz.prog 152 #[.pointer (some ⟨P,0,none⟩),.func (.func 124) #[.pointer (some ⟨P,0,none⟩)] #[]] W _ from mN P g cap ts he htk nest l .not 124 #[.pointer (some ⟨P,0,none⟩)] W hle eg hs fun hn1 W hs => hU hm (nest + 1) W hn1 hs)
  generalize U0 nest l _=x at C2 ⊢
  clear h hS hU he htk eg hm
  go_enter Tryz.func124,Tryz.ntmps124
  go_wp2_with fail
  rw [← hW1]
  clear hW1
  (with_reducible refine Calls.mono C1.out ?_)
  rintro e W2 ⟨rfl,hb⟩
  have B2:=hid (B1.out.trans (hb.mono B1.out.size))
  have Z2:=hid (Z1.out.below hb)
  have C:=hid (C2.out W2 (S1.out.below hb))
  clear hb C1 C2
  go_wp2_with fail
  (with_reducible refine Calls.mono C.out ?_)
  intro e w3 hq
  cases x with
  | error q =>
    obtain ⟨k,p⟩:=q
    obtain ⟨rfl,hg⟩:=hq
    refine And.intro rfl ?_
    exact ⟨rfl,b6 (b8 B2) hg⟩
  | ok q =>
    obtain ⟨t,r⟩:=q
    obtain ⟨a,cp,rfl,hs,hg,hl,hd⟩:=hq
    have Z3:=hid (Z2.out.grown hg (fun e => by have:=Option.some.inj e; have:=HB.out; omega))
    have HS:=hid hs
    have HG:=hid hg
    have HL:=hid hl
    have HD:=hid hd
    obtain ⟨⟨z0,z1,z2,z3,z4,z5⟩,⟨f0,f1,f2,f3,f4,f5⟩⟩:=Z3.out.cells
    have hzl:=Z3.out.lt
    clear hs hg hl hd C
    unfold trV
    go_wp2_with fail
    refine bodyPost_ret (v:=trV t a cp) (by simp [results,Tryz.results124,go_sem,trV,z0,z1,z2,z3,z4,z5]) rfl ?_
    exact eH HS (b8 B2) Z2.out.lt HG HL HD ⟨HB.out.1,HB.out.2.1⟩
 case false =>
 obtain ⟨X,hX⟩ : ∃ X,X=rd .not nest l:=⟨_,rfl⟩
 rw [← hX]
 rw [a67 hm] at hX
 have HX:=hid hX
 rw [hm] at C1
 have HP:=hid hS
 have HE:=hid he
 have HTK:=hid htk
 clear h he htk hS hU hX hm eg
 go_enter Tryz.func124,Tryz.ntmps124
 go_wp2_with fail
 rw [← hW1]
 clear hW1
 (with_reducible refine Calls.mono C1.out ?_)
 rintro e W2 ⟨rfl,hb⟩
 have B2:=hid (B1.out.trans (hb.mono B1.out.size))
 have Z2:=hid (Z1.out.below hb)
 have C2:=hid (HP.out l (Nat.le_refl _) nest W2 hle (S1.out.below hb))
 have HRL:=hid (fun t q (h : rd (.chain 2) nest l=.ok (t,q)) => aZ (.chain 2) nest l h)
 generalize rd (.chain 2) nest l=x at HX C2 HRL
 clear hb C1
 go_wp2_with fail
 (with_reducible refine Calls.mono C2.out ?_)
 intro e w3 hq
 cases x with
 | error q =>
   obtain ⟨k,p⟩:=q
   obtain ⟨rfl,hg⟩:=hq
   refine And.intro rfl ?_
   rw [HX.out]
   exact ⟨rfl,b6 (b8 B2) hg⟩
 | ok q =>
 obtain ⟨t,r⟩:=q
 obtain ⟨a,cp,rfl,hs,hg,hl,hdp⟩:=hq
 have hb3:=hid (show w.heap.size<W2.heap.size∧W2.heap.size≤w3.heap.size from ⟨Z2.out.lt,hg.size⟩)
 have HL:=hid hl
 have HD:=hid hdp
 have S3:=hid hs
 have G3:=hid (b6 (b8 B2) hg)
 have Z3:=hid (Z2.out.grown hg (fun e => by have:=Option.some.inj e; have:=HB.out; omega))
 have HXr:=hid (show X=if U6 kD r=true then (rd (.chain 2) nest (b9 r)).then fun b r' => made (mkN 13 (hd r).text 0 [t,b] (hd r).pos) r' else .ok (t,r) from HX)
 have hrl:=hid (HRL.out t r rfl)
 clear hs hg hl hdp C2 HX HRL
 obtain ⟨W4,hW4⟩ : ∃ W,W=w3.alloc (.cells #[.int .i64 t.kind,.string t.text,.int .i64 t.n,.slice a t.kids.length cp,.int .i64 t.place,.int .i64 (c8 t)] 50):=⟨_,rfl⟩
 have T4:=hid (show T6 w3.heap.size t.kind t.text t.n a t.kids.length cp t.place (c8 t) W4 from hW4 ▸ T6.make w3 _ _ _ _ _ _ _ _)
 have B4:=hid (show Below w3.heap.size w3 W4 from hW4 ▸ c6 _ _)
 obtain ⟨wo,hW5⟩ : ∃ W,W=W4.alloc (.cells #[.string ⟨#[60]⟩,.string ⟨#[60,61]⟩,.string ⟨#[61]⟩] 9):=⟨_,rfl⟩
 have HSC:=hid (show ∀ j (hj : j<dK.length),wo.cell? ⟨W4.heap.size,j,none⟩=some (.string dK[j]) from hW5 ▸ a2s W4)
 have hsa:=hid (show W4.heap.size<wo.heap.size by rw [hW5]; simp)
 have B45:=hid (show Below W4.heap.size W4 wo from hW5 ▸ c6 _ _)
 have B5:=hid (B4.out.trans (B45.out.mono B4.out.size))
 have TO:=hid (T4.out.below B45)
 have SO:=hid (S3.out.below B5)
 have GO:=hid (b6 G3 (b8 B5))
 have ZO:=hid (Z3.out.below B5)
 unfold trV
 go_upto_region 4 with fail
 rw [← hW4]
 clear hW4
 go_upto_block 0 with fail
 rw [← hW5]
 clear hW5
 go_wp2_with fail
 go_loopw [17] (fun i wr => ∃ k : Nat,k≤3∧i=.int .i64 k∧Hid (∀ j (hj : j<dK.length),j<k→isT dK[j].data.toList r=false)∧Hid (Below wo.heap.size wo wr)) (fun i _ => (3 - (intOf i).toNat))
 case atStart => exact ⟨0,Nat.zero_le _,rfl,fun j hj h => by omega,Below.refl _ _⟩
 case round =>
  obtain ⟨k,hk,rfl,HN,HBw⟩:=hrel
  by_cases hlt : k<3
  ·have hlt' : k<dK.length:=hlt
   have c0 : wr.cell? ⟨W4.heap.size,k,none⟩=some (.string dK[k]):=(HBw.out.cell (p:=⟨W4.heap.size,k,none⟩) hsa).trans (HSC.out k hlt')
   have HM:=hid (fun h => a5G (r:=r) hlt' h)
   have HAll:=hid (show isT dK[k].data.toList r=false→∀ j (hj : j<dK.length),j<k + 1→isT dK[j].data.toList r=false from fun h j hj hjk => by
    by_cases e : j=k
    ·subst e; exact h
    ·exact HN.out j hj (by omega))
   have SW:=hid (SO.out.below HBw)
   have hlen : dK[k].data.toList.length≤2:=by
    have : k=0∨k=1∨k=2:=by omega
    rcases this with rfl | rfl | rfl <;> simp [dK]
   have HSL:=hid hlen
   generalize dK[k]=s at c0 HM HAll HSL
   have C2:=hid (aO P g cap ts nest r s wr SW)
   generalize hbe : isT s.data.toList r=b at C2 HAll HM
   have HBE:=hid hbe
   clear hbe HN hlen hlt'
   cases b
   ·have HA:=hid (HAll.out rfl)
    clear HAll HM
    go_wp2_with fail
    (with_reducible refine Calls.mono C2.out ?_)
    rintro e w4 ⟨rfl,hb⟩
    have HB4:=hid (HBw.out.trans (hb.mono HBw.out.size))
    clear hb C2
    go_wp2_with fail
    go_roundw
    case rel => exact ⟨k + 1,by omega,by go_num,HA,HB4⟩
    case measure => simp [intOf]; omega
   ·have HXn:=hid (show X=(rd (.chain 2) nest (b9 r)).then fun b r' => made (mkN 13 s.data.toList 0 [t,b] (hd r).pos) r' by
     rw [HXr.out,if_pos (HM.out rfl),(kS HBE).2])
    have HLn:=hid (n5 HBE)
    clear HAll HM
    go_wp2_with fail
    (with_reducible refine Calls.mono C2.out ?_)
    rintro e w4 ⟨rfl,hb⟩
    have HB4:=hid (HBw.out.trans (hb.mono HBw.out.size))
    have S4:=hid (SW.out.below hb)
    have C3:=hid (dG P g cap ts nest r w4 S4 HE)
    have HT0:=hid (HTK.out _ S4.out.mem)
    generalize hd r=T at C3 HXn HT0
    have hfd:=iL T.kind T.n T.pos ⟨T.text.toArray⟩
    clear hb C2
    go_wp2_with fail
    (with_reducible refine Calls.mono C3.out ?_)
    rintro e wi ⟨rfl,hs5,hg5⟩
    have S5:=hid hs5
    have G0:=hid hg5
    have G5:=hid (b6 GO (b6 (b8 HB4) hg5))
    clear hs5 hg5 C3
    unfold tkV
    obtain ⟨W5,hW5⟩ : ∃ W,W=wi.alloc (.cells #[.int .i64 13,.string s,.int .i64 0,.slice none 0 0,.int .i64 T.pos] 24):=⟨_,rfl⟩
    have B6:=hid (show Below wi.heap.size wi W5 from hW5 ▸ c6 _ _)
    have TI:=hid ((TO.out.below HB4).grown G0 (fun e => by have:=Option.some.inj e; have:=hb3.out; have:=HB.out; omega))
    have N5:=hid (show f6 wi.heap.size (.mk 13 s 0 [] T.pos) none 0 W5 from hW5 ▸ f6.make wi (.mk 13 s 0 [] T.pos) none 0)
    have T5:=hid (TI.out.below B6)
    have Z5:=hid (((ZO.out.below HB4).grown G0 (fun e => by have:=Option.some.inj e; have:=HB.out; omega)).below B6)
    have BD:=hid (show Below W5.heap.size W5 W5.drew from A7 (Below.refl _ _))
    have C6:=hid (HP.out (b9 r) (by have:=HLn.out; have:=hrl.out; omega) nest W5.drew hle ((S5.out.below B6).below BD))
    have GW:=hid (show w.grownBy W5.drew (some P) from b6 G5 (b8 (B6.out.trans (BD.out.mono B6.out.size))))
    generalize rd (.chain 2) nest (b9 r)=x at C6 HXn
    go_upto_region 9 with fail
    rw [← hW5]
    clear hW5
    refine e8 (S:=(fun cur => (cur.cell? ⟨wi.heap.size,0,none⟩=some (.int .i64 13)∧cur.cell? ⟨wi.heap.size,1,none⟩=some (.string s)∧cur.cell? ⟨wi.heap.size,2,none⟩=some (.int .i64 0)∧cur.cell? ⟨wi.heap.size,3,none⟩=some (.slice none 0 0)∧cur.cell? ⟨wi.heap.size,4,none⟩=some (.int .i64 T.pos))∧(cur.cell? ⟨w3.heap.size,0,none⟩=some (.int .i64 t.kind)∧cur.cell? ⟨w3.heap.size,1,none⟩=some (.string t.text)∧cur.cell? ⟨w3.heap.size,2,none⟩=some (.int .i64 t.n)∧cur.cell? ⟨w3.heap.size,3,none⟩=some (.slice a t.kids.length cp)∧cur.cell? ⟨w3.heap.size,4,none⟩=some (.int .i64 t.place)∧cur.cell? ⟨w3.heap.size,5,none⟩=some (.int .i64 (c8 t))))) (z:=7) (by kernel_rfl) ?_ (fun hHeld => ?_)
    ·exact ⟨N5.out.cells.1,T5.out.cells.1⟩
    refine b7.t 0 ?_; refine b7.t 1 ?_; refine b7.t 2 ?_; refine b7.t 3 ?_
    refine b7.nx 4 fun K hK => ?_
    go_simp
    (with_reducible refine Calls.mono C6.out ?_)
    intro e w6 hq
    cases x with
    | error q =>
      obtain ⟨k0,p0⟩:=q
      obtain ⟨rfl,hg⟩:=hq
      refine And.intro rfl ?_
      rw [HXn.out]
      exact ⟨rfl,b6 GW hg⟩
    | ok q =>
    obtain ⟨m,q⟩:=q
    obtain ⟨a2,cp2,rfl,hs6,hg6,hl6,hd6⟩:=hq
    have S6:=hid hs6
    have G6:=hid (b6 GW hg6)
    have N6:=hid (f6.grown (show f6 wi.heap.size (.mk 13 s 0 [] T.pos) none 0 W5.drew from N5) hg6 (by have:=S5.out.blocks; omega))
    have T6':=hid (T6.grown (show T6 w3.heap.size t.kind t.text t.n a t.kids.length cp t.place (c8 t) W5.drew from T5) hg6 (fun e => by have:=Option.some.inj e; have:=hb3.out; have:=HB.out; omega))
    have Z6:=hid (T6.grown (show T6 w.heap.size 0 ⟨#[]⟩ 0 none 0 0 0 0 W5.drew from Z5) hg6 (fun e => by have:=Option.some.inj e; have:=HB.out; omega))
    have HG6:=hid hg6
    have HL6:=hid hl6
    have HD6:=hid hd6
    clear hs6 hg6 hl6 hd6 C6
    unfold trV
    go_wp2_with fail
    refine hK.out _ _ ?_ (fun hHeld => ?_)
    ·exact ⟨N6.out.cells.1,T6'.out.cells.1⟩
    clear hK K
    try simp only [Act.put,c9,f8,f7]
    refine b7.nx 5 fun K hK => ?_
    go_simp
    obtain ⟨W7,hW7⟩ : ∃ W,W=w6.alloc (.cells #[.int .i64 t.kind,.string t.text,.int .i64 t.n,.slice a t.kids.length cp,.int .i64 t.place,.int .i64 (c8 t),.int .i64 m.kind,.string m.text,.int .i64 m.n,.slice a2 m.kids.length cp2,.int .i64 m.place,.int .i64 (c8 m)] 50):=⟨_,rfl⟩
    have R7:=hid (show mG W7 w6.heap.size 0 [(t,a,cp),(m,a2,cp2)] from hW7 ▸ a6M w6 _ (t,a,cp) (m,a2,cp2))
    have B7:=hid (show Below w6.heap.size w6 W7 from hW7 ▸ c6 _ _)
    have hz7:=hid (show W7.heap.size=w6.heap.size + 1 by rw [hW7]; simp)
    have N7:=hid (N6.out.below B7)
    have T7:=hid (T6'.out.below B7)
    have C7:=hid (show Calls Tryz.prog 54 #[.pointer (some ⟨P,0,none⟩),.agg #[.int .i64 13,.string s,.int .i64 0,.slice none 0 0,.int .i64 T.pos],.slice (some ⟨w6.heap.size,0,none⟩) 2 2] W7 (gI 13 s.data.toList 0 T.pos [(t,a,cp),(m,a2,cp2)] W7) by
     have:=aG P 13 s.data.toList 0 T.pos (some ⟨w6.heap.size,0,none⟩) 2 [(t,a,cp),(m,a2,cp2)] W7 (by show 2≤8; decide) (fun _ => ⟨w6.heap.size,0,rfl,by have:=hz7.out; omega,R7⟩) (fun e he => by
      rcases List.mem_cons.1 he with rfl | he
      ·exact HD
      ·obtain rfl:=List.mem_singleton.1 he; exact HD6)
     rw [a1w] at this
     exact this)
    rw [← hW7]
    clear hW7
    refine hK.out _ _ ?_ (fun hHeld => ?_)
    ·exact ⟨N7.out.cells.1,T7.out.cells.1⟩
    clear hK K
    try simp only [Act.put,c9,f8,f7]
    refine b7.nx 6 fun K hK => ?_
    go_simp
    (with_reducible refine Calls.mono C7.out ?_)
    intro e w8 hm
    have HMR:=hid (show jB (made (mkN 13 s.data.toList 0 [t,m] T.pos) q) (fun c => w.heap.size<c∧c<W7.heap.size) W7 e w8 from by
     have hsz6:=HG6.out.size
     have hszo:=HB4.out.size
     have hszi:=G0.out.size
     have hsz5:=B6.out.size
     have hszO:=B5.out.size
     have hh:=hz7.out
     have hPw:=HB.out
     have hsd : W5.drew.heap.size=W5.heap.size:=rfl
     have hb3':=hb3.out
     refine hm.use rfl (by have:=HSL.out; omega) rfl HT0.out.2.1 (fun c hc => hc.2) (fun e he => ?_) q
     rcases List.mem_cons.1 he with rfl | he
     ·refine d5 HL (fun c hc => ?_) fun c hc => ⟨by have:=hc.1; omega,by have:=hc.2; omega⟩
      have h1:=hc.1
      have h2:=hc.2
      refine (B7.out.block c (by omega)).trans ((HG6.out.block c (by omega) (fun e => by have:=Option.some.inj e; omega)).trans ?_)
      exact (B6.out.block c (by omega)).trans ((G0.out.block c (by omega) (fun e => by have:=Option.some.inj e; omega)).trans ((HB4.out.block c (by omega)).trans (B5.out.block c h2)))
     ·obtain rfl:=List.mem_singleton.1 he
      exact d5 HL6 (fun c hc => B7.out.block c hc.2) fun c hc => ⟨by have:=hc.1; omega,by have:=hc.2; omega⟩)
    clear hm C7
    obtain ⟨hb8,hm⟩:=HMR.out
    have B8:=hid hb8
    have HXm:=hid (show X=made (mkN 13 s.data.toList 0 [t,m] T.pos) q from HXn)
    cases hmd : made (mkN 13 s.data.toList 0 [t,m] T.pos) q with
    | error z =>
      obtain ⟨k0,p0⟩:=z
      rw [hmd] at hm
      obtain rfl:=hm
      refine And.intro rfl ?_
      rw [HXm.out,hmd]
      exact ⟨rfl,b6 G6 (b8 (B7.out.trans (B8.out.mono B7.out.size)))⟩
    | ok z =>
    obtain ⟨t2,q2⟩:=z
    have hq2 : q2=q:=dT hmd
    subst hq2
    rw [hmd] at hm
    obtain ⟨a3,cp3,rfl,hl3,hd3⟩:=hm
    have HMD:=hid hmd
    have HL3:=hid hl3
    have HD3:=hid hd3
    have N8:=hid (N7.out.below B8)
    have T8:=hid (T7.out.below B8)
    have hb78:=B7.out.trans (B8.out.mono B7.out.size)
    have B68:=hid hb78
    clear hmd hl3 hd3 hb8 hb78
    unfold trV
    go_wp2_with fail
    refine hK.out _ _ ?_ (fun hHeld => ?_)
    ·exact ⟨N8.out.cells.1,T8.out.cells.1⟩
    clear hK K
    try simp only [Act.put,c9,f8,f7]
    have Z8:=hid (Z6.out.below B68)
    obtain ⟨⟨z0,z1,z2,z3,z4,z5⟩,⟨f0,f1,f2,f3,f4,f5⟩⟩:=Z8.out.cells
    have hzl:=Z8.out.lt
    refine b7.la fun K hK => ?_
    go_simp
    refine hK.out _ _ ?_
    clear hK K
    go_wp2_with fail
    refine bodyPost_ret (v:=trV t2 a3 cp3) (by simp [results,Tryz.results124,go_sem,trV,z0,z1,z2,z3,z4,z5]) rfl ?_
    rw [HXm.out,HMD.out]
    have h1:=hz7.out
    have h2:=B8.out.size
    have hb:=HB.out
    have h4:=G6.out.size
    exact QP.fin ((S6.out.below B7).below B8) (b6 G6 (b8 B68)) (Nat.le_refl _) (by omega) HL3 (fun c hc => by
     rcases hc with hc | hc
     ·have:=hc.1; have:=hc.2; omega
     ·have:=hc.1; have:=hc.2; omega) HD3
  ·have hkk : k=3:=by omega
   have HXe:=hid (show X=.ok (t,r) by
    rw [HXr.out,if_neg]
    rw [a60 fun j hj => HN.out j hj (by have : j<3:=hj; omega)]
    decide)
   have TR:=hid (TO.out.below HBw)
   have ZR:=hid (ZO.out.below HBw)
   obtain ⟨⟨x0,x1,x2,x3,x4,x5⟩,-⟩:=TR.out.cells
   obtain ⟨⟨z0,z1,z2,z3,z4,z5⟩,⟨f0,f1,f2,f3,f4,f5⟩⟩:=ZR.out.cells
   have hxl:=TR.out.lt
   have hzl:=ZR.out.lt
   clear hkk
   go_wp2_with fail
   refine bodyPost_ret (v:=trV t a cp) (by simp [results,Tryz.results124,go_sem,trV,z0,z1,z2,z3,z4,z5]) rfl ?_
   rw [HXe.out]
   have hb:=HB.out
   have hsz:=HBw.out.size
   have hb3':=hb3.out
   have hs5:=B5.out.size
   exact QP.fin (av:=Fr W2.heap.size w3.heap.size) (SO.out.below HBw) (b6 GO (b8 HBw)) (Nat.le_refl _) (by omega) (d5 HL (fun c hc => (HBw.out.block c (by have:=hc.2; omega)).trans (B5.out.block c hc.2)) fun c hc => hc) (fun c hc => ⟨by have:=hc.1; omega,by have:=hc.2; omega,by have:=hc.1; omega⟩) HD
end
end Go.Proofs.YtibiccacafjjfaaGreatDoor
