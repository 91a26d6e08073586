/-
  Laws that the proof rests on.
-/
import Derived.Test.YtibiccacafjjfaaGreatDoorB16
import Derived.WalkLawsBesides
import Derived.Test.YtibiccacafjjfaaGreatDoorB07
import Derived.Deep.Cut
namespace Go.Proofs.YtibiccacafjjfaaGreatDoor
set_option maxRecDepth 100000
set_option maxHeartbeats 16000000
section
open Lib (hid)
open Go.RowKit
structure PQ (P g cap : Nat) (ts : List Tk) (a : Nat) (n : Int) (W : World) : Prop where
 at' : W.heap[P]?=some (.cells #[.slice (some ⟨g,a * 4,none⟩) (ts.length - a) (cap - a),.int .i64 n] 77 (0,0))
 toks : vU W g 0 ts
 ne : g≠P
 lt : g<W.heap.size
 le : ts.length≤cap
 max : cap≤maxLen
 pos : a<ts.length
section
variable {P g cap : Nat} {ts : List Tk} {a : Nat} {n : Int} {W W' : World}
theorem PQ.cells (h : PQ P g cap ts a n W) : (W.cell? ⟨P,0,none⟩=some (.slice (some ⟨g,a * 4,none⟩) (ts.length - a) (cap - a))∧W.cell? ⟨P,1,none⟩=some (.int .i64 n))∧(W.frozen? ⟨P,0,none⟩=false∧W.frozen? ⟨P,1,none⟩=false):=by
 have h':=h.at'
 refine ⟨⟨?_,?_⟩,?_,?_⟩ <;> simp [World.cell?,World.frozen?,h']
theorem PQ.plt (h : PQ P g cap ts a n W) : P<W.heap.size:=(Array.getElem?_eq_some_iff.1 h.at').1
theorem PQ.keeps (h : PQ P g cap ts a n W) (hk : j0 (fun b => b=P∨b=g) W W') (hs : W.heap.size≤W'.heap.size) : PQ P g cap ts a n W':=by
 refine ⟨(hk P (.inl rfl)).trans h.at',fun j hj => ?_,h.ne,Nat.lt_of_lt_of_le h.lt hs,h.le,h.max,h.pos⟩
 have q : ∀ o,W'.cell? ⟨g,o,none⟩=W.cell? ⟨g,o,none⟩:=fun o => World.cell?_of_block (hk g (.inr rfl))
 obtain ⟨h0,h1,h2,h3⟩:=h.toks j hj
 exact ⟨(q _).trans h0,(q _).trans h1,(q _).trans h2,(q _).trans h3⟩
theorem PQ.later {B : Nat} (h : PQ P g cap ts a n W) (hb : Below B W W') (hp : P<B) (hg : g<B) : PQ P g cap ts a n W' :=
 ⟨(hb.block P hp).trans h.at',h.toks.below hb hg,h.ne,Nat.lt_of_lt_of_le h.lt hb.size,h.le,h.max,h.pos⟩
theorem PQ.below (h : PQ P g cap ts a n W) (hb : Below W.heap.size W W') : PQ P g cap ts a n W':=h.later hb h.plt h.lt
theorem PQ.tok (h : PQ P g cap ts a n W) : W.cell? ⟨g,a * 4,none⟩=some (.int .i64 (ts[a]'h.pos).kind)∧W.cell? ⟨g,a * 4 + 1,none⟩=some (.string ⟨(ts[a]'h.pos).text.toArray⟩)∧W.cell? ⟨g,a * 4 + 2,none⟩=some (.int .i64 (ts[a]'h.pos).n)∧W.cell? ⟨g,a * 4 + 3,none⟩=some (.int .i64 (ts[a]'h.pos).pos):=by
 have:=h.toks a h.pos
 rw [Nat.zero_add] at this
 exact this
theorem PQ.kept (h : PQ P g cap ts a n W) (i : Nat) (v : Value) {a' : Nat} {n' : Int} (hp : a'<ts.length) (hat : (W.setCell ⟨P,i,none⟩ v).heap[P]?=some (.cells #[.slice (some ⟨g,a' * 4,none⟩) (ts.length - a') (cap - a'),.int .i64 n'] 77 (0,0))) :
 PQ P g cap ts a' n' (W.setCell ⟨P,i,none⟩ v):=by
 refine ⟨hat,fun j hj => ?_,h.ne,by simp [World.setCell]; exact h.lt,h.le,h.max,hp⟩
 have q : ∀ o,(W.setCell ⟨P,i,none⟩ v).cell? ⟨g,o,none⟩=W.cell? ⟨g,o,none⟩:=fun o => World.cell?_of_block (Below.heap_setCell _ _ _ _ (fun e => h.ne (by simp at e; exact e)))
 obtain ⟨h0,h1,h2,h3⟩:=h.toks j hj
 exact ⟨(q _).trans h0,(q _).trans h1,(q _).trans h2,(q _).trans h3⟩
theorem PQ.set_l (h : PQ P g cap ts a n W) {a' : Nat} (hp : a'<ts.length) : PQ P g cap ts a' n (W.setCell ⟨P,0,none⟩ (.slice (some ⟨g,a' * 4,none⟩) (ts.length - a') (cap - a'))) :=
 h.kept 0 _ hp (by simp [World.setCell,Array.getElem?_modify,h.at'])
theorem PQ.set_nest (h : PQ P g cap ts a n W) (n' : Int) : PQ P g cap ts a n' (W.setCell ⟨P,1,none⟩ (.int .i64 n')) :=
 h.kept 1 _ h.pos (by simp [World.setCell,Array.getElem?_modify,h.at'])
end
def SQ (P g cap : Nat) (ts : List Tk) (nest : Nat) (l : List Tk) (W : World) : Prop:=∃ a,l=ts.drop a∧PQ P g cap ts a nest W
def flt (k p : Int) : Ending:=.panicked [{ v:=.iface 75 (.agg #[.int .i64 p,.int .i64 k]),recovered:=false }]
theorem aE (P : Nat) (k p : Int) (w : World) :
 Calls Tryz.prog 47 #[.pointer (some ⟨P,0,none⟩),.int .i64 p,.int .i64 k] w fun e w' => e=flt k p∧w=w':=by
 go_enter Tryz.func47,Tryz.ntmps47
 go_wp2_with fail
 exact ⟨rfl,rfl,rfl⟩
theorem a57 (P g cap : Nat) (ts : List Tk) (a : Nat) (n : Int) (x : ByteArray) (w : World) (h : PQ P g cap ts a n w) :
 Calls Tryz.prog 50 #[.pointer (some ⟨P,0,none⟩),.string x] w fun e w' => e=.returned (.bool (isT x.data.toList (ts.drop a)))∧Below w.heap.size w w':=by
 have I:=hid (a5g h.pos x.data.toList)
 have hpos:=h.pos
 have hmx:=h.max
 have hle:=h.le
 unfold maxLen at hmx
 obtain ⟨⟨p0,p1⟩,-⟩:=h.cells
 obtain ⟨t0,t1,t2,t3⟩:=h.tok
 have hL : 0<ts.length - a:=by omega
 generalize hT : ts[a]'hpos=T at t0 t1 t2 t3 I
 generalize ts.length - a=L at p0 hL
 generalize cap - a=C at p0
 generalize a * 4=off at p0 t0 t1 t2 t3
 clear hT h hmx hle
 go_enter Tryz.func50,Tryz.ntmps50
 go_wp2_with fail
 all_goals
  go_ret
  refine ⟨j9 ?_,c6 _ _⟩
  rw [I.out]
  simp [Lib.toList_data, *]
theorem A6 (w : World) (o o' : Obj) : Below w.heap.size w ((w.alloc o).alloc o'):=(c6 w o).alloc (c6 w o).size o'
def tC (b : Nat) (w : World) : Prop:=w.heap[b]?=some (.cells #[.int .i64 0,.string ⟨#[]⟩,.int .i64 0,.int .i64 0] 79 (0,0))
theorem tC.make (w : World) : tC w.heap.size (w.alloc (.cells #[.int .i64 0,.string ⟨#[]⟩,.int .i64 0,.int .i64 0] 79)):=by
 show (w.heap.push _)[w.heap.size]?=_; simp
theorem tC.cells {b : Nat} {w : World} (h : tC b w) : w.cell? ⟨b,0,none⟩=some (.int .i64 0)∧w.cell? ⟨b,1,none⟩=some (.string ⟨#[]⟩)∧w.cell? ⟨b,2,none⟩=some (.int .i64 0)∧w.cell? ⟨b,3,none⟩=some (.int .i64 0) ∧
 w.frozen? ⟨b,0,none⟩=false∧w.frozen? ⟨b,1,none⟩=false∧w.frozen? ⟨b,2,none⟩=false∧w.frozen? ⟨b,3,none⟩=false:=by
 have h' : w.heap[b]?=some (.cells #[.int .i64 0,.string ⟨#[]⟩,.int .i64 0,.int .i64 0] 79 (0,0)):=h
 refine ⟨?_,?_,?_,?_,?_,?_,?_,?_⟩ <;> simp [World.cell?,World.frozen?,h']
def a7C (P g cap : Nat) (ts : List Tk) (a : Nat) (n : Int) (w : World) (e : Ending) (w' : World) : Prop :=
 ∃ a',(∃ h : a<ts.length,e=.returned (tkV ts[a]))∧PQ P g cap ts a' n w'∧b9 (ts.drop a)=ts.drop a'∧w.grownBy w' (some P)∧a≤a'
theorem a2b (P g cap : Nat) (ts : List Tk) (a : Nat) (n : Int) (w : World) (h : PQ P g cap ts a n w) (he : y7 ts) :
 Calls Tryz.prog 52 #[.pointer (some ⟨P,0,none⟩)] w (a7C P g cap ts a n w):=by
 have hpos:=h.pos
 have hmx:=h.max
 have hle:=h.le
 unfold maxLen at hmx
 have hPlt:=h.plt
 have hg0:=h.lt
 have HN:=hid (he a hpos)
 obtain ⟨⟨p0,p1⟩,⟨g0,g1⟩⟩:=h.cells
 obtain ⟨t0,t1,t2,t3⟩:=h.tok
 have HH:=hid h
 have K1:=hid (fun hk => oY (ts:=ts) hpos hk)
 have K0:=hid (fun hk => uM (ts:=ts) hpos hk)
 have HE:=hid (show ∃ h : a<ts.length,Ending.returned (tkV (ts[a]'hpos))=.returned (tkV ts[a]) from ⟨hpos,rfl⟩)
 have hL : 0<ts.length - a:=by omega
 generalize hT : ts[a]'hpos=T at t0 t1 t2 t3 K1 K0 HN HE
 clear hT
 obtain ⟨L,hLe⟩ : ∃ L,L=ts.length - a:=⟨_,rfl⟩
 obtain ⟨C,hCe⟩ : ∃ C,C=cap - a:=⟨_,rfl⟩
 obtain ⟨off,hOe⟩ : ∃ off,off=a * 4:=⟨_,rfl⟩
 rw [← hLe] at p0 hL
 rw [← hCe] at p0
 rw [← hOe] at p0 t0 t1 t2 t3
 have HLe:=hid hLe
 have HCe:=hid hCe
 have HOe:=hid hOe
 have hLC : L≤C:=by omega
 have hC2 : C≤9223372036854775807:=by omega
 have HL2:=hid (show T.kind≠0→1<L from fun hk => by have:=HN.out hk; omega)
 clear hLe hCe hOe hmx hle h he
 go_enter Tryz.func52,Tryz.ntmps52
 by_cases hk : T.kind=0
 ·have e0 : (T.kind != 0)=false:=by rw [hk]; rfl
  have HK:=hid hk
  clear hk
  go_wp2_with fail
  refine bodyPost_ret (v:=tkV T) (by simp [results,Tryz.results52,go_sem,tkV]) rfl ?_
  exact ⟨a,HE,HH.out.below (A6 w _ _),K0.out HK,b8 (A6 w _ _),Nat.le_refl _⟩
 ·have e0 : (T.kind != 0)=true:=bne_iff_ne.2 hk
  have HK:=hid hk
  have h1L : 1<L:=HL2.out hk
  clear hk
  go_wp2_with fail
  rw [show off + 4=(a + 1) * 4 by rw [HOe.out]; omega,show L - 1=ts.length - (a + 1) by rw [HLe.out]; omega,show C - 1=cap - (a + 1) by rw [HCe.out]; omega]
  refine bodyPost_ret (v:=tkV T) (by simp [results,Tryz.results52,go_sem,tkV]) rfl ?_
  have HS:=HH.out.set_l (HN.out HK)
  exact ⟨a + 1,HE,HS.below (A6 _ _ _),K1.out HK,d8 (e9 _ _ _ _) ((A6 _ _ _).mono (by simp [World.setCell])),Nat.le_succ _⟩
section
variable {P g cap : Nat} {ts : List Tk} {nest : Nat} {l : List Tk} {W W' : World}
theorem SQ.blocks (h : SQ P g cap ts nest l W) : P<W.heap.size∧g<W.heap.size∧g≠P:=by
 obtain ⟨a,-,h⟩:=h
 exact ⟨h.plt,h.lt,h.ne⟩
theorem SQ.keeps (h : SQ P g cap ts nest l W) (hk : j0 (fun b => b=P∨b=g) W W') (hs : W.heap.size≤W'.heap.size) : SQ P g cap ts nest l W':=by
 obtain ⟨a,e,h⟩:=h
 exact ⟨a,e,h.keeps hk hs⟩
theorem SQ.later {B : Nat} (h : SQ P g cap ts nest l W) (hb : Below B W W') (hp : P<B) (hg : g<B) : SQ P g cap ts nest l W':=by
 obtain ⟨a,e,h⟩:=h
 exact ⟨a,e,h.later hb hp hg⟩
theorem SQ.below (h : SQ P g cap ts nest l W) (hb : Below W.heap.size W W') : SQ P g cap ts nest l W':=h.later hb h.blocks.1 h.blocks.2.1
theorem SQ.set_other (h : SQ P g cap ts nest l W) {c : Nat} (hp : c≠P) (hg : c≠g) (i : Nat) (v : Value) : SQ P g cap ts nest l (W.setCell ⟨c,i,none⟩ v) :=
 h.keeps ((j0.refl _ W).set (fun b hb e => by subst e; rcases hb with rfl | rfl <;> contradiction) i v) (by simp [World.setCell])
theorem SQ.mem (h : SQ P g cap ts nest l W) : hd l∈ts:=by
 obtain ⟨a,rfl,h⟩:=h
 rw [O0 h.pos]
 exact List.getElem_mem _
end
def a7u (P g cap : Nat) (ts : List Tk) (nest : Nat) (σ : Sx) (w : World) (e : Ending) (w' : World) : Prop:=match σ with
 | .ok r => e=.returned (.tuple #[])∧SQ P g cap ts nest r w'∧w.grownBy w' (some P)
 | .error (k,p) => e=flt k p∧w.grownBy w' (some P)
def TkQ (P g cap : Nat) (ts : List Tk) (nest : Nat) (T : Tk) (σ : Sx) (w : World) (e : Ending) (w' : World) : Prop:=match σ with
 | .ok r => e=.returned (tkV T)∧SQ P g cap ts nest r w'∧w.grownBy w' (some P)
 | .error (k,p) => e=flt k p∧w.grownBy w' (some P)
theorem aO (P g cap : Nat) (ts : List Tk) (nest : Nat) (l : List Tk) (x : ByteArray) (w : World) (h : SQ P g cap ts nest l w) :
 Calls Tryz.prog 50 #[.pointer (some ⟨P,0,none⟩),.string x] w fun e w' => e=.returned (.bool (isT x.data.toList l))∧Below w.heap.size w w':=by
 obtain ⟨a,rfl,h⟩:=h
 exact a57 P g cap ts a nest x w h
theorem dG (P g cap : Nat) (ts : List Tk) (nest : Nat) (l : List Tk) (w : World) (h : SQ P g cap ts nest l w) (he : y7 ts) :
 Calls Tryz.prog 52 #[.pointer (some ⟨P,0,none⟩)] w fun e w' => e=.returned (tkV (hd l))∧SQ P g cap ts nest (b9 l) w'∧w.grownBy w' (some P):=by
 obtain ⟨a,rfl,h⟩:=h
 refine (a2b P g cap ts a nest w h he).mono fun e w' => ?_
 rintro ⟨a',⟨ha,rfl⟩,hp,hs,hg,-⟩
 exact ⟨by rw [O0 ha],⟨a',hs,hp⟩,hg⟩
theorem O9 (P g cap : Nat) (ts : List Tk) (nest : Nat) (l : List Tk) (x : ByteArray) (w : World) (h : SQ P g cap ts nest l w) (he : y7 ts) :
 Calls Tryz.prog 89 #[.pointer (some ⟨P,0,none⟩),.string x] w fun e w' => e=.returned (.bool (isT x.data.toList l))∧SQ P g cap ts nest (if isT x.data.toList l=true then b9 l else l) w'∧w.grownBy w' (some P):=by
 have C:=hid (aO P g cap ts nest l x w h)
 have H:=hid h
 have HE:=hid he
 clear h he
 generalize isT x.data.toList l=B at C ⊢
 cases B
 ·go_enter Tryz.func89,Tryz.ntmps89
  go_wp2_with fail
  (with_reducible refine Calls.mono C.out ?_)
  rintro e w1 ⟨rfl,hb⟩
  go_wp2_with fail
  go_ret
  exact ⟨rfl,H.out.below hb,b8 hb⟩
 ·go_enter Tryz.func89,Tryz.ntmps89
  go_wp2_with fail
  (with_reducible refine Calls.mono C.out ?_)
  rintro e w1 ⟨rfl,hb⟩
  have C2:=hid (dG P g cap ts nest l w1 (H.out.below hb) HE)
  have HB:=hid hb
  clear hb C
  go_wp2_with fail
  (with_reducible refine Calls.mono C2.out ?_)
  rintro e w2 ⟨rfl,hs,hg⟩
  unfold tkV
  go_wp2_with fail
  go_ret
  exact ⟨rfl,hs,b6 (b8 HB) hg⟩
theorem a10 (P g cap : Nat) (ts : List Tk) (nest : Nat) (l : List Tk) (x : ByteArray) (w : World) (h : SQ P g cap ts nest l w) (he : y7 ts) :
 Calls Tryz.prog 53 #[.pointer (some ⟨P,0,none⟩),.string x] w (a7u P g cap ts nest (bP x.data.toList (.ok l)) w):=by
 have C:=hid (O9 P g cap ts nest l x w h he)
 have R:=hid (show bP x.data.toList (.ok l)=if isT x.data.toList l=true then .ok (b9 l) else .error (74,(hd l).pos) from rfl)
 clear h he
 go_enter Tryz.func53,Tryz.ntmps53
 go_wp2_with fail
 (with_reducible refine Calls.mono C.out ?_)
 rintro e w1 ⟨rfl,hs,hg⟩
 generalize isT x.data.toList l=B at R hs ⊢
 have HG:=hid hg
 clear hg C
 cases B
 ·obtain ⟨a,rfl,hp⟩:=hs
  have hpos:=hp.pos
  have D:=hid (O0 hpos)
  obtain ⟨⟨p0,p1⟩,-⟩:=hp.cells
  obtain ⟨t0,t1,t2,t3⟩:=hp.tok
  have hL : 0<ts.length - a:=by omega
  have C3:=hid (aE P 74 (ts[a]'hpos).pos w1)
  generalize ts[a]'hpos=T at t0 t1 t2 t3 D C3
  generalize ts.length - a=L at p0 hL
  generalize cap - a=C at p0
  generalize a * 4=off at p0 t0 t1 t2 t3
  clear hp hpos
  go_wp2_with fail
  (with_reducible refine Calls.mono C3.out ?_)
  rintro e w2 ⟨rfl,rfl⟩
  refine ⟨rfl,?_⟩
  rw [R.out,if_neg (by decide),D.out]
  exact ⟨rfl,HG⟩
 ·have HS:=hid hs
  clear hs
  go_wp2_with fail
  (first | (refine bodyPost_end (results_none rfl _ _ _) rfl ?_) | (refine bodyPost_ret (results_none rfl _ _ _) rfl ?_))
  rw [R.out]
  exact ⟨rfl,HS,HG⟩
theorem dS (P g cap : Nat) (ts : List Tk) (nest : Nat) (l : List Tk) (k : Int) (w : World) (h : SQ P g cap ts nest l w) (he : y7 ts) :
 Calls Tryz.prog 66 #[.pointer (some ⟨P,0,none⟩),.int .i64 k] w (TkQ P g cap ts nest (hd l) (X4 k (.ok l)) w):=by
 have R:=hid (show X4 k (.ok l)=if (hd l).kind=k then .ok (b9 l) else .error (74,(hd l).pos) from rfl)
 have H:=hid h
 have HE:=hid he
 obtain ⟨a,hl,hp⟩:=h
 have hpos:=hp.pos
 have hPlt:=hp.plt
 have hg0:=hp.lt
 have D:=hid (show hd l=ts[a]'hpos by rw [hl,O0 hpos])
 obtain ⟨⟨p0,p1⟩,-⟩:=hp.cells
 obtain ⟨t0,t1,t2,t3⟩:=hp.tok
 have hL : 0<ts.length - a:=by omega
 generalize ts[a]'hpos=T at t0 t1 t2 t3 D
 generalize ts.length - a=L at p0 hL
 generalize cap - a=C at p0
 generalize a * 4=off at p0 t0 t1 t2 t3
 clear hp he hl hpos
 go_enter Tryz.func66,Tryz.ntmps66
 by_cases hk : T.kind=k
 ·have e0 : (T.kind != k)=false:=by rw [hk]; exact bne_self_eq_false k
  have R2:=hid (R.out.trans (if_pos (by rw [D.out]; exact hk)))
  have C2:=hid (dG P g cap ts nest l _ (H.out.below (c6 w (.cells #[.int .i64 0,.string ⟨#[]⟩,.int .i64 0,.int .i64 0] 79))) HE)
  clear hk
  go_wp2_with fail
  (with_reducible refine Calls.mono C2.out ?_)
  rintro e w2 ⟨rfl,hs,hg⟩
  have hne : w.heap.size≠P:=Nat.ne_of_gt hPlt
  have HZ:=(hg.block w.heap.size (by simp) (fun e => hne (Option.some.inj e))).trans (tC.make w)
  obtain ⟨c0,c1,c2,c3,f0,f1,f2,f3⟩:=tC.cells HZ
  have hwl : w.heap.size<w2.heap.size:=(Array.getElem?_eq_some_iff.1 HZ).1
  have HS:=hid hs
  have HG:=hid (b6 (b8 (c6 w _)) hg)
  rw [D.out]
  unfold tkV
  clear hs hg HZ t0 t1 t2 t3 p0 p1
  go_wp2_with fail
  refine bodyPost_ret (v:=tkV T) (by simp [results,Tryz.results66,go_sem,tkV,c0,c1,c2,c3]) rfl ?_
  rw [R2.out,D.out]
  have HF:=(i7 (Below.refl w.heap.size w2) (.int .i64 T.kind) (.string ⟨T.text.toArray⟩) (.int .i64 T.n) (.int .i64 T.pos))
  exact ⟨rfl,HS.out.later HF hPlt hg0,d8 HG HF⟩
 ·have e0 : (T.kind != k)=true:=bne_iff_ne.2 hk
  have R2:=hid (R.out.trans (if_neg (by rw [D.out]; exact hk)))
  have C3:=hid (aE P 74 T.pos (w.alloc (.cells #[.int .i64 0,.string ⟨#[]⟩,.int .i64 0,.int .i64 0] 79)))
  clear hk
  go_wp2_with fail
  (with_reducible refine Calls.mono C3.out ?_)
  rintro e w2 ⟨rfl,rfl⟩
  refine ⟨rfl,?_⟩
  rw [R2.out,D.out]
  exact ⟨rfl,b8 (c6 w _)⟩
end
section
open Lib (hid)
open Go.RowKit
theorem pQ (P g cap : Nat) (ts : List Tk) (nest : Nat) (r : List Tk) (w : World) (hn : nest≤300) (h : SP P g cap ts nest (.ok r) w) :
 Calls Tryz.prog 104 #[.pointer (some ⟨P,0,none⟩)] w (a6H P g cap ts (nest + 1) (iC nest (.ok r)) w):=by
 obtain ⟨a,rfl,hp⟩:=h.ok
 obtain ⟨⟨p0,p1,p2,p3,p4⟩,⟨g0,g1,g2,g3,g4⟩⟩:=hp.cells
 have HG:=hid (e9 w P 2 (.int .i64 ((nest : Int) + 1)))
 have H1:=hid (hp.set_nest ((nest : Int) + 1))
 have R:=hid (show iC nest (.ok (ts.drop a))=if 300<nest + 1 then .error (75,(hd (ts.drop a)).pos) else .ok (ts.drop a) from rfl)
 have D:=hid (lB hp.pos)
 have C1:=hid (cB P g cap ts a _ 0 0 _ H1)
 have hpos:=hp.pos
 generalize ts[a]'hpos=T at C1 D
 clear h hp
 go_enter Tryz.func104,Tryz.ntmps104
 by_cases hb : 300<nest + 1
 ·have hb' : (300 : Int)<(nest : Int) + 1:=by omega
  have R2:=hid (show iC nest (.ok (ts.drop a))=.error (75,(hd (ts.drop a)).pos) by rw [R.out,if_pos hb])
  clear hb
  go_wp2_with fail
  (with_reducible refine Calls.mono C1.out ?_)
  rintro e w2 ⟨rfl,hb⟩
  have H2:=hid (H1.out.below hb)
  have HB2:=hid hb
  clear hb
  have C3:=hid (cD P g cap ts a _ w2 75 T.pos H2)
  unfold tkV
  have hfd:=jW T.kind T.n T.pos ⟨T.text.toArray⟩
  go_wp2_with fail
  (with_reducible refine Calls.mono C3.out ?_)
  rintro e w3 ⟨rfl,hp,hg⟩
  go_wp2_with fail
  (first | (refine bodyPost_end (results_none rfl _ _ _) rfl ?_) | (refine bodyPost_ret (results_none rfl _ _ _) rfl ?_))
  refine ⟨rfl,?_,b6 HG (b6 (b8 HB2) hg)⟩
  rw [R2.out,D.out]
  exact SP.of_error hp (by decide) (by omega) (by omega)
 ·have hb' : ¬ (300 : Int)<(nest : Int) + 1:=by omega
  have R2:=hid (show iC nest (.ok (ts.drop a))=.ok (ts.drop a) by rw [R.out,if_neg hb])
  clear hb
  go_wp2_with fail
  (first | (refine bodyPost_end (results_none rfl _ _ _) rfl ?_) | (refine bodyPost_ret (results_none rfl _ _ _) rfl ?_))
  refine ⟨rfl,?_,HG⟩
  rw [R2.out]
  exact SP.of_ok (by have:=H1.out; rw [Int.natCast_add]; exact this) rfl
def TkP (P g cap : Nat) (ts : List Tk) (nest : Nat) (σ σ' : Sx) (w : World) (e : Ending) (w' : World) : Prop:=∃ t : Tk,e=.returned (tkV t)∧SP P g cap ts nest σ' w'∧w.grownBy w' (some P)∧∀ r,σ=.ok r→t=hd r
theorem tM (P g cap : Nat) (ts : List Tk) (nest : Nat) (σ : Sx) (k : Int) (w : World) (hn : nest≤300) (h : SP P g cap ts nest σ w) (he : y7 ts) :
 Calls Tryz.prog 100 #[.pointer (some ⟨P,0,none⟩),.int .i64 k] w (TkP P g cap ts nest σ (X4 k σ) w):=by
 obtain ⟨V,hV⟩ : ∃ V,V=w.alloc (.cells #[.int .i64 0,.string ⟨#[]⟩,.int .i64 0,.int .i64 0] 67):=⟨_,rfl⟩
 have HBV:=hid (show Below w.heap.size w V from hV ▸ c6 _ _)
 have hsV:=hid (show V.heap.size=w.heap.size + 1 by rw [hV]; simp)
 have Z0:=hid (show eC w.heap.size V from hV ▸ eC.make w)
 have hwl : w.heap.size<V.heap.size:=by rw [hsV.out]; omega
 have hS:=hid (h.below HBV)
 have hb0:=hid h.blocks
 cases σ with
 | error q =>
   obtain ⟨c,p⟩:=q
   obtain ⟨hk,a,n,hp,h1,h2⟩:=hS.out.error
   have C:=hid (cB P g cap ts a n c p V hp)
   have ek : (c != 0)=true:=bne_iff_ne.2 hk
   have HK:=hid hk
   have H:=hid hp
   have hpos:=hp.pos
   generalize ts[a]'hpos=T at C
   clear h hp hk
   go_enter Tryz.func100,Tryz.ntmps100
   go_wp2_with fail
   rw [← hV]
   clear hV
   (with_reducible refine Calls.mono C.out ?_)
   rintro e w1 ⟨rfl,hb⟩
   have H1:=hid (H.out.below hb)
   obtain ⟨⟨p0,p1,p2,p3,p4⟩,-⟩:=H1.out.cells
   obtain ⟨c0,c1,c2,c3,f0,f1,f2,f3⟩:=(Z0.out.below hb).cells
   have hpl:=H1.out.plt
   have hwl1 : w.heap.size<w1.heap.size:=Nat.lt_of_lt_of_le hwl hb.size
   have HB:=hid hb
   clear hb
   unfold tkV
   go_wp2_with fail
   refine bodyPost_ret (v:=tkV T) (by simp [results,Tryz.results100,go_sem,tkV,c0,c1,c2,c3,hwl1]) rfl ?_
   have HF:=((i7 (Below.refl w.heap.size w1) (.int .i64 T.kind) (.string ⟨T.text.toArray⟩) (.int .i64 T.n) (.int .i64 T.pos)).alloc (by simpa using (HBV.out.trans (HB.out.mono HBV.out.size)).size) (.cells #[.int .i64 T.kind,.string ⟨T.text.toArray⟩,.int .i64 T.n,.int .i64 T.pos] 67))
   exact ⟨T,rfl,(SP.of_error H1 HK h1 h2).later HF hb0.out.1 hb0.out.2,d8 (b8 (HBV.out.trans (HB.out.mono HBV.out.size))) HF,fun _ h => by cases h⟩
 | ok r =>
   obtain ⟨a,rfl,hp⟩:=hS.out.ok
   have C:=hid (cB P g cap ts a nest 0 0 V hp)
   have H:=hid hp
   have hpos:=hp.pos
   have D:=hid (lB hpos)
   generalize ts[a]'hpos=T at C D
   clear h hp
   go_enter Tryz.func100,Tryz.ntmps100
   go_wp2_with fail
   rw [← hV]
   clear hV
   (with_reducible refine Calls.mono C.out ?_)
   rintro e w1 ⟨rfl,hb⟩
   have H1:=hid (H.out.below hb)
   obtain ⟨⟨p0,p1,p2,p3,p4⟩,-⟩:=H1.out.cells
   have hpl:=H1.out.plt
   have hwl1 : w.heap.size<w1.heap.size:=Nat.lt_of_lt_of_le hwl hb.size
   have HZ1:=hid (Z0.out.below hb)
   have HB:=hid (HBV.out.trans (hb.mono HBV.out.size))
   clear hb
   obtain ⟨W2,hW2⟩ : ∃ W,W=w1.alloc (.cells #[.int .i64 T.kind,.string ⟨T.text.toArray⟩,.int .i64 T.n,.int .i64 T.pos] 67):=⟨_,rfl⟩
   have HB2:=hid (show Below w1.heap.size w1 W2 from hW2 ▸ c6 _ _)
   have HZ2:=hid (HZ1.out.below HB2)
   have HT2:=hid (show Y0 w1.heap.size T W2 from hW2 ▸ Y0.make w1 T)
   have H2:=hid (H1.out.below HB2)
   have HS2:=hid (HB.out.trans (HB2.out.mono HB.out.size))
   unfold tkV
   by_cases hk : T.kind=k
   ·have e0 : (T.kind != k)=false:=by rw [hk]; exact bne_self_eq_false k
    have R:=hid (show X4 k (.ok (ts.drop a))=.ok (b9 (ts.drop a)) from if_pos (D.out ▸ hk))
    have C2:=hid (mE P g cap ts a nest 0 0 W2 H2 he)
    clear hk
    go_wp2_with fail
    rw [← hW2]
    (with_reducible refine Calls.mono C2.out ?_)
    rintro e w3 ⟨a',⟨hpa,rfl⟩,hp3,hs,hg,-⟩
    have hDT:=D.out
    rw [lB hpa] at hDT
    subst hDT
    have hne : w.heap.size≠P:=Nat.ne_of_gt hb0.out.1
    have hwl3 : w.heap.size<w3.heap.size:=Nat.lt_of_lt_of_le hwl1 (Nat.le_trans HB2.out.size hg.size)
    have HZ3:=((hg.block w.heap.size (Nat.lt_of_lt_of_le hwl1 HB2.out.size) (fun e => hne (Option.some.inj e))).trans HZ2)
    obtain ⟨c0,c1,c2,c3,f0,f1,f2,f3⟩:=eC.cells HZ3
    have H3:=hid hp3
    have G3:=hid (b6 (b8 HS2) hg)
    clear hW2 hp3 hg HZ3
    unfold tkV
    go_wp2_with fail
    refine bodyPost_ret (v:=tkV (ts[a]'hpa)) (by simp [results,Tryz.results100,go_sem,tkV,c0,c1,c2,c3]) rfl ?_
    have HF:=(i7 (Below.refl w.heap.size w3) (.int .i64 (ts[a]'hpa).kind) (.string ⟨(ts[a]'hpa).text.toArray⟩) (.int .i64 (ts[a]'hpa).n) (.int .i64 (ts[a]'hpa).pos))
    refine ⟨_,rfl,?_,d8 G3 HF,fun r h => ?_⟩
    ·rw [R.out,hs]
     exact (SP.of_ok H3 rfl).later HF hb0.out.1 hb0.out.2
    ·cases h
     exact (lB hpa).symm
   ·have e0 : (T.kind != k)=true:=bne_iff_ne.2 hk
    have R:=hid (show X4 k (.ok (ts.drop a))=.error (74,T.pos) by
     show (if (hd (ts.drop a)).kind=k then Except.ok (b9 (ts.drop a)) else .error (74,(hd (ts.drop a)).pos) : Sx)=_
     rw [D.out,if_neg hk])
    have C2:=hid (cD P g cap ts a nest W2 74 T.pos H2)
    clear hk
    go_wp2_with fail
    rw [← hW2]
    (with_reducible refine Calls.mono C2.out ?_)
    rintro e w3 ⟨rfl,hp3,hg⟩
    have hne : w.heap.size≠P:=Nat.ne_of_gt hb0.out.1
    have hne1 : w1.heap.size≠P:=Nat.ne_of_gt hpl
    have hwl3 : w.heap.size<w3.heap.size:=Nat.lt_of_lt_of_le hwl1 (Nat.le_trans HB2.out.size hg.size)
    have HZ3:=((hg.block w.heap.size (Nat.lt_of_lt_of_le hwl1 HB2.out.size) (fun e => hne (Option.some.inj e))).trans HZ2)
    obtain ⟨c0,c1,c2,c3,f0,f1,f2,f3⟩:=eC.cells HZ3
    obtain ⟨⟨t0,t1,t2,t3⟩,-⟩:=(HT2.out.grown hg hne1).cells
    have hwl4 : w1.heap.size<w3.heap.size:=(HT2.out.grown hg hne1).lt
    have H3:=hid hp3
    have G3:=hid (b6 (b8 HS2) hg)
    clear hW2 hp3 hg HZ3
    go_wp2_with fail
    refine bodyPost_ret (v:=tkV T) (by simp [results,Tryz.results100,go_sem,tkV,c0,c1,c2,c3]) rfl ?_
    have HF:=(i7 (Below.refl w.heap.size w3) (.int .i64 T.kind) (.string ⟨T.text.toArray⟩) (.int .i64 T.n) (.int .i64 T.pos))
    refine ⟨T,rfl,?_,d8 G3 HF,fun r h => ?_⟩
    ·rw [R.out]
     exact (SP.of_error H3 (by decide) (Int.le_refl _) (by omega)).later HF hb0.out.1 hb0.out.2
    ·cases h
     exact D.out.symm
end
section
open Lib (hid)
open Go.RowKit
def a4T (P g cap : Nat) (ts : List Tk) (nest : Nat) (σ : Sx) (t : Nd) (a : Option Addr) (cp : Nat) (w : World) (e : Ending) (w' : World) : Prop:=e=.returned (t.val a cp)∧SP P g cap ts nest (gV t σ) w'∧w.grownBy w' (some P)
theorem tV (P g cap : Nat) (ts : List Tk) (nest : Nat) (σ : Sx) (t : Nd) (a : Option Addr) (cp : Nat) (w : World) (hn : nest≤300) (h : SP P g cap ts nest σ w) (hd : ∀ r,σ=.ok r→c8 t≤101∧∃ av : Nat→Prop,(∀ b,av b→b<w.heap.size)∧t.lies av w a cp) :
 Calls Tryz.prog 107 #[.pointer (some ⟨P,0,none⟩),t.val a cp] w (a4T P g cap ts nest σ t a cp w):=by
 obtain ⟨V,hV⟩ : ∃ V,V=(w.alloc (.cells #[.int .i64 t.kind,.string t.text,.int .i64 t.n,.slice a t.kids.length cp,.int .i64 t.place] 24)).alloc (.cells #[.int .i64 0,.string ⟨#[]⟩,.int .i64 0,.slice none 0 0,.int .i64 0] 24):=⟨_,rfl⟩
 have HBV:=hid (show Below w.heap.size w V from hV ▸ (c6 w _).trans ((c6 _ _).mono (c6 w _).size))
 have hsV:=hid (show V.heap.size=w.heap.size + 2 by rw [hV]; simp)
 have N0:=hid (show f6 w.heap.size t a cp V from hV ▸ (f6.make w t a cp).below (c6 _ _))
 have N1:=hid (show f6 (w.heap.size + 1) nd0 none 0 V by
  have:=f6.make (w.alloc (.cells #[.int .i64 t.kind,.string t.text,.int .i64 t.n,.slice a t.kids.length cp,.int .i64 t.place] 24)) nd0 none 0
  rw [hV]
  simpa [nd0,Nd.kind,Nd.text,Nd.n,Nd.kids,Nd.place] using this)
 have hS:=hid (h.below HBV)
 have hb0:=hid h.blocks
 unfold Nd.val
 cases σ with
 | error q =>
   obtain ⟨c,p⟩:=q
   obtain ⟨hk,i,n,hp,h1,h2⟩:=hS.out.error
   have ek : (c == 0)=false:=beq_eq_false_iff_ne.2 hk
   have HK:=hid hk
   obtain ⟨⟨p0,p1,p2,p3,p4⟩,-⟩:=hp.cells
   have hpl:=hp.plt
   obtain ⟨⟨c0,c1,c2,c3,c4⟩,-⟩:=N0.out.cells
   obtain ⟨⟨z0,z1,z2,z3,z4⟩,⟨f0,f1,f2,f3,f4⟩⟩:=N1.out.cells
   have HW:=hid h
   clear h hd hp hk
   subst hV
   go_enter Tryz.func107,Tryz.ntmps107
   go_wp2_with fail
   refine bodyPost_ret (v:=t.val a cp) (by simp [results,Tryz.results107,go_sem,Nd.val]) rfl ?_
   have HF:=((c6 w (.cells #[.int .i64 t.kind,.string t.text,.int .i64 t.n,.slice a t.kids.length cp,.int .i64 t.place] 24)).alloc (c6 _ _).size (.cells #[.int .i64 t.kind,.string t.text,.int .i64 t.n,.slice a t.kids.length cp,.int .i64 t.place] 24))
   exact ⟨rfl,HW.out.below HF,b8 HF⟩
 | ok r =>
   obtain ⟨hd1,av,hav,hl⟩:=hd r rfl
   obtain ⟨i,rfl,hp⟩:=hS.out.ok
   obtain ⟨⟨p0,p1,p2,p3,p4⟩,-⟩:=hp.cells
   have hpl:=hp.plt
   obtain ⟨⟨c0,c1,c2,c3,c4⟩,-⟩:=N0.out.cells
   have C:=hid (a0p t a cp w.heap.size V (Nd.lies.hold t (d5 hl (fun b hb => HBV.out.block b (hav b hb)) hav)) HBV.out.size (by omega))
   have hsz : w.heap.size<V.heap.size∧w.heap.size + 1<V.heap.size:=by rw [hsV.out]; omega
   have hpP : w.heap.size + 1≠P∧w.heap.size + 1≠g:=⟨by have:=hb0.out.1; omega,by have:=hb0.out.2; omega⟩
   clear h hd hl hav hp
   go_enter Tryz.func107,Tryz.ntmps107
   subst hV
   by_cases hk : 100<c8 t
   ·have hk' : (100 : Int)<(c8 t : Int):=by omega
    have R:=hid (show gV t (.ok (ts.drop i))=.error (75,t.place) from if_pos hk)
    clear hk
    go_wp2_with fail
    (with_reducible refine Calls.mono C.out ?_)
    rintro e w2 ⟨rfl,hb⟩
    have H2:=hid (hS.out.below hb)
    have HN2:=hid (N0.out.below hb)
    have HM2:=hid (N1.out.below hb)
    have HG:=hid (HBV.out.trans (hb.mono HBV.out.size))
    obtain ⟨⟨c0,c1,c2,c3,c4⟩,-⟩:=HN2.out.cells
    obtain ⟨i',hi',hp2⟩:=H2.out.ok
    have C2:=hid (cD P g cap ts i' nest w2 75 t.place hp2)
    have hsz2 : w.heap.size<w2.heap.size∧w.heap.size + 1<w2.heap.size:=⟨HN2.out.lt,HM2.out.lt⟩
    clear hb hp2 hi' p0 p1 p2 p3 p4 hpl
    go_wp2_with fail
    (with_reducible refine Calls.mono C2.out ?_)
    rintro e w3 ⟨rfl,hp3,hg⟩
    have HN3:=hid (HN2.out.grown hg (Nat.ne_of_gt hb0.out.1))
    have HM3:=hid (HM2.out.grown hg hpP.1)
    obtain ⟨⟨c0,c1,c2,c3,c4⟩,-⟩:=HN3.out.cells
    obtain ⟨⟨z0,z1,z2,z3,z4⟩,⟨f0,f1,f2,f3,f4⟩⟩:=HM3.out.cells
    have H3:=hid hp3
    have G3:=hid (b6 (b8 HG) hg)
    have hsz3 : w.heap.size<w3.heap.size∧w.heap.size + 1<w3.heap.size:=⟨HN3.out.lt,HM3.out.lt⟩
    clear hp3 hg
    go_wp2_with fail
    refine bodyPost_ret (v:=t.val a cp) (by simp [results,Tryz.results107,go_sem,Nd.val,z0,z1,z2,z3,z4]) rfl ⟨rfl,?_,r7 G3 (Nat.le_succ _) t a cp⟩
    rw [R.out]
    exact (SP.of_error H3 (by decide) (Int.le_refl _) (by omega)).put hpP.1 hpP.2 t a cp
   ·have hk' : ¬ (100 : Int)<(c8 t : Int):=by omega
    have R:=hid (show gV t (.ok (ts.drop i))=.ok (ts.drop i) from if_neg hk)
    clear hk
    go_wp2_with fail
    (with_reducible refine Calls.mono C.out ?_)
    rintro e w2 ⟨rfl,hb⟩
    have H2:=hid (hS.out.below hb)
    have HN2:=hid (N0.out.below hb)
    have HM2:=hid (N1.out.below hb)
    have HG:=hid (HBV.out.trans (hb.mono HBV.out.size))
    obtain ⟨⟨c0,c1,c2,c3,c4⟩,-⟩:=HN2.out.cells
    obtain ⟨⟨z0,z1,z2,z3,z4⟩,⟨f0,f1,f2,f3,f4⟩⟩:=HM2.out.cells
    have hsz2 : w.heap.size<w2.heap.size∧w.heap.size + 1<w2.heap.size:=⟨HN2.out.lt,HM2.out.lt⟩
    clear hb p0 p1 p2 p3 p4 hpl
    go_wp2_with fail
    refine bodyPost_ret (v:=t.val a cp) (by simp [results,Tryz.results107,go_sem,Nd.val,z0,z1,z2,z3,z4]) rfl ⟨rfl,?_,r7 (b8 HG) (Nat.le_succ _) t a cp⟩
    rw [R.out]
    exact H2.out.put hpP.1 hpP.2 t a cp
end
section
open Lib (hid)
open Go.RowKit
def a42 (σ : Sx) : Sx:=match σ with
 | .ok r => .ok (b9 r)
 | .error e => .error e
def z8 (t : Tk) : Prop:=(Lit.int .i64 t.n).wf=true∧(Lit.int .i64 t.pos).wf=true∧t.text.length≤16384
section
variable (P g cap : Nat) (ts : List Tk)
theorem SP.mem {P g cap : Nat} {ts : List Tk} {nest : Nat} {l : List Tk} {w : World} (h : SP P g cap ts nest (.ok l) w) : hd l∈ts:=by
 obtain ⟨a,rfl,hp⟩:=h.ok
 rw [lB hp.pos]; exact List.getElem_mem _
theorem a1M (nest : Nat) (σ : Sx) (w : World) (h : SP P g cap ts nest σ w) :
 Calls Tryz.prog 70 #[.pointer (some ⟨P,0,none⟩)] w fun e w' => ∃ t : Tk,e=.returned (tkV t)∧Below w.heap.size w w'∧∀ r,σ=.ok r→t=hd r:=by
 obtain ⟨a,n,c,f,hp,hr⟩:=h
 refine (cB P g cap ts a n c f w hp).mono ?_
 rintro e w' ⟨rfl,hb⟩
 refine ⟨_,rfl,hb,fun r hs => ?_⟩
 subst hs
 rw [hr.1,lB hp.pos]
theorem kO (nest : Nat) (σ : Sx) (x : ByteArray) (w : World) (h : SP P g cap ts nest σ w) :
 Calls Tryz.prog 101 #[.pointer (some ⟨P,0,none⟩),.string x] w fun e w' => ∃ b : Bool,e=.returned (.bool b)∧Below w.heap.size w w'∧∀ r,σ=.ok r→b=isT x.data.toList r:=by
 obtain ⟨a,n,c,f,hp,hr⟩:=h
 refine (vS P g cap ts a n c f x w hp).mono ?_
 rintro e w' ⟨rfl,hb⟩
 refine ⟨_,rfl,hb,fun r hs => ?_⟩
 subst hs
 rw [hr.1]
theorem cP (nest : Nat) (σ : Sx) (w : World) (h : SP P g cap ts nest σ w) (he : y7 ts) :
 Calls Tryz.prog 102 #[.pointer (some ⟨P,0,none⟩)] w (TkP P g cap ts nest σ (a42 σ) w):=by
 obtain ⟨a,n,c,f,hp,hr⟩:=h
 refine (mE P g cap ts a n c f w hp he).mono ?_
 rintro e w' ⟨a',⟨ha,rfl⟩,hp',hs,hg,-⟩
 refine ⟨_,rfl,⟨a',n,c,f,hp',?_⟩,hg,fun r h => ?_⟩
 ·cases σ with
  | ok r =>
    obtain ⟨rfl,h1,h2,h3⟩:=hr
    exact ⟨hs,h1,h2,h3⟩
  | error e => exact hr
 ·subst h
  rw [hr.1,lB ha]
def CE (l : List Tk) : Prop:=∀ (nest : Nat) (w : World),nest≤300→SP P g cap ts nest (.ok l) w→Calls Tryz.prog 69 #[.pointer (some ⟨P,0,none⟩)] w (RdP P g cap ts nest (rd .expr nest l) w)
def CC (lv : Nat) (l : List Tk) : Prop:=∀ (nest : Nat) (w : World),nest≤300→SP P g cap ts nest (.ok l) w→Calls Tryz.prog 105 #[.pointer (some ⟨P,0,none⟩),.int .i64 lv] w (RdP P g cap ts nest (rd (.chain lv) nest l) w)
def CN (l : List Tk) : Prop:=∀ (nest : Nat) (w : World),nest≤300→SP P g cap ts nest (.ok l) w→Calls Tryz.prog 157 #[.pointer (some ⟨P,0,none⟩)] w (RdP P g cap ts nest (rd .not nest l) w)
def CU (l : List Tk) : Prop:=∀ (nest : Nat) (w : World),nest≤300→SP P g cap ts nest (.ok l) w→Calls Tryz.prog 158 #[.pointer (some ⟨P,0,none⟩)] w (RdP P g cap ts nest (rd .unary nest l) w)
def CA (l : List Tk) : Prop:=∀ (nest : Nat) (w : World),nest≤300→SP P g cap ts nest (.ok l) w→Calls Tryz.prog 184 #[.pointer (some ⟨P,0,none⟩)] w (RdP P g cap ts nest (rd .atom nest l) w)
def CL (lv : Nat) (l : List Tk) : Prop:=∀ (nest : Nat) (w : World),nest≤300→SP P g cap ts nest (.ok l) w→Calls Tryz.prog 128 #[.pointer (some ⟨P,0,none⟩),.int .i64 lv] w (RdP P g cap ts nest (rd (I6 lv) nest l) w)
end
theorem a58 : nd0.val none 0=.agg #[.int .i64 0,.string ⟨#[]⟩,.int .i64 0,.slice none 0 0,.int .i64 0]:=rfl
theorem RdP.fin {P g cap : Nat} {ts : List Tk} {nest : Nat} {x : Rd} {w w2 : World} {b : Nat} {t : Nd} {a : Option Addr} {cp : Nat} (hs : SP P g cap ts nest (p5 x) w2) (hg : w.grownBy w2 (some P)) (hP : b≠P∧b≠g) (hb : w.heap.size≤b)
 (hk : ∀ t' r,x=.ok (t',r)→t'=t∧(∃ av : Nat→Prop,(∀ c,av c→c≠b∧w.heap.size≤c∧c<w2.heap.size)∧t.lies av w2 a cp)∧c8 t≤100) : RdP P g cap ts nest x w (.returned (t.val a cp)) (V6 w2 b t a cp):=by
 refine ⟨t,a,cp,rfl,hs.put hP.1 hP.2 t a cp,r7 hg hb t a cp,fun t' r hx => ?_⟩
 obtain ⟨e,⟨av,hav,hl⟩,hd⟩:=hk t' r hx
 exact ⟨e,d5 hl ((j0.refl _ _).put (fun c hc => (hav c hc).1) t a cp) (fun c hc => ⟨(hav c hc).2.1,by rw [L8]; exact (hav c hc).2.2⟩),hd⟩
theorem eX (P g cap : Nat) (ts : List Tk) (nest : Nat) (σ : Sx) (w : World) (hn : nest≤300) (h : SP P g cap ts nest σ w) (hc : ∀ r,σ=.ok r→CE P g cap ts r) :
 Calls Tryz.prog 106 #[.pointer (some ⟨P,0,none⟩)] w (RdP P g cap ts nest (goX σ (rd .expr nest)) w):=by
 obtain ⟨V,hV⟩ : ∃ V,V=w.alloc (.cells #[.int .i64 0,.string ⟨#[]⟩,.int .i64 0,.slice none 0 0,.int .i64 0] 24):=⟨_,rfl⟩
 have HBV:=hid (show Below w.heap.size w V from hV ▸ c6 w _)
 have N1:=hid (show f6 w.heap.size nd0 none 0 V from hV ▸ f6.make w nd0 none 0)
 have hS:=hid (h.below HBV)
 have hb0:=hid h.blocks
 have hpP : w.heap.size≠P∧w.heap.size≠g:=⟨Nat.ne_of_gt hb0.out.1,Nat.ne_of_gt hb0.out.2⟩
 have HP:=hid hpP
 cases σ with
 | error q =>
   obtain ⟨c,p⟩:=q
   obtain ⟨hk,i,n,hp,h1,h2⟩:=hS.out.error
   have ek : (c != 0)=true:=bne_iff_ne.2 hk
   have HK:=hid hk
   obtain ⟨⟨p0,p1,p2,p3,p4⟩,-⟩:=hp.cells
   have hpl:=hp.plt
   have HW:=hid h
   clear h hc hp hk hpP
   subst hV
   go_enter Tryz.func106,Tryz.ntmps106
   go_wp2_with fail
   refine bodyPost_ret (v:=nd0.val none 0) (by simp [results,Tryz.results106,go_sem,a58]) rfl ?_
   have HF:=c6 w (.cells #[.int .i64 0,.string ⟨#[]⟩,.int .i64 0,.slice none 0 0,.int .i64 0] 24)
   exact RdP.err nd0 none 0 rfl (HW.out.below HF) (b8 HF)
 | ok r =>
   obtain ⟨i,hi,hp⟩:=hS.out.ok
   obtain ⟨⟨p0,p1,p2,p3,p4⟩,-⟩:=hp.cells
   have hpl:=hp.plt
   have C:=hid (hc r rfl nest V hn hS)
   clear h hc hp hpP hi
   subst hV
   go_enter Tryz.func106,Tryz.ntmps106
   go_wp2_with fail
   (with_reducible refine Calls.mono C.out ?_)
   rintro e w2 ⟨t,a,cp,rfl,hs,hg,hk⟩
   have HS2:=hid hs
   have HG2:=hid hg
   have HK:=hid hk
   obtain ⟨⟨z0,z1,z2,z3,z4⟩,⟨f0,f1,f2,f3,f4⟩⟩:=(N1.out.grown hg HP.out.1).cells
   have hsz : w.heap.size<w2.heap.size:=(N1.out.grown hg HP.out.1).lt
   clear hs hg hk p0 p1 p2 p3 p4 hpl
   unfold Nd.val
   go_wp2_with fail
   refine bodyPost_ret (v:=t.val a cp) (by simp [results,Tryz.results106,go_sem,Nd.val,z0,z1,z2,z3,z4]) rfl ?_
   refine RdP.fin HS2 (b6 (b8 HBV) HG2) HP (Nat.le_refl _) fun t' r' hx => ?_
   obtain ⟨e,hl,hd⟩:=HK.out t' r' hx
   exact ⟨e,⟨_,fun c hc => ⟨fun e => by subst e; have:=hc.1; simp at this; omega,Nat.le_trans HBV.out.size hc.1,hc.2⟩,hl⟩,hd⟩
end
section
open Lib (hid)
open Go.RowKit
theorem a29 {av : Nat→Prop} {W : World} {t : Nd} {a : Option Addr} {cp b : Nat} {k : Int} {T : Tk} {A : TypeId} (hk : (Lit.int .i64 k).wf=true) (hT : z8 T) (hb : av b) (h : W.heap[b]?=some (.cells #[.int .i64 t.kind,.string t.text,.int .i64 t.n,.slice a t.kids.length cp,.int .i64 t.place] A (0,0))) (hl : t.lies av W a cp) :
 (mkN k T.text 0 [t] T.pos).lies av W (some ⟨b,0,none⟩) 1 :=
 Nd.lies.mk' hk (by have:=hT.2.2; show T.text.toArray.size≤maxLen; unfold maxLen; simp; omega) rfl hT.2.1 (Nat.le_refl _) (by unfold maxLen; decide) (a6e hb h hl)
theorem a0F (k : Int) (s : List UInt8) (n p : Int) (t : Nd) : c8 (mkN k s n [t] p)=c8 t + 1:=by
 unfold mkN; rw [c8,i8,i8,Nat.max_zero]
theorem f6.oput {b c : Nat} {t : Nd} {a : Option Addr} {cp : Nat} {W : World} (h : f6 b t a cp W) (hc : b≠c) (t' : Nd) (a' : Option Addr) (cp' : Nat) : f6 b t a cp (V6 W c t' a' cp'):=((((h.set hc _ _).set hc _ _).set hc _ _).set hc _ _).set hc _ _
theorem Y0.oput {b c : Nat} {t : Tk} {W : World} (h : Y0 b t W) (hc : b≠c) (t' : Nd) (a' : Option Addr) (cp' : Nat) : Y0 b t (V6 W c t' a' cp'):=((((h.set hc _ _).set hc _ _).set hc _ _).set hc _ _).set hc _ _
theorem eG (P g cap : Nat) (ts : List Tk) (nest : Nat) (σ : Sx) (k : Int) (s : List UInt8) (n : Int) (ks : List Nd) (p : Int) (a : Option Addr) (len cp : Nat) (hlen : ks.length=len) (w : World) (hn : nest≤300) (h : SP P g cap ts nest σ w)
 (hd : ∀ r,σ=.ok r→c8 (mkN k s n ks p)≤101∧∃ av : Nat→Prop,(∀ b,av b→b<w.heap.size)∧(mkN k s n ks p).lies av w a cp) :
 Calls Tryz.prog 107 #[.pointer (some ⟨P,0,none⟩),.agg #[.int .i64 k,.string ⟨s.toArray⟩,.int .i64 n,.slice a len cp,.int .i64 p]] w (a4T P g cap ts nest σ (mkN k s n ks p) a cp w):=by
 subst hlen
 exact tV P g cap ts nest σ (mkN k s n ks p) a cp w hn h hd
theorem mX (P g cap : Nat) (ts : List Tk) (he : y7 ts) (htk : ∀ t∈ts,z8 t) (u : Bool) (l : List Tk) (nest : Nat) (w : World) (hn : nest≤300) (h : SP P g cap ts nest (.ok l) w) (hc : (u=true→CU P g cap ts (b9 l))∧(u=false→CN P g cap ts (b9 l))) :
 Calls Tryz.prog 183 #[.pointer (some ⟨P,0,none⟩),.bool u] w (RdP P g cap ts nest (U0 nest l ((rd (if u=true then .unary else .not) (nest + 1) (b9 l)).then fun t r => made (mkN 12 (hd l).text 0 [t] (hd l).pos) r)) w):=by
 obtain ⟨V,hV⟩ : ∃ V,V=(w.alloc (.cells #[.int .i64 0,.string ⟨#[]⟩,.int .i64 0,.slice none 0 0,.int .i64 0] 24)).alloc (.cells #[.int .i64 0,.string ⟨#[]⟩,.int .i64 0,.slice none 0 0,.int .i64 0] 24):=⟨_,rfl⟩
 have HBV:=hid (show Below w.heap.size w V from hV ▸ (c6 w _).trans ((c6 _ _).mono (c6 w _).size))
 have hsV:=hid (show V.heap.size=w.heap.size + 2 by rw [hV]; simp)
 have N1:=hid (show f6 w.heap.size nd0 none 0 V from hV ▸ (f6.make w nd0 none 0).below (c6 _ _))
 have N2:=hid (show f6 (w.heap.size + 1) nd0 none 0 V by
  have:=f6.make (w.alloc (.cells #[.int .i64 0,.string ⟨#[]⟩,.int .i64 0,.slice none 0 0,.int .i64 0] 24)) nd0 none 0
  rw [hV]
  simpa [nd0,Nd.kind,Nd.text,Nd.n,Nd.kids,Nd.place] using this)
 have hS:=hid (h.below HBV)
 have hb0:=hid h.blocks
 have HP:=hid (show (w.heap.size≠P∧w.heap.size≠g)∧(w.heap.size + 1≠P∧w.heap.size + 1≠g) by have:=hb0.out; omega)
 have C1:=hid (pQ P g cap ts nest l V hn hS)
 have HC:=hid hc
 have HT0:=hid (htk _ h.mem)
 obtain ⟨X,hX⟩ : ∃ X,X=U0 nest l ((rd (if u=true then .unary else .not) (nest + 1) (b9 l)).then fun t r => made (mkN 12 (hd l).text 0 [t] (hd l).pos) r):=⟨_,rfl⟩
 rw [← hX]
 have HX:=hid hX
 clear h hc htk hX
 go_enter Tryz.func183,Tryz.ntmps183
 go_wp2_with fail
 rw [← hV]
 clear hV
 (with_reducible refine Calls.mono C1.out ?_)
 rintro e w2 ⟨rfl,hs2,hg2⟩
 have B1:=hid (N1.out.grown hg2 HP.out.1.1)
 have B2:=hid (N2.out.grown hg2 HP.out.2.1)
 have G2:=hid (b6 (b8 HBV) hg2)
 have hsz : w.heap.size<w2.heap.size∧w.heap.size + 1<w2.heap.size:=⟨B1.out.lt,B2.out.lt⟩
 clear hg2
 by_cases hk : 300<nest + 1
 ·have R:=hid (show X=.error (75,(hd l).pos) from HX.out.trans (if_pos hk))
  have E : iC nest (.ok l)=.error (75,(hd l).pos):=if_pos hk
  rw [E] at hs2
  obtain ⟨-,i,n,hp,-,-⟩:=hs2.error
  obtain ⟨⟨p0,p1,p2,p3,p4⟩,-⟩:=hp.cells
  have hpl:=hp.plt
  obtain ⟨⟨z0,z1,z2,z3,z4⟩,⟨f0,f1,f2,f3,f4⟩⟩:=B1.out.cells
  obtain ⟨⟨n0,n1,n2,n3,n4⟩,-⟩:=B2.out.cells
  have HS2:=hid (hs2.mono (Nat.le_succ nest))
  clear hk E hs2 hp
  go_wp2_with fail
  refine bodyPost_ret (v:=nd0.val none 0) (by simp [results,Tryz.results183,go_sem,Nd.val,z0,z1,z2,z3,z4]) rfl ?_
  rw [R.out]
  exact RdP.fin (x:=.error (75,(hd l).pos)) HS2 G2 HP.out.1 (Nat.le_refl _) (fun _ _ h => by cases h)
 ·have R:=hid (show X=((rd (if u=true then .unary else .not) (nest + 1) (b9 l)).then fun t r => made (mkN 12 (hd l).text 0 [t] (hd l).pos) r) from HX.out.trans (if_neg hk))
  have E : iC nest (.ok l)=.ok l:=if_neg hk
  rw [E] at hs2
  obtain ⟨i,-,hp⟩:=hs2.ok
  obtain ⟨⟨p0,p1,p2,p3,p4⟩,-⟩:=hp.cells
  have hpl:=hp.plt
  have C2:=hid (cP P g cap ts (nest + 1) (.ok l) w2 hs2 he)
  have hn1:=hid (show nest + 1≤300 by omega)
  clear hk E hs2 hp
  go_wp2_with fail
  (with_reducible refine Calls.mono C2.out ?_)
  rintro e w3 ⟨T,rfl,hs3,hg3,hT⟩
  have HT:=hid (hT l rfl)
  clear hT
  have D1:=hid (B1.out.grown hg3 HP.out.1.1)
  have D2:=hid (B2.out.grown hg3 HP.out.2.1)
  have G3:=hid (b6 G2 hg3)
  obtain ⟨W4,hW4⟩ : ∃ W,W=w3.alloc (.cells #[.int .i64 T.kind,.string ⟨T.text.toArray⟩,.int .i64 T.n,.int .i64 T.pos] 67):=⟨_,rfl⟩
  have HB4:=hid (show Below w3.heap.size w3 W4 from hW4 ▸ c6 _ _)
  have T4:=hid (show Y0 w3.heap.size T W4 from hW4 ▸ Y0.make w3 T)
  have HS4:=hid (SP.below hs3 HB4)
  have E1:=hid (D1.out.below HB4)
  have E2:=hid (D2.out.below HB4)
  have G4:=hid (d8 G3 (HB4.out.mono G3.out.size))
  have hP3:=hid (show w3.heap.size≠P∧w3.heap.size≠g by have:=hs3.blocks; omega)
  have hsz4:=hid (show w.heap.size + 1<w3.heap.size from D2.out.lt)
  clear hs3 hg3 p0 p1 p2 p3 p4 hpl
  unfold tkV
  cases u
  case' false =>
   have C3:=hid (HC.out.2 rfl (nest + 1) W4 hn1 HS4)
   have R':=hid (show X=Rd.then (rd .not (nest + 1) (b9 l)) (fun t r => made (mkN 12 (hd l).text 0 [t] (hd l).pos) r) from R)
   generalize rd .not (nest + 1) (b9 l)=y at R' C3
  case' true =>
   have C3:=hid (HC.out.1 rfl (nest + 1) W4 hn1 HS4)
   have R':=hid (show X=Rd.then (rd .unary (nest + 1) (b9 l)) (fun t r => made (mkN 12 (hd l).text 0 [t] (hd l).pos) r) from R)
   generalize rd .unary (nest + 1) (b9 l)=y at R' C3
  all_goals
   clear R HX
   go_wp2_with fail
   rw [← hW4]
   clear hW4
   (with_reducible refine Calls.mono C3.out ?_)
   rintro e w5 ⟨t,a,cp,rfl,hs5,hg5,hk5⟩
   unfold Nd.val
   clear C3
   have F1:=hid ((E1.out.grown hg5 HP.out.1.1).oput (c:=w.heap.size + 1) (by omega) t a cp)
   have F2:=hid ((E2.out.grown hg5 HP.out.2.1).put t a cp)
   have F3:=hid ((T4.out.grown hg5 hP3.out.1).oput (c:=w.heap.size + 1) (by have:=hsz4.out; omega) t a cp)
   have HS6:=hid (hs5.put HP.out.2.1 HP.out.2.2 t a cp)
   have G6:=hid (r7 (b6 G4 hg5) (show w.heap.size≤w.heap.size + 1 by omega) t a cp)
   have HK5:=hid hk5
   have hsz5:=hid (show W4.heap.size≤w5.heap.size from hg5.size)
   obtain ⟨⟨z0,z1,z2,z3,z4⟩,⟨f0,f1,f2,f3,f4⟩⟩:=(E2.out.grown hg5 HP.out.2.1).cells
   clear hs5 hg5 hk5
   obtain ⟨W6,hW6⟩ : ∃ W,W=V6 w5 (w.heap.size + 1) t a cp:=⟨_,rfl⟩
   rw [← hW6] at F1 F2 F3 HS6 G6
   go_upto_region 9 with fail
   have hW6':=hW6
   unfold V6 at hW6'
   rw [← hW6']
   clear hW6' z0 z1 z2 z3 z4 f0 f1 f2 f3 f4
   have HW6:=hid hW6
   clear hW6
   obtain ⟨m,hm1,hm2,p2,q2,hs7⟩:=HS6.out.nest
   obtain ⟨W7,hW7⟩ : ∃ W,W=W6.setCell ⟨P,2,none⟩ (.int .i64 (m - 1)):=⟨_,rfl⟩
   have J1:=hid (show f6 w.heap.size nd0 none 0 W7 from hW7 ▸ F1.out.set HP.out.1.1 _ _)
   have J2:=hid (show f6 (w.heap.size + 1) t a cp W7 from hW7 ▸ F2.out.set HP.out.2.1 _ _)
   have J3:=hid (show Y0 w3.heap.size T W7 from hW7 ▸ F3.out.set hP3.out.1 _ _)
   have HS7:=hid (show SP P g cap ts nest _ W7 from hW7 ▸ hs7)
   have G7:=hid (show w.grownBy W7 (some P) from hW7 ▸ b6 G6 (e9 _ _ _ _))
   have hpl:=HS6.out.blocks.1
   clear hs7
   go_upto_region 10 with fail
   rw [← hW7]
   have HW7:=hid hW7
   clear hW7 p2 q2 hpl
   obtain ⟨⟨t0,t1,t2,t3⟩,-⟩:=J3.out.cells
   obtain ⟨⟨n0,n1,n2,n3,n4⟩,-⟩:=J2.out.cells
   obtain ⟨W8,hW8⟩ : ∃ W,W=W7.alloc (.cells #[.int .i64 t.kind,.string t.text,.int .i64 t.n,.slice a t.kids.length cp,.int .i64 t.place] 24):=⟨_,rfl⟩
   have HB8:=hid (show Below W7.heap.size W7 W8 from hW8 ▸ c6 _ _)
   have K1:=hid (J1.out.below HB8)
   have K3:=hid (J3.out.below HB8)
   have K4:=hid (show f6 W7.heap.size t a cp W8 from hW8 ▸ f6.make W7 t a cp)
   have HS8:=hid (HS7.out.below HB8)
   have G8:=hid (d8 G7 (HB8.out.mono G7.out.size))
   have hsz7:=hid (show w5.heap.size=W7.heap.size by rw [HW7.out,HW6.out]; simp [World.setCell,L8])
   have hbw:=hid (show P<W4.heap.size∧w3.heap.size<W4.heap.size from ⟨HS4.out.blocks.1,T4.out.lt⟩)
   have HD:=hid (show ∀ r,p5 y=.ok r→c8 (mkN 12 T.text 0 [t] T.pos)≤101∧(mkN 12 T.text 0 [t] T.pos).lies (Fr W4.heap.size W8.heap.size) W8 (some ⟨W7.heap.size,0,none⟩) 1 from fun r hr => by
    obtain ⟨t',ht'⟩:=D8 hr
    obtain ⟨rfl,hl,hd⟩:=HK5.out t' r ht'
    refine ⟨by rw [a0F]; omega,a29 rfl (HT.out ▸ HT0.out) ⟨by have:=hsz5.out; have:=hsz7.out; omega,K4.out.lt⟩ K4 (d5 hl ?_ fun b hb => ⟨hb.1,by have:=hsz7.out; have:=HB8.out.size; have:=hb.2; omega⟩)⟩
    have k1 : j0 (Fr W4.heap.size w5.heap.size) w5 W7:=by
     rw [HW7.out,HW6.out]
     exact ((j0.refl _ w5).put (fun b hb e => by subst e; have:=hb.1; have:=hbw.out.2; have:=hsz4.out; omega) _ _ _).set (fun b hb e => by subst e; have:=hb.1; have:=hbw.out.1; omega) _ _
    exact k1.trans fun b hb => HB8.out.block b (by have:=hb.2; have:=hsz7.out; omega))
   have C4:=hid (eG P g cap ts nest (p5 y) 12 T.text 0 [t] T.pos (some ⟨W7.heap.size,0,none⟩) 1 1 rfl W8 hn HS8 fun r hr => ⟨(HD.out r hr).1,_,fun b hb => hb.2,(HD.out r hr).2⟩)
   obtain ⟨⟨u0,u1,u2,u3⟩,-⟩:=K3.out.cells
   subst hW8
   go_wp2_with fail
   (with_reducible refine Calls.mono C4.out ?_)
   rintro e w9 ⟨rfl,hs9,hg9⟩
   have hB7 : w.heap.size<W7.heap.size:=J1.out.lt
   obtain ⟨⟨z0,z1,z2,z3,z4⟩,⟨f0,f1,f2,f3,f4⟩⟩:=(K1.out.grown hg9 HP.out.1.1).cells
   have hsz9 : w.heap.size<w9.heap.size:=(K1.out.grown hg9 HP.out.1.1).lt
   have HS9:=hid hs9
   have G9:=hid (b6 G8 hg9)
   have HG9:=hid hg9
   clear hs9 hg9 t0 t1 t2 t3 n0 n1 n2 n3 n4 u0 u1 u2 u3
   rw [show (mkN 12 T.text 0 [t] T.pos).val (some ⟨W7.heap.size,0,none⟩) 1=.agg #[.int .i64 12,.string ⟨T.text.toArray⟩,.int .i64 0,.slice (some ⟨W7.heap.size,0,none⟩) 1 1,.int .i64 T.pos] from rfl]
   go_wp2_with fail
   refine bodyPost_ret (v:=(mkN 12 T.text 0 [t] T.pos).val (some ⟨W7.heap.size,0,none⟩) 1) (by simp [results,Tryz.results183,go_sem,Nd.val,mkN,Nd.kind,Nd.text,Nd.n,Nd.kids,Nd.place,z0,z1,z2,z3,z4]) rfl ?_
   have hX : X=goX (p5 y) (made (mkN 12 T.text 0 [t] T.pos)):=by
    rw [R'.out,aP (t:=t) (fun t' r h => (HK5.out t' r h).1),HT.out]
   have hO : p5 X=gV (mkN 12 T.text 0 [t] T.pos) (p5 y):=by rw [hX,fD]
   refine RdP.fin (by rw [hO]; exact HS9) G9 HP.out.1 (Nat.le_refl _) fun t' r hx => ?_
   rw [hX] at hx
   obtain ⟨e1,e2,e3⟩:=fS _ _ hx
   refine ⟨e1,⟨_,fun c hc => ⟨?_,?_,Nat.lt_of_lt_of_le hc.2 HG9.out.size⟩,d5 (HD.out r e2).2 ((j0.refl _ _).grown HG9 fun b hb => ⟨hb.2,?_⟩) fun b hb => hb⟩,e3⟩
   ·rintro rfl
    have:=hc.1; have:=hbw.out.2; have:=hsz4.out; omega
   ·have:=hc.1; have:=hbw.out.2; have:=hsz4.out; omega
   ·rintro rfl
    have:=hb.1; have:=hbw.out.1; omega
end
end Go.Proofs.YtibiccacafjjfaaGreatDoor
