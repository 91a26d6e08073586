/-
  Laws that the proof rests on.
-/
import Derived.Test.YtppcfebnaieciaaGreatDoorE16
import Derived.Test.YtppcfebnaieciaaGreatDoorE04
import Derived.Deep.AppendLies
import Derived.IntWalk
import Derived.Test.YtppcfebnaieciaaGreatDoorE05
import Derived.Test.YtppcfebnaieciaaGreatDoorE15
import Derived.Test.YtppcfebnaieciaaGreatDoorE07
import Derived.Test.YtppcfebnaieciaaGreatDoorE09
namespace Go.Proofs.YtppcfebnaieciaaGreatDoor
set_option maxRecDepth 100000
set_option maxHeartbeats 16000000
section
open Lib (hid)
open Go.RowKit
def X3 (c c' : CM) (w : World) : Prop:=∀ a : Addr,some a∈c'.ps→some a∈c.ps∨w.heap.size≤a.block
theorem X3.refl (c : CM) (w : World) : X3 c c w:=fun _ h => .inl h
theorem X3.trans {c c' c'' : CM} {w w' : World} (h : X3 c c' w) (k : X3 c' c'' w') (hs : w.heap.size≤w'.heap.size) : X3 c c'' w:=fun a ha => by
 rcases k a ha with g | g
 ·exact h a g
 ·exact .inr (Nat.le_trans hs g)
def a0b (B F : Nat) (c : CM) (S' φ' : List Int) (w : World) (e : Ending) (w' : World) : Prop:=∃ (c' : CM) (kn' : List (Option Int)) (ro' rk' : Nat→Nat),e=.returned (.int .i64 (c.up.length : Nat))∧c'.up.length=c.up.length + 1∧Cls B F c' kn' ro' rk' S' φ' w'∧Mv F c c' w w'∧X3 c c' w
theorem CM.In.far_new {B F : Nat} {c : CM} {kn : List (Option Int)} {w : World} (h : c.In B F kn w) (o : Obj) : Far F c (w.alloc o) w.heap.size :=
 ⟨by simp,by have:=h.lt; have:=h.le; omega,fun e => by have:=(h.u_lt e).2; omega,fun e => by have:=(h.k_lt e).2; omega⟩
theorem Cls.below {B F : Nat} {c : CM} {kn : List (Option Int)} {ro rk : Nat→Nat} {S φ : List Int} {w w' : World} (h : Cls B F c kn ro rk S φ w) (hb : Below w.heap.size w w') : Cls B F c kn ro rk S φ w':=⟨h.hin.below hb,h.uf,h.sim,h.norm,h.ps⟩
theorem zW {B F : Nat} {c : CM} {kn : List (Option Int)} {ro rk : Nat→Nat} {S φ : List Int} {w : World} (h : Cls B F c kn ro rk S φ w) (hl : c.up.length≤1000000) :
 Calls Tryz.prog 53 #[.pointer (some ⟨F,4,none⟩),.pointer none] w (a0b B F c (frT S) (φ ++ [5 + (S.length : Int)]) w) :=
 (sY B F c kn none none w h.hin hl (by rw [h.ps]; exact hl) rfl).mono fun _ _ ⟨c',h1,h2,h3,h4,h5⟩ => by
   have hl' : c'.up.length=c.up.length + 1:=by rw [h2]; simp
   exact ⟨c',kn ++ [none],_,rk,h1,hl',⟨h4,h2 ▸ h.uf.add,by rw [hl']; exact h.sim.addN h.norm,mJ h.norm,by rw [h3,hl',List.length_append,h.ps]; rfl⟩,h5,fun a ha => .inl (by rw [h3] at ha; simpa using ha)⟩
theorem fB {B F : Nat} {c : CM} {kn : List (Option Int)} {ro rk : Nat→Nat} {S φ : List Int} {w : World} (h : Cls B F c kn ro rk S φ w) (hl : c.up.length≤1000000) (t : Int) (ht : 0≤t∧t<5) :
 Calls Tryz.prog 90 #[.pointer (some ⟨F,0,none⟩),.int .i64 t] w (a0b B F c S (φ ++ [t]) w):=by
 obtain ⟨W1,hW1⟩ : ∃ W,W=w.alloc (.cells #[.int .i64 t] 3):=⟨_,rfl⟩
 have B1:=hid (show Below w.heap.size w W1 from hW1 ▸ a7 _ _)
 have K1:=hid (show iC B F c (some t) (some ⟨w.heap.size,0,none⟩) W1 from ⟨w.heap.size,rfl,h.hin.le,hW1 ▸ h.hin.far_new _,by rw [hW1]; simp⟩)
 have H1:=hid (h.below B1)
 have hFl:=H1.out.hin.cells.2.2
 have C:=hid (sY B F c kn (some t) (some ⟨w.heap.size,0,none⟩) W1 H1.out.hin hl (by rw [h.ps]; exact hl) K1)
 have HP:=hid h.ps
 clear h hl
 go_enter Tryz.func90,Tryz.ntmps90
 go_wp2_with fail
 rw [← hW1]
 clear hW1
 (with_reducible refine Calls.mono C.out ?_)
 rintro e w2 ⟨c',rfl,h2,h3,h4,h5⟩
 have HQ:=hid (show c'.up.length=c.up.length + 1∧Cls B F c' (kn ++ [some t]) (fun z => if z<c.up.length then ro z else z) rk S (φ ++ [t]) w2 from by
  have hl' : c'.up.length=c.up.length + 1:=by rw [h2]; simp
  exact ⟨hl',h4,h2 ▸ H1.out.uf.add,by rw [hl']; exact H1.out.sim.addK ht,H1.out.norm,by rw [h3,hl',List.length_append,HP.out]; rfl⟩)
 have HM:=hid ((Mv.of B1).trans h5)
 have HN:=hid (show X3 c c' w from fun a ha => by
  rw [h3,List.mem_append] at ha
  rcases ha with ha | ha
  ·exact .inl ha
  ·rw [List.mem_singleton] at ha; cases ha; exact .inr (Nat.le_refl _))
 clear h2 h3 h4 h5 C
 go_wp2_with fail
 go_ret
 exact ⟨c',_,_,rk,rfl,HQ.out.1,HQ.out.2,HM,HN⟩
end
section
open Go.RowKit
def v6 (av : Nat→Prop) (W : World) (a : Option Addr) (l : List Int) : Prop:=∀ j (h : j<l.length),∃ b off,a=some ⟨b,off,none⟩∧av b∧W.cell? ⟨b,off + j,none⟩=some (.int .i64 l[j])
def bsA (l : List UInt8) : ByteArray:=⟨l.toArray⟩
def Sch.At (av : Nat→Prop) (W : World) (b off : Nat) (d : Sch) : Prop:=∃ pa pc,W.cell? ⟨b,off,none⟩=some (.string (bsA d.name))∧W.cell? ⟨b,off + 1,none⟩=some (.slice pa d.params.length pc)∧W.cell? ⟨b,off + 2,none⟩=some (.int .i64 d.result)∧v6 av W pa d.params∧d.params.length≤pc∧pc≤maxLen∧(pa=none→pc=0)
def Y1 (av : Nat→Prop) (W : World) (a : Option Addr) (l : List Sch) : Prop:=∀ j (h : j<l.length),∃ b off,a=some ⟨b,off,none⟩∧av b∧b<W.heap.size∧l[j].At av W b (off + j * 3)
theorem v6.move {av av' : Nat→Prop} {W W' : World} {a : Option Addr} {l : List Int} (h : v6 av W a l) (hk : ∀ b,av b→W'.heap[b]?=W.heap[b]?) (ha : ∀ b,av b→av' b) : v6 av' W' a l:=fun j hj => by
 obtain ⟨b,off,h1,h2,h3⟩:=h j hj
 exact ⟨b,off,h1,ha b h2,(World.cell?_of_block (hk b h2)).trans h3⟩
theorem Sch.At.move {av av' : Nat→Prop} {W W' : World} {b off : Nat} {d : Sch} (h : d.At av W b off) (hb : av b) (hk : ∀ b,av b→W'.heap[b]?=W.heap[b]?) (ha : ∀ b,av b→av' b) : d.At av' W' b off:=by
 obtain ⟨pa,pc,h1,h2,h3,h4,h5,h6⟩:=h
 exact ⟨pa,pc,(World.cell?_of_block (hk b hb)).trans h1,(World.cell?_of_block (hk b hb)).trans h2,(World.cell?_of_block (hk b hb)).trans h3,h4.move hk ha,h5,h6⟩
theorem Y1.move {av av' : Nat→Prop} {W W' : World} {a : Option Addr} {l : List Sch} (h : Y1 av W a l) (hk : ∀ b,av b→W'.heap[b]?=W.heap[b]?) (ha : ∀ b,av b→av' b) (hs : W.heap.size≤W'.heap.size) : Y1 av' W' a l:=fun j hj => by
 obtain ⟨b,off,h1,h2,h3,h4⟩:=h j hj
 exact ⟨b,off,h1,ha b h2,Nat.lt_of_lt_of_le h3 hs,h4.move h2 hk ha⟩
def cZ (av : Nat→Prop) (W : World) (x : Option Sch) (v : Value) : Prop:=match x with
 | some d => ∃ pa pc,v=.agg #[.string (bsA d.name),.slice pa d.params.length pc,.int .i64 d.result]∧v6 av W pa d.params∧d.params.length≤pc∧pc≤maxLen∧(pa=none→pc=0)
 | none => v=.agg #[.string ⟨#[]⟩,.slice none 0 0,.int .i64 0]
theorem yN {l : List Sch} {s : List UInt8} (h : ∀ j (hj : j<l.length),l[j].name≠s) : m8 l s=none:=by
 unfold m8
 rw [List.find?_eq_none]
 intro x hx
 obtain ⟨j,hj,rfl⟩:=List.getElem_of_mem hx
 simpa using h j hj
end
section
open Go.RowKit
theorem Y6 (w : World) (o : Obj) : (w.alloc o).heap[w.heap.size]?=some o:=by show (w.heap.push o)[w.heap.size]?=_; exact Array.getElem?_push_size
theorem iZ {w : World} {o : Obj} {i : Nat} {x : Option Obj} (hi : i<w.heap.size) (h : w.heap[i]?=x) : (w.alloc o).heap[i]?=x:=by
 rw [← h]; show (w.heap.push o)[i]?=_; rw [Array.getElem?_push,if_neg (by omega)]
theorem Q8 (w : World) (o : Obj) {i : Nat} (h : i=w.heap.size) : (w.alloc o).heap[i]?=some o:=by rw [h]; exact Y6 w o
theorem zC (w : World) (o : Obj) : (w.alloc o).heap.size=w.heap.size + 1:=by simp
theorem eZ {W W' : World} {B T k g n cap : Nat} {xs : List Value} (h : W.ownsRow B T k (.slice (some ⟨g,0,none⟩) n cap) n xs) (e : W'.heap[g]?=W.heap[g]?) : W'.ownsRow B T k (.slice (some ⟨g,0,none⟩) n cap) n xs:=by
 obtain ⟨h1,h2⟩:=h
 refine ⟨h1,.inr ?_⟩
 rcases h2 with ⟨e,-⟩ | ⟨g',cap',cur,e',hb,hg,h3⟩
 ·obtain ⟨e,-⟩:=Value.slice.inj e; cases e
 ·obtain ⟨e1,-,e2⟩:=Value.slice.inj e'
  cases e1; subst e2
  exact ⟨g,cap,cur,rfl,hb,e.trans hg,h3⟩
theorem pO {t : Int} {ts : List Int} {m : List (Int × Int)} {S : List Int} (h : t<5) : s9 (t :: ts) m S=(t :: (s9 ts m S).1,(s9 ts m S).2):=by
 rw [s9,if_pos h]
theorem zN {t x : Int} {ts : List Int} {m : List (Int × Int)} {S : List Int} (h : ¬ t<5) (e : m.lookup t=some x) : s9 (t :: ts) m S=(x :: (s9 ts m S).1,(s9 ts m S).2):=by
 rw [s9,if_neg h,e]
theorem a0g {t : Int} {ts : List Int} {m : List (Int × Int)} {S : List Int} (h : ¬ t<5) (e : m.lookup t=none) : s9 (t :: ts) m S=((5 + (S.length : Int)) :: (s9 ts ((t,5 + (S.length : Int)) :: m) (frT S)).1,(s9 ts ((t,5 + (S.length : Int)) :: m) (frT S)).2):=by
 rw [s9,if_neg h,e]
theorem a4z {L outs : List Int} {k : Nat} (x : Int) (hk : k<L.length) (h : outs.length=k) : (outs ++ L.drop k).set k x=outs ++ [x] ++ L.drop (k + 1):=by
 subst h
 rw [List.set_append_right _ _ (Nat.le_refl _),Nat.sub_self,List.drop_eq_getElem_cons hk,List.set_cons_zero,List.append_assoc]
 rfl
theorem a4Q (l : List Int) (m : List (Int × Int)) (S : List Int) : (s9 l m S).1.length=l.length:=by
 induction l generalizing m S with
 | nil => simp [s9]
 | cons t ts ih =>
   by_cases h : t<5
   ·rw [pO h]; simp [ih]
   ·cases e : m.lookup t with
    | none => rw [a0g h e]; simp [ih]
    | some x => rw [zN h e]; simp [ih]
end
section
open Go.RowKit
theorem cZ.move {av av' : Nat→Prop} {W W' : World} {x : Option Sch} {v : Value} (h : cZ av W x v) (hk : ∀ b,av b→W'.heap[b]?=W.heap[b]?) (ha : ∀ b,av b→av' b) : cZ av' W' x v:=by
 cases x with
 | none => exact h
 | some d =>
   obtain ⟨pa,pc,h1,h2,h3⟩:=h
   exact ⟨pa,pc,h1,h2.move hk ha,h3⟩
end
section
open Lib (hid)
open Go.RowKit
theorem mM (P g cap : Nat) (ts : List Tk) (nest : Nat) (r : List Tk) (w : World) (hn : nest≤300) (h : SP P g cap ts nest (.ok r) w) :
 Calls Tryz.prog 102 #[.pointer (some ⟨P,0,none⟩)] w (a5l P g cap ts (nest + 1) (dZ nest (.ok r)) w):=by
 obtain ⟨a,rfl,hp⟩:=h.ok
 obtain ⟨⟨p0,p1,p2,p3,p4⟩,⟨g0,g1,g2,g3,g4⟩⟩:=hp.cells
 have HG:=hid (F7 w P 2 (.int .i64 ((nest : Int) + 1)))
 have H1:=hid (hp.set_nest ((nest : Int) + 1))
 have R:=hid (show dZ nest (.ok (ts.drop a))=if 300<nest + 1 then .error (75,(hd (ts.drop a)).pos) else .ok (ts.drop a) from rfl)
 have D:=hid (gR hp.pos)
 have C1:=hid (Y7 P g cap ts a _ 0 0 _ H1)
 have hpos:=hp.pos
 generalize ts[a]'hpos=T at C1 D
 clear h hp
 go_enter Tryz.func102,Tryz.ntmps102
 by_cases hb : 300<nest + 1
 ·have hb' : (300 : Int)<(nest : Int) + 1:=by omega
  have R2:=hid (show dZ nest (.ok (ts.drop a))=.error (75,(hd (ts.drop a)).pos) by rw [R.out,if_pos hb])
  clear hb
  go_wp2_with fail
  (with_reducible refine Calls.mono C1.out ?_)
  rintro e w2 ⟨rfl,hb⟩
  have H2:=hid (H1.out.below hb)
  have HB2:=hid hb
  clear hb
  have C3:=hid (J6 P g cap ts a _ w2 75 T.pos H2)
  unfold tkV
  have hfd:=aK T.kind T.n T.pos ⟨T.text.toArray⟩
  go_wp2_with fail
  (with_reducible refine Calls.mono C3.out ?_)
  rintro e w3 ⟨rfl,hp,hg⟩
  go_wp2_with fail
  (first | (refine bodyPost_end (results_none rfl _ _ _) rfl ?_) | (refine bodyPost_ret (results_none rfl _ _ _) rfl ?_))
  refine ⟨rfl,?_,a6 HG (a6 (c9 HB2) hg)⟩
  rw [R2.out,D.out]
  exact SP.of_error hp (by decide) (by omega) (by omega)
 ·have hb' : ¬ (300 : Int)<(nest : Int) + 1:=by omega
  have R2:=hid (show dZ nest (.ok (ts.drop a))=.ok (ts.drop a) by rw [R.out,if_neg hb])
  clear hb
  go_wp2_with fail
  (first | (refine bodyPost_end (results_none rfl _ _ _) rfl ?_) | (refine bodyPost_ret (results_none rfl _ _ _) rfl ?_))
  refine ⟨rfl,?_,HG⟩
  rw [R2.out]
  exact SP.of_ok (by have:=H1.out; rw [Int.natCast_add]; exact this) rfl
def TkP (P g cap : Nat) (ts : List Tk) (nest : Nat) (σ σ' : Sx) (w : World) (e : Ending) (w' : World) : Prop:=∃ t : Tk,e=.returned (tkV t)∧SP P g cap ts nest σ' w'∧w.grownBy w' (some P)∧∀ r,σ=.ok r→t=hd r
theorem bG (P g cap : Nat) (ts : List Tk) (nest : Nat) (σ : Sx) (k : Int) (w : World) (hn : nest≤300) (h : SP P g cap ts nest σ w) (he : bT ts) :
 Calls Tryz.prog 98 #[.pointer (some ⟨P,0,none⟩),.int .i64 k] w (TkP P g cap ts nest σ (x8 k σ) w):=by
 obtain ⟨V,hV⟩ : ∃ V,V=w.alloc (.cells #[.int .i64 0,.string ⟨#[]⟩,.int .i64 0,.int .i64 0] 108):=⟨_,rfl⟩
 have HBV:=hid (show Below w.heap.size w V from hV ▸ a7 _ _)
 have hsV:=hid (show V.heap.size=w.heap.size + 1 by rw [hV]; simp)
 have Z0:=hid (show bU w.heap.size V from hV ▸ bU.make w)
 have hwl : w.heap.size<V.heap.size:=by rw [hsV.out]; omega
 have hS:=hid (h.below HBV)
 have hb0:=hid h.blocks
 cases σ with
 | error q =>
   obtain ⟨c,p⟩:=q
   obtain ⟨hk,a,n,hp,h1,h2⟩:=hS.out.error
   have C:=hid (Y7 P g cap ts a n c p V hp)
   have ek : (c != 0)=true:=bne_iff_ne.2 hk
   have HK:=hid hk
   have H:=hid hp
   have hpos:=hp.pos
   generalize ts[a]'hpos=T at C
   clear h hp hk
   go_enter Tryz.func98,Tryz.ntmps98
   go_wp2_with fail
   rw [← hV]
   clear hV
   (with_reducible refine Calls.mono C.out ?_)
   rintro e w1 ⟨rfl,hb⟩
   have H1:=hid (H.out.below hb)
   obtain ⟨⟨p0,p1,p2,p3,p4⟩,-⟩:=H1.out.cells
   obtain ⟨c0,c1,c2,c3,f0,f1,f2,f3⟩:=(Z0.out.below hb).cells
   have hpl:=H1.out.plt
   have hwl1 : w.heap.size<w1.heap.size:=Nat.lt_of_lt_of_le hwl hb.size
   have HB:=hid hb
   clear hb
   unfold tkV
   go_wp2_with fail
   refine bodyPost_ret (v:=tkV T) (by simp [results,Tryz.results98,go_sem,tkV,c0,c1,c2,c3,hwl1]) rfl ?_
   have HF:=((d9 (Below.refl w.heap.size w1) (.int .i64 T.kind) (.string ⟨T.text.toArray⟩) (.int .i64 T.n) (.int .i64 T.pos)).alloc (by simpa using (HBV.out.trans (HB.out.mono HBV.out.size)).size) (.cells #[.int .i64 T.kind,.string ⟨T.text.toArray⟩,.int .i64 T.n,.int .i64 T.pos] 108))
   exact ⟨T,rfl,(SP.of_error H1 HK h1 h2).later HF hb0.out.1 hb0.out.2,c8 (c9 (HBV.out.trans (HB.out.mono HBV.out.size))) HF,fun _ h => by cases h⟩
 | ok r =>
   obtain ⟨a,rfl,hp⟩:=hS.out.ok
   have C:=hid (Y7 P g cap ts a nest 0 0 V hp)
   have H:=hid hp
   have hpos:=hp.pos
   have D:=hid (gR hpos)
   generalize ts[a]'hpos=T at C D
   clear h hp
   go_enter Tryz.func98,Tryz.ntmps98
   go_wp2_with fail
   rw [← hV]
   clear hV
   (with_reducible refine Calls.mono C.out ?_)
   rintro e w1 ⟨rfl,hb⟩
   have H1:=hid (H.out.below hb)
   obtain ⟨⟨p0,p1,p2,p3,p4⟩,-⟩:=H1.out.cells
   have hpl:=H1.out.plt
   have hwl1 : w.heap.size<w1.heap.size:=Nat.lt_of_lt_of_le hwl hb.size
   have HZ1:=hid (Z0.out.below hb)
   have HB:=hid (HBV.out.trans (hb.mono HBV.out.size))
   clear hb
   obtain ⟨W2,hW2⟩ : ∃ W,W=w1.alloc (.cells #[.int .i64 T.kind,.string ⟨T.text.toArray⟩,.int .i64 T.n,.int .i64 T.pos] 108):=⟨_,rfl⟩
   have HB2:=hid (show Below w1.heap.size w1 W2 from hW2 ▸ a7 _ _)
   have HZ2:=hid (HZ1.out.below HB2)
   have HT2:=hid (show E0 w1.heap.size T W2 from hW2 ▸ E0.make w1 T)
   have H2:=hid (H1.out.below HB2)
   have HS2:=hid (HB.out.trans (HB2.out.mono HB.out.size))
   unfold tkV
   by_cases hk : T.kind=k
   ·have e0 : (T.kind != k)=false:=by rw [hk]; exact bne_self_eq_false k
    have R:=hid (show x8 k (.ok (ts.drop a))=.ok (b9 (ts.drop a)) from if_pos (D.out ▸ hk))
    have C2:=hid (jL P g cap ts a nest 0 0 W2 H2 he)
    clear hk
    go_wp2_with fail
    rw [← hW2]
    (with_reducible refine Calls.mono C2.out ?_)
    rintro e w3 ⟨a',⟨hpa,rfl⟩,hp3,hs,hg,-⟩
    have hDT:=D.out
    rw [gR hpa] at hDT
    subst hDT
    have hne : w.heap.size≠P:=Nat.ne_of_gt hb0.out.1
    have hwl3 : w.heap.size<w3.heap.size:=Nat.lt_of_lt_of_le hwl1 (Nat.le_trans HB2.out.size hg.size)
    have HZ3:=((hg.block w.heap.size (Nat.lt_of_lt_of_le hwl1 HB2.out.size) (fun e => hne (Option.some.inj e))).trans HZ2)
    obtain ⟨c0,c1,c2,c3,f0,f1,f2,f3⟩:=bU.cells HZ3
    have H3:=hid hp3
    have G3:=hid (a6 (c9 HS2) hg)
    clear hW2 hp3 hg HZ3
    unfold tkV
    go_wp2_with fail
    refine bodyPost_ret (v:=tkV (ts[a]'hpa)) (by simp [results,Tryz.results98,go_sem,tkV,c0,c1,c2,c3]) rfl ?_
    have HF:=(d9 (Below.refl w.heap.size w3) (.int .i64 (ts[a]'hpa).kind) (.string ⟨(ts[a]'hpa).text.toArray⟩) (.int .i64 (ts[a]'hpa).n) (.int .i64 (ts[a]'hpa).pos))
    refine ⟨_,rfl,?_,c8 G3 HF,fun r h => ?_⟩
    ·rw [R.out,hs]
     exact (SP.of_ok H3 rfl).later HF hb0.out.1 hb0.out.2
    ·cases h
     exact (gR hpa).symm
   ·have e0 : (T.kind != k)=true:=bne_iff_ne.2 hk
    have R:=hid (show x8 k (.ok (ts.drop a))=.error (74,T.pos) by
     show (if (hd (ts.drop a)).kind=k then Except.ok (b9 (ts.drop a)) else .error (74,(hd (ts.drop a)).pos) : Sx)=_
     rw [D.out,if_neg hk])
    have C2:=hid (J6 P g cap ts a nest W2 74 T.pos H2)
    clear hk
    go_wp2_with fail
    rw [← hW2]
    (with_reducible refine Calls.mono C2.out ?_)
    rintro e w3 ⟨rfl,hp3,hg⟩
    have hne : w.heap.size≠P:=Nat.ne_of_gt hb0.out.1
    have hne1 : w1.heap.size≠P:=Nat.ne_of_gt hpl
    have hwl3 : w.heap.size<w3.heap.size:=Nat.lt_of_lt_of_le hwl1 (Nat.le_trans HB2.out.size hg.size)
    have HZ3:=((hg.block w.heap.size (Nat.lt_of_lt_of_le hwl1 HB2.out.size) (fun e => hne (Option.some.inj e))).trans HZ2)
    obtain ⟨c0,c1,c2,c3,f0,f1,f2,f3⟩:=bU.cells HZ3
    obtain ⟨⟨t0,t1,t2,t3⟩,-⟩:=(HT2.out.grown hg hne1).cells
    have hwl4 : w1.heap.size<w3.heap.size:=(HT2.out.grown hg hne1).lt
    have H3:=hid hp3
    have G3:=hid (a6 (c9 HS2) hg)
    clear hW2 hp3 hg HZ3
    go_wp2_with fail
    refine bodyPost_ret (v:=tkV T) (by simp [results,Tryz.results98,go_sem,tkV,c0,c1,c2,c3]) rfl ?_
    have HF:=(d9 (Below.refl w.heap.size w3) (.int .i64 T.kind) (.string ⟨T.text.toArray⟩) (.int .i64 T.n) (.int .i64 T.pos))
    refine ⟨T,rfl,?_,c8 G3 HF,fun r h => ?_⟩
    ·rw [R.out]
     exact (SP.of_error H3 (by decide) (Int.le_refl _) (by omega)).later HF hb0.out.1 hb0.out.2
    ·cases h
     exact D.out.symm
end
section
open Lib (hid)
open Go.RowKit
def a3H (P g cap : Nat) (ts : List Tk) (nest : Nat) (σ : Sx) (t : Nd) (a : Option Addr) (cp : Nat) (w : World) (e : Ending) (w' : World) : Prop:=e=.returned (t.val a cp)∧SP P g cap ts nest (eK t σ) w'∧w.grownBy w' (some P)
theorem pP (P g cap : Nat) (ts : List Tk) (nest : Nat) (σ : Sx) (t : Nd) (a : Option Addr) (cp : Nat) (w : World) (hn : nest≤300) (h : SP P g cap ts nest σ w) (hd : ∀ r,σ=.ok r→j3 t≤101∧∃ av : Nat→Prop,(∀ b,av b→b<w.heap.size)∧t.lies av w a cp) :
 Calls Tryz.prog 105 #[.pointer (some ⟨P,0,none⟩),t.val a cp] w (a3H P g cap ts nest σ t a cp w):=by
 obtain ⟨V,hV⟩ : ∃ V,V=(w.alloc (.cells #[.int .i64 t.kind,.string t.text,.int .i64 t.n,.slice a t.kids.length cp,.int .i64 t.place] 24)).alloc (.cells #[.int .i64 0,.string ⟨#[]⟩,.int .i64 0,.slice none 0 0,.int .i64 0] 24):=⟨_,rfl⟩
 have HBV:=hid (show Below w.heap.size w V from hV ▸ (a7 w _).trans ((a7 _ _).mono (a7 w _).size))
 have hsV:=hid (show V.heap.size=w.heap.size + 2 by rw [hV]; simp)
 have N0:=hid (show c6 w.heap.size t a cp V from hV ▸ (c6.make w t a cp).below (a7 _ _))
 have N1:=hid (show c6 (w.heap.size + 1) nd0 none 0 V by
  have:=c6.make (w.alloc (.cells #[.int .i64 t.kind,.string t.text,.int .i64 t.n,.slice a t.kids.length cp,.int .i64 t.place] 24)) nd0 none 0
  rw [hV]
  simpa [nd0,Nd.kind,Nd.text,Nd.n,Nd.kids,Nd.place] using this)
 have hS:=hid (h.below HBV)
 have hb0:=hid h.blocks
 unfold Nd.val
 cases σ with
 | error q =>
   obtain ⟨c,p⟩:=q
   obtain ⟨hk,i,n,hp,h1,h2⟩:=hS.out.error
   have ek : (c == 0)=false:=beq_eq_false_iff_ne.2 hk
   have HK:=hid hk
   obtain ⟨⟨p0,p1,p2,p3,p4⟩,-⟩:=hp.cells
   have hpl:=hp.plt
   obtain ⟨⟨c0,c1,c2,c3,c4⟩,-⟩:=N0.out.cells
   obtain ⟨⟨z0,z1,z2,z3,z4⟩,⟨f0,f1,f2,f3,f4⟩⟩:=N1.out.cells
   have HW:=hid h
   clear h hd hp hk
   subst hV
   go_enter Tryz.func105,Tryz.ntmps105
   go_wp2_with fail
   refine bodyPost_ret (v:=t.val a cp) (by simp [results,Tryz.results105,go_sem,Nd.val]) rfl ?_
   have HF:=((a7 w (.cells #[.int .i64 t.kind,.string t.text,.int .i64 t.n,.slice a t.kids.length cp,.int .i64 t.place] 24)).alloc (a7 _ _).size (.cells #[.int .i64 t.kind,.string t.text,.int .i64 t.n,.slice a t.kids.length cp,.int .i64 t.place] 24))
   exact ⟨rfl,HW.out.below HF,c9 HF⟩
 | ok r =>
   obtain ⟨hd1,av,hav,hl⟩:=hd r rfl
   obtain ⟨i,rfl,hp⟩:=hS.out.ok
   obtain ⟨⟨p0,p1,p2,p3,p4⟩,-⟩:=hp.cells
   have hpl:=hp.plt
   obtain ⟨⟨c0,c1,c2,c3,c4⟩,-⟩:=N0.out.cells
   have C:=hid (yM t a cp w.heap.size V (Nd.lies.hold t (d8 hl (fun b hb => HBV.out.block b (hav b hb)) hav)) HBV.out.size (by omega))
   have hsz : w.heap.size<V.heap.size∧w.heap.size + 1<V.heap.size:=by rw [hsV.out]; omega
   have hpP : w.heap.size + 1≠P∧w.heap.size + 1≠g:=⟨by have:=hb0.out.1; omega,by have:=hb0.out.2; omega⟩
   clear h hd hl hav hp
   go_enter Tryz.func105,Tryz.ntmps105
   subst hV
   by_cases hk : 100<j3 t
   ·have hk' : (100 : Int)<(j3 t : Int):=by omega
    have R:=hid (show eK t (.ok (ts.drop i))=.error (75,t.place) from if_pos hk)
    clear hk
    go_wp2_with fail
    (with_reducible refine Calls.mono C.out ?_)
    rintro e w2 ⟨rfl,hb⟩
    have H2:=hid (hS.out.below hb)
    have HN2:=hid (N0.out.below hb)
    have HM2:=hid (N1.out.below hb)
    have HG:=hid (HBV.out.trans (hb.mono HBV.out.size))
    obtain ⟨⟨c0,c1,c2,c3,c4⟩,-⟩:=HN2.out.cells
    obtain ⟨i',hi',hp2⟩:=H2.out.ok
    have C2:=hid (J6 P g cap ts i' nest w2 75 t.place hp2)
    have hsz2 : w.heap.size<w2.heap.size∧w.heap.size + 1<w2.heap.size:=⟨HN2.out.lt,HM2.out.lt⟩
    clear hb hp2 hi' p0 p1 p2 p3 p4 hpl
    go_wp2_with fail
    (with_reducible refine Calls.mono C2.out ?_)
    rintro e w3 ⟨rfl,hp3,hg⟩
    have HN3:=hid (HN2.out.grown hg (Nat.ne_of_gt hb0.out.1))
    have HM3:=hid (HM2.out.grown hg hpP.1)
    obtain ⟨⟨c0,c1,c2,c3,c4⟩,-⟩:=HN3.out.cells
    obtain ⟨⟨z0,z1,z2,z3,z4⟩,⟨f0,f1,f2,f3,f4⟩⟩:=HM3.out.cells
    have H3:=hid hp3
    have G3:=hid (a6 (c9 HG) hg)
    have hsz3 : w.heap.size<w3.heap.size∧w.heap.size + 1<w3.heap.size:=⟨HN3.out.lt,HM3.out.lt⟩
    clear hp3 hg
    go_wp2_with fail
    refine bodyPost_ret (v:=t.val a cp) (by simp [results,Tryz.results105,go_sem,Nd.val,z0,z1,z2,z3,z4]) rfl ⟨rfl,?_,t8 G3 (Nat.le_succ _) t a cp⟩
    rw [R.out]
    exact (SP.of_error H3 (by decide) (Int.le_refl _) (by omega)).put hpP.1 hpP.2 t a cp
   ·have hk' : ¬ (100 : Int)<(j3 t : Int):=by omega
    have R:=hid (show eK t (.ok (ts.drop i))=.ok (ts.drop i) from if_neg hk)
    clear hk
    go_wp2_with fail
    (with_reducible refine Calls.mono C.out ?_)
    rintro e w2 ⟨rfl,hb⟩
    have H2:=hid (hS.out.below hb)
    have HN2:=hid (N0.out.below hb)
    have HM2:=hid (N1.out.below hb)
    have HG:=hid (HBV.out.trans (hb.mono HBV.out.size))
    obtain ⟨⟨c0,c1,c2,c3,c4⟩,-⟩:=HN2.out.cells
    obtain ⟨⟨z0,z1,z2,z3,z4⟩,⟨f0,f1,f2,f3,f4⟩⟩:=HM2.out.cells
    have hsz2 : w.heap.size<w2.heap.size∧w.heap.size + 1<w2.heap.size:=⟨HN2.out.lt,HM2.out.lt⟩
    clear hb p0 p1 p2 p3 p4 hpl
    go_wp2_with fail
    refine bodyPost_ret (v:=t.val a cp) (by simp [results,Tryz.results105,go_sem,Nd.val,z0,z1,z2,z3,z4]) rfl ⟨rfl,?_,t8 (c9 HG) (Nat.le_succ _) t a cp⟩
    rw [R.out]
    exact H2.out.put hpP.1 hpP.2 t a cp
end
section
open Lib (hid)
open Go.RowKit
def qE (σ : Sx) : Sx:=match σ with
 | .ok r => .ok (b9 r)
 | .error e => .error e
def bP (t : Tk) : Prop:=(Lit.int .i64 t.n).wf=true∧(Lit.int .i64 t.pos).wf=true∧t.text.length≤16384
section
variable (P g cap : Nat) (ts : List Tk)
theorem SP.mem {P g cap : Nat} {ts : List Tk} {nest : Nat} {l : List Tk} {w : World} (h : SP P g cap ts nest (.ok l) w) : hd l∈ts:=by
 obtain ⟨a,rfl,hp⟩:=h.ok
 rw [gR hp.pos]; exact List.getElem_mem _
theorem fA (nest : Nat) (σ : Sx) (w : World) (h : SP P g cap ts nest σ w) :
 Calls Tryz.prog 65 #[.pointer (some ⟨P,0,none⟩)] w fun e w' => ∃ t : Tk,e=.returned (tkV t)∧Below w.heap.size w w'∧∀ r,σ=.ok r→t=hd r:=by
 obtain ⟨a,n,c,f,hp,hr⟩:=h
 refine (Y7 P g cap ts a n c f w hp).mono ?_
 rintro e w' ⟨rfl,hb⟩
 refine ⟨_,rfl,hb,fun r hs => ?_⟩
 subst hs
 rw [hr.1,gR hp.pos]
theorem dA (nest : Nat) (σ : Sx) (x : ByteArray) (w : World) (h : SP P g cap ts nest σ w) :
 Calls Tryz.prog 99 #[.pointer (some ⟨P,0,none⟩),.string x] w fun e w' => ∃ b : Bool,e=.returned (.bool b)∧Below w.heap.size w w'∧∀ r,σ=.ok r→b=isT x.data.toList r:=by
 obtain ⟨a,n,c,f,hp,hr⟩:=h
 refine (rO P g cap ts a n c f x w hp).mono ?_
 rintro e w' ⟨rfl,hb⟩
 refine ⟨_,rfl,hb,fun r hs => ?_⟩
 subst hs
 rw [hr.1]
theorem O4 (nest : Nat) (σ : Sx) (w : World) (h : SP P g cap ts nest σ w) (he : bT ts) :
 Calls Tryz.prog 100 #[.pointer (some ⟨P,0,none⟩)] w (TkP P g cap ts nest σ (qE σ) w):=by
 obtain ⟨a,n,c,f,hp,hr⟩:=h
 refine (jL P g cap ts a n c f w hp he).mono ?_
 rintro e w' ⟨a',⟨ha,rfl⟩,hp',hs,hg,-⟩
 refine ⟨_,rfl,⟨a',n,c,f,hp',?_⟩,hg,fun r h => ?_⟩
 ·cases σ with
  | ok r =>
    obtain ⟨rfl,h1,h2,h3⟩:=hr
    exact ⟨hs,h1,h2,h3⟩
  | error e => exact hr
 ·subst h
  rw [hr.1,gR ha]
def CE (l : List Tk) : Prop:=∀ (nest : Nat) (w : World),nest≤300→SP P g cap ts nest (.ok l) w→Calls Tryz.prog 64 #[.pointer (some ⟨P,0,none⟩)] w (RdP P g cap ts nest (rd .expr nest l) w)
def CC (lv : Nat) (l : List Tk) : Prop:=∀ (nest : Nat) (w : World),nest≤300→SP P g cap ts nest (.ok l) w→Calls Tryz.prog 103 #[.pointer (some ⟨P,0,none⟩),.int .i64 lv] w (RdP P g cap ts nest (rd (.chain lv) nest l) w)
def CN (l : List Tk) : Prop:=∀ (nest : Nat) (w : World),nest≤300→SP P g cap ts nest (.ok l) w→Calls Tryz.prog 161 #[.pointer (some ⟨P,0,none⟩)] w (RdP P g cap ts nest (rd .not nest l) w)
def CU (l : List Tk) : Prop:=∀ (nest : Nat) (w : World),nest≤300→SP P g cap ts nest (.ok l) w→Calls Tryz.prog 162 #[.pointer (some ⟨P,0,none⟩)] w (RdP P g cap ts nest (rd .unary nest l) w)
def CA (l : List Tk) : Prop:=∀ (nest : Nat) (w : World),nest≤300→SP P g cap ts nest (.ok l) w→Calls Tryz.prog 179 #[.pointer (some ⟨P,0,none⟩)] w (RdP P g cap ts nest (rd .atom nest l) w)
def CL (lv : Nat) (l : List Tk) : Prop:=∀ (nest : Nat) (w : World),nest≤300→SP P g cap ts nest (.ok l) w→Calls Tryz.prog 136 #[.pointer (some ⟨P,0,none⟩),.int .i64 lv] w (RdP P g cap ts nest (rd (aS lv) nest l) w)
end
theorem a47 : nd0.val none 0=.agg #[.int .i64 0,.string ⟨#[]⟩,.int .i64 0,.slice none 0 0,.int .i64 0]:=rfl
theorem RdP.fin {P g cap : Nat} {ts : List Tk} {nest : Nat} {x : Rd} {w w2 : World} {b : Nat} {t : Nd} {a : Option Addr} {cp : Nat} (hs : SP P g cap ts nest (l9 x) w2) (hg : w.grownBy w2 (some P)) (hP : b≠P∧b≠g) (hb : w.heap.size≤b)
 (hk : ∀ t' r,x=.ok (t',r)→t'=t∧(∃ av : Nat→Prop,(∀ c,av c→c≠b∧w.heap.size≤c∧c<w2.heap.size)∧t.lies av w2 a cp)∧j3 t≤100) : RdP P g cap ts nest x w (.returned (t.val a cp)) (T1 w2 b t a cp):=by
 refine ⟨t,a,cp,rfl,hs.put hP.1 hP.2 t a cp,t8 hg hb t a cp,fun t' r hx => ?_⟩
 obtain ⟨e,⟨av,hav,hl⟩,hd⟩:=hk t' r hx
 exact ⟨e,d8 hl ((j6.refl _ _).put (fun c hc => (hav c hc).1) t a cp) (fun c hc => ⟨(hav c hc).2.1,by rw [size_put]; exact (hav c hc).2.2⟩),hd⟩
theorem bI (P g cap : Nat) (ts : List Tk) (nest : Nat) (σ : Sx) (w : World) (hn : nest≤300) (h : SP P g cap ts nest σ w) (hc : ∀ r,σ=.ok r→CE P g cap ts r) :
 Calls Tryz.prog 104 #[.pointer (some ⟨P,0,none⟩)] w (RdP P g cap ts nest (goX σ (rd .expr nest)) w):=by
 obtain ⟨V,hV⟩ : ∃ V,V=w.alloc (.cells #[.int .i64 0,.string ⟨#[]⟩,.int .i64 0,.slice none 0 0,.int .i64 0] 24):=⟨_,rfl⟩
 have HBV:=hid (show Below w.heap.size w V from hV ▸ a7 w _)
 have N1:=hid (show c6 w.heap.size nd0 none 0 V from hV ▸ c6.make w nd0 none 0)
 have hS:=hid (h.below HBV)
 have hb0:=hid h.blocks
 have hpP : w.heap.size≠P∧w.heap.size≠g:=⟨Nat.ne_of_gt hb0.out.1,Nat.ne_of_gt hb0.out.2⟩
 have HP:=hid hpP
 cases σ with
 | error q =>
   obtain ⟨c,p⟩:=q
   obtain ⟨hk,i,n,hp,h1,h2⟩:=hS.out.error
   have ek : (c != 0)=true:=bne_iff_ne.2 hk
   have HK:=hid hk
   obtain ⟨⟨p0,p1,p2,p3,p4⟩,-⟩:=hp.cells
   have hpl:=hp.plt
   have HW:=hid h
   clear h hc hp hk hpP
   subst hV
   go_enter Tryz.func104,Tryz.ntmps104
   go_wp2_with fail
   refine bodyPost_ret (v:=nd0.val none 0) (by simp [results,Tryz.results104,go_sem,a47]) rfl ?_
   have HF:=a7 w (.cells #[.int .i64 0,.string ⟨#[]⟩,.int .i64 0,.slice none 0 0,.int .i64 0] 24)
   exact RdP.err nd0 none 0 rfl (HW.out.below HF) (c9 HF)
 | ok r =>
   obtain ⟨i,hi,hp⟩:=hS.out.ok
   obtain ⟨⟨p0,p1,p2,p3,p4⟩,-⟩:=hp.cells
   have hpl:=hp.plt
   have C:=hid (hc r rfl nest V hn hS)
   clear h hc hp hpP hi
   subst hV
   go_enter Tryz.func104,Tryz.ntmps104
   go_wp2_with fail
   (with_reducible refine Calls.mono C.out ?_)
   rintro e w2 ⟨t,a,cp,rfl,hs,hg,hk⟩
   have HS2:=hid hs
   have HG2:=hid hg
   have HK:=hid hk
   obtain ⟨⟨z0,z1,z2,z3,z4⟩,⟨f0,f1,f2,f3,f4⟩⟩:=(N1.out.grown hg HP.out.1).cells
   have hsz : w.heap.size<w2.heap.size:=(N1.out.grown hg HP.out.1).lt
   clear hs hg hk p0 p1 p2 p3 p4 hpl
   unfold Nd.val
   go_wp2_with fail
   refine bodyPost_ret (v:=t.val a cp) (by simp [results,Tryz.results104,go_sem,Nd.val,z0,z1,z2,z3,z4]) rfl ?_
   refine RdP.fin HS2 (a6 (c9 HBV) HG2) HP (Nat.le_refl _) fun t' r' hx => ?_
   obtain ⟨e,hl,hd⟩:=HK.out t' r' hx
   exact ⟨e,⟨_,fun c hc => ⟨fun e => by subst e; have:=hc.1; simp at this; omega,Nat.le_trans HBV.out.size hc.1,hc.2⟩,hl⟩,hd⟩
end
section
open Lib (hid)
open Go.RowKit
theorem lE (t : Int) (w : World) : Calls Tryz.prog 42 #[.int .i64 t] w fun e w' => e=.returned (.bool (m9 t))∧Below w.heap.size w w':=by
 by_cases h0 : 0≤t
 ·have e0 : decide (0≤t)=true:=decide_eq_true h0
  have HT:=hid (show m9 t=decide (t≤20) by unfold m9; rw [e0,Bool.true_and])
  by_cases h1 : t≤20
  ·have e1 : decide (t≤20)=true:=decide_eq_true h1
   go_enter Tryz.func42,Tryz.ntmps42
   go_wp2_with fail
   go_ret
   exact ⟨by rw [HT.out,e1]; rfl,Below.refl _ _⟩
  ·have e1 : decide (t≤20)=false:=decide_eq_false h1
   go_enter Tryz.func42,Tryz.ntmps42
   go_wp2_with fail
   go_ret
   exact ⟨by rw [HT.out,e1]; rfl,Below.refl _ _⟩
 ·have e0 : decide (0≤t)=false:=decide_eq_false h0
  have HT:=hid (show m9 t=false by unfold m9; rw [e0,Bool.false_and])
  go_enter Tryz.func42,Tryz.ntmps42
  go_wp2_with fail
  go_ret
  exact ⟨by rw [HT.out]; rfl,Below.refl _ _⟩
end
section
open Lib (hid)
open Go.RowKit
theorem pV {s : Sht} (h : j8 s.name=false∨200<s.defs.length) : r7 s=false:=by
 unfold r7
 rcases h with h | h
 ·rw [h]; rfl
 ·rw [decide_eq_false (by omega)]; simp
theorem a2i {s : Sht} (h1 : j8 s.name=true) (h2 : s.defs.length≤200) (h : ∀ j (hj : j<s.defs.length),O9 s.defs[j]=true) : r7 s=true:=by
 unfold r7
 rw [h1,decide_eq_true h2,Bool.true_and,Bool.true_and,List.all_eq_true]
 intro x hx
 obtain ⟨j,hj,rfl⟩:=List.getElem_of_mem hx
 exact h j hj
theorem a4R {s : Sht} {j : Nat} (hj : j<s.defs.length) (h : O9 s.defs[j]=false) : r7 s=false:=by
 unfold r7
 rw [show s.defs.all O9=false by rw [List.all_eq_false]; exact ⟨_,List.getElem_mem hj,by rw [h]; decide⟩,Bool.and_false]
theorem xZ (av : Nat→Prop) (s : Sht) (da : Option Addr) (dc : Nat) (w : World) (hS : Y1 av w da s.defs) (hc : s.defs.length≤dc∧dc≤maxLen) (hn : s.name.length≤maxLen) (hnn : ∀ d∈s.defs,d.name.length≤maxLen) (ha : ∀ b,av b→b<w.heap.size) :
 Calls Tryz.prog 22 #[.agg #[.string (bsA s.name),.slice da s.defs.length dc]] w fun e w' => e=.returned (.bool (r7 s))∧Below w.heap.size w w':=by
 obtain ⟨W1,hW1⟩ : ∃ W,W=w.alloc (.cells #[.string (bsA s.name),.slice da s.defs.length dc] 29):=⟨_,rfl⟩
 have B1:=hid (show Below w.heap.size w W1 from hW1 ▸ a7 _ _)
 have HB1:=hid (show W1.heap[w.heap.size]?=some (.cells #[.string (bsA s.name),.slice da s.defs.length dc] 29 (0,0)) by rw [hW1]; exact Y6 _ _)
 have C:=hid (H6 (bsA s.name) W1 (by simpa [bsA,ByteArray.size] using hn))
 have hsz : w.heap.size<W1.heap.size:=(Array.getElem?_eq_some_iff.1 HB1).1
 have c0 : W1.cell? ⟨w.heap.size,0,none⟩=some (.string (bsA s.name)):=by simp [World.cell?,HB1.out]
 have HS:=hid hS
 have HNN:=hid hnn
 have HA:=hid ha
 have hdm : dc≤9223372036854775807:=by have:=hc.2; unfold maxLen at this; omega
 have hdl:=hc.1
 clear hS hnn ha hc hn
 obtain ⟨near,hnear⟩ : ∃ b,b=j8 s.name:=⟨_,rfl⟩
 rw [show j8 (bsA s.name).data.toList=near from hnear.symm] at C
 have HN:=hid hnear
 clear hnear
 go_enter Tryz.func22,Tryz.ntmps22
 go_upto_region 1 with fail
 rw [← hW1]
 clear hW1
 go_wp2_with fail
 (with_reducible refine Calls.mono C.out ?_)
 rintro e w2 ⟨rfl,hb⟩
 have HB2:=hid (show Below W1.heap.size W1 w2 from hb)
 have c2 : w2.cell? ⟨w.heap.size,1,none⟩=some (.slice da s.defs.length dc):=(hb.cell (p:=⟨w.heap.size,1,none⟩) hsz).trans (by simp [World.cell?,HB1.out])
 have hs2 : w.heap.size<w2.heap.size:=Nat.lt_of_lt_of_le hsz hb.size
 clear hb C c0
 cases near with
 | false =>
   go_wp2_with fail
   go_ret
   exact ⟨by rw [pV (.inl HN.out.symm)]; rfl,B1.out.trans (HB2.out.mono B1.out.size)⟩
 | true =>
   by_cases hl : 200<s.defs.length
   ·have e1 : decide (200<(s.defs.length : Int))=true:=decide_eq_true (by omega)
    have HL:=hid hl
    clear hl
    go_wp2_with fail
    go_ret
    exact ⟨by rw [pV (.inr HL)]; rfl,B1.out.trans (HB2.out.mono B1.out.size)⟩
   ·have e1 : decide (200<(s.defs.length : Int))=false:=decide_eq_false (by omega)
    go_wp2_with fail
    go_loopw [4] (fun v wr => ∃ k : Nat,k≤s.defs.length∧v=.int .i64 k∧Hid (∀ j (hj : j<s.defs.length),j<k→O9 s.defs[j]=true)∧Hid (Below W1.heap.size W1 wr)) (fun v _ => s.defs.length - (intOf v).toNat)
    case atStart => exact ⟨0,Nat.zero_le _,rfl,hid fun j _ h => absurd h (Nat.not_lt_zero _),HB2⟩
    case round =>
     obtain ⟨k,hk,rfl,HK,HWr⟩:=hrel
     have c3 : wr.cell? ⟨w.heap.size,1,none⟩=some (.slice da s.defs.length dc):=(HWr.out.cell (p:=⟨w.heap.size,1,none⟩) hsz).trans (by simp [World.cell?,HB1.out])
     have hs3 : w.heap.size<wr.heap.size:=Nat.lt_of_lt_of_le hsz HWr.out.size
     by_cases hkl : k<s.defs.length
     ·obtain ⟨b,off,rfl,hav,hbl,pa,pc,d0,d1,d2,hI,hp1,hp2,-⟩:=HS.out k hkl
      have hbw : Below w.heap.size w wr:=B1.out.trans (HWr.out.mono B1.out.size)
      have k0 : wr.cell? ⟨b,off + k * 3,none⟩=some (.string (bsA s.defs[k].name)):=(hbw.cell (p:=⟨b,off + k * 3,none⟩) hbl).trans d0
      have k1 : wr.cell? ⟨b,off + k * 3 + 1,none⟩=some (.slice pa s.defs[k].params.length pc):=(hbw.cell (p:=⟨b,off + k * 3 + 1,none⟩) hbl).trans d1
      have k2 : wr.cell? ⟨b,off + k * 3 + 2,none⟩=some (.int .i64 s.defs[k].result):=(hbw.cell (p:=⟨b,off + k * 3 + 2,none⟩) hbl).trans d2
      have hbr : b<wr.heap.size:=Nat.lt_of_lt_of_le hbl hbw.size
      have HI:=hid (show _∧_∧_ from ⟨hI,hp1,hp2⟩)
      have HBW:=hid hbw
      have hm:=List.getElem_mem hkl
      clear d0 d1 d2 hI hp1 hp2 hbw
      obtain ⟨d,hd⟩ : ∃ d,d=s.defs[k]:=⟨_,rfl⟩
      rw [← hd] at k0 k1 k2 HI hm
      have HD:=hid hd
      have HNd:=hid (HNN.out d hm)
      have HBAD:=hid (show O9 d=false→r7 s=false from fun h => a4R hkl (hd ▸ h))
      have HGOOD:=hid (show O9 d=true→∀ j (hj : j<s.defs.length),j<k + 1→O9 s.defs[j]=true from fun h j hj hjk => by
       by_cases e : j=k
       ·subst e; exact hd ▸ h
       ·exact HK.out j hj (by omega))
      clear hd hm
      go_upto_region 8 with fail
      obtain ⟨W3,hW3⟩ : ∃ W,W=wr.alloc (.cells #[.string (bsA d.name),.slice pa d.params.length pc,.int .i64 d.result] 36):=⟨_,rfl⟩
      have B3:=hid (show Below wr.heap.size wr W3 from hW3 ▸ a7 _ _)
      have HB3:=hid (show W3.heap[wr.heap.size]?=some (.cells #[.string (bsA d.name),.slice pa d.params.length pc,.int .i64 d.result] 36 (0,0)) by rw [hW3]; exact Y6 _ _)
      rw [← hW3]
      clear hW3 k0 k1 k2 c3
      have hz3 : wr.heap.size<W3.heap.size:=(Array.getElem?_eq_some_iff.1 HB3).1
      have HC3:=hid (show ∀ cur,Below W3.heap.size W3 cur→cur.cell? ⟨wr.heap.size,0,none⟩=some (.string (bsA d.name))∧cur.cell? ⟨wr.heap.size,1,none⟩=some (.slice pa d.params.length pc)∧cur.cell? ⟨wr.heap.size,2,none⟩=some (.int .i64 d.result)∧wr.heap.size<cur.heap.size from fun cur hb => by
       have h9:=(hb.block wr.heap.size hz3).trans HB3
       exact ⟨by simp [World.cell?,h9],by simp [World.cell?,h9],by simp [World.cell?,h9],Nat.lt_of_lt_of_le hz3 hb.size⟩)
      have HW1c:=hid (show ∀ cur,Below W3.heap.size W3 cur→Below W1.heap.size W1 cur from fun cur hb => HWr.out.trans ((B3.out.trans (hb.mono B3.out.size)).mono HWr.out.size))
      obtain ⟨n0,n1,n2,n3⟩:=HC3.out W3 (Below.refl _ _)
      have C1:=hid (H6 (bsA d.name) W3 (by simpa [bsA,ByteArray.size] using HNd.out))
      obtain ⟨nd,hnd⟩ : ∃ b,b=j8 d.name:=⟨_,rfl⟩
      rw [show j8 (bsA d.name).data.toList=nd from hnd.symm] at C1
      have HND:=hid hnd
      clear hnd
      go_wp2_with fail
      (with_reducible refine Calls.mono C1.out ?_)
      rintro e w4 ⟨rfl,hb⟩
      have B4:=hid (show Below W3.heap.size W3 w4 from hb)
      clear hb n0 n1 n2 n3 C1
      obtain ⟨n0,n1,n2,n3⟩:=HC3.out w4 B4
      go_wp2_with fail
      refine Calls.mono (lE d.result w4) ?_
      rintro e w5 ⟨rfl,hb⟩
      have B5:=hid (show Below W3.heap.size W3 w5 from B4.out.trans (hb.mono B4.out.size))
      clear hb n0 n1 n2 n3
      obtain ⟨n0,n1,n2,n3⟩:=HC3.out w5 B5
      obtain ⟨ty,hty⟩ : ∃ b,b=m9 d.result:=⟨_,rfl⟩
      rw [← hty]
      have HTY:=hid hty
      clear hty
      by_cases hok : nd=true∧ty=true∧d.params.length≤8
      ·obtain ⟨rfl,rfl,h8⟩:=hok
       have e8 : decide (8<(d.params.length : Int))=false:=decide_eq_false (by omega)
       have HSO:=hid (show O9 d=d.params.all m9 by unfold O9; rw [← HND.out,← HTY.out,decide_eq_true h8]; rfl)
       have hpm : d.params.length≤9223372036854775807:=by omega
       go_wp2_with fail
       go_loopw [8] (fun v wx => ∃ q : Nat,q≤d.params.length∧v=.int .i64 q∧Hid (∀ j (hj : j<d.params.length),j<q→m9 d.params[j]=true)∧Hid (Below W3.heap.size W3 wx)) (fun v _ => d.params.length - (intOf v).toNat)
       case atStart => exact ⟨0,Nat.zero_le _,rfl,hid fun j _ h => absurd h (Nat.not_lt_zero _),B5⟩
       case round =>
        obtain ⟨q,hq,rfl,HQ,HWx⟩:=hrel
        obtain ⟨m0,m1,m2,m3⟩:=HC3.out wr HWx
        have HBx:=hid (show Below w.heap.size w wr from B1.out.trans ((HW1c.out wr HWx).mono B1.out.size))
        clear n0 n1 n2 n3
        by_cases hql : q<d.params.length
        ·obtain ⟨pb,po,rfl,hpav,pcell⟩:=HI.out.1 q hql
         have hpb:=HA.out pb hpav
         have p0 : wr.cell? ⟨pb,po + q,none⟩=some (.int .i64 d.params[q]):=(HBx.out.cell (p:=⟨pb,po + q,none⟩) hpb).trans pcell
         have hpx : pb<wr.heap.size:=Nat.lt_of_lt_of_le hpb HBx.out.size
         have hpp : d.params.length≤pc∧pc≤9223372036854775807:=by have:=HI.out.2; unfold maxLen at this; omega
         obtain ⟨hp3,hp4⟩:=hpp
         clear pcell
         go_wp2_with fail
         refine Calls.mono (lE d.params[q] wr) ?_
         rintro e w8 ⟨rfl,hb⟩
         have B8:=hid (show Below W3.heap.size W3 w8 from HWx.out.trans (hb.mono HWx.out.size))
         clear hb
         obtain ⟨tq,htq⟩ : ∃ b,b=m9 d.params[q]:=⟨_,rfl⟩
         rw [← htq]
         have HTQ:=hid htq
         clear htq
         cases tq with
         | false =>
           have HRET:=hid (show (.returned (.bool false) : Ending)=.returned (.bool (r7 s))∧Below w.heap.size w w8 from ⟨by rw [HBAD.out (HSO.out.trans (List.all_eq_false.2 ⟨_,List.getElem_mem hql,by rw [← HTQ.out]; decide⟩))],B1.out.trans ((HW1c.out w8 B8).mono B1.out.size)⟩)
           go_wp2_with fail
           go_ret
           exact HRET
         | true =>
           go_wp2_with fail
           go_round
           case rel =>
            refine ⟨q + 1,by omega,by go_num,hid fun j hj hjk => ?_,B8⟩
            by_cases e : j=q
            ·subst e; exact HTQ.out.symm
            ·exact HQ.out j hj (by omega)
           case measure => simp [intOf]; omega
        ·have HOK:=hid (HGOOD.out (HSO.out.trans (List.all_eq_true.2 fun x hx => by
          obtain ⟨j,hj,rfl⟩:=List.getElem_of_mem hx
          exact HQ.out j hj (by omega))))
         go_wp2_with fail
         go_round
         case rel => exact ⟨k + 1,by omega,by go_num,HOK,hid (HW1c.out wr HWx)⟩
         case measure => simp [intOf]; omega
      ·have HSO:=hid (show O9 d=false by
        unfold O9
        rw [← HND.out,← HTY.out]
        cases nd
        ·rfl
        ·cases ty
         ·rfl
         ·rw [decide_eq_false (fun h => hok ⟨rfl,rfl,h⟩)]; rfl)
       have hor : nd=false∨(nd=true∧ty=false)∨(nd=true∧ty=true∧8<d.params.length):=by
        cases nd
        ·exact .inl rfl
        ·cases ty
         ·exact .inr (.inl ⟨rfl,rfl⟩)
         ·exact .inr (.inr ⟨rfl,rfl,by by_cases h : 8<d.params.length; exact h; exact absurd ⟨rfl,rfl,by omega⟩ hok⟩)
       clear hok
       have HRET:=hid (show (.returned (.bool false) : Ending)=.returned (.bool (r7 s))∧Below w.heap.size w w5 from ⟨by rw [HBAD.out HSO.out],B1.out.trans ((HW1c.out w5 B5).mono B1.out.size)⟩)
       rcases hor with rfl | ⟨rfl,rfl⟩ | ⟨rfl,rfl,h8⟩
       ·go_wp2_with fail
        go_ret
        exact HRET
       ·go_wp2_with fail
        go_ret
        exact HRET
       ·have e8 : decide (8<(d.params.length : Int))=true:=decide_eq_true (by omega)
        go_wp2_with fail
        go_ret
        exact HRET
     ·obtain rfl : k=s.defs.length:=by omega
      have HF:=hid (a2i HN.out.symm (by omega) fun j hj => HK.out j hj hj)
      go_wp2_with fail
      go_ret
      exact ⟨by rw [HF.out]; rfl,B1.out.trans (HWr.out.mono B1.out.size)⟩
end
end Go.Proofs.YtppcfebnaieciaaGreatDoor
