/-
  Laws that the proof rests on.
-/
import Derived.Test.YteefedkmgnepmaaGreatDoorE17
import Derived.Test.YteefedkmgnepmaaGreatDoorE04
import Derived.Deep.AppendLies
import Derived.IntWalk
import Derived.Test.YteefedkmgnepmaaGreatDoorE05
import Derived.Test.YteefedkmgnepmaaGreatDoorE16
import Derived.Test.YteefedkmgnepmaaGreatDoorE08
import Derived.Test.YteefedkmgnepmaaGreatDoorE11
import Derived.Test.YteefedkmgnepmaaGreatDoorE01
namespace Go.Proofs.YteefedkmgnepmaaGreatDoor
set_option maxRecDepth 100000
set_option maxHeartbeats 16000000
section
open Lib (hid)
open Go.RowKit
def aD (c c' : CM) (w : World) : Prop:=∀ a : Addr,some a∈c'.ps→some a∈c.ps∨w.heap.size≤a.block
theorem aD.refl (c : CM) (w : World) : aD c c w:=fun _ h => .inl h
theorem aD.trans {c c' c'' : CM} {w w' : World} (h : aD c c' w) (k : aD c' c'' w') (hs : w.heap.size≤w'.heap.size) : aD c c'' w:=fun a ha => by
 rcases k a ha with g | g
 ·exact h a g
 ·exact .inr (Nat.le_trans hs g)
def a1G (B F : Nat) (c : CM) (S' φ' : List Int) (w : World) (e : Ending) (w' : World) : Prop:=∃ (c' : CM) (kn' : List (Option Int)) (ro' rk' : Nat→Nat),e=.returned (.int .i64 (c.up.length : Nat))∧c'.up.length=c.up.length + 1∧Cls B F c' kn' ro' rk' S' φ' w'∧Mv F c c' w w'∧aD c c' w
theorem CM.In.far_new {B F : Nat} {c : CM} {kn : List (Option Int)} {w : World} (h : c.In B F kn w) (o : Obj) : Far F c (w.alloc o) w.heap.size :=
 ⟨by simp,by have:=h.lt; have:=h.le; omega,fun e => by have:=(h.u_lt e).2; omega,fun e => by have:=(h.k_lt e).2; omega⟩
theorem Cls.below {B F : Nat} {c : CM} {kn : List (Option Int)} {ro rk : Nat→Nat} {S φ : List Int} {w w' : World} (h : Cls B F c kn ro rk S φ w) (hb : Below w.heap.size w w') : Cls B F c kn ro rk S φ w':=⟨h.hin.below hb,h.uf,h.sim,h.norm,h.ps⟩
theorem a1D {B F : Nat} {c : CM} {kn : List (Option Int)} {ro rk : Nat→Nat} {S φ : List Int} {w : World} (h : Cls B F c kn ro rk S φ w) (hl : c.up.length≤1000000) :
 Calls Tryz.prog 35 #[.pointer (some ⟨F,4,none⟩),.pointer none] w (a1G B F c (frT S) (φ ++ [5 + (S.length : Int)]) w) :=
 (xQ B F c kn none none w h.hin hl (by rw [h.ps]; exact hl) rfl).mono fun _ _ ⟨c',h1,h2,h3,h4,h5⟩ => by
   have hl' : c'.up.length=c.up.length + 1:=by rw [h2]; simp
   exact ⟨c',kn ++ [none],_,rk,h1,hl',⟨h4,h2 ▸ h.uf.add,by rw [hl']; exact h.sim.addN h.norm,pJ h.norm,by rw [h3,hl',List.length_append,h.ps]; rfl⟩,h5,fun a ha => .inl (by rw [h3] at ha; simpa using ha)⟩
theorem hZ {B F : Nat} {c : CM} {kn : List (Option Int)} {ro rk : Nat→Nat} {S φ : List Int} {w : World} (h : Cls B F c kn ro rk S φ w) (hl : c.up.length≤1000000) (t : Int) (ht : 0≤t∧t<5) :
 Calls Tryz.prog 62 #[.pointer (some ⟨F,0,none⟩),.int .i64 t] w (a1G B F c S (φ ++ [t]) w):=by
 obtain ⟨W1,hW1⟩ : ∃ W,W=w.alloc (.cells #[.int .i64 t] 3):=⟨_,rfl⟩
 have B1:=hid (show Below w.heap.size w W1 from hW1 ▸ a7 _ _)
 have K1:=hid (show kB B F c (some t) (some ⟨w.heap.size,0,none⟩) W1 from ⟨w.heap.size,rfl,h.hin.le,hW1 ▸ h.hin.far_new _,by rw [hW1]; simp⟩)
 have H1:=hid (h.below B1)
 have hFl:=H1.out.hin.cells.2.2
 have C:=hid (xQ B F c kn (some t) (some ⟨w.heap.size,0,none⟩) W1 H1.out.hin hl (by rw [h.ps]; exact hl) K1)
 have HP:=hid h.ps
 clear h hl
 go_enter Tryz.func62,Tryz.ntmps62
 go_wp2_with fail
 rw [← hW1]
 clear hW1
 (with_reducible refine Calls.mono C.out ?_)
 rintro e w2 ⟨c',rfl,h2,h3,h4,h5⟩
 have HQ:=hid (show c'.up.length=c.up.length + 1∧Cls B F c' (kn ++ [some t]) (fun z => if z<c.up.length then ro z else z) rk S (φ ++ [t]) w2 from by
  have hl' : c'.up.length=c.up.length + 1:=by rw [h2]; simp
  exact ⟨hl',h4,h2 ▸ H1.out.uf.add,by rw [hl']; exact H1.out.sim.addK ht,H1.out.norm,by rw [h3,hl',List.length_append,HP.out]; rfl⟩)
 have HM:=hid ((Mv.of B1).trans h5)
 have HN:=hid (show aD c c' w from fun a ha => by
  rw [h3,List.mem_append] at ha
  rcases ha with ha | ha
  ·exact .inl ha
  ·rw [List.mem_singleton] at ha; cases ha; exact .inr (Nat.le_refl _))
 clear h2 h3 h4 h5 C
 go_wp2_with fail
 go_ret
 exact ⟨c',_,_,rk,rfl,HQ.out.1,HQ.out.2,HM,HN⟩
end
section
open Go.RowKit
def H5 (av : Nat→Prop) (W : World) (a : Option Addr) (l : List Int) : Prop:=∀ j (h : j<l.length),∃ b off,a=some ⟨b,off,none⟩∧av b∧W.cell? ⟨b,off + j,none⟩=some (.int .i64 l[j])
def bsA (l : List UInt8) : ByteArray:=⟨l.toArray⟩
def Sch.At (av : Nat→Prop) (W : World) (b off : Nat) (d : Sch) : Prop:=∃ pa pc,W.cell? ⟨b,off,none⟩=some (.string (bsA d.name))∧W.cell? ⟨b,off + 1,none⟩=some (.slice pa d.params.length pc)∧W.cell? ⟨b,off + 2,none⟩=some (.int .i64 d.result)∧H5 av W pa d.params∧d.params.length≤pc∧pc≤maxLen∧(pa=none→pc=0)
def dK (av : Nat→Prop) (W : World) (a : Option Addr) (l : List Sch) : Prop:=∀ j (h : j<l.length),∃ b off,a=some ⟨b,off,none⟩∧av b∧b<W.heap.size∧l[j].At av W b (off + j * 3)
theorem H5.move {av av' : Nat→Prop} {W W' : World} {a : Option Addr} {l : List Int} (h : H5 av W a l) (hk : ∀ b,av b→W'.heap[b]?=W.heap[b]?) (ha : ∀ b,av b→av' b) : H5 av' W' a l:=fun j hj => by
 obtain ⟨b,off,h1,h2,h3⟩:=h j hj
 exact ⟨b,off,h1,ha b h2,(World.cell?_of_block (hk b h2)).trans h3⟩
theorem Sch.At.move {av av' : Nat→Prop} {W W' : World} {b off : Nat} {d : Sch} (h : d.At av W b off) (hb : av b) (hk : ∀ b,av b→W'.heap[b]?=W.heap[b]?) (ha : ∀ b,av b→av' b) : d.At av' W' b off:=by
 obtain ⟨pa,pc,h1,h2,h3,h4,h5,h6⟩:=h
 exact ⟨pa,pc,(World.cell?_of_block (hk b hb)).trans h1,(World.cell?_of_block (hk b hb)).trans h2,(World.cell?_of_block (hk b hb)).trans h3,h4.move hk ha,h5,h6⟩
theorem dK.move {av av' : Nat→Prop} {W W' : World} {a : Option Addr} {l : List Sch} (h : dK av W a l) (hk : ∀ b,av b→W'.heap[b]?=W.heap[b]?) (ha : ∀ b,av b→av' b) (hs : W.heap.size≤W'.heap.size) : dK av' W' a l:=fun j hj => by
 obtain ⟨b,off,h1,h2,h3,h4⟩:=h j hj
 exact ⟨b,off,h1,ha b h2,Nat.lt_of_lt_of_le h3 hs,h4.move h2 hk ha⟩
def eN (av : Nat→Prop) (W : World) (x : Option Sch) (v : Value) : Prop:=match x with
 | some d => ∃ pa pc,v=.agg #[.string (bsA d.name),.slice pa d.params.length pc,.int .i64 d.result]∧H5 av W pa d.params∧d.params.length≤pc∧pc≤maxLen∧(pa=none→pc=0)
 | none => v=.agg #[.string ⟨#[]⟩,.slice none 0 0,.int .i64 0]
theorem a0i {l : List Sch} {s : List UInt8} {k : Nat} (h : ∀ j (hj : j<l.length),j<k→l[j].name≠s) (hk : k<l.length) (he : l[k].name=s) : i8 l s=some l[k]:=by
 unfold i8
 rw [List.find?_eq_some_iff_getElem]
 exact ⟨by simpa using he,k,hk,rfl,fun j hj => by simpa using h j (by omega) hj⟩
theorem iY {l : List Sch} {s : List UInt8} (h : ∀ j (hj : j<l.length),l[j].name≠s) : i8 l s=none:=by
 unfold i8
 rw [List.find?_eq_none]
 intro x hx
 obtain ⟨j,hj,rfl⟩:=List.getElem_of_mem hx
 simpa using h j hj
end
section
open Go.RowKit
theorem O7 (w : World) (o : Obj) : (w.alloc o).heap[w.heap.size]?=some o:=by show (w.heap.push o)[w.heap.size]?=_; exact Array.getElem?_push_size
theorem cC {w : World} {o : Obj} {i : Nat} {x : Option Obj} (hi : i<w.heap.size) (h : w.heap[i]?=x) : (w.alloc o).heap[i]?=x:=by
 rw [← h]; show (w.heap.push o)[i]?=_; rw [Array.getElem?_push,if_neg (by omega)]
theorem bL (w : World) (o : Obj) {i : Nat} (h : i=w.heap.size) : (w.alloc o).heap[i]?=some o:=by rw [h]; exact O7 w o
theorem a1T (w : World) (o : Obj) : (w.alloc o).heap.size=w.heap.size + 1:=by simp
theorem gX {W W' : World} {B T k g n cap : Nat} {xs : List Value} (h : W.ownsRow B T k (.slice (some ⟨g,0,none⟩) n cap) n xs) (e : W'.heap[g]?=W.heap[g]?) : W'.ownsRow B T k (.slice (some ⟨g,0,none⟩) n cap) n xs:=by
 obtain ⟨h1,h2⟩:=h
 refine ⟨h1,.inr ?_⟩
 rcases h2 with ⟨e,-⟩ | ⟨g',cap',cur,e',hb,hg,h3⟩
 ·obtain ⟨e,-⟩:=Value.slice.inj e; cases e
 ·obtain ⟨e1,-,e2⟩:=Value.slice.inj e'
  cases e1; subst e2
  exact ⟨g,cap,cur,rfl,hb,e.trans hg,h3⟩
theorem sV {t : Int} {ts : List Int} {m : List (Int × Int)} {S : List Int} (h : t<5) : p5 (t :: ts) m S=(t :: (p5 ts m S).1,(p5 ts m S).2):=by
 rw [p5,if_pos h]
theorem a1F {t x : Int} {ts : List Int} {m : List (Int × Int)} {S : List Int} (h : ¬ t<5) (e : m.lookup t=some x) : p5 (t :: ts) m S=(x :: (p5 ts m S).1,(p5 ts m S).2):=by
 rw [p5,if_neg h,e]
theorem a1s {t : Int} {ts : List Int} {m : List (Int × Int)} {S : List Int} (h : ¬ t<5) (e : m.lookup t=none) : p5 (t :: ts) m S=((5 + (S.length : Int)) :: (p5 ts ((t,5 + (S.length : Int)) :: m) (frT S)).1,(p5 ts ((t,5 + (S.length : Int)) :: m) (frT S)).2):=by
 rw [p5,if_neg h,e]
theorem a7b {L outs : List Int} {k : Nat} (x : Int) (hk : k<L.length) (h : outs.length=k) : (outs ++ L.drop k).set k x=outs ++ [x] ++ L.drop (k + 1):=by
 subst h
 rw [List.set_append_right _ _ (Nat.le_refl _),Nat.sub_self,List.drop_eq_getElem_cons hk,List.set_cons_zero,List.append_assoc]
 rfl
theorem a6u (l : List Int) (m : List (Int × Int)) (S : List Int) : (p5 l m S).1.length=l.length:=by
 induction l generalizing m S with
 | nil => simp [p5]
 | cons t ts ih =>
   by_cases h : t<5
   ·rw [sV h]; simp [ih]
   ·cases e : m.lookup t with
    | none => rw [a1s h e]; simp [ih]
    | some x => rw [a1F h e]; simp [ih]
end
section
open Go.RowKit
theorem a7A {s : List UInt8} {j : Nat} (hj : j<s.length) : Lib.occAt s [46] j=(s[j] == 46):=by
 unfold Lib.occAt
 rw [List.drop_eq_getElem_cons hj]
 simp [List.isPrefixOf,BEq.comm]
theorem a8x {s : List UInt8} (hn : ∀ j (hj : j<s.length),s[j]≠46) : (Lib.cut s [46]).2.2=false:=by
 rcases Lib.index_spec s [46] with ⟨h,-⟩ | ⟨i,h1,h2,h3,-⟩
 ·unfold Lib.cut; rw [h]; rfl
 ·by_cases hi : i<s.length
  ·rw [a7A hi] at h3
   exact absurd (eq_of_beq h3) (hn i hi)
  ·have : i=s.length:=by omega
   subst this
   simp [Lib.occAt] at h3
theorem lY {E : Env7} {s : List UInt8} (hn : ∀ j (hj : j<s.length),s[j]≠46) : y5 E s=(i8 E.defs s).or (i8 m5 s):=by
 unfold y5
 rw [a8x hn]
 rfl
theorem eN.move {av av' : Nat→Prop} {W W' : World} {x : Option Sch} {v : Value} (h : eN av W x v) (hk : ∀ b,av b→W'.heap[b]?=W.heap[b]?) (ha : ∀ b,av b→av' b) : eN av' W' x v:=by
 cases x with
 | none => exact h
 | some d =>
   obtain ⟨pa,pc,h1,h2,h3⟩:=h
   exact ⟨pa,pc,h1,h2.move hk ha,h3⟩
theorem a78 {a b : List UInt8} (h : (bsA a).toList=(bsA b).toList) : a=b:=by
 rw [Lib.toList_data,Lib.toList_data] at h
 simpa [bsA] using h
end
section
open Lib (hid)
open Go.RowKit
theorem oB (P g cap : Nat) (ts : List Tk) (nest : Nat) (r : List Tk) (w : World) (hn : nest≤300) (h : SP P g cap ts nest (.ok r) w) :
 Calls Tryz.prog 71 #[.pointer (some ⟨P,0,none⟩)] w (a7p P g cap ts (nest + 1) (gG nest (.ok r)) w):=by
 obtain ⟨a,rfl,hp⟩:=h.ok
 obtain ⟨⟨p0,p1,p2,p3,p4⟩,⟨g0,g1,g2,g3,g4⟩⟩:=hp.cells
 have HG:=hid (J4 w P 2 (.int .i64 ((nest : Int) + 1)))
 have H1:=hid (hp.set_nest ((nest : Int) + 1))
 have R:=hid (show gG nest (.ok (ts.drop a))=if 300<nest + 1 then .error (75,(hd (ts.drop a)).pos) else .ok (ts.drop a) from rfl)
 have D:=hid (iQ hp.pos)
 have C1:=hid (Y8 P g cap ts a _ 0 0 _ H1)
 have hpos:=hp.pos
 generalize ts[a]'hpos=T at C1 D
 clear h hp
 go_enter Tryz.func71,Tryz.ntmps71
 by_cases hb : 300<nest + 1
 ·have hb' : (300 : Int)<(nest : Int) + 1:=by omega
  have R2:=hid (show gG nest (.ok (ts.drop a))=.error (75,(hd (ts.drop a)).pos) by rw [R.out,if_pos hb])
  clear hb
  go_wp2_with fail
  (with_reducible refine Calls.mono C1.out ?_)
  rintro e w2 ⟨rfl,hb⟩
  have H2:=hid (H1.out.below hb)
  have HB2:=hid hb
  clear hb
  have C3:=hid (J7 P g cap ts a _ w2 75 T.pos H2)
  unfold tkV
  have hfd:=aH T.kind T.n T.pos ⟨T.text.toArray⟩
  go_wp2_with fail
  (with_reducible refine Calls.mono C3.out ?_)
  rintro e w3 ⟨rfl,hp,hg⟩
  go_wp2_with fail
  (first | (refine bodyPost_end (results_none rfl _ _ _) rfl ?_) | (refine bodyPost_ret (results_none rfl _ _ _) rfl ?_))
  refine ⟨rfl,?_,a6 HG (a6 (d6 HB2) hg)⟩
  rw [R2.out,D.out]
  exact SP.of_error hp (by decide) (by omega) (by omega)
 ·have hb' : ¬ (300 : Int)<(nest : Int) + 1:=by omega
  have R2:=hid (show gG nest (.ok (ts.drop a))=.ok (ts.drop a) by rw [R.out,if_neg hb])
  clear hb
  go_wp2_with fail
  (first | (refine bodyPost_end (results_none rfl _ _ _) rfl ?_) | (refine bodyPost_ret (results_none rfl _ _ _) rfl ?_))
  refine ⟨rfl,?_,HG⟩
  rw [R2.out]
  exact SP.of_ok (by have:=H1.out; rw [Int.natCast_add]; exact this) rfl
def TkP (P g cap : Nat) (ts : List Tk) (nest : Nat) (σ σ' : Sx) (w : World) (e : Ending) (w' : World) : Prop:=∃ t : Tk,e=.returned (tkV t)∧SP P g cap ts nest σ' w'∧w.grownBy w' (some P)∧∀ r,σ=.ok r→t=hd r
theorem cT (P g cap : Nat) (ts : List Tk) (nest : Nat) (σ : Sx) (k : Int) (w : World) (hn : nest≤300) (h : SP P g cap ts nest σ w) (he : dI ts) :
 Calls Tryz.prog 67 #[.pointer (some ⟨P,0,none⟩),.int .i64 k] w (TkP P g cap ts nest σ (x8 k σ) w):=by
 obtain ⟨V,hV⟩ : ∃ V,V=w.alloc (.cells #[.int .i64 0,.string ⟨#[]⟩,.int .i64 0,.int .i64 0] 93):=⟨_,rfl⟩
 have HBV:=hid (show Below w.heap.size w V from hV ▸ a7 _ _)
 have hsV:=hid (show V.heap.size=w.heap.size + 1 by rw [hV]; simp)
 have Z0:=hid (show dJ w.heap.size V from hV ▸ dJ.make w)
 have hwl : w.heap.size<V.heap.size:=by rw [hsV.out]; omega
 have hS:=hid (h.below HBV)
 have hb0:=hid h.blocks
 cases σ with
 | error q =>
   obtain ⟨c,p⟩:=q
   obtain ⟨hk,a,n,hp,h1,h2⟩:=hS.out.error
   have C:=hid (Y8 P g cap ts a n c p V hp)
   have ek : (c != 0)=true:=bne_iff_ne.2 hk
   have HK:=hid hk
   have H:=hid hp
   have hpos:=hp.pos
   generalize ts[a]'hpos=T at C
   clear h hp hk
   go_enter Tryz.func67,Tryz.ntmps67
   go_wp2_with fail
   rw [← hV]
   clear hV
   (with_reducible refine Calls.mono C.out ?_)
   rintro e w1 ⟨rfl,hb⟩
   have H1:=hid (H.out.below hb)
   obtain ⟨⟨p0,p1,p2,p3,p4⟩,-⟩:=H1.out.cells
   obtain ⟨c0,c1,c2,c3,f0,f1,f2,f3⟩:=(Z0.out.below hb).cells
   have hpl:=H1.out.plt
   have hwl1 : w.heap.size<w1.heap.size:=Nat.lt_of_lt_of_le hwl hb.size
   have HB:=hid hb
   clear hb
   unfold tkV
   go_wp2_with fail
   refine bodyPost_ret (v:=tkV T) (by simp [results,Tryz.results67,go_sem,tkV,c0,c1,c2,c3,hwl1]) rfl ?_
   have HF:=((f9 (Below.refl w.heap.size w1) (.int .i64 T.kind) (.string ⟨T.text.toArray⟩) (.int .i64 T.n) (.int .i64 T.pos)).alloc (by simpa using (HBV.out.trans (HB.out.mono HBV.out.size)).size) (.cells #[.int .i64 T.kind,.string ⟨T.text.toArray⟩,.int .i64 T.n,.int .i64 T.pos] 93))
   exact ⟨T,rfl,(SP.of_error H1 HK h1 h2).later HF hb0.out.1 hb0.out.2,c8 (d6 (HBV.out.trans (HB.out.mono HBV.out.size))) HF,fun _ h => by cases h⟩
 | ok r =>
   obtain ⟨a,rfl,hp⟩:=hS.out.ok
   have C:=hid (Y8 P g cap ts a nest 0 0 V hp)
   have H:=hid hp
   have hpos:=hp.pos
   have D:=hid (iQ hpos)
   generalize ts[a]'hpos=T at C D
   clear h hp
   go_enter Tryz.func67,Tryz.ntmps67
   go_wp2_with fail
   rw [← hV]
   clear hV
   (with_reducible refine Calls.mono C.out ?_)
   rintro e w1 ⟨rfl,hb⟩
   have H1:=hid (H.out.below hb)
   obtain ⟨⟨p0,p1,p2,p3,p4⟩,-⟩:=H1.out.cells
   have hpl:=H1.out.plt
   have hwl1 : w.heap.size<w1.heap.size:=Nat.lt_of_lt_of_le hwl hb.size
   have HZ1:=hid (Z0.out.below hb)
   have HB:=hid (HBV.out.trans (hb.mono HBV.out.size))
   clear hb
   obtain ⟨W2,hW2⟩ : ∃ W,W=w1.alloc (.cells #[.int .i64 T.kind,.string ⟨T.text.toArray⟩,.int .i64 T.n,.int .i64 T.pos] 93):=⟨_,rfl⟩
   have HB2:=hid (show Below w1.heap.size w1 W2 from hW2 ▸ a7 _ _)
   have HZ2:=hid (HZ1.out.below HB2)
   have HT2:=hid (show F0 w1.heap.size T W2 from hW2 ▸ F0.make w1 T)
   have H2:=hid (H1.out.below HB2)
   have HS2:=hid (HB.out.trans (HB2.out.mono HB.out.size))
   unfold tkV
   by_cases hk : T.kind=k
   ·have e0 : (T.kind != k)=false:=by rw [hk]; exact bne_self_eq_false k
    have R:=hid (show x8 k (.ok (ts.drop a))=.ok (b8 (ts.drop a)) from if_pos (D.out ▸ hk))
    have C2:=hid (kT P g cap ts a nest 0 0 W2 H2 he)
    clear hk
    go_wp2_with fail
    rw [← hW2]
    (with_reducible refine Calls.mono C2.out ?_)
    rintro e w3 ⟨a',⟨hpa,rfl⟩,hp3,hs,hg,-⟩
    have hDT:=D.out
    rw [iQ hpa] at hDT
    subst hDT
    have hne : w.heap.size≠P:=Nat.ne_of_gt hb0.out.1
    have hwl3 : w.heap.size<w3.heap.size:=Nat.lt_of_lt_of_le hwl1 (Nat.le_trans HB2.out.size hg.size)
    have HZ3:=((hg.block w.heap.size (Nat.lt_of_lt_of_le hwl1 HB2.out.size) (fun e => hne (Option.some.inj e))).trans HZ2)
    obtain ⟨c0,c1,c2,c3,f0,f1,f2,f3⟩:=dJ.cells HZ3
    have H3:=hid hp3
    have G3:=hid (a6 (d6 HS2) hg)
    clear hW2 hp3 hg HZ3
    unfold tkV
    go_wp2_with fail
    refine bodyPost_ret (v:=tkV (ts[a]'hpa)) (by simp [results,Tryz.results67,go_sem,tkV,c0,c1,c2,c3]) rfl ?_
    have HF:=(f9 (Below.refl w.heap.size w3) (.int .i64 (ts[a]'hpa).kind) (.string ⟨(ts[a]'hpa).text.toArray⟩) (.int .i64 (ts[a]'hpa).n) (.int .i64 (ts[a]'hpa).pos))
    refine ⟨_,rfl,?_,c8 G3 HF,fun r h => ?_⟩
    ·rw [R.out,hs]
     exact (SP.of_ok H3 rfl).later HF hb0.out.1 hb0.out.2
    ·cases h
     exact (iQ hpa).symm
   ·have e0 : (T.kind != k)=true:=bne_iff_ne.2 hk
    have R:=hid (show x8 k (.ok (ts.drop a))=.error (74,T.pos) by
     show (if (hd (ts.drop a)).kind=k then Except.ok (b8 (ts.drop a)) else .error (74,(hd (ts.drop a)).pos) : Sx)=_
     rw [D.out,if_neg hk])
    have C2:=hid (J7 P g cap ts a nest W2 74 T.pos H2)
    clear hk
    go_wp2_with fail
    rw [← hW2]
    (with_reducible refine Calls.mono C2.out ?_)
    rintro e w3 ⟨rfl,hp3,hg⟩
    have hne : w.heap.size≠P:=Nat.ne_of_gt hb0.out.1
    have hne1 : w1.heap.size≠P:=Nat.ne_of_gt hpl
    have hwl3 : w.heap.size<w3.heap.size:=Nat.lt_of_lt_of_le hwl1 (Nat.le_trans HB2.out.size hg.size)
    have HZ3:=((hg.block w.heap.size (Nat.lt_of_lt_of_le hwl1 HB2.out.size) (fun e => hne (Option.some.inj e))).trans HZ2)
    obtain ⟨c0,c1,c2,c3,f0,f1,f2,f3⟩:=dJ.cells HZ3
    obtain ⟨⟨t0,t1,t2,t3⟩,-⟩:=(HT2.out.grown hg hne1).cells
    have hwl4 : w1.heap.size<w3.heap.size:=(HT2.out.grown hg hne1).lt
    have H3:=hid hp3
    have G3:=hid (a6 (d6 HS2) hg)
    clear hW2 hp3 hg HZ3
    go_wp2_with fail
    refine bodyPost_ret (v:=tkV T) (by simp [results,Tryz.results67,go_sem,tkV,c0,c1,c2,c3]) rfl ?_
    have HF:=(f9 (Below.refl w.heap.size w3) (.int .i64 T.kind) (.string ⟨T.text.toArray⟩) (.int .i64 T.n) (.int .i64 T.pos))
    refine ⟨T,rfl,?_,c8 G3 HF,fun r h => ?_⟩
    ·rw [R.out]
     exact (SP.of_error H3 (by decide) (Int.le_refl _) (by omega)).later HF hb0.out.1 hb0.out.2
    ·cases h
     exact D.out.symm
end
section
open Lib (hid)
open Go.RowKit
def a4A (P g cap : Nat) (ts : List Tk) (nest : Nat) (σ : Sx) (t : Nd) (a : Option Addr) (cp : Nat) (w : World) (e : Ending) (w' : World) : Prop:=e=.returned (t.val a cp)∧SP P g cap ts nest (gC t σ) w'∧w.grownBy w' (some P)
theorem sC (P g cap : Nat) (ts : List Tk) (nest : Nat) (σ : Sx) (t : Nd) (a : Option Addr) (cp : Nat) (w : World) (hn : nest≤300) (h : SP P g cap ts nest σ w) (hd : ∀ r,σ=.ok r→d9 t≤101∧∃ av : Nat→Prop,(∀ b,av b→b<w.heap.size)∧t.lies av w a cp) :
 Calls Tryz.prog 74 #[.pointer (some ⟨P,0,none⟩),t.val a cp] w (a4A P g cap ts nest σ t a cp w):=by
 obtain ⟨V,hV⟩ : ∃ V,V=(w.alloc (.cells #[.int .i64 t.kind,.string t.text,.int .i64 t.n,.slice a t.kids.length cp,.int .i64 t.place] 24)).alloc (.cells #[.int .i64 0,.string ⟨#[]⟩,.int .i64 0,.slice none 0 0,.int .i64 0] 24):=⟨_,rfl⟩
 have HBV:=hid (show Below w.heap.size w V from hV ▸ (a7 w _).trans ((a7 _ _).mono (a7 w _).size))
 have hsV:=hid (show V.heap.size=w.heap.size + 2 by rw [hV]; simp)
 have N0:=hid (show c9 w.heap.size t a cp V from hV ▸ (c9.make w t a cp).below (a7 _ _))
 have N1:=hid (show c9 (w.heap.size + 1) nd0 none 0 V by
  have:=c9.make (w.alloc (.cells #[.int .i64 t.kind,.string t.text,.int .i64 t.n,.slice a t.kids.length cp,.int .i64 t.place] 24)) nd0 none 0
  rw [hV]
  simpa [nd0,Nd.kind,Nd.text,Nd.n,Nd.kids,Nd.place] using this)
 have hS:=hid (h.below HBV)
 have hb0:=hid h.blocks
 unfold Nd.val
 cases σ with
 | error q =>
   obtain ⟨c,p⟩:=q
   obtain ⟨hk,i,n,hp,h1,h2⟩:=hS.out.error
   have ek : (c == 0)=false:=beq_eq_false_iff_ne.2 hk
   have HK:=hid hk
   obtain ⟨⟨p0,p1,p2,p3,p4⟩,-⟩:=hp.cells
   have hpl:=hp.plt
   obtain ⟨⟨c0,c1,c2,c3,c4⟩,-⟩:=N0.out.cells
   obtain ⟨⟨z0,z1,z2,z3,z4⟩,⟨f0,f1,f2,f3,f4⟩⟩:=N1.out.cells
   have HW:=hid h
   clear h hd hp hk
   subst hV
   go_enter Tryz.func74,Tryz.ntmps74
   go_wp2_with fail
   refine bodyPost_ret (v:=t.val a cp) (by simp [results,Tryz.results74,go_sem,Nd.val]) rfl ?_
   have HF:=((a7 w (.cells #[.int .i64 t.kind,.string t.text,.int .i64 t.n,.slice a t.kids.length cp,.int .i64 t.place] 24)).alloc (a7 _ _).size (.cells #[.int .i64 t.kind,.string t.text,.int .i64 t.n,.slice a t.kids.length cp,.int .i64 t.place] 24))
   exact ⟨rfl,HW.out.below HF,d6 HF⟩
 | ok r =>
   obtain ⟨hd1,av,hav,hl⟩:=hd r rfl
   obtain ⟨i,rfl,hp⟩:=hS.out.ok
   obtain ⟨⟨p0,p1,p2,p3,p4⟩,-⟩:=hp.cells
   have hpl:=hp.plt
   obtain ⟨⟨c0,c1,c2,c3,c4⟩,-⟩:=N0.out.cells
   have C:=hid (a0t t a cp w.heap.size V (Nd.lies.hold t (e7 hl (fun b hb => HBV.out.block b (hav b hb)) hav)) HBV.out.size (by omega))
   have hsz : w.heap.size<V.heap.size∧w.heap.size + 1<V.heap.size:=by rw [hsV.out]; omega
   have hpP : w.heap.size + 1≠P∧w.heap.size + 1≠g:=⟨by have:=hb0.out.1; omega,by have:=hb0.out.2; omega⟩
   clear h hd hl hav hp
   go_enter Tryz.func74,Tryz.ntmps74
   subst hV
   by_cases hk : 100<d9 t
   ·have hk' : (100 : Int)<(d9 t : Int):=by omega
    have R:=hid (show gC t (.ok (ts.drop i))=.error (75,t.place) from if_pos hk)
    clear hk
    go_wp2_with fail
    (with_reducible refine Calls.mono C.out ?_)
    rintro e w2 ⟨rfl,hb⟩
    have H2:=hid (hS.out.below hb)
    have HN2:=hid (N0.out.below hb)
    have HM2:=hid (N1.out.below hb)
    have HG:=hid (HBV.out.trans (hb.mono HBV.out.size))
    obtain ⟨⟨c0,c1,c2,c3,c4⟩,-⟩:=HN2.out.cells
    obtain ⟨i',hi',hp2⟩:=H2.out.ok
    have C2:=hid (J7 P g cap ts i' nest w2 75 t.place hp2)
    have hsz2 : w.heap.size<w2.heap.size∧w.heap.size + 1<w2.heap.size:=⟨HN2.out.lt,HM2.out.lt⟩
    clear hb hp2 hi' p0 p1 p2 p3 p4 hpl
    go_wp2_with fail
    (with_reducible refine Calls.mono C2.out ?_)
    rintro e w3 ⟨rfl,hp3,hg⟩
    have HN3:=hid (HN2.out.grown hg (Nat.ne_of_gt hb0.out.1))
    have HM3:=hid (HM2.out.grown hg hpP.1)
    obtain ⟨⟨c0,c1,c2,c3,c4⟩,-⟩:=HN3.out.cells
    obtain ⟨⟨z0,z1,z2,z3,z4⟩,⟨f0,f1,f2,f3,f4⟩⟩:=HM3.out.cells
    have H3:=hid hp3
    have G3:=hid (a6 (d6 HG) hg)
    have hsz3 : w.heap.size<w3.heap.size∧w.heap.size + 1<w3.heap.size:=⟨HN3.out.lt,HM3.out.lt⟩
    clear hp3 hg
    go_wp2_with fail
    refine bodyPost_ret (v:=t.val a cp) (by simp [results,Tryz.results74,go_sem,Nd.val,z0,z1,z2,z3,z4]) rfl ⟨rfl,?_,p7 G3 (Nat.le_succ _) t a cp⟩
    rw [R.out]
    exact (SP.of_error H3 (by decide) (Int.le_refl _) (by omega)).put hpP.1 hpP.2 t a cp
   ·have hk' : ¬ (100 : Int)<(d9 t : Int):=by omega
    have R:=hid (show gC t (.ok (ts.drop i))=.ok (ts.drop i) from if_neg hk)
    clear hk
    go_wp2_with fail
    (with_reducible refine Calls.mono C.out ?_)
    rintro e w2 ⟨rfl,hb⟩
    have H2:=hid (hS.out.below hb)
    have HN2:=hid (N0.out.below hb)
    have HM2:=hid (N1.out.below hb)
    have HG:=hid (HBV.out.trans (hb.mono HBV.out.size))
    obtain ⟨⟨c0,c1,c2,c3,c4⟩,-⟩:=HN2.out.cells
    obtain ⟨⟨z0,z1,z2,z3,z4⟩,⟨f0,f1,f2,f3,f4⟩⟩:=HM2.out.cells
    have hsz2 : w.heap.size<w2.heap.size∧w.heap.size + 1<w2.heap.size:=⟨HN2.out.lt,HM2.out.lt⟩
    clear hb p0 p1 p2 p3 p4 hpl
    go_wp2_with fail
    refine bodyPost_ret (v:=t.val a cp) (by simp [results,Tryz.results74,go_sem,Nd.val,z0,z1,z2,z3,z4]) rfl ⟨rfl,?_,p7 (d6 HG) (Nat.le_succ _) t a cp⟩
    rw [R.out]
    exact H2.out.put hpP.1 hpP.2 t a cp
end
section
open Lib (hid)
open Go.RowKit
def tG (σ : Sx) : Sx:=match σ with
 | .ok r => .ok (b8 r)
 | .error e => .error e
def dD (t : Tk) : Prop:=(Lit.int .i64 t.n).wf=true∧(Lit.int .i64 t.pos).wf=true∧t.text.length≤16384
section
variable (P g cap : Nat) (ts : List Tk)
theorem SP.mem {P g cap : Nat} {ts : List Tk} {nest : Nat} {l : List Tk} {w : World} (h : SP P g cap ts nest (.ok l) w) : hd l∈ts:=by
 obtain ⟨a,rfl,hp⟩:=h.ok
 rw [iQ hp.pos]; exact List.getElem_mem _
theorem gT (nest : Nat) (σ : Sx) (w : World) (h : SP P g cap ts nest σ w) :
 Calls Tryz.prog 41 #[.pointer (some ⟨P,0,none⟩)] w fun e w' => ∃ t : Tk,e=.returned (tkV t)∧Below w.heap.size w w'∧∀ r,σ=.ok r→t=hd r:=by
 obtain ⟨a,n,c,f,hp,hr⟩:=h
 refine (Y8 P g cap ts a n c f w hp).mono ?_
 rintro e w' ⟨rfl,hb⟩
 refine ⟨_,rfl,hb,fun r hs => ?_⟩
 subst hs
 rw [hr.1,iQ hp.pos]
theorem eI (nest : Nat) (σ : Sx) (x : ByteArray) (w : World) (h : SP P g cap ts nest σ w) :
 Calls Tryz.prog 68 #[.pointer (some ⟨P,0,none⟩),.string x] w fun e w' => ∃ b : Bool,e=.returned (.bool b)∧Below w.heap.size w w'∧∀ r,σ=.ok r→b=isT x.data.toList r:=by
 obtain ⟨a,n,c,f,hp,hr⟩:=h
 refine (uF P g cap ts a n c f x w hp).mono ?_
 rintro e w' ⟨rfl,hb⟩
 refine ⟨_,rfl,hb,fun r hs => ?_⟩
 subst hs
 rw [hr.1]
theorem V4 (nest : Nat) (σ : Sx) (w : World) (h : SP P g cap ts nest σ w) (he : dI ts) :
 Calls Tryz.prog 69 #[.pointer (some ⟨P,0,none⟩)] w (TkP P g cap ts nest σ (tG σ) w):=by
 obtain ⟨a,n,c,f,hp,hr⟩:=h
 refine (kT P g cap ts a n c f w hp he).mono ?_
 rintro e w' ⟨a',⟨ha,rfl⟩,hp',hs,hg,-⟩
 refine ⟨_,rfl,⟨a',n,c,f,hp',?_⟩,hg,fun r h => ?_⟩
 ·cases σ with
  | ok r =>
    obtain ⟨rfl,h1,h2,h3⟩:=hr
    exact ⟨hs,h1,h2,h3⟩
  | error e => exact hr
 ·subst h
  rw [hr.1,iQ ha]
def CE (l : List Tk) : Prop:=∀ (nest : Nat) (w : World),nest≤300→SP P g cap ts nest (.ok l) w→Calls Tryz.prog 40 #[.pointer (some ⟨P,0,none⟩)] w (RdP P g cap ts nest (rd .expr nest l) w)
def CC (lv : Nat) (l : List Tk) : Prop:=∀ (nest : Nat) (w : World),nest≤300→SP P g cap ts nest (.ok l) w→Calls Tryz.prog 72 #[.pointer (some ⟨P,0,none⟩),.int .i64 lv] w (RdP P g cap ts nest (rd (.chain lv) nest l) w)
def CN (l : List Tk) : Prop:=∀ (nest : Nat) (w : World),nest≤300→SP P g cap ts nest (.ok l) w→Calls Tryz.prog 121 #[.pointer (some ⟨P,0,none⟩)] w (RdP P g cap ts nest (rd .not nest l) w)
def CU (l : List Tk) : Prop:=∀ (nest : Nat) (w : World),nest≤300→SP P g cap ts nest (.ok l) w→Calls Tryz.prog 122 #[.pointer (some ⟨P,0,none⟩)] w (RdP P g cap ts nest (rd .unary nest l) w)
def CA (l : List Tk) : Prop:=∀ (nest : Nat) (w : World),nest≤300→SP P g cap ts nest (.ok l) w→Calls Tryz.prog 138 #[.pointer (some ⟨P,0,none⟩)] w (RdP P g cap ts nest (rd .atom nest l) w)
def CL (lv : Nat) (l : List Tk) : Prop:=∀ (nest : Nat) (w : World),nest≤300→SP P g cap ts nest (.ok l) w→Calls Tryz.prog 98 #[.pointer (some ⟨P,0,none⟩),.int .i64 lv] w (RdP P g cap ts nest (rd (X4 lv) nest l) w)
end
theorem a69 : nd0.val none 0=.agg #[.int .i64 0,.string ⟨#[]⟩,.int .i64 0,.slice none 0 0,.int .i64 0]:=rfl
theorem RdP.fin {P g cap : Nat} {ts : List Tk} {nest : Nat} {x : Rd} {w w2 : World} {b : Nat} {t : Nd} {a : Option Addr} {cp : Nat} (hs : SP P g cap ts nest (n7 x) w2) (hg : w.grownBy w2 (some P)) (hP : b≠P∧b≠g) (hb : w.heap.size≤b)
 (hk : ∀ t' r,x=.ok (t',r)→t'=t∧(∃ av : Nat→Prop,(∀ c,av c→c≠b∧w.heap.size≤c∧c<w2.heap.size)∧t.lies av w2 a cp)∧d9 t≤100) : RdP P g cap ts nest x w (.returned (t.val a cp)) (U0 w2 b t a cp):=by
 refine ⟨t,a,cp,rfl,hs.put hP.1 hP.2 t a cp,p7 hg hb t a cp,fun t' r hx => ?_⟩
 obtain ⟨e,⟨av,hav,hl⟩,hd⟩:=hk t' r hx
 exact ⟨e,e7 hl ((j4.refl _ _).put (fun c hc => (hav c hc).1) t a cp) (fun c hc => ⟨(hav c hc).2.1,by rw [size_put]; exact (hav c hc).2.2⟩),hd⟩
theorem cW (P g cap : Nat) (ts : List Tk) (nest : Nat) (σ : Sx) (w : World) (hn : nest≤300) (h : SP P g cap ts nest σ w) (hc : ∀ r,σ=.ok r→CE P g cap ts r) :
 Calls Tryz.prog 73 #[.pointer (some ⟨P,0,none⟩)] w (RdP P g cap ts nest (goX σ (rd .expr nest)) w):=by
 obtain ⟨V,hV⟩ : ∃ V,V=w.alloc (.cells #[.int .i64 0,.string ⟨#[]⟩,.int .i64 0,.slice none 0 0,.int .i64 0] 24):=⟨_,rfl⟩
 have HBV:=hid (show Below w.heap.size w V from hV ▸ a7 w _)
 have N1:=hid (show c9 w.heap.size nd0 none 0 V from hV ▸ c9.make w nd0 none 0)
 have hS:=hid (h.below HBV)
 have hb0:=hid h.blocks
 have hpP : w.heap.size≠P∧w.heap.size≠g:=⟨Nat.ne_of_gt hb0.out.1,Nat.ne_of_gt hb0.out.2⟩
 have HP:=hid hpP
 cases σ with
 | error q =>
   obtain ⟨c,p⟩:=q
   obtain ⟨hk,i,n,hp,h1,h2⟩:=hS.out.error
   have ek : (c != 0)=true:=bne_iff_ne.2 hk
   have HK:=hid hk
   obtain ⟨⟨p0,p1,p2,p3,p4⟩,-⟩:=hp.cells
   have hpl:=hp.plt
   have HW:=hid h
   clear h hc hp hk hpP
   subst hV
   go_enter Tryz.func73,Tryz.ntmps73
   go_wp2_with fail
   refine bodyPost_ret (v:=nd0.val none 0) (by simp [results,Tryz.results73,go_sem,a69]) rfl ?_
   have HF:=a7 w (.cells #[.int .i64 0,.string ⟨#[]⟩,.int .i64 0,.slice none 0 0,.int .i64 0] 24)
   exact RdP.err nd0 none 0 rfl (HW.out.below HF) (d6 HF)
 | ok r =>
   obtain ⟨i,hi,hp⟩:=hS.out.ok
   obtain ⟨⟨p0,p1,p2,p3,p4⟩,-⟩:=hp.cells
   have hpl:=hp.plt
   have C:=hid (hc r rfl nest V hn hS)
   clear h hc hp hpP hi
   subst hV
   go_enter Tryz.func73,Tryz.ntmps73
   go_wp2_with fail
   (with_reducible refine Calls.mono C.out ?_)
   rintro e w2 ⟨t,a,cp,rfl,hs,hg,hk⟩
   have HS2:=hid hs
   have HG2:=hid hg
   have HK:=hid hk
   obtain ⟨⟨z0,z1,z2,z3,z4⟩,⟨f0,f1,f2,f3,f4⟩⟩:=(N1.out.grown hg HP.out.1).cells
   have hsz : w.heap.size<w2.heap.size:=(N1.out.grown hg HP.out.1).lt
   clear hs hg hk p0 p1 p2 p3 p4 hpl
   unfold Nd.val
   go_wp2_with fail
   refine bodyPost_ret (v:=t.val a cp) (by simp [results,Tryz.results73,go_sem,Nd.val,z0,z1,z2,z3,z4]) rfl ?_
   refine RdP.fin HS2 (a6 (d6 HBV) HG2) HP (Nat.le_refl _) fun t' r' hx => ?_
   obtain ⟨e,hl,hd⟩:=HK.out t' r' hx
   exact ⟨e,⟨_,fun c hc => ⟨fun e => by subst e; have:=hc.1; simp at this; omega,Nat.le_trans HBV.out.size hc.1,hc.2⟩,hl⟩,hd⟩
end
section
open Go.RowKit
structure ScBx (x : Nat) (d : Sch) (pa : Option Addr) (pc : Nat) (W : World) : Prop where
 box : W.heap[x]?=some (.cells #[.string (bsA d.name),.slice pa d.params.length pc,.int .i64 d.result] 34 (0,0))
theorem ScBx.make (w : World) (d : Sch) (pa : Option Addr) (pc : Nat) : ScBx w.heap.size d pa pc (w.alloc (.cells #[.string (bsA d.name),.slice pa d.params.length pc,.int .i64 d.result] 34)):=⟨O7 _ _⟩
theorem ScBx.lt {x : Nat} {d : Sch} {pa : Option Addr} {pc : Nat} {W : World} (h : ScBx x d pa pc W) : x<W.heap.size:=(Array.getElem?_eq_some_iff.1 h.box).1
theorem ScBx.below {x : Nat} {d : Sch} {pa : Option Addr} {pc : Nat} {W W' : World} (h : ScBx x d pa pc W) (hb : Below W.heap.size W W') : ScBx x d pa pc W':=⟨(hb.block x h.lt).trans h.box⟩
theorem ScBx.cells {x : Nat} {d : Sch} {pa : Option Addr} {pc : Nat} {W : World} (h : ScBx x d pa pc W) : W.cell? ⟨x,0,none⟩=some (.string (bsA d.name))∧W.cell? ⟨x,1,none⟩=some (.slice pa d.params.length pc)∧W.cell? ⟨x,2,none⟩=some (.int .i64 d.result):=by
 have h9:=h.box
 exact ⟨by simp [World.cell?,h9],by simp [World.cell?,h9],by simp [World.cell?,h9]⟩
end
end Go.Proofs.YteefedkmgnepmaaGreatDoor
