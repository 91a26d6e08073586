/-
  Laws that the proof rests on.
-/
import Derived.Test.YtppcfebnaieciaaGreatDoorF12
import Derived.ChangeAt2
import Derived.WideShapes
import Derived.Test.YtppcfebnaieciaaGreatDoorF05
import Derived.Test.YtppcfebnaieciaaGreatDoorF01
import Derived.Test.YtppcfebnaieciaaGreatDoorF07
import Derived.Test.YtppcfebnaieciaaGreatDoorF11
import Derived.RegionTactic
import Derived.ChangeAlike
import Derived.Test.YtppcfebnaieciaaGreatDoorF06
namespace Go.Proofs.YtppcfebnaieciaaGreatDoor
set_option maxRecDepth 100000
set_option maxHeartbeats 16000000
section
open Go.ChangeShapes Go.WideShapes Go.ChangeAt Go.RowKit
theorem jD {H : Type} {P : Program} {e : TypeId} {p : Nat→Bool} : ∀ (l : List (DataW H)),(DataW.weightsAll P e l).all p=true→∀ d : DataW H,d∈l→(d.weights P e).all p=true
 | [],_,d,hd => by cases hd
 | a :: l,h,d,hd => by
   rw [DataW.weightsAll,List.all_append,Bool.and_eq_true] at h
   rcases List.mem_cons.1 hd with rfl | hd
   ·exact h.1
   ·exact jD l h.2 d hd
theorem aS {H : Type} {P : Program} {p : Nat→Bool} : ∀ (ts : List TypeId) (ds : List (DataW H)),(DataW.weightsEach P ts ds).all p=true→∀ (j : Nat) (t : TypeId) (d : DataW H),ts[j]?=some t→ds[j]?=some d→(d.weights P t).all p=true
 | [],_,_,j,t,d,ht,_ => by cases ht
 | _ :: _,[],_,j,t,d,_,hd => by cases hd
 | u :: ts,x :: ds,h,j,t,d,ht,hd => by
   rw [DataW.weightsEach,List.all_append,Bool.and_eq_true] at h
   cases j with
   | zero => cases ht; cases hd; exact h.1
   | succ j => exact aS ts ds h.2 j t d (by simpa using ht) (by simpa using hd)
theorem kJ : ∀ (ks : List Nd),(∀ j (hj : j<ks.length),o6 ks[j])→H8 ks
 | [],_ => trivial
 | k :: ks,h => ⟨h 0 (by simp),kJ ks fun j hj => h (j + 1) (by simpa using hj)⟩
theorem wW {H : Type} {enc : TypeId × Value→H} {W : World} {sp : Nat→Bool} {held : Bool} : ∀ (fuel : Nat) (cs : List Value) (x : DataW H × List MemPlace),
 DataW.trod enc Tryz.prog W 0 sp held fuel 24 cs=some x→(x.1.weights Tryz.prog 24).all (· ≤ reachBytes)=true→∃ (t : Nd) (a : Option Addr) (cap : Nat),cs=[.int .i64 t.kind,.string t.text,.int .i64 t.n,.slice a t.kids.length cap,.int .i64 t.place]∧t.hold W.heap.size W a cap∧o6 t:=by
 intro fuel
 induction fuel using Nat.strongRecOn with
 | ind fuel ih =>
   intro cs x h hwt
   obtain ⟨xs,m,rfl,ex,hlen,hxs,hf⟩:=DataW.trod_struct Tryz.underlying24 h
   rw [a4s] at hlen
   obtain ⟨v0,v1,v2,v3,v4,rfl⟩:=a4z hlen
   obtain ⟨x0,x1,x2,x3,x4,rfl⟩:=a4z (show xs.length=5 from hxs)
   have f0:=hf 0 ⟨"Kind",3,0,false,"","",0⟩ rfl
   have f1:=hf 1 ⟨"Text",9,1,false,"","",8⟩ rfl
   have f2:=hf 2 ⟨"N",2,2,false,"","",24⟩ rfl
   have f3:=hf 3 ⟨"Kids",22,3,false,"","",32⟩ rfl
   have f4:=hf 4 ⟨"At",3,4,false,"","",56⟩ rfl
   simp only [a5h,a3Z,a2M,vB,List.drop_zero,List.drop_succ_cons,List.take_succ_cons,List.take_zero,List.getElem?_cons_zero,List.getElem?_cons_succ] at f0 f1 f2 f3 f4
   obtain ⟨kind,e0,-,w0⟩:=DataW.trod_int Tryz.underlying3 f0
   obtain ⟨s,e1,y1,w1⟩:=DataW.trod_string Tryz.underlying9 f1
   obtain ⟨n,e2,-,w2⟩:=DataW.trod_int Tryz.underlying2 f2
   obtain ⟨p,e4,-,w4⟩:=DataW.trod_int Tryz.underlying3 f4
   obtain rfl : v0=.int .i64 kind:=by simpa using e0
   obtain rfl : v1=.string s:=by simpa using e1
   obtain rfl : v2=.int .i64 n:=by simpa using e2
   obtain rfl : v4=.int .i64 p:=by simpa using e4
   have hwe : (DataW.weightsEach Tryz.prog [3,9,2,22,3] [x0.1,x1.1,x2.1,x3.1,x4.1]).all (· ≤ reachBytes)=true:=by
    rw [ex] at hwt
    simp only [DataW.weights,Tryz.underlying24] at hwt
    exact hwt
   have hs:=aS _ _ hwe 1 9 x1.1 rfl rfl
   rw [y1,DataW.weights,List.all_cons,Bool.and_eq_true,decide_eq_true_eq] at hs
   have hshort : s.size≤140737488355328:=by
    have h1 : s.data.toList.length=s.size:=Array.length_toList
    have h2:=hs.1
    unfold reachBytes at h2
    omega
   have hk3:=aS _ _ hwe 3 22 x3.1 rfl rfl
   rcases DataW.trod_slice Tryz.underlying22 f3 with ⟨e3,-⟩ | ⟨a,len,cap,elems,rest,k,rfl,e3,y3,-,hlc,hcm,hel,hat,-,-⟩
   ·obtain rfl : v3=.slice none 0 0:=by simpa using e3
    exact ⟨.mk kind s n [] p,none,0,rfl,⟨w0,w1,w2,w4,Nat.le_refl _,Nat.zero_le _,trivial⟩,hshort,trivial⟩
   ·obtain rfl : v3=.slice (some a) len cap:=by simpa using e3
    rw [y3] at hk3
    simp only [DataW.weights,Tryz.underlying22,List.all_cons,List.all_append,Bool.and_eq_true] at hk3
    have hall:=jD _ hk3.2.1
    have hk : ∀ i,i<len→∃ (t : Nd) (a' : Option Addr) (cap' : Nat),W.cell? ((a.add (i * 5)).add 0)=some (.int .i64 t.kind)∧W.cell? ((a.add (i * 5)).add 1)=some (.string t.text)∧W.cell? ((a.add (i * 5)).add 2)=some (.int .i64 t.n) ∧
     W.cell? ((a.add (i * 5)).add 3)=some (.slice a' t.kids.length cap')∧W.cell? ((a.add (i * 5)).add 4)=some (.int .i64 t.place)∧t.hold W.heap.size W a' cap'∧o6 t:=fun i hi => by
     have he:=hat i hi
     have hi' : i<elems.length:=by omega
     rw [List.getElem?_eq_getElem hi',a4s] at he
     obtain ⟨cs',hc,ht⟩:=Option.bind_eq_some_iff.1 he
     obtain ⟨t,a',cap',rfl,hh,hsh⟩:=ih k (by omega) cs' _ ht (hall _ (List.mem_map_of_mem (List.getElem_mem hi')))
     obtain ⟨-,-,hcell⟩:=World.cells?_some hc
     exact ⟨t,a',cap',hcell 0 (by omega),hcell 1 (by omega),hcell 2 (by omega),hcell 3 (by omega),hcell 4 (by omega),hh,hsh⟩
    by_cases hz : len=0
    ·subst hz
     exact ⟨.mk kind s n [] p,some a,cap,rfl,⟨w0,w1,w2,w4,Nat.zero_le _,hcm,trivial⟩,hshort,trivial⟩
    obtain ⟨b,off,spot⟩:=a
    have hspot : spot=none:=by
     obtain ⟨t,a',cap',q0,-⟩:=hk 0 (by omega)
     rw [Nat.zero_mul] at q0
     simpa [Addr.add] using World.cell?_spot q0
    subst hspot
    have hk' : ∀ i,i<len→∃ t : Nd,(∃ b' off' a' cap',Nd.At W.heap.size W (some ⟨b,off,none⟩) i t b' off' a' cap')∧o6 t:=fun i hi => by
     obtain ⟨t,a',cap',q0,q1,q2,q3,q4,hh,hsh⟩:=hk i hi
     rw [Go.WideShapes.add_plain,Go.WideShapes.add_plain] at q0 q1 q2 q3 q4
     rw [Nat.add_zero] at q0
     have lt : b<W.heap.size:=by
      rcases Nat.lt_or_ge b W.heap.size with g | g
      ·exact g
      ·have : W.heap[b]?=none:=Array.getElem?_eq_none g
       simp [World.cell?,this] at q0
     exact ⟨t,⟨b,off,a',cap',rfl,lt,q0,q1,q2,q3,q4,hh⟩,hsh⟩
    obtain ⟨l,hl,hr⟩:=sF len hk'
    subst hl
    refine ⟨.mk kind s n l p,some ⟨b,off,none⟩,cap,rfl,⟨w0,w1,w2,w4,hlc,hcm,Nd.holds.of l 0 fun j hj => ?_⟩,hshort,kJ l fun j hj => (hr j hj).2⟩
    rw [Nat.zero_add]
    exact (hr j hj).1
theorem a0U {H : Type} {enc : TypeId × Value→H} {W : World} {sp : Nat→Bool} {held : Bool} {r : Reach} {b : Nat} {v : Value} {d : DataW H} {p : List MemPlace}
 (hv : Value.okWide Tryz.prog W r b 24 v) (h : DataW.Trod enc Tryz.prog W 0 sp held 24 v d p) (hw : (d.weights Tryz.prog 24).all (· ≤ reachBytes)=true) :
 ∃ (t : Nd) (a : Option Addr) (cap : Nat),v=.agg #[.int .i64 t.kind,.string t.text,.int .i64 t.n,.slice a t.kids.length cap,.int .i64 t.place]∧t.hold W.heap.size W a cap∧o6 t:=by
 obtain ⟨cs,rfl,-⟩:=okWide_struct Tryz.underlying24 hv
 obtain ⟨fuel,hf⟩:=h
 obtain ⟨t,a,cap,e,hh,hs⟩:=wW fuel _ _ hf hw
 refine ⟨t,a,cap,?_,hh,hs⟩
 have : cs.toList=[.int .i64 t.kind,.string t.text,.int .i64 t.n,.slice a t.kids.length cap,.int .i64 t.place]:=e
 rw [← this]
theorem a0H {W : World} (h : W.ShapedOpen Tryz.prog) : Env W :=
 Go.Proofs.cell_of_shapedOpen_int (zero:=#[.int .i64 0]) (t:=3) (g:=2) h (of_decide_eq_true (by kernel_rfl)) (by kernel_rfl) rfl (by kernel_rfl) (by kernel_rfl) Tryz.underlying3
end
section
open Go.ChangeShapes Go.WideShapes Go.ChangeAt Go.RowKit
theorem a5L : Tryz.prog.globalNamed "internal/strconv.uint64pow10"=some 3:=by kernel_rfl
theorem a2i : (Tryz.prog.globals[3]?).map (·.type)=some 215:=by kernel_rfl
theorem a5A : Tryz.prog.underlying 215=some (.array 20 200):=by kernel_rfl
theorem a5J : Tryz.prog.underlying 200=some (.int .u64):=by kernel_rfl
theorem a5H : Tryz.prog.cellsOf 200=1:=by kernel_rfl
theorem a5q : Tryz.prog.cellsOf 215=20:=by kernel_rfl
end
section
open Lib (hid)
open Go.RowKit
structure PS (P g cap : Nat) (ts : List Tk) (a : Nat) (n c f : Int) (W : World) : Prop where
 at' : W.heap[P]?=some (.cells #[.slice (some ⟨g,0,none⟩) ts.length cap,.int .i64 a,.int .i64 n,.int .i64 c,.int .i64 f] 105 (0,0))
 toks : xJ W g 0 ts
 ne : g≠P
 lt : g<W.heap.size
 le : ts.length≤cap
 max : cap≤maxLen
 pos : a<ts.length
theorem a2L {W : World} {P : Nat} {x0 x1 x2 x3 x4 : Value} {T : TypeId} (h : W.heap[P]?=some (.cells #[x0,x1,x2,x3,x4] T (0,0))) : (W.cell? ⟨P,0,none⟩=some x0∧W.cell? ⟨P,1,none⟩=some x1∧W.cell? ⟨P,2,none⟩=some x2∧W.cell? ⟨P,3,none⟩=some x3∧W.cell? ⟨P,4,none⟩=some x4) ∧
 (W.frozen? ⟨P,0,none⟩=false∧W.frozen? ⟨P,1,none⟩=false∧W.frozen? ⟨P,2,none⟩=false∧W.frozen? ⟨P,3,none⟩=false∧W.frozen? ⟨P,4,none⟩=false):=by
 refine ⟨⟨?_,?_,?_,?_,?_⟩,?_,?_,?_,?_,?_⟩ <;> simp [World.cell?,World.frozen?,h]
section
variable {P g cap : Nat} {ts : List Tk} {a : Nat} {n c f : Int} {W W' : World}
theorem PS.cells (h : PS P g cap ts a n c f W) : (W.cell? ⟨P,0,none⟩=some (.slice (some ⟨g,0,none⟩) ts.length cap)∧W.cell? ⟨P,1,none⟩=some (.int .i64 a)∧W.cell? ⟨P,2,none⟩=some (.int .i64 n)∧W.cell? ⟨P,3,none⟩=some (.int .i64 c)∧W.cell? ⟨P,4,none⟩=some (.int .i64 f)) ∧
 (W.frozen? ⟨P,0,none⟩=false∧W.frozen? ⟨P,1,none⟩=false∧W.frozen? ⟨P,2,none⟩=false∧W.frozen? ⟨P,3,none⟩=false∧W.frozen? ⟨P,4,none⟩=false):=a2L h.at'
theorem PS.plt (h : PS P g cap ts a n c f W) : P<W.heap.size:=(Array.getElem?_eq_some_iff.1 h.at').1
theorem PS.below (h : PS P g cap ts a n c f W) (hb : Below W.heap.size W W') : PS P g cap ts a n c f W' :=
 ⟨(hb.block P h.plt).trans h.at',h.toks.below hb h.lt,h.ne,Nat.lt_of_lt_of_le h.lt hb.size,h.le,h.max,h.pos⟩
theorem PS.tok (h : PS P g cap ts a n c f W) : W.cell? ⟨g,a * 4,none⟩=some (.int .i64 (ts[a]'h.pos).kind)∧W.cell? ⟨g,a * 4 + 1,none⟩=some (.string ⟨(ts[a]'h.pos).text.toArray⟩)∧W.cell? ⟨g,a * 4 + 2,none⟩=some (.int .i64 (ts[a]'h.pos).n)∧W.cell? ⟨g,a * 4 + 3,none⟩=some (.int .i64 (ts[a]'h.pos).pos):=by
 have:=h.toks a h.pos
 rw [Nat.zero_add] at this
 exact this
theorem PS.kept (h : PS P g cap ts a n c f W) (i : Nat) (v : Value) {a' : Nat} {n' c' f' : Int} (hp : a'<ts.length) (hat : (W.setCell ⟨P,i,none⟩ v).heap[P]?=some (.cells #[.slice (some ⟨g,0,none⟩) ts.length cap,.int .i64 a',.int .i64 n',.int .i64 c',.int .i64 f'] 105 (0,0))) :
 PS P g cap ts a' n' c' f' (W.setCell ⟨P,i,none⟩ v):=by
 refine ⟨hat,fun j hj => ?_,h.ne,by simp [World.setCell]; exact h.lt,h.le,h.max,hp⟩
 have q : ∀ o,(W.setCell ⟨P,i,none⟩ v).cell? ⟨g,o,none⟩=W.cell? ⟨g,o,none⟩:=fun o => World.cell?_of_block (Below.heap_setCell _ _ _ _ (fun e => h.ne (by simp at e; exact e)))
 obtain ⟨h0,h1,h2,h3⟩:=h.toks j hj
 exact ⟨(q _).trans h0,(q _).trans h1,(q _).trans h2,(q _).trans h3⟩
theorem PS.set_at (h : PS P g cap ts a n c f W) {a' : Nat} (hp : a'<ts.length) : PS P g cap ts a' n c f (W.setCell ⟨P,1,none⟩ (.int .i64 a')) :=
 h.kept 1 _ hp (by simp [World.setCell,Array.getElem?_modify,h.at'])
theorem PS.set_nest (h : PS P g cap ts a n c f W) (n' : Int) : PS P g cap ts a n' c f (W.setCell ⟨P,2,none⟩ (.int .i64 n')) :=
 h.kept 2 _ h.pos (by simp [World.setCell,Array.getElem?_modify,h.at'])
theorem PS.set_bad (h : PS P g cap ts a n c f W) (c' f' : Int) : PS P g cap ts a n c' f' ((W.setCell ⟨P,3,none⟩ (.int .i64 c')).setCell ⟨P,4,none⟩ (.int .i64 f')) :=
 (h.kept (n':=n) (c':=c') (f':=f) 3 (.int .i64 c') h.pos (by simp [World.setCell,Array.getElem?_modify,h.at'])).kept 4 _ h.pos (by simp [World.setCell,Array.getElem?_modify,h.at'])
end
theorem F4 (W : World) (P i : Nat) (v : Value) : W.grownBy (W.setCell ⟨P,i,none⟩ v) (some P) :=
 ⟨rfl,rfl,rfl,by simp [World.setCell],fun k _ hk => Below.heap_setCell _ _ _ _ (fun e => hk (by simpa using e))⟩
theorem c9 {W W' : World} {r : Option Nat} (h : Below W.heap.size W W') : W.grownBy W' r:=⟨h.os,h.tape,h.output,h.size,fun k hk _ => h.block k hk⟩
theorem a6 {A B C : World} {r : Option Nat} (h : A.grownBy B r) (k : B.grownBy C r) : A.grownBy C r :=
 ⟨k.os.trans h.os,k.tape.trans h.tape,k.output.trans h.output,Nat.le_trans h.size k.size,fun i hi hr => (k.block i (Nat.lt_of_lt_of_le hi h.size) hr).trans (h.block i hi hr)⟩
theorem c8 {A B C : World} {r : Option Nat} (h : A.grownBy B r) (k : Below A.heap.size B C) : A.grownBy C r :=
 ⟨k.os.trans h.os,k.tape.trans h.tape,k.output.trans h.output,Nat.le_trans h.size k.size,fun i hi hr => (k.block i hi).trans (h.block i hi hr)⟩
theorem PS.later {P g cap : Nat} {ts : List Tk} {a : Nat} {n c f : Int} {B : Nat} {W W' : World} (h : PS P g cap ts a n c f W) (hb : Below B W W') (hp : P<B) (hg : g<B) : PS P g cap ts a n c f W' :=
 ⟨(hb.block P hp).trans h.at',h.toks.below hb hg,h.ne,Nat.lt_of_lt_of_le h.lt hb.size,h.le,h.max,h.pos⟩
theorem r8 {B : Nat} {w w' : World} (h : Below B w w') : Below B w w'.drew:=⟨h.os,h.tape,h.output,h.size,h.block⟩
theorem kC {ts : List Tk} {a : Nat} (h : a<ts.length) : hd (ts.drop a)=ts[a]:=by
 unfold hd
 rw [List.drop_eq_getElem_cons h]; rfl
theorem X9 (P g cap : Nat) (ts : List Tk) (a : Nat) (n c f : Int) (w : World) (h : PS P g cap ts a n c f w) :
 Calls Tryz.prog 65 #[.pointer (some ⟨P,0,none⟩)] w fun e w' => e=.returned (tkV (ts[a]'h.pos))∧Below w.heap.size w w':=by
 have hpos:=h.pos
 have hmx:=h.max
 have hle:=h.le
 unfold maxLen at hmx
 obtain ⟨W,hW⟩ : ∃ W,W=w.alloc (.cells #[.int .i64 0,.string ⟨#[]⟩,.int .i64 0,.int .i64 0] 108):=⟨_,rfl⟩
 have HB:=hid (show Below w.heap.size w W from hW ▸ a7 _ _)
 have Z0:=(show bI w.heap.size W from hW ▸ bI.make w).cells
 have h':=hid (h.below HB)
 obtain ⟨⟨p0,p1,p2,p3,p4⟩,-⟩:=h'.out.cells
 obtain ⟨t0,t1,t2,t3⟩:=h'.out.tok
 obtain ⟨c0,c1,c2,c3,f0,f1,f2,f3⟩:=Z0
 generalize hT : ts[a]'hpos=T at t0 t1 t2 t3 ⊢
 clear hT
 go_enter Tryz.func65,Tryz.ntmps65
 go_wp2_with fail
 rw [← hW]
 clear hW h
 go_region
 all_goals
  go_wp2_with fail
  exact bodyPost_ret (v:=tkV T) (by simp [results,Tryz.results65,go_sem,tkV,c0,c1,c2,c3]) rfl ⟨rfl,r8 (d8 HB _ _ _ _)⟩
theorem a48 {ts : List Tk} {a : Nat} (h : a<ts.length) (x : List UInt8) : isT x (ts.drop a)=((ts[a].kind == 2 || ts[a].kind == 8) && ts[a].text == x):=by
 unfold isT; rw [kC h]
theorem qS (P g cap : Nat) (ts : List Tk) (a : Nat) (n c f : Int) (x : ByteArray) (w : World) (h : PS P g cap ts a n c f w) :
 Calls Tryz.prog 99 #[.pointer (some ⟨P,0,none⟩),.string x] w fun e w' => e=.returned (.bool (isT x.data.toList (ts.drop a)))∧Below w.heap.size w w':=by
 have I:=hid (a48 h.pos x.data.toList)
 have C:=hid (X9 P g cap ts a n c f w h)
 generalize hT : ts[a]'h.pos=T at I C
 clear hT h
 go_enter Tryz.func99,Tryz.ntmps99
 go_wp2_with fail
 (with_reducible refine Calls.mono C.out ?_)
 rintro e w1 ⟨rfl,hb⟩
 have HB:=hid hb
 clear hb
 unfold tkV
 cases h1 : T.kind == 2
 ·cases h2 : T.kind == 8
  ·have F:=hid (show isT x.data.toList (ts.drop a)=false by rw [I.out,h1,h2]; rfl)
   go_wp2_with fail
   go_ret
   exact ⟨y9 F.out.symm,HB.out.alloc HB.out.size _⟩
  ·have F:=hid (show isT x.data.toList (ts.drop a)=(T.text == x.data.toList) by rw [I.out,h1,h2]; rfl)
   go_wp2_with fail
   go_ret
   exact ⟨y9 (by rw [F.out,Lib.toList_data]),HB.out.alloc HB.out.size _⟩
 ·have F:=hid (show isT x.data.toList (ts.drop a)=(T.text == x.data.toList) by rw [I.out,h1]; rfl)
  go_wp2_with fail
  go_ret
  exact ⟨y9 (by rw [F.out,Lib.toList_data]),HB.out.alloc HB.out.size _⟩
theorem gC {ts : List Tk} {a : Nat} (h : a<ts.length) : hd (ts.drop a)=ts[a]:=kC h
def bJ (ts : List Tk) : Prop:=∀ j (hj : j<ts.length),ts[j].kind≠0→j + 1<ts.length
theorem vQ {ts : List Tk} {a : Nat} (h : a<ts.length) (hk : ts[a].kind≠0) : b9 (ts.drop a)=ts.drop (a + 1):=by
 unfold b9
 rw [kC h,if_neg hk,List.tail_drop]
theorem a1d {ts : List Tk} {a : Nat} (h : a<ts.length) (hk : ts[a].kind=0) : b9 (ts.drop a)=ts.drop a:=by
 unfold b9
 rw [kC h,if_pos hk]
def a5B (P g cap : Nat) (ts : List Tk) (a : Nat) (n c f : Int) (w : World) (e : Ending) (w' : World) : Prop :=
 ∃ a',(∃ h : a<ts.length,e=.returned (tkV ts[a]))∧PS P g cap ts a' n c f w'∧b9 (ts.drop a)=ts.drop a'∧w.grownBy w' (some P)∧a≤a'
theorem iL (P g cap : Nat) (ts : List Tk) (a : Nat) (n c f : Int) (w : World) (h : PS P g cap ts a n c f w) (he : bJ ts) :
 Calls Tryz.prog 100 #[.pointer (some ⟨P,0,none⟩)] w (a5B P g cap ts a n c f w):=by
 have hpos:=h.pos
 have hmx:=h.max
 have hle:=h.le
 unfold maxLen at hmx
 have hPlt:=h.plt
 have hg0:=hid h.lt
 have HN:=hid (he a hpos)
 obtain ⟨V,hV⟩ : ∃ V,V=w.alloc (.cells #[.int .i64 0,.string ⟨#[]⟩,.int .i64 0,.int .i64 0] 108):=⟨_,rfl⟩
 have HBV:=hid (show Below w.heap.size w V from hV ▸ a7 _ _)
 have hsV:=hid (show V.heap.size=w.heap.size + 1 by rw [hV]; simp)
 have Z0:=hid (show bI w.heap.size V from hV ▸ bI.make w)
 have h':=hid (h.below HBV)
 obtain ⟨⟨p0,p1,p2,p3,p4⟩,⟨g0,g1,g2,g3,g4⟩⟩:=h'.out.cells
 obtain ⟨t0,t1,t2,t3⟩:=h'.out.tok
 have hgl:=h'.out.lt
 have hpl:=h'.out.plt
 have K1:=hid (fun hk => vQ (ts:=ts) hpos hk)
 have K0:=hid (fun hk => a1d (ts:=ts) hpos hk)
 obtain ⟨c0,c1,c2,c3,f0,f1,f2,f3⟩:=Z0.out.cells
 have hwl : w.heap.size<V.heap.size:=by rw [hsV.out]; omega
 have HE:=hid (show ∃ h : a<ts.length,Ending.returned (tkV (ts[a]'hpos))=.returned (tkV ts[a]) from ⟨hpos,rfl⟩)
 generalize hT : ts[a]'hpos=T at t0 t1 t2 t3 K1 K0 HN HE
 clear hT
 go_enter Tryz.func100,Tryz.ntmps100
 go_wp2_with fail
 rw [← hV]
 clear hV h
 go_region
 all_goals
  by_cases hk : T.kind=0
  ·have e0 : (T.kind != 0)=false:=by rw [hk]; rfl
   have HK:=hid hk
   clear hk
   go_wp2_with fail
   refine bodyPost_ret (v:=tkV T) (by simp [results,Tryz.results100,go_sem,tkV,c0,c1,c2,c3,hwl]) rfl ?_
   have HF:=r8 ((d8 (Below.refl w.heap.size V) (.int .i64 T.kind) (.string ⟨T.text.toArray⟩) (.int .i64 T.n) (.int .i64 T.pos)).alloc (by simpa using HBV.out.size) (.cells #[.int .i64 T.kind,.string ⟨T.text.toArray⟩,.int .i64 T.n,.int .i64 T.pos] 108))
   exact ⟨a,HE,h'.out.later HF hPlt hg0,K0.out HK,c8 (c9 HBV) HF,Nat.le_refl _⟩
  ·have e0 : (T.kind != 0)=true:=bne_iff_ne.2 hk
   have HK:=hid hk
   clear hk
   go_wp2_with fail
   refine bodyPost_ret (v:=tkV T) (by simp [results,Tryz.results100,go_sem,tkV,c0,c1,c2,c3,hwl]) rfl ?_
   have HS:=h'.out.set_at (HN.out HK)
   have HF:=r8 ((d8 (Below.refl w.heap.size (V.setCell ⟨P,1,none⟩ (.int .i64 ((a + 1 : Nat) : Int)))) (.int .i64 T.kind) (.string ⟨T.text.toArray⟩) (.int .i64 T.n) (.int .i64 T.pos)).alloc (by simpa using HBV.out.size) (.cells #[.int .i64 T.kind,.string ⟨T.text.toArray⟩,.int .i64 T.n,.int .i64 T.pos] 108))
   rw [Int.natCast_add] at HF HS
   exact ⟨a + 1,HE,HS.later HF hPlt hg0,K1.out HK,c8 (a6 (c9 HBV) (F4 _ _ _ _)) HF,Nat.le_succ _⟩
end
section
open Lib (hid)
open Go.RowKit
abbrev Sx:=Except (Int × Int) (List Tk)
def a5I (ts : List Tk) (nest : Nat) (σ : Sx) (a : Nat) (n c f : Int) : Prop:=match σ with
 | .ok r => r=ts.drop a∧n=nest∧c=0∧f=0
 | .error (k,p) => c=k∧f=p∧k≠0∧(nest : Int)≤n∧n≤301
def SP (P g cap : Nat) (ts : List Tk) (nest : Nat) (σ : Sx) (W : World) : Prop:=∃ a n c f,PS P g cap ts a n c f W∧a5I ts nest σ a n c f
def n7 (x : List UInt8) (σ : Sx) : Sx:=match σ with
 | .ok r => if isT x r=true then .ok (b9 r) else .error (74,(hd r).pos)
 | .error e => .error e
def dL (nest : Nat) (σ : Sx) : Sx:=match σ with
 | .ok r => if 300 < nest + 1 then .error (75,(hd r).pos) else .ok r
 | .error e => .error e
def x6 (k : Int) (σ : Sx) : Sx:=match σ with
 | .ok r => if (hd r).kind=k then .ok (b9 r) else .error (74,(hd r).pos)
 | .error e => .error e
theorem J0 (P g cap : Nat) (ts : List Tk) (a : Nat) (n : Int) (w : World) (k p : Int) (h : PS P g cap ts a n 0 0 w) :
 Calls Tryz.prog 66 #[.pointer (some ⟨P,0,none⟩),.int .i64 k,.int .i64 p] w fun e w' => e=.returned (.tuple #[])∧PS P g cap ts a n k p w'∧w.grownBy w' (some P):=by
 obtain ⟨⟨p0,p1,p2,p3,p4⟩,⟨g0,g1,g2,g3,g4⟩⟩:=h.cells
 have HF:=hid (h.set_bad k p)
 have HG:=hid (a6 (r:=some P) (F4 w P 3 (.int .i64 k)) (F4 _ P 4 (.int .i64 p)))
 clear h
 go_enter Tryz.func66,Tryz.ntmps66
 go_wp2_with fail
 (first | (refine bodyPost_end (results_none rfl _ _ _) rfl ?_) | (refine bodyPost_ret (results_none rfl _ _ _) rfl ?_))
 exact ⟨rfl,HF,HG⟩
theorem Y9 (k n p : Int) (s : ByteArray) (w : World) : (Instr.field 108 (.agg #[.int .i64 k,.string s,.int .i64 n,.int .i64 p]) 3).run Tryz.prog w=.ok (.int .i64 p) w:=by kernel_rfl
def a4y (P g cap : Nat) (ts : List Tk) (nest : Nat) (σ : Sx) (w : World) (e : Ending) (w' : World) : Prop:=e=.returned (.tuple #[])∧SP P g cap ts nest σ w'∧w.grownBy w' (some P)
theorem SP.ok {P g cap : Nat} {ts : List Tk} {nest : Nat} {r : List Tk} {W : World} (h : SP P g cap ts nest (.ok r) W) : ∃ a,r=ts.drop a∧PS P g cap ts a nest 0 0 W:=by
 obtain ⟨a,n,c,f,h,hr,rfl,rfl,rfl⟩:=h
 exact ⟨a,hr,h⟩
theorem SP.error {P g cap : Nat} {ts : List Tk} {nest : Nat} {k p : Int} {W : World} (h : SP P g cap ts nest (.error (k,p)) W) : k≠0∧∃ a n,PS P g cap ts a n k p W∧(nest : Int)≤n∧n≤301:=by
 obtain ⟨a,n,c,f,h,rfl,rfl,hk,h1,h2⟩:=h
 exact ⟨hk,a,n,h,h1,h2⟩
theorem SP.of_ok {P g cap : Nat} {ts : List Tk} {nest a : Nat} {r : List Tk} {W : World} (h : PS P g cap ts a nest 0 0 W) (hr : r=ts.drop a) : SP P g cap ts nest (.ok r) W:=⟨a,_,_,_,h,hr,rfl,rfl,rfl⟩
theorem SP.of_error {P g cap : Nat} {ts : List Tk} {nest a : Nat} {n k p : Int} {W : World} (h : PS P g cap ts a n k p W) (hk : k≠0) (h1 : (nest : Int)≤n) (h2 : n≤301) : SP P g cap ts nest (.error (k,p)) W:=⟨a,_,_,_,h,rfl,rfl,hk,h1,h2⟩
theorem n5 (P g cap : Nat) (ts : List Tk) (nest : Nat) (σ : Sx) (x : ByteArray) (w : World) (hn : nest≤300) (h : SP P g cap ts nest σ w) (he : bJ ts) :
 Calls Tryz.prog 97 #[.pointer (some ⟨P,0,none⟩),.string x] w (a4y P g cap ts nest (n7 x.data.toList σ) w):=by
 cases σ with
 | error q =>
   obtain ⟨k,p⟩:=q
   obtain ⟨hk,a,n,h,h1,h2⟩:=h.error
   have C:=hid (qS P g cap ts a n k p x w h)
   have ek : (k != 0)=true:=bne_iff_ne.2 hk
   have HK:=hid hk
   have H:=hid h
   clear h hk
   go_enter Tryz.func97,Tryz.ntmps97
   go_wp2_with fail
   (with_reducible refine Calls.mono C.out ?_)
   rintro e w1 ⟨rfl,hb⟩
   have H1:=hid (H.out.below hb)
   obtain ⟨⟨p0,p1,p2,p3,p4⟩,-⟩:=H1.out.cells
   have HB:=hid hb
   clear hb
   go_wp2_with fail
   (first | (refine bodyPost_end (results_none rfl _ _ _) rfl ?_) | (refine bodyPost_ret (results_none rfl _ _ _) rfl ?_))
   exact ⟨rfl,SP.of_error H1 HK h1 h2,c9 HB⟩
 | ok r =>
   obtain ⟨a,rfl,hp⟩:=h.ok
   have C:=hid (qS P g cap ts a nest 0 0 x w hp)
   have H:=hid hp
   clear h hp
   go_enter Tryz.func97,Tryz.ntmps97
   go_wp2_with fail
   (with_reducible refine Calls.mono C.out ?_)
   rintro e w1 ⟨rfl,hb⟩
   have H1:=hid (H.out.below hb)
   obtain ⟨⟨p0,p1,p2,p3,p4⟩,-⟩:=H1.out.cells
   have HB:=hid hb
   clear hb
   have C1:=hid (X9 P g cap ts a nest 0 0 w1 H1)
   have C2:=hid (iL P g cap ts a nest 0 0 w1 H1 he)
   have R:=hid (show n7 x.data.toList (.ok (ts.drop a))=if isT x.data.toList (ts.drop a)=true then .ok (b9 (ts.drop a)) else .error (74,(hd (ts.drop a)).pos) from rfl)
   have hpos:=H1.out.pos
   have D:=hid (gC hpos)
   generalize ts[a]'hpos=T at C1 D
   generalize isT x.data.toList (ts.drop a)=B at R ⊢
   cases B
   ·go_wp2_with fail
    (with_reducible refine Calls.mono C1.out ?_)
    rintro e w2 ⟨rfl,hb⟩
    have H2:=hid (H1.out.below hb)
    have HB2:=hid hb
    clear hb
    have C3:=hid (J0 P g cap ts a nest w2 74 T.pos H2)
    unfold tkV
    have hfd:=Y9 T.kind T.n T.pos ⟨T.text.toArray⟩
    go_wp2_with fail
    (with_reducible refine Calls.mono C3.out ?_)
    rintro e w3 ⟨rfl,hp,hg⟩
    go_wp2_with fail
    (first | (refine bodyPost_end (results_none rfl _ _ _) rfl ?_) | (refine bodyPost_ret (results_none rfl _ _ _) rfl ?_))
    refine ⟨rfl,?_,a6 (c9 HB) (a6 (c9 HB2) hg)⟩
    rw [R.out,if_neg (by decide),D.out]
    exact SP.of_error hp (by decide) (Int.le_refl _) (by omega)
   ·go_wp2_with fail
    (with_reducible refine Calls.mono C2.out ?_)
    rintro e w3 ⟨a',⟨-,rfl⟩,hp,hs,hg,-⟩
    go_wp2_with fail
    (first | (refine bodyPost_end (results_none rfl _ _ _) rfl ?_) | (refine bodyPost_ret (results_none rfl _ _ _) rfl ?_))
    refine ⟨rfl,?_,a6 (c9 HB) hg⟩
    rw [R.out,if_pos trivial]
    exact SP.of_ok hp hs
end
section
open Go.RowKit
def goX (σ : Sx) (f : List Tk→Rd) : Rd:=match σ with
 | .ok r => f r
 | .error e => .error e
def l8 (x : Rd) : Sx:=match x with
 | .ok (_,r) => .ok r
 | .error e => .error e
def dV (t : Nd) (σ : Sx) : Sx:=match σ with
 | .ok r => if 100 < i8 t then .error (75,t.place) else .ok r
 | .error e => .error e
def Is (x : Rd) (t : Nd) : Prop:=∀ t' r,x=.ok (t',r)→t'=t
theorem z8 {x : Rd} {t : Nd} (h : Is x t) (f : Nd→List Tk→Rd) : x.then f=goX (l8 x) (f t):=by
 cases x with
 | error e => rfl
 | ok p => obtain ⟨t',r⟩:=p; obtain rfl:=h t' r rfl; rfl
theorem A8 (σ : Sx) (w : List UInt8) (f : List Tk→Rd) : goX σ (fun r => o8 w r f)=goX (n7 w σ) f:=by
 cases σ with
 | error e => rfl
 | ok r =>
   show o8 w r f=goX (if isT w r=true then .ok (b9 r) else .error (74,(hd r).pos)) f
   unfold o8
   split <;> rfl
theorem gO (σ : Sx) (k : Int) (f : Tk→List Tk→Rd) (T : Tk) (h : ∀ r,σ=.ok r→T=hd r) : goX σ (fun r => U0 k r f)=goX (x6 k σ) (f T):=by
 cases σ with
 | error e => rfl
 | ok r =>
   show U0 k r f=goX (if (hd r).kind=k then .ok (b9 r) else .error (74,(hd r).pos)) (f T)
   obtain rfl:=h r rfl
   unfold U0
   split <;> rfl
theorem Y2 (σ : Sx) (g : List Tk→Rd) (f : Nd→List Tk→Rd) : goX σ (fun r => (g r).then f)=(goX σ g).then f:=by
 cases σ <;> rfl
theorem cQ (l : List Tk) (f : List Tk→Rd) : goX (.ok l) f=f l:=rfl
theorem cI (t : Nd) (σ : Sx) : l8 (goX σ (made t))=dV t σ:=by
 cases σ with
 | error e => rfl
 | ok r =>
   show l8 (made t r)=if 100<i8 t then .error (75,t.place) else .ok r
   unfold made
   split <;> rfl
theorem Y6 (t : Nd) (σ : Sx) : l8 (goX σ fun r => .ok (t,r))=σ:=by
 cases σ <;> rfl
theorem dB (t : Nd) (σ : Sx) {t' : Nd} {r : List Tk} (h : goX σ (made t)=.ok (t',r)) : t'=t∧σ=.ok r∧i8 t≤100:=by
 cases σ with
 | error e => cases h
 | ok r' =>
   replace h : made t r'=.ok (t',r):=h
   unfold made at h
   split at h
   ·cases h
   ·cases h; exact ⟨rfl,rfl,by omega⟩
theorem Q9 {σ : Sx} {f : List Tk→Rd} {p : Nd × List Tk} (h : goX σ f=.ok p) : ∃ r,σ=.ok r∧f r=.ok p:=by
 cases σ with
 | error e => cases h
 | ok r => exact ⟨r,rfl,h⟩
theorem q6 {x : Rd} {r : List Tk} (h : l8 x=.ok r) : ∃ t,x=.ok (t,r):=by
 cases x with
 | error e => cases h
 | ok p => obtain ⟨t,r'⟩:=p; cases h; exact ⟨t,rfl⟩
theorem F0 {w : List UInt8} {σ : Sx} {r : List Tk} (h : n7 w σ=.ok r) : ∃ r',σ=.ok r'∧isT w r'=true∧r=b9 r':=by
 cases σ with
 | error e => cases h
 | ok r' =>
   replace h : (if isT w r'=true then .ok (b9 r') else .error (74,(hd r').pos) : Sx)=.ok r:=h
   split at h
   ·rename_i c; cases h; exact ⟨r',rfl,c,rfl⟩
   ·cases h
theorem lL {k : Int} {σ : Sx} {r : List Tk} (h : x6 k σ=.ok r) : ∃ r',σ=.ok r'∧(hd r').kind=k∧r=b9 r':=by
 cases σ with
 | error e => cases h
 | ok r' =>
   replace h : (if (hd r').kind=k then .ok (b9 r') else .error (74,(hd r').pos) : Sx)=.ok r:=h
   split at h
   ·rename_i c; cases h; exact ⟨r',rfl,c,rfl⟩
   ·cases h
def f8 (av : Nat→Prop) (W W' : World) : Prop:=∀ b,av b→W'.heap[b]?=W.heap[b]?
theorem f8.refl (av : Nat→Prop) (W : World) : f8 av W W:=fun _ _ => rfl
theorem f8.trans {av : Nat→Prop} {A B C : World} (h : f8 av A B) (k : f8 av B C) : f8 av A C:=fun b hb => (k b hb).trans (h b hb)
theorem f8.set {av : Nat→Prop} {A B : World} (h : f8 av A B) {c : Nat} (hc : ∀ b,av b→b≠c) (i : Nat) (v : Value) : f8 av A (B.setCell ⟨c,i,none⟩ v):=fun b hb => (Below.heap_setCell _ _ _ _ (hc b hb)).trans (h b hb)
theorem f8.grown {av : Nat→Prop} {A B C : World} {P : Nat} (h : f8 av A B) (g : B.grownBy C (some P)) (hl : ∀ b,av b→b<B.heap.size∧b≠P) : f8 av A C:=fun b hb => (g.block b (hl b hb).1 (fun e => (hl b hb).2 (Option.some.inj e))).trans (h b hb)
theorem d6 {av av' : Nat→Prop} {W W' : World} {t : Nd} {a : Option Addr} {cp : Nat} (h : t.lies av W a cp) (hk : f8 av W W') (ha : ∀ b,av b→av' b) : t.lies av' W' a cp :=
 Nd.lies.kept (fun b hb => ⟨ha b hb,fun _ => World.cell?_of_block (hk b hb)⟩) t h
def Fr (lo hi : Nat) (b : Nat) : Prop:=lo≤b∧b<hi
def c6 (b : Nat) (t : Nd) (a : Option Addr) (cp : Nat) (W : World) : Prop:=W.heap[b]?=some (.cells #[.int .i64 t.kind,.string t.text,.int .i64 t.n,.slice a t.kids.length cp,.int .i64 t.place] 24 (0,0))
def D5 (b : Nat) (t : Tk) (W : World) : Prop:=W.heap[b]?=some (.cells #[.int .i64 t.kind,.string ⟨t.text.toArray⟩,.int .i64 t.n,.int .i64 t.pos] 108 (0,0))
def nd0 : Nd:=.mk 0 ⟨#[]⟩ 0 [] 0
section
variable {b : Nat} {t : Nd} {k : Tk} {a : Option Addr} {cp : Nat} {W W' : World}
theorem c6.lt (h : c6 b t a cp W) : b<W.heap.size:=(Array.getElem?_eq_some_iff.1 h).1
theorem D5.lt (h : D5 b k W) : b<W.heap.size:=(Array.getElem?_eq_some_iff.1 h).1
theorem c6.cells (h : c6 b t a cp W) : (W.cell? ⟨b,0,none⟩=some (.int .i64 t.kind)∧W.cell? ⟨b,1,none⟩=some (.string t.text)∧W.cell? ⟨b,2,none⟩=some (.int .i64 t.n)∧W.cell? ⟨b,3,none⟩=some (.slice a t.kids.length cp)∧W.cell? ⟨b,4,none⟩=some (.int .i64 t.place)) ∧
 (W.frozen? ⟨b,0,none⟩=false∧W.frozen? ⟨b,1,none⟩=false∧W.frozen? ⟨b,2,none⟩=false∧W.frozen? ⟨b,3,none⟩=false∧W.frozen? ⟨b,4,none⟩=false):=by
 have h' : W.heap[b]?=some (.cells #[.int .i64 t.kind,.string t.text,.int .i64 t.n,.slice a t.kids.length cp,.int .i64 t.place] 24 (0,0)):=h
 refine ⟨⟨?_,?_,?_,?_,?_⟩,?_,?_,?_,?_,?_⟩ <;> simp [World.cell?,World.frozen?,h']
theorem D5.cells (h : D5 b k W) : (W.cell? ⟨b,0,none⟩=some (.int .i64 k.kind)∧W.cell? ⟨b,1,none⟩=some (.string ⟨k.text.toArray⟩)∧W.cell? ⟨b,2,none⟩=some (.int .i64 k.n)∧W.cell? ⟨b,3,none⟩=some (.int .i64 k.pos)) ∧
 (W.frozen? ⟨b,0,none⟩=false∧W.frozen? ⟨b,1,none⟩=false∧W.frozen? ⟨b,2,none⟩=false∧W.frozen? ⟨b,3,none⟩=false):=by
 have h' : W.heap[b]?=some (.cells #[.int .i64 k.kind,.string ⟨k.text.toArray⟩,.int .i64 k.n,.int .i64 k.pos] 108 (0,0)):=h
 refine ⟨⟨?_,?_,?_,?_⟩,?_,?_,?_,?_⟩ <;> simp [World.cell?,World.frozen?,h']
theorem c6.make (w : World) (t : Nd) (a : Option Addr) (cp : Nat) : c6 w.heap.size t a cp (w.alloc (.cells #[.int .i64 t.kind,.string t.text,.int .i64 t.n,.slice a t.kids.length cp,.int .i64 t.place] 24)):=by
 show (w.heap.push _)[w.heap.size]?=_; simp
theorem D5.make (w : World) (k : Tk) : D5 w.heap.size k (w.alloc (.cells #[.int .i64 k.kind,.string ⟨k.text.toArray⟩,.int .i64 k.n,.int .i64 k.pos] 108)):=by
 show (w.heap.push _)[w.heap.size]?=_; simp
theorem c6.below (h : c6 b t a cp W) (hb : Below W.heap.size W W') : c6 b t a cp W':=(hb.block b h.lt).trans h
theorem D5.below (h : D5 b k W) (hb : Below W.heap.size W W') : D5 b k W':=(hb.block b h.lt).trans h
theorem c6.grown {P : Nat} (h : c6 b t a cp W) (g : W.grownBy W' (some P)) (hp : b≠P) : c6 b t a cp W':=(g.block b h.lt (fun e => hp (Option.some.inj e))).trans h
theorem D5.grown {P : Nat} (h : D5 b k W) (g : W.grownBy W' (some P)) (hp : b≠P) : D5 b k W':=(g.block b h.lt (fun e => hp (Option.some.inj e))).trans h
theorem c6.set (h : c6 b t a cp W) {c : Nat} (hc : b≠c) (i : Nat) (v : Value) : c6 b t a cp (W.setCell ⟨c,i,none⟩ v):=(Below.heap_setCell _ _ _ _ hc).trans h
theorem D5.set (h : D5 b k W) {c : Nat} (hc : b≠c) (i : Nat) (v : Value) : D5 b k (W.setCell ⟨c,i,none⟩ v):=(Below.heap_setCell _ _ _ _ hc).trans h
theorem j9 {cs : Array Value} {T : TypeId} {fr : Nat × Nat} (h : W.heap[b]?=some (.cells cs T fr)) (i : Nat) (v : Value) : (W.setCell ⟨b,i,none⟩ v).heap[b]?=some (.cells (cs.set! i v) T fr):=by
 simp [World.setCell,Array.getElem?_modify,h]
def Q7 (W : World) (b : Nat) (t : Nd) (a : Option Addr) (cp : Nat) : World:=((((W.setCell ⟨b,0,none⟩ (.int .i64 t.kind)).setCell ⟨b,1,none⟩ (.string t.text)).setCell ⟨b,2,none⟩ (.int .i64 t.n)).setCell ⟨b,3,none⟩ (.slice a t.kids.length cp)).setCell ⟨b,4,none⟩ (.int .i64 t.place)
theorem c6.put (h : c6 b t a cp W) (t' : Nd) (a' : Option Addr) (cp' : Nat) : c6 b t' a' cp' (Q7 W b t' a' cp'):=by
 have h' : W.heap[b]?=some (.cells #[.int .i64 t.kind,.string t.text,.int .i64 t.n,.slice a t.kids.length cp,.int .i64 t.place] 24 (0,0)):=h
 exact j9 (j9 (j9 (j9 (j9 h' 0 _) 1 _) 2 _) 3 _) 4 _
theorem f8.put {av : Nat→Prop} {A B : World} (h : f8 av A B) {c : Nat} (hc : ∀ b,av b→b≠c) (t : Nd) (a : Option Addr) (cp : Nat) : f8 av A (Q7 B c t a cp):=((((h.set hc _ _).set hc _ _).set hc _ _).set hc _ _).set hc _ _
theorem size_put (W : World) (b : Nat) (t : Nd) (a : Option Addr) (cp : Nat) : (Q7 W b t a cp).heap.size=W.heap.size:=by simp [Q7,World.setCell]
theorem p7 {w : World} {r : Option Nat} (h : w.grownBy W r) {c : Nat} (hc : w.heap.size≤c) (i : Nat) (v : Value) : w.grownBy (W.setCell ⟨c,i,none⟩ v) r:=by
 refine ⟨?_,?_,?_,by simp [World.setCell]; exact h.size,fun k hk hr => (Below.heap_setCell _ _ _ _ (fun e => by simp at e; omega)).trans (h.block k hk hr)⟩
 ·rw [← h.os]; rfl
 ·rw [← h.tape]; rfl
 ·rw [← h.output]; rfl
theorem t6 {w : World} {r : Option Nat} (h : w.grownBy W r) {c : Nat} (hc : w.heap.size≤c) (t : Nd) (a : Option Addr) (cp : Nat) : w.grownBy (Q7 W c t a cp) r :=
 p7 (p7 (p7 (p7 (p7 h hc _ _) hc _ _) hc _ _) hc _ _) hc _ _
end
theorem SP.keeps {P g cap : Nat} {ts : List Tk} {n : Nat} {σ : Sx} {W W' : World} (h : SP P g cap ts n σ W) (hk : f8 (fun b => b=P∨b=g) W W') (hs : W.heap.size≤W'.heap.size) : SP P g cap ts n σ W':=by
 obtain ⟨a,m,c,f,hp,hr⟩:=h
 refine ⟨a,m,c,f,⟨(hk P (.inl rfl)).trans hp.at',fun j hj => ?_,hp.ne,Nat.lt_of_lt_of_le hp.lt hs,hp.le,hp.max,hp.pos⟩,hr⟩
 have q : ∀ o,W'.cell? ⟨g,o,none⟩=W.cell? ⟨g,o,none⟩:=fun o => World.cell?_of_block (hk g (.inr rfl))
 obtain ⟨h0,h1,h2,h3⟩:=hp.toks j hj
 exact ⟨(q _).trans h0,(q _).trans h1,(q _).trans h2,(q _).trans h3⟩
theorem SP.blocks {P g cap : Nat} {ts : List Tk} {n : Nat} {σ : Sx} {W : World} (h : SP P g cap ts n σ W) : P<W.heap.size∧g<W.heap.size:=by
 obtain ⟨a,m,c,f,hp,hr⟩:=h
 exact ⟨hp.plt,hp.lt⟩
theorem SP.put {P g cap : Nat} {ts : List Tk} {n : Nat} {σ : Sx} {W : World} (h : SP P g cap ts n σ W) {c : Nat} (hP : c≠P) (hg : c≠g) (t : Nd) (a : Option Addr) (cp : Nat) : SP P g cap ts n σ (Q7 W c t a cp) :=
 h.keeps ((f8.refl _ W).put (fun b hb e => by subst e; rcases hb with rfl | rfl <;> contradiction) t a cp) (Nat.le_of_eq (size_put ..).symm)
theorem gW {av : Nat→Prop} {W : World} {b : Nat} {t : Nd} {a : Option Addr} {cp i : Nat} (hb : av b) (h0 : W.cell? ⟨b,0 + i * 5,none⟩=some (.int .i64 t.kind)) (h1 : W.cell? ⟨b,0 + i * 5 + 1,none⟩=some (.string t.text)) (h2 : W.cell? ⟨b,0 + i * 5 + 2,none⟩=some (.int .i64 t.n))
 (h3 : W.cell? ⟨b,0 + i * 5 + 3,none⟩=some (.slice a t.kids.length cp)) (h4 : W.cell? ⟨b,0 + i * 5 + 4,none⟩=some (.int .i64 t.place)) (hl : t.lies av W a cp) {ks : List Nd} (hks : Nd.lie av W ks (some ⟨b,0,none⟩) (i + 1)) : Nd.lie av W (t :: ks) (some ⟨b,0,none⟩) i:=by
 cases t with
 | mk k s n l p => exact ⟨⟨b,0,a,cp,rfl,hb,h0,h1,h2,h3,h4,hl⟩,hks⟩
theorem a4q {av : Nat→Prop} {W : World} {b : Nat} {T : TypeId} {t : Nd} {a : Option Addr} {cp : Nat} (hb : av b) (h : W.heap[b]?=some (.cells #[.int .i64 t.kind,.string t.text,.int .i64 t.n,.slice a t.kids.length cp,.int .i64 t.place] T (0,0))) (hl : t.lies av W a cp) : Nd.lie av W [t] (some ⟨b,0,none⟩) 0:=by
 refine gW hb ?_ ?_ ?_ ?_ ?_ hl trivial <;> simp [World.cell?,h]
theorem a3R {av : Nat→Prop} {W : World} {b : Nat} {T : TypeId} {t t' : Nd} {a a' : Option Addr} {cp cp' : Nat} (hb : av b) (h : W.heap[b]?=some (.cells #[.int .i64 t.kind,.string t.text,.int .i64 t.n,.slice a t.kids.length cp,.int .i64 t.place,.int .i64 t'.kind,.string t'.text,.int .i64 t'.n,.slice a' t'.kids.length cp',.int .i64 t'.place] T (0,0)))
 (hl : t.lies av W a cp) (hl' : t'.lies av W a' cp') : Nd.lie av W [t,t'] (some ⟨b,0,none⟩) 0:=by
 refine gW hb ?_ ?_ ?_ ?_ ?_ hl (gW hb ?_ ?_ ?_ ?_ ?_ hl' trivial) <;> simp [World.cell?,h]
theorem a0R {av : Nat→Prop} {W : World} {b : Nat} {T : TypeId} {t t' t2 : Nd} {a a' a2 : Option Addr} {cp cp' cp2 : Nat} (hb : av b) (h : W.heap[b]?=some (.cells #[.int .i64 t.kind,.string t.text,.int .i64 t.n,.slice a t.kids.length cp,.int .i64 t.place,.int .i64 t'.kind,.string t'.text,.int .i64 t'.n,.slice a' t'.kids.length cp',.int .i64 t'.place,.int .i64 t2.kind,.string t2.text,.int .i64 t2.n,.slice a2 t2.kids.length cp2,.int .i64 t2.place] T (0,0)))
 (hl : t.lies av W a cp) (hl' : t'.lies av W a' cp') (hl2 : t2.lies av W a2 cp2) : Nd.lie av W [t,t',t2] (some ⟨b,0,none⟩) 0:=by
 refine gW hb ?_ ?_ ?_ ?_ ?_ hl (gW hb ?_ ?_ ?_ ?_ ?_ hl' (gW hb ?_ ?_ ?_ ?_ ?_ hl2 trivial)) <;> simp [World.cell?,h]
theorem SP.mono {P g cap : Nat} {ts : List Tk} {n n' : Nat} {k p : Int} {W : World} (h : SP P g cap ts n (.error (k,p)) W) (hn : n'≤n) : SP P g cap ts n' (.error (k,p)) W:=by
 obtain ⟨hk,a,m,hp,h1,h2⟩:=h.error
 exact SP.of_error hp hk (by omega) h2
theorem SP.below {P g cap : Nat} {ts : List Tk} {n : Nat} {σ : Sx} {W W' : World} (h : SP P g cap ts n σ W) (hb : Below W.heap.size W W') : SP P g cap ts n σ W':=by
 obtain ⟨a,m,c,f,hp,hr⟩:=h
 exact ⟨a,m,c,f,hp.below hb,hr⟩
theorem SP.later {P g cap : Nat} {ts : List Tk} {n : Nat} {σ : Sx} {B : Nat} {W W' : World} (h : SP P g cap ts n σ W) (hb : Below B W W') (hp : P<B) (hg : g<B) : SP P g cap ts n σ W':=by
 obtain ⟨a,m,c,f,hp',hr⟩:=h
 exact ⟨a,m,c,f,hp'.later hb hp hg,hr⟩
theorem SP.nest {P g cap : Nat} {ts : List Tk} {n : Nat} {σ : Sx} {W : World} (h : SP P g cap ts (n + 1) σ W) : ∃ m : Int,1≤m∧m≤301 + n∧W.cell? ⟨P,2,none⟩=some (.int .i64 m)∧W.frozen? ⟨P,2,none⟩=false∧SP P g cap ts n σ (W.setCell ⟨P,2,none⟩ (.int .i64 (m - 1))):=by
 obtain ⟨a,m,c,f,hp,hr⟩:=h
 have hq:=hp.set_nest (m - 1)
 have hc:=hp.cells
 cases σ with
 | ok r =>
   obtain ⟨rfl,rfl,rfl,rfl⟩:=hr
   refine ⟨((n + 1 : Nat) : Int),by omega,by omega,hc.1.2.2.1,hc.2.2.2.1,a,_,_,_,hq,rfl,by omega,rfl,rfl⟩
 | error e =>
   obtain ⟨k,p⟩:=e
   obtain ⟨rfl,rfl,hk,h1,h2⟩:=hr
   exact ⟨m,by omega,by omega,hc.1.2.2.1,hc.2.2.2.1,a,_,_,_,hq,rfl,rfl,hk,by omega,by omega⟩
theorem SP.bad {P g cap : Nat} {ts : List Tk} {n : Nat} {σ : Sx} {W : World} (h : SP P g cap ts n σ W) : ∃ c : Int,W.cell? ⟨P,3,none⟩=some (.int .i64 c)∧(c=0↔∃ r,σ=.ok r):=by
 obtain ⟨a,m,c,f,hp,hr⟩:=h
 refine ⟨c,hp.cells.1.2.2.2.1,?_⟩
 cases σ with
 | ok r => obtain ⟨rfl,rfl,rfl,rfl⟩:=hr; exact ⟨fun _ => ⟨_,rfl⟩,fun _ => rfl⟩
 | error e =>
   obtain ⟨k,p⟩:=e
   obtain ⟨rfl,rfl,hk,h1,h2⟩:=hr
   exact ⟨fun h => absurd h hk,fun h => by obtain ⟨r,h⟩:=h; cases h⟩
def a4g (σ : Sx) : Nat:=match σ with
 | .ok r => r.length + 1
 | .error _ => 0
def nS (P : Nat) (ts : List Tk) (W : World) : Nat:=match W.cell? ⟨P,3,none⟩,W.cell? ⟨P,1,none⟩ with
 | some (.int _ c),some (.int _ a) => if c=0 then ts.length - a.toNat + 1 else 0
 | _,_ => 0
theorem SP.far {P g cap : Nat} {ts : List Tk} {n : Nat} {σ : Sx} {W : World} (h : SP P g cap ts n σ W) : nS P ts W=a4g σ:=by
 obtain ⟨a,m,c,f,hp,hr⟩:=h
 obtain ⟨⟨-,p1,-,p3,-⟩,-⟩:=hp.cells
 unfold nS
 rw [p1,p3]
 cases σ with
 | ok r =>
   obtain ⟨rfl,rfl,rfl,rfl⟩:=hr
   show (if (0 : Int)=0 then ts.length - ((a : Int).toNat) + 1 else 0)=(ts.drop a).length + 1
   rw [if_pos rfl,List.length_drop]; rfl
 | error e =>
   obtain ⟨k,p⟩:=e
   obtain ⟨rfl,rfl,hk,h1,h2⟩:=hr
   exact if_neg hk
def RdP (P g cap : Nat) (ts : List Tk) (nest : Nat) (x : Rd) (w : World) (e : Ending) (w' : World) : Prop :=
 ∃ (t : Nd) (a : Option Addr) (cp : Nat),e=.returned (t.val a cp)∧SP P g cap ts nest (l8 x) w'∧w.grownBy w' (some P)∧∀ t' r,x=.ok (t',r)→t'=t∧t.lies (Fr w.heap.size w'.heap.size) w' a cp∧i8 t≤100
theorem RdP.err {P g cap : Nat} {ts : List Tk} {nest : Nat} {k p : Int} {w w' : World} {e : Ending} (t : Nd) (a : Option Addr) (cp : Nat) (he : e=.returned (t.val a cp)) (h : SP P g cap ts nest (.error (k,p)) w') (hg : w.grownBy w' (some P)) : RdP P g cap ts nest (.error (k,p)) w e w' :=
 ⟨t,a,cp,he,h,hg,fun _ _ h => by cases h⟩
end
end Go.Proofs.YtppcfebnaieciaaGreatDoor
