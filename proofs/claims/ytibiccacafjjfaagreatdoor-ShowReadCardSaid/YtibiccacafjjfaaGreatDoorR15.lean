/-
  Laws that the proof rests on.
-/
import Derived.Test.YtibiccacafjjfaaGreatDoorR13
import Derived.ChangeAt2
import Derived.WideShapes
import Derived.Test.YtibiccacafjjfaaGreatDoorR04
import Derived.Test.YtibiccacafjjfaaGreatDoorR01
import Derived.Test.YtibiccacafjjfaaGreatDoorR06
import Derived.Test.YtibiccacafjjfaaGreatDoorR12
import Derived.RegionTactic
import Derived.ChangeAlike
import Derived.Test.YtibiccacafjjfaaGreatDoorR05
import Derived.WalkLawsBesides
namespace Go.Proofs.YtibiccacafjjfaaGreatDoor
set_option maxRecDepth 100000
set_option maxHeartbeats 16000000
section
open Go.ChangeShapes Go.WideShapes Go.ChangeAt Go.RowKit
theorem lD {H : Type} {P : Program} {p : Nat→Bool} : ∀ (ts : List TypeId) (ds : List (DataW H)),(DataW.weightsEach P ts ds).all p=true→∀ (j : Nat) (t : TypeId) (d : DataW H),ts[j]?=some t→ds[j]?=some d→(d.weights P t).all p=true
 | [],_,_,j,t,d,ht,_ => by cases ht
 | _ :: _,[],_,j,t,d,_,hd => by cases hd
 | u :: ts,x :: ds,h,j,t,d,ht,hd => by
   rw [DataW.weightsEach,List.all_append,Bool.and_eq_true] at h
   cases j with
   | zero => cases ht; cases hd; exact h.1
   | succ j => exact lD ts ds h.2 j t d (by simpa using ht) (by simpa using hd)
theorem qR : ∀ (ks : List Nd),(∀ j (hj : j<ks.length),y9 ks[j])→gJ ks
 | [],_ => trivial
 | k :: ks,h => ⟨h 0 (by simp),qR ks fun j hj => h (j + 1) (by simpa using hj)⟩
theorem a3n {W : World} (h : W.ShapedOpen Tryz.prog) : Env W :=
 Go.Proofs.cell_of_shapedOpen_int (zero:=#[.int .i64 0]) (t:=3) (g:=1) h (of_decide_eq_true (by kernel_rfl)) (by kernel_rfl) rfl (by kernel_rfl) (by kernel_rfl) Tryz.underlying3
end
section
open Go.ChangeShapes Go.WideShapes Go.ChangeAt Go.RowKit
theorem a79 : Tryz.prog.globalNamed "internal/strconv.uint64pow10"=some 3:=by kernel_rfl
theorem a4n : (Tryz.prog.globals[3]?).map (·.type)=some 218:=by kernel_rfl
theorem a7K : Tryz.prog.underlying 218=some (.array 20 140):=by kernel_rfl
theorem a71 : Tryz.prog.underlying 140=some (.int .u64):=by kernel_rfl
theorem a8a : Tryz.prog.cellsOf 140=1:=by kernel_rfl
theorem a7V : Tryz.prog.cellsOf 218=20:=by kernel_rfl
end
section
open Lib (hid)
open Go.RowKit
structure PS (P g cap : Nat) (ts : List Tk) (a : Nat) (n c f : Int) (W : World) : Prop where
 at' : W.heap[P]?=some (.cells #[.slice (some ⟨g,0,none⟩) ts.length cap,.int .i64 a,.int .i64 n,.int .i64 c,.int .i64 f] 95 (0,0))
 toks : wB W g 0 ts
 ne : g≠P
 lt : g<W.heap.size
 le : ts.length≤cap
 max : cap≤maxLen
 pos : a<ts.length
theorem a5D {W : World} {P : Nat} {x0 x1 x2 x3 x4 : Value} {T : TypeId} (h : W.heap[P]?=some (.cells #[x0,x1,x2,x3,x4] T (0,0))) : (W.cell? ⟨P,0,none⟩=some x0∧W.cell? ⟨P,1,none⟩=some x1∧W.cell? ⟨P,2,none⟩=some x2∧W.cell? ⟨P,3,none⟩=some x3∧W.cell? ⟨P,4,none⟩=some x4) ∧
 (W.frozen? ⟨P,0,none⟩=false∧W.frozen? ⟨P,1,none⟩=false∧W.frozen? ⟨P,2,none⟩=false∧W.frozen? ⟨P,3,none⟩=false∧W.frozen? ⟨P,4,none⟩=false):=by
 refine ⟨⟨?_,?_,?_,?_,?_⟩,?_,?_,?_,?_,?_⟩ <;> simp [World.cell?,World.frozen?,h]
section
variable {P g cap : Nat} {ts : List Tk} {a : Nat} {n c f : Int} {W W' : World}
theorem PS.cells (h : PS P g cap ts a n c f W) : (W.cell? ⟨P,0,none⟩=some (.slice (some ⟨g,0,none⟩) ts.length cap)∧W.cell? ⟨P,1,none⟩=some (.int .i64 a)∧W.cell? ⟨P,2,none⟩=some (.int .i64 n)∧W.cell? ⟨P,3,none⟩=some (.int .i64 c)∧W.cell? ⟨P,4,none⟩=some (.int .i64 f)) ∧
 (W.frozen? ⟨P,0,none⟩=false∧W.frozen? ⟨P,1,none⟩=false∧W.frozen? ⟨P,2,none⟩=false∧W.frozen? ⟨P,3,none⟩=false∧W.frozen? ⟨P,4,none⟩=false):=a5D h.at'
theorem PS.plt (h : PS P g cap ts a n c f W) : P<W.heap.size:=(Array.getElem?_eq_some_iff.1 h.at').1
theorem PS.below (h : PS P g cap ts a n c f W) (hb : Below W.heap.size W W') : PS P g cap ts a n c f W' :=
 ⟨(hb.block P h.plt).trans h.at',h.toks.below hb h.lt,h.ne,Nat.lt_of_lt_of_le h.lt hb.size,h.le,h.max,h.pos⟩
theorem PS.tok (h : PS P g cap ts a n c f W) : W.cell? ⟨g,a * 4,none⟩=some (.int .i64 (ts[a]'h.pos).kind)∧W.cell? ⟨g,a * 4 + 1,none⟩=some (.string ⟨(ts[a]'h.pos).text.toArray⟩)∧W.cell? ⟨g,a * 4 + 2,none⟩=some (.int .i64 (ts[a]'h.pos).n)∧W.cell? ⟨g,a * 4 + 3,none⟩=some (.int .i64 (ts[a]'h.pos).pos):=by
 have:=h.toks a h.pos
 rw [Nat.zero_add] at this
 exact this
theorem PS.kept (h : PS P g cap ts a n c f W) (i : Nat) (v : Value) {a' : Nat} {n' c' f' : Int} (hp : a'<ts.length) (hat : (W.setCell ⟨P,i,none⟩ v).heap[P]?=some (.cells #[.slice (some ⟨g,0,none⟩) ts.length cap,.int .i64 a',.int .i64 n',.int .i64 c',.int .i64 f'] 95 (0,0))) :
 PS P g cap ts a' n' c' f' (W.setCell ⟨P,i,none⟩ v):=by
 refine ⟨hat,fun j hj => ?_,h.ne,by simp [World.setCell]; exact h.lt,h.le,h.max,hp⟩
 have q : ∀ o,(W.setCell ⟨P,i,none⟩ v).cell? ⟨g,o,none⟩=W.cell? ⟨g,o,none⟩:=fun o => World.cell?_of_block (Below.heap_setCell _ _ _ _ (fun e => h.ne (by simp at e; exact e)))
 obtain ⟨h0,h1,h2,h3⟩:=h.toks j hj
 exact ⟨(q _).trans h0,(q _).trans h1,(q _).trans h2,(q _).trans h3⟩
theorem PS.set_at (h : PS P g cap ts a n c f W) {a' : Nat} (hp : a'<ts.length) : PS P g cap ts a' n c f (W.setCell ⟨P,1,none⟩ (.int .i64 a')) :=
 h.kept 1 _ hp (by simp [World.setCell,Array.getElem?_modify,h.at'])
theorem PS.set_nest (h : PS P g cap ts a n c f W) (n' : Int) : PS P g cap ts a n' c f (W.setCell ⟨P,2,none⟩ (.int .i64 n')) :=
 h.kept 2 _ h.pos (by simp [World.setCell,Array.getElem?_modify,h.at'])
theorem PS.set_bad (h : PS P g cap ts a n c f W) (c' f' : Int) : PS P g cap ts a n c' f' ((W.setCell ⟨P,3,none⟩ (.int .i64 c')).setCell ⟨P,4,none⟩ (.int .i64 f')) :=
 (h.kept (n':=n) (c':=c') (f':=f) 3 (.int .i64 c') h.pos (by simp [World.setCell,Array.getElem?_modify,h.at'])).kept 4 _ h.pos (by simp [World.setCell,Array.getElem?_modify,h.at'])
end
theorem e9 (W : World) (P i : Nat) (v : Value) : W.grownBy (W.setCell ⟨P,i,none⟩ v) (some P) :=
 ⟨rfl,rfl,rfl,by simp [World.setCell],fun k _ hk => Below.heap_setCell _ _ _ _ (fun e => hk (by simpa using e))⟩
theorem b8 {W W' : World} {r : Option Nat} (h : Below W.heap.size W W') : W.grownBy W' r:=⟨h.os,h.tape,h.output,h.size,fun k hk _ => h.block k hk⟩
theorem b6 {A B C : World} {r : Option Nat} (h : A.grownBy B r) (k : B.grownBy C r) : A.grownBy C r :=
 ⟨k.os.trans h.os,k.tape.trans h.tape,k.output.trans h.output,Nat.le_trans h.size k.size,fun i hi hr => (k.block i (Nat.lt_of_lt_of_le hi h.size) hr).trans (h.block i hi hr)⟩
theorem d8 {A B C : World} {r : Option Nat} (h : A.grownBy B r) (k : Below A.heap.size B C) : A.grownBy C r :=
 ⟨k.os.trans h.os,k.tape.trans h.tape,k.output.trans h.output,Nat.le_trans h.size k.size,fun i hi hr => (k.block i hi).trans (h.block i hi hr)⟩
theorem PS.later {P g cap : Nat} {ts : List Tk} {a : Nat} {n c f : Int} {B : Nat} {W W' : World} (h : PS P g cap ts a n c f W) (hb : Below B W W') (hp : P<B) (hg : g<B) : PS P g cap ts a n c f W' :=
 ⟨(hb.block P hp).trans h.at',h.toks.below hb hg,h.ne,Nat.lt_of_lt_of_le h.lt hb.size,h.le,h.max,h.pos⟩
theorem z8 {B : Nat} {w w' : World} (h : Below B w w') : Below B w w'.drew:=⟨h.os,h.tape,h.output,h.size,h.block⟩
theorem O7 {ts : List Tk} {a : Nat} (h : a<ts.length) : hd (ts.drop a)=ts[a]:=by
 unfold hd
 rw [List.drop_eq_getElem_cons h]; rfl
theorem cL (P g cap : Nat) (ts : List Tk) (a : Nat) (n c f : Int) (w : World) (h : PS P g cap ts a n c f w) :
 Calls Tryz.prog 70 #[.pointer (some ⟨P,0,none⟩)] w fun e w' => e=.returned (tkV (ts[a]'h.pos))∧Below w.heap.size w w':=by
 have hpos:=h.pos
 have hmx:=h.max
 have hle:=h.le
 unfold maxLen at hmx
 obtain ⟨W,hW⟩ : ∃ W,W=w.alloc (.cells #[.int .i64 0,.string ⟨#[]⟩,.int .i64 0,.int .i64 0] 67):=⟨_,rfl⟩
 have HB:=hid (show Below w.heap.size w W from hW ▸ c6 _ _)
 have Z0:=(show eL w.heap.size W from hW ▸ eL.make w).cells
 have h':=hid (h.below HB)
 obtain ⟨⟨p0,p1,p2,p3,p4⟩,-⟩:=h'.out.cells
 obtain ⟨t0,t1,t2,t3⟩:=h'.out.tok
 obtain ⟨c0,c1,c2,c3,f0,f1,f2,f3⟩:=Z0
 generalize hT : ts[a]'hpos=T at t0 t1 t2 t3 ⊢
 clear hT
 go_enter Tryz.func70,Tryz.ntmps70
 go_wp2_with fail
 rw [← hW]
 clear hW h
 go_region
 all_goals
  go_wp2_with fail
  exact bodyPost_ret (v:=tkV T) (by simp [results,Tryz.results70,go_sem,tkV,c0,c1,c2,c3]) rfl ⟨rfl,z8 (j0 HB _ _ _ _)⟩
theorem a5i {ts : List Tk} {a : Nat} (h : a<ts.length) (x : List UInt8) : isT x (ts.drop a)=((ts[a].kind == 2 || ts[a].kind == 8) && ts[a].text == x):=by
 unfold isT; rw [O7 h]
theorem vT (P g cap : Nat) (ts : List Tk) (a : Nat) (n c f : Int) (x : ByteArray) (w : World) (h : PS P g cap ts a n c f w) :
 Calls Tryz.prog 101 #[.pointer (some ⟨P,0,none⟩),.string x] w fun e w' => e=.returned (.bool (isT x.data.toList (ts.drop a)))∧Below w.heap.size w w':=by
 have I:=hid (a5i h.pos x.data.toList)
 have C:=hid (cL P g cap ts a n c f w h)
 generalize hT : ts[a]'h.pos=T at I C
 clear hT h
 go_enter Tryz.func101,Tryz.ntmps101
 go_wp2_with fail
 (with_reducible refine Calls.mono C.out ?_)
 rintro e w1 ⟨rfl,hb⟩
 have HB:=hid hb
 clear hb
 unfold tkV
 cases h1 : T.kind == 2
 ·cases h2 : T.kind == 8
  ·have F:=hid (show isT x.data.toList (ts.drop a)=false by rw [I.out,h1,h2]; rfl)
   go_wp2_with fail
   go_ret
   exact ⟨x8 F.out.symm,HB.out.alloc HB.out.size _⟩
  ·have F:=hid (show isT x.data.toList (ts.drop a)=(T.text == x.data.toList) by rw [I.out,h1,h2]; rfl)
   go_wp2_with fail
   go_ret
   exact ⟨x8 (by rw [F.out,Lib.toList_data]),HB.out.alloc HB.out.size _⟩
 ·have F:=hid (show isT x.data.toList (ts.drop a)=(T.text == x.data.toList) by rw [I.out,h1]; rfl)
  go_wp2_with fail
  go_ret
  exact ⟨x8 (by rw [F.out,Lib.toList_data]),HB.out.alloc HB.out.size _⟩
theorem kR {ts : List Tk} {a : Nat} (h : a<ts.length) : hd (ts.drop a)=ts[a]:=O7 h
def y6 (ts : List Tk) : Prop:=∀ j (hj : j<ts.length),ts[j].kind≠0→j + 1<ts.length
theorem qW {ts : List Tk} {a : Nat} (h : a<ts.length) (hk : ts[a].kind≠0) : b9 (ts.drop a)=ts.drop (a + 1):=by
 unfold b9
 rw [O7 h,if_neg hk,List.tail_drop]
theorem sW {ts : List Tk} {a : Nat} (h : a<ts.length) (hk : ts[a].kind=0) : b9 (ts.drop a)=ts.drop a:=by
 unfold b9
 rw [O7 h,if_pos hk]
def a7P (P g cap : Nat) (ts : List Tk) (a : Nat) (n c f : Int) (w : World) (e : Ending) (w' : World) : Prop :=
 ∃ a',(∃ h : a<ts.length,e=.returned (tkV ts[a]))∧PS P g cap ts a' n c f w'∧b9 (ts.drop a)=ts.drop a'∧w.grownBy w' (some P)∧a≤a'
theorem lY (P g cap : Nat) (ts : List Tk) (a : Nat) (n c f : Int) (w : World) (h : PS P g cap ts a n c f w) (he : y6 ts) :
 Calls Tryz.prog 102 #[.pointer (some ⟨P,0,none⟩)] w (a7P P g cap ts a n c f w):=by
 have hpos:=h.pos
 have hmx:=h.max
 have hle:=h.le
 unfold maxLen at hmx
 have hPlt:=h.plt
 have hg0:=hid h.lt
 have HN:=hid (he a hpos)
 obtain ⟨V,hV⟩ : ∃ V,V=w.alloc (.cells #[.int .i64 0,.string ⟨#[]⟩,.int .i64 0,.int .i64 0] 67):=⟨_,rfl⟩
 have HBV:=hid (show Below w.heap.size w V from hV ▸ c6 _ _)
 have hsV:=hid (show V.heap.size=w.heap.size + 1 by rw [hV]; simp)
 have Z0:=hid (show eL w.heap.size V from hV ▸ eL.make w)
 have h':=hid (h.below HBV)
 obtain ⟨⟨p0,p1,p2,p3,p4⟩,⟨g0,g1,g2,g3,g4⟩⟩:=h'.out.cells
 obtain ⟨t0,t1,t2,t3⟩:=h'.out.tok
 have hgl:=h'.out.lt
 have hpl:=h'.out.plt
 have K1:=hid (fun hk => qW (ts:=ts) hpos hk)
 have K0:=hid (fun hk => sW (ts:=ts) hpos hk)
 obtain ⟨c0,c1,c2,c3,f0,f1,f2,f3⟩:=Z0.out.cells
 have hwl : w.heap.size<V.heap.size:=by rw [hsV.out]; omega
 have HE:=hid (show ∃ h : a<ts.length,Ending.returned (tkV (ts[a]'hpos))=.returned (tkV ts[a]) from ⟨hpos,rfl⟩)
 generalize hT : ts[a]'hpos=T at t0 t1 t2 t3 K1 K0 HN HE
 clear hT
 go_enter Tryz.func102,Tryz.ntmps102
 go_wp2_with fail
 rw [← hV]
 clear hV h
 go_region
 all_goals
  by_cases hk : T.kind=0
  ·have e0 : (T.kind != 0)=false:=by rw [hk]; rfl
   have HK:=hid hk
   clear hk
   go_wp2_with fail
   refine bodyPost_ret (v:=tkV T) (by simp [results,Tryz.results102,go_sem,tkV,c0,c1,c2,c3,hwl]) rfl ?_
   have HF:=z8 ((j0 (Below.refl w.heap.size V) (.int .i64 T.kind) (.string ⟨T.text.toArray⟩) (.int .i64 T.n) (.int .i64 T.pos)).alloc (by simpa using HBV.out.size) (.cells #[.int .i64 T.kind,.string ⟨T.text.toArray⟩,.int .i64 T.n,.int .i64 T.pos] 67))
   exact ⟨a,HE,h'.out.later HF hPlt hg0,K0.out HK,d8 (b8 HBV) HF,Nat.le_refl _⟩
  ·have e0 : (T.kind != 0)=true:=bne_iff_ne.2 hk
   have HK:=hid hk
   clear hk
   go_wp2_with fail
   refine bodyPost_ret (v:=tkV T) (by simp [results,Tryz.results102,go_sem,tkV,c0,c1,c2,c3,hwl]) rfl ?_
   have HS:=h'.out.set_at (HN.out HK)
   have HF:=z8 ((j0 (Below.refl w.heap.size (V.setCell ⟨P,1,none⟩ (.int .i64 ((a + 1 : Nat) : Int)))) (.int .i64 T.kind) (.string ⟨T.text.toArray⟩) (.int .i64 T.n) (.int .i64 T.pos)).alloc (by simpa using HBV.out.size) (.cells #[.int .i64 T.kind,.string ⟨T.text.toArray⟩,.int .i64 T.n,.int .i64 T.pos] 67))
   rw [Int.natCast_add] at HF HS
   exact ⟨a + 1,HE,HS.later HF hPlt hg0,K1.out HK,d8 (b6 (b8 HBV) (e9 _ _ _ _)) HF,Nat.le_succ _⟩
end
section
open Lib (hid)
open Go.RowKit
abbrev Sx:=Except (Int × Int) (List Tk)
def a78 (ts : List Tk) (nest : Nat) (σ : Sx) (a : Nat) (n c f : Int) : Prop:=match σ with
 | .ok r => r=ts.drop a∧n=nest∧c=0∧f=0
 | .error (k,p) => c=k∧f=p∧k≠0∧(nest : Int)≤n∧n≤301
def SP (P g cap : Nat) (ts : List Tk) (nest : Nat) (σ : Sx) (W : World) : Prop:=∃ a n c f,PS P g cap ts a n c f W∧a78 ts nest σ a n c f
def bZ (x : List UInt8) (σ : Sx) : Sx:=match σ with
 | .ok r => if isT x r=true then .ok (b9 r) else .error (74,(hd r).pos)
 | .error e => .error e
def iF (nest : Nat) (σ : Sx) : Sx:=match σ with
 | .ok r => if 300 < nest + 1 then .error (75,(hd r).pos) else .ok r
 | .error e => .error e
def Y3 (k : Int) (σ : Sx) : Sx:=match σ with
 | .ok r => if (hd r).kind=k then .ok (b9 r) else .error (74,(hd r).pos)
 | .error e => .error e
theorem cM (P g cap : Nat) (ts : List Tk) (a : Nat) (n : Int) (w : World) (k p : Int) (h : PS P g cap ts a n 0 0 w) :
 Calls Tryz.prog 71 #[.pointer (some ⟨P,0,none⟩),.int .i64 k,.int .i64 p] w fun e w' => e=.returned (.tuple #[])∧PS P g cap ts a n k p w'∧w.grownBy w' (some P):=by
 obtain ⟨⟨p0,p1,p2,p3,p4⟩,⟨g0,g1,g2,g3,g4⟩⟩:=h.cells
 have HF:=hid (h.set_bad k p)
 have HG:=hid (b6 (r:=some P) (e9 w P 3 (.int .i64 k)) (e9 _ P 4 (.int .i64 p)))
 clear h
 go_enter Tryz.func71,Tryz.ntmps71
 go_wp2_with fail
 (first | (refine bodyPost_end (results_none rfl _ _ _) rfl ?_) | (refine bodyPost_ret (results_none rfl _ _ _) rfl ?_))
 exact ⟨rfl,HF,HG⟩
theorem kN (k n p : Int) (s : ByteArray) (w : World) : (Instr.field 67 (.agg #[.int .i64 k,.string s,.int .i64 n,.int .i64 p]) 3).run Tryz.prog w=.ok (.int .i64 p) w:=by kernel_rfl
def a65 (P g cap : Nat) (ts : List Tk) (nest : Nat) (σ : Sx) (w : World) (e : Ending) (w' : World) : Prop:=e=.returned (.tuple #[])∧SP P g cap ts nest σ w'∧w.grownBy w' (some P)
theorem SP.ok {P g cap : Nat} {ts : List Tk} {nest : Nat} {r : List Tk} {W : World} (h : SP P g cap ts nest (.ok r) W) : ∃ a,r=ts.drop a∧PS P g cap ts a nest 0 0 W:=by
 obtain ⟨a,n,c,f,h,hr,rfl,rfl,rfl⟩:=h
 exact ⟨a,hr,h⟩
theorem SP.error {P g cap : Nat} {ts : List Tk} {nest : Nat} {k p : Int} {W : World} (h : SP P g cap ts nest (.error (k,p)) W) : k≠0∧∃ a n,PS P g cap ts a n k p W∧(nest : Int)≤n∧n≤301:=by
 obtain ⟨a,n,c,f,h,rfl,rfl,hk,h1,h2⟩:=h
 exact ⟨hk,a,n,h,h1,h2⟩
theorem SP.of_ok {P g cap : Nat} {ts : List Tk} {nest a : Nat} {r : List Tk} {W : World} (h : PS P g cap ts a nest 0 0 W) (hr : r=ts.drop a) : SP P g cap ts nest (.ok r) W:=⟨a,_,_,_,h,hr,rfl,rfl,rfl⟩
theorem SP.of_error {P g cap : Nat} {ts : List Tk} {nest a : Nat} {n k p : Int} {W : World} (h : PS P g cap ts a n k p W) (hk : k≠0) (h1 : (nest : Int)≤n) (h2 : n≤301) : SP P g cap ts nest (.error (k,p)) W:=⟨a,_,_,_,h,rfl,rfl,hk,h1,h2⟩
theorem U7 (P g cap : Nat) (ts : List Tk) (nest : Nat) (σ : Sx) (x : ByteArray) (w : World) (hn : nest≤300) (h : SP P g cap ts nest σ w) (he : y6 ts) :
 Calls Tryz.prog 99 #[.pointer (some ⟨P,0,none⟩),.string x] w (a65 P g cap ts nest (bZ x.data.toList σ) w):=by
 cases σ with
 | error q =>
   obtain ⟨k,p⟩:=q
   obtain ⟨hk,a,n,h,h1,h2⟩:=h.error
   have C:=hid (vT P g cap ts a n k p x w h)
   have ek : (k != 0)=true:=bne_iff_ne.2 hk
   have HK:=hid hk
   have H:=hid h
   clear h hk
   go_enter Tryz.func99,Tryz.ntmps99
   go_wp2_with fail
   (with_reducible refine Calls.mono C.out ?_)
   rintro e w1 ⟨rfl,hb⟩
   have H1:=hid (H.out.below hb)
   obtain ⟨⟨p0,p1,p2,p3,p4⟩,-⟩:=H1.out.cells
   have HB:=hid hb
   clear hb
   go_wp2_with fail
   (first | (refine bodyPost_end (results_none rfl _ _ _) rfl ?_) | (refine bodyPost_ret (results_none rfl _ _ _) rfl ?_))
   exact ⟨rfl,SP.of_error H1 HK h1 h2,b8 HB⟩
 | ok r =>
   obtain ⟨a,rfl,hp⟩:=h.ok
   have C:=hid (vT P g cap ts a nest 0 0 x w hp)
   have H:=hid hp
   clear h hp
   go_enter Tryz.func99,Tryz.ntmps99
   go_wp2_with fail
   (with_reducible refine Calls.mono C.out ?_)
   rintro e w1 ⟨rfl,hb⟩
   have H1:=hid (H.out.below hb)
   obtain ⟨⟨p0,p1,p2,p3,p4⟩,-⟩:=H1.out.cells
   have HB:=hid hb
   clear hb
   have C1:=hid (cL P g cap ts a nest 0 0 w1 H1)
   have C2:=hid (lY P g cap ts a nest 0 0 w1 H1 he)
   have R:=hid (show bZ x.data.toList (.ok (ts.drop a))=if isT x.data.toList (ts.drop a)=true then .ok (b9 (ts.drop a)) else .error (74,(hd (ts.drop a)).pos) from rfl)
   have hpos:=H1.out.pos
   have D:=hid (kR hpos)
   generalize ts[a]'hpos=T at C1 D
   generalize isT x.data.toList (ts.drop a)=B at R ⊢
   cases B
   ·go_wp2_with fail
    (with_reducible refine Calls.mono C1.out ?_)
    rintro e w2 ⟨rfl,hb⟩
    have H2:=hid (H1.out.below hb)
    have HB2:=hid hb
    clear hb
    have C3:=hid (cM P g cap ts a nest w2 74 T.pos H2)
    unfold tkV
    have hfd:=kN T.kind T.n T.pos ⟨T.text.toArray⟩
    go_wp2_with fail
    (with_reducible refine Calls.mono C3.out ?_)
    rintro e w3 ⟨rfl,hp,hg⟩
    go_wp2_with fail
    (first | (refine bodyPost_end (results_none rfl _ _ _) rfl ?_) | (refine bodyPost_ret (results_none rfl _ _ _) rfl ?_))
    refine ⟨rfl,?_,b6 (b8 HB) (b6 (b8 HB2) hg)⟩
    rw [R.out,if_neg (by decide),D.out]
    exact SP.of_error hp (by decide) (Int.le_refl _) (by omega)
   ·go_wp2_with fail
    (with_reducible refine Calls.mono C2.out ?_)
    rintro e w3 ⟨a',⟨-,rfl⟩,hp,hs,hg,-⟩
    go_wp2_with fail
    (first | (refine bodyPost_end (results_none rfl _ _ _) rfl ?_) | (refine bodyPost_ret (results_none rfl _ _ _) rfl ?_))
    refine ⟨rfl,?_,b6 (b8 HB) hg⟩
    rw [R.out,if_pos trivial]
    exact SP.of_ok hp hs
end
section
open Go.RowKit
def goX (σ : Sx) (f : List Tk→Rd) : Rd:=match σ with
 | .ok r => f r
 | .error e => .error e
def p6 (x : Rd) : Sx:=match x with
 | .ok (_,r) => .ok r
 | .error e => .error e
def iD (t : Nd) (σ : Sx) : Sx:=match σ with
 | .ok r => if 100 < c8 t then .error (75,t.place) else .ok r
 | .error e => .error e
def Is (x : Rd) (t : Nd) : Prop:=∀ t' r,x=.ok (t',r)→t'=t
theorem aZ {x : Rd} {t : Nd} (h : Is x t) (f : Nd→List Tk→Rd) : x.then f=goX (p6 x) (f t):=by
 cases x with
 | error e => rfl
 | ok p => obtain ⟨t',r⟩:=p; obtain rfl:=h t' r rfl; rfl
theorem eS (σ : Sx) (w : List UInt8) (f : List Tk→Rd) : goX σ (fun r => d7 w r f)=goX (bZ w σ) f:=by
 cases σ with
 | error e => rfl
 | ok r =>
   show d7 w r f=goX (if isT w r=true then .ok (b9 r) else .error (74,(hd r).pos)) f
   unfold d7
   split <;> rfl
theorem eN (σ : Sx) (k : Int) (f : Tk→List Tk→Rd) (T : Tk) (h : ∀ r,σ=.ok r→T=hd r) : goX σ (fun r => A7 k r f)=goX (Y3 k σ) (f T):=by
 cases σ with
 | error e => rfl
 | ok r =>
   show A7 k r f=goX (if (hd r).kind=k then .ok (b9 r) else .error (74,(hd r).pos)) (f T)
   obtain rfl:=h r rfl
   unfold A7
   split <;> rfl
theorem iX (σ : Sx) (g : List Tk→Rd) (f : Nd→List Tk→Rd) : goX σ (fun r => (g r).then f)=(goX σ g).then f:=by
 cases σ <;> rfl
theorem fR (t : Nd) (σ : Sx) : p6 (goX σ (made t))=iD t σ:=by
 cases σ with
 | error e => rfl
 | ok r =>
   show p6 (made t r)=if 100<c8 t then .error (75,t.place) else .ok r
   unfold made
   split <;> rfl
theorem oI (t : Nd) (σ : Sx) : p6 (goX σ fun r => .ok (t,r))=σ:=by
 cases σ <;> rfl
theorem gA (t : Nd) (σ : Sx) {t' : Nd} {r : List Tk} (h : goX σ (made t)=.ok (t',r)) : t'=t∧σ=.ok r∧c8 t≤100:=by
 cases σ with
 | error e => cases h
 | ok r' =>
   replace h : made t r'=.ok (t',r):=h
   unfold made at h
   split at h
   ·cases h
   ·cases h; exact ⟨rfl,rfl,by omega⟩
theorem gY {σ : Sx} {f : List Tk→Rd} {p : Nd × List Tk} (h : goX σ f=.ok p) : ∃ r,σ=.ok r∧f r=.ok p:=by
 cases σ with
 | error e => cases h
 | ok r => exact ⟨r,rfl,h⟩
theorem D8 {x : Rd} {r : List Tk} (h : p6 x=.ok r) : ∃ t,x=.ok (t,r):=by
 cases x with
 | error e => cases h
 | ok p => obtain ⟨t,r'⟩:=p; cases h; exact ⟨t,rfl⟩
theorem X8 {w : List UInt8} {σ : Sx} {r : List Tk} (h : bZ w σ=.ok r) : ∃ r',σ=.ok r'∧isT w r'=true∧r=b9 r':=by
 cases σ with
 | error e => cases h
 | ok r' =>
   replace h : (if isT w r'=true then .ok (b9 r') else .error (74,(hd r').pos) : Sx)=.ok r:=h
   split at h
   ·rename_i c; cases h; exact ⟨r',rfl,c,rfl⟩
   ·cases h
theorem oQ {k : Int} {σ : Sx} {r : List Tk} (h : Y3 k σ=.ok r) : ∃ r',σ=.ok r'∧(hd r').kind=k∧r=b9 r':=by
 cases σ with
 | error e => cases h
 | ok r' =>
   replace h : (if (hd r').kind=k then .ok (b9 r') else .error (74,(hd r').pos) : Sx)=.ok r:=h
   split at h
   ·rename_i c; cases h; exact ⟨r',rfl,c,rfl⟩
   ·cases h
def j7 (av : Nat→Prop) (W W' : World) : Prop:=∀ b,av b→W'.heap[b]?=W.heap[b]?
theorem j7.refl (av : Nat→Prop) (W : World) : j7 av W W:=fun _ _ => rfl
theorem j7.trans {av : Nat→Prop} {A B C : World} (h : j7 av A B) (k : j7 av B C) : j7 av A C:=fun b hb => (k b hb).trans (h b hb)
theorem j7.set {av : Nat→Prop} {A B : World} (h : j7 av A B) {c : Nat} (hc : ∀ b,av b→b≠c) (i : Nat) (v : Value) : j7 av A (B.setCell ⟨c,i,none⟩ v):=fun b hb => (Below.heap_setCell _ _ _ _ (hc b hb)).trans (h b hb)
theorem j7.grown {av : Nat→Prop} {A B C : World} {P : Nat} (h : j7 av A B) (g : B.grownBy C (some P)) (hl : ∀ b,av b→b<B.heap.size∧b≠P) : j7 av A C:=fun b hb => (g.block b (hl b hb).1 (fun e => (hl b hb).2 (Option.some.inj e))).trans (h b hb)
theorem d5 {av av' : Nat→Prop} {W W' : World} {t : Nd} {a : Option Addr} {cp : Nat} (h : t.lies av W a cp) (hk : j7 av W W') (ha : ∀ b,av b→av' b) : t.lies av' W' a cp :=
 Nd.lies.kept (fun b hb => ⟨ha b hb,fun _ => World.cell?_of_block (hk b hb)⟩) t h
def Fr (lo hi : Nat) (b : Nat) : Prop:=lo≤b∧b<hi
def f6 (b : Nat) (t : Nd) (a : Option Addr) (cp : Nat) (W : World) : Prop:=W.heap[b]?=some (.cells #[.int .i64 t.kind,.string t.text,.int .i64 t.n,.slice a t.kids.length cp,.int .i64 t.place] 24 (0,0))
def Y9 (b : Nat) (t : Tk) (W : World) : Prop:=W.heap[b]?=some (.cells #[.int .i64 t.kind,.string ⟨t.text.toArray⟩,.int .i64 t.n,.int .i64 t.pos] 67 (0,0))
def nd0 : Nd:=.mk 0 ⟨#[]⟩ 0 [] 0
section
variable {b : Nat} {t : Nd} {k : Tk} {a : Option Addr} {cp : Nat} {W W' : World}
theorem f6.lt (h : f6 b t a cp W) : b<W.heap.size:=(Array.getElem?_eq_some_iff.1 h).1
theorem Y9.lt (h : Y9 b k W) : b<W.heap.size:=(Array.getElem?_eq_some_iff.1 h).1
theorem f6.cells (h : f6 b t a cp W) : (W.cell? ⟨b,0,none⟩=some (.int .i64 t.kind)∧W.cell? ⟨b,1,none⟩=some (.string t.text)∧W.cell? ⟨b,2,none⟩=some (.int .i64 t.n)∧W.cell? ⟨b,3,none⟩=some (.slice a t.kids.length cp)∧W.cell? ⟨b,4,none⟩=some (.int .i64 t.place)) ∧
 (W.frozen? ⟨b,0,none⟩=false∧W.frozen? ⟨b,1,none⟩=false∧W.frozen? ⟨b,2,none⟩=false∧W.frozen? ⟨b,3,none⟩=false∧W.frozen? ⟨b,4,none⟩=false):=by
 have h' : W.heap[b]?=some (.cells #[.int .i64 t.kind,.string t.text,.int .i64 t.n,.slice a t.kids.length cp,.int .i64 t.place] 24 (0,0)):=h
 refine ⟨⟨?_,?_,?_,?_,?_⟩,?_,?_,?_,?_,?_⟩ <;> simp [World.cell?,World.frozen?,h']
theorem Y9.cells (h : Y9 b k W) : (W.cell? ⟨b,0,none⟩=some (.int .i64 k.kind)∧W.cell? ⟨b,1,none⟩=some (.string ⟨k.text.toArray⟩)∧W.cell? ⟨b,2,none⟩=some (.int .i64 k.n)∧W.cell? ⟨b,3,none⟩=some (.int .i64 k.pos)) ∧
 (W.frozen? ⟨b,0,none⟩=false∧W.frozen? ⟨b,1,none⟩=false∧W.frozen? ⟨b,2,none⟩=false∧W.frozen? ⟨b,3,none⟩=false):=by
 have h' : W.heap[b]?=some (.cells #[.int .i64 k.kind,.string ⟨k.text.toArray⟩,.int .i64 k.n,.int .i64 k.pos] 67 (0,0)):=h
 refine ⟨⟨?_,?_,?_,?_⟩,?_,?_,?_,?_⟩ <;> simp [World.cell?,World.frozen?,h']
theorem f6.make (w : World) (t : Nd) (a : Option Addr) (cp : Nat) : f6 w.heap.size t a cp (w.alloc (.cells #[.int .i64 t.kind,.string t.text,.int .i64 t.n,.slice a t.kids.length cp,.int .i64 t.place] 24)):=by
 show (w.heap.push _)[w.heap.size]?=_; simp
theorem Y9.make (w : World) (k : Tk) : Y9 w.heap.size k (w.alloc (.cells #[.int .i64 k.kind,.string ⟨k.text.toArray⟩,.int .i64 k.n,.int .i64 k.pos] 67)):=by
 show (w.heap.push _)[w.heap.size]?=_; simp
theorem f6.below (h : f6 b t a cp W) (hb : Below W.heap.size W W') : f6 b t a cp W':=(hb.block b h.lt).trans h
theorem Y9.below (h : Y9 b k W) (hb : Below W.heap.size W W') : Y9 b k W':=(hb.block b h.lt).trans h
theorem f6.grown {P : Nat} (h : f6 b t a cp W) (g : W.grownBy W' (some P)) (hp : b≠P) : f6 b t a cp W':=(g.block b h.lt (fun e => hp (Option.some.inj e))).trans h
theorem Y9.grown {P : Nat} (h : Y9 b k W) (g : W.grownBy W' (some P)) (hp : b≠P) : Y9 b k W':=(g.block b h.lt (fun e => hp (Option.some.inj e))).trans h
theorem f6.set (h : f6 b t a cp W) {c : Nat} (hc : b≠c) (i : Nat) (v : Value) : f6 b t a cp (W.setCell ⟨c,i,none⟩ v):=(Below.heap_setCell _ _ _ _ hc).trans h
theorem Y9.set (h : Y9 b k W) {c : Nat} (hc : b≠c) (i : Nat) (v : Value) : Y9 b k (W.setCell ⟨c,i,none⟩ v):=(Below.heap_setCell _ _ _ _ hc).trans h
theorem l3 {cs : Array Value} {T : TypeId} {fr : Nat × Nat} (h : W.heap[b]?=some (.cells cs T fr)) (i : Nat) (v : Value) : (W.setCell ⟨b,i,none⟩ v).heap[b]?=some (.cells (cs.set! i v) T fr):=by
 simp [World.setCell,Array.getElem?_modify,h]
def Y2 (W : World) (b : Nat) (t : Nd) (a : Option Addr) (cp : Nat) : World:=((((W.setCell ⟨b,0,none⟩ (.int .i64 t.kind)).setCell ⟨b,1,none⟩ (.string t.text)).setCell ⟨b,2,none⟩ (.int .i64 t.n)).setCell ⟨b,3,none⟩ (.slice a t.kids.length cp)).setCell ⟨b,4,none⟩ (.int .i64 t.place)
theorem f6.put (h : f6 b t a cp W) (t' : Nd) (a' : Option Addr) (cp' : Nat) : f6 b t' a' cp' (Y2 W b t' a' cp'):=by
 have h' : W.heap[b]?=some (.cells #[.int .i64 t.kind,.string t.text,.int .i64 t.n,.slice a t.kids.length cp,.int .i64 t.place] 24 (0,0)):=h
 exact l3 (l3 (l3 (l3 (l3 h' 0 _) 1 _) 2 _) 3 _) 4 _
theorem j7.put {av : Nat→Prop} {A B : World} (h : j7 av A B) {c : Nat} (hc : ∀ b,av b→b≠c) (t : Nd) (a : Option Addr) (cp : Nat) : j7 av A (Y2 B c t a cp):=((((h.set hc _ _).set hc _ _).set hc _ _).set hc _ _).set hc _ _
theorem Q9 (W : World) (b : Nat) (t : Nd) (a : Option Addr) (cp : Nat) : (Y2 W b t a cp).heap.size=W.heap.size:=by simp [Y2,World.setCell]
theorem x9 {w : World} {r : Option Nat} (h : w.grownBy W r) {c : Nat} (hc : w.heap.size≤c) (i : Nat) (v : Value) : w.grownBy (W.setCell ⟨c,i,none⟩ v) r:=by
 refine ⟨?_,?_,?_,by simp [World.setCell]; exact h.size,fun k hk hr => (Below.heap_setCell _ _ _ _ (fun e => by simp at e; omega)).trans (h.block k hk hr)⟩
 ·rw [← h.os]; rfl
 ·rw [← h.tape]; rfl
 ·rw [← h.output]; rfl
theorem s8 {w : World} {r : Option Nat} (h : w.grownBy W r) {c : Nat} (hc : w.heap.size≤c) (t : Nd) (a : Option Addr) (cp : Nat) : w.grownBy (Y2 W c t a cp) r :=
 x9 (x9 (x9 (x9 (x9 h hc _ _) hc _ _) hc _ _) hc _ _) hc _ _
end
theorem SP.keeps {P g cap : Nat} {ts : List Tk} {n : Nat} {σ : Sx} {W W' : World} (h : SP P g cap ts n σ W) (hk : j7 (fun b => b=P∨b=g) W W') (hs : W.heap.size≤W'.heap.size) : SP P g cap ts n σ W':=by
 obtain ⟨a,m,c,f,hp,hr⟩:=h
 refine ⟨a,m,c,f,⟨(hk P (.inl rfl)).trans hp.at',fun j hj => ?_,hp.ne,Nat.lt_of_lt_of_le hp.lt hs,hp.le,hp.max,hp.pos⟩,hr⟩
 have q : ∀ o,W'.cell? ⟨g,o,none⟩=W.cell? ⟨g,o,none⟩:=fun o => World.cell?_of_block (hk g (.inr rfl))
 obtain ⟨h0,h1,h2,h3⟩:=hp.toks j hj
 exact ⟨(q _).trans h0,(q _).trans h1,(q _).trans h2,(q _).trans h3⟩
theorem SP.blocks {P g cap : Nat} {ts : List Tk} {n : Nat} {σ : Sx} {W : World} (h : SP P g cap ts n σ W) : P<W.heap.size∧g<W.heap.size:=by
 obtain ⟨a,m,c,f,hp,hr⟩:=h
 exact ⟨hp.plt,hp.lt⟩
theorem SP.put {P g cap : Nat} {ts : List Tk} {n : Nat} {σ : Sx} {W : World} (h : SP P g cap ts n σ W) {c : Nat} (hP : c≠P) (hg : c≠g) (t : Nd) (a : Option Addr) (cp : Nat) : SP P g cap ts n σ (Y2 W c t a cp) :=
 h.keeps ((j7.refl _ W).put (fun b hb e => by subst e; rcases hb with rfl | rfl <;> contradiction) t a cp) (Nat.le_of_eq (Q9 ..).symm)
theorem mB {av : Nat→Prop} {W : World} {b : Nat} {t : Nd} {a : Option Addr} {cp i : Nat} (hb : av b) (h0 : W.cell? ⟨b,0 + i * 5,none⟩=some (.int .i64 t.kind)) (h1 : W.cell? ⟨b,0 + i * 5 + 1,none⟩=some (.string t.text)) (h2 : W.cell? ⟨b,0 + i * 5 + 2,none⟩=some (.int .i64 t.n))
 (h3 : W.cell? ⟨b,0 + i * 5 + 3,none⟩=some (.slice a t.kids.length cp)) (h4 : W.cell? ⟨b,0 + i * 5 + 4,none⟩=some (.int .i64 t.place)) (hl : t.lies av W a cp) {ks : List Nd} (hks : Nd.lie av W ks (some ⟨b,0,none⟩) (i + 1)) : Nd.lie av W (t :: ks) (some ⟨b,0,none⟩) i:=by
 cases t with
 | mk k s n l p => exact ⟨⟨b,0,a,cp,rfl,hb,h0,h1,h2,h3,h4,hl⟩,hks⟩
theorem a6p {av : Nat→Prop} {W : World} {b : Nat} {T : TypeId} {t : Nd} {a : Option Addr} {cp : Nat} (hb : av b) (h : W.heap[b]?=some (.cells #[.int .i64 t.kind,.string t.text,.int .i64 t.n,.slice a t.kids.length cp,.int .i64 t.place] T (0,0))) (hl : t.lies av W a cp) : Nd.lie av W [t] (some ⟨b,0,none⟩) 0:=by
 refine mB hb ?_ ?_ ?_ ?_ ?_ hl trivial <;> simp [World.cell?,h]
theorem a6y {av : Nat→Prop} {W : World} {b : Nat} {T : TypeId} {t t' : Nd} {a a' : Option Addr} {cp cp' : Nat} (hb : av b) (h : W.heap[b]?=some (.cells #[.int .i64 t.kind,.string t.text,.int .i64 t.n,.slice a t.kids.length cp,.int .i64 t.place,.int .i64 t'.kind,.string t'.text,.int .i64 t'.n,.slice a' t'.kids.length cp',.int .i64 t'.place] T (0,0)))
 (hl : t.lies av W a cp) (hl' : t'.lies av W a' cp') : Nd.lie av W [t,t'] (some ⟨b,0,none⟩) 0:=by
 refine mB hb ?_ ?_ ?_ ?_ ?_ hl (mB hb ?_ ?_ ?_ ?_ ?_ hl' trivial) <;> simp [World.cell?,h]
theorem a2t {av : Nat→Prop} {W : World} {b : Nat} {T : TypeId} {t t' t2 : Nd} {a a' a2 : Option Addr} {cp cp' cp2 : Nat} (hb : av b) (h : W.heap[b]?=some (.cells #[.int .i64 t.kind,.string t.text,.int .i64 t.n,.slice a t.kids.length cp,.int .i64 t.place,.int .i64 t'.kind,.string t'.text,.int .i64 t'.n,.slice a' t'.kids.length cp',.int .i64 t'.place,.int .i64 t2.kind,.string t2.text,.int .i64 t2.n,.slice a2 t2.kids.length cp2,.int .i64 t2.place] T (0,0)))
 (hl : t.lies av W a cp) (hl' : t'.lies av W a' cp') (hl2 : t2.lies av W a2 cp2) : Nd.lie av W [t,t',t2] (some ⟨b,0,none⟩) 0:=by
 refine mB hb ?_ ?_ ?_ ?_ ?_ hl (mB hb ?_ ?_ ?_ ?_ ?_ hl' (mB hb ?_ ?_ ?_ ?_ ?_ hl2 trivial)) <;> simp [World.cell?,h]
theorem SP.mono {P g cap : Nat} {ts : List Tk} {n n' : Nat} {k p : Int} {W : World} (h : SP P g cap ts n (.error (k,p)) W) (hn : n'≤n) : SP P g cap ts n' (.error (k,p)) W:=by
 obtain ⟨hk,a,m,hp,h1,h2⟩:=h.error
 exact SP.of_error hp hk (by omega) h2
theorem SP.below {P g cap : Nat} {ts : List Tk} {n : Nat} {σ : Sx} {W W' : World} (h : SP P g cap ts n σ W) (hb : Below W.heap.size W W') : SP P g cap ts n σ W':=by
 obtain ⟨a,m,c,f,hp,hr⟩:=h
 exact ⟨a,m,c,f,hp.below hb,hr⟩
theorem SP.later {P g cap : Nat} {ts : List Tk} {n : Nat} {σ : Sx} {B : Nat} {W W' : World} (h : SP P g cap ts n σ W) (hb : Below B W W') (hp : P<B) (hg : g<B) : SP P g cap ts n σ W':=by
 obtain ⟨a,m,c,f,hp',hr⟩:=h
 exact ⟨a,m,c,f,hp'.later hb hp hg,hr⟩
theorem SP.nest {P g cap : Nat} {ts : List Tk} {n : Nat} {σ : Sx} {W : World} (h : SP P g cap ts (n + 1) σ W) : ∃ m : Int,1≤m∧m≤301 + n∧W.cell? ⟨P,2,none⟩=some (.int .i64 m)∧W.frozen? ⟨P,2,none⟩=false∧SP P g cap ts n σ (W.setCell ⟨P,2,none⟩ (.int .i64 (m - 1))):=by
 obtain ⟨a,m,c,f,hp,hr⟩:=h
 have hq:=hp.set_nest (m - 1)
 have hc:=hp.cells
 cases σ with
 | ok r =>
   obtain ⟨rfl,rfl,rfl,rfl⟩:=hr
   refine ⟨((n + 1 : Nat) : Int),by omega,by omega,hc.1.2.2.1,hc.2.2.2.1,a,_,_,_,hq,rfl,by omega,rfl,rfl⟩
 | error e =>
   obtain ⟨k,p⟩:=e
   obtain ⟨rfl,rfl,hk,h1,h2⟩:=hr
   exact ⟨m,by omega,by omega,hc.1.2.2.1,hc.2.2.2.1,a,_,_,_,hq,rfl,rfl,hk,by omega,by omega⟩
theorem SP.bad {P g cap : Nat} {ts : List Tk} {n : Nat} {σ : Sx} {W : World} (h : SP P g cap ts n σ W) : ∃ c : Int,W.cell? ⟨P,3,none⟩=some (.int .i64 c)∧(c=0↔∃ r,σ=.ok r):=by
 obtain ⟨a,m,c,f,hp,hr⟩:=h
 refine ⟨c,hp.cells.1.2.2.2.1,?_⟩
 cases σ with
 | ok r => obtain ⟨rfl,rfl,rfl,rfl⟩:=hr; exact ⟨fun _ => ⟨_,rfl⟩,fun _ => rfl⟩
 | error e =>
   obtain ⟨k,p⟩:=e
   obtain ⟨rfl,rfl,hk,h1,h2⟩:=hr
   exact ⟨fun h => absurd h hk,fun h => by obtain ⟨r,h⟩:=h; cases h⟩
def a7Q (σ : Sx) : Nat:=match σ with
 | .ok r => r.length + 1
 | .error _ => 0
def a22 (P : Nat) (ts : List Tk) (W : World) : Nat:=match W.cell? ⟨P,3,none⟩,W.cell? ⟨P,1,none⟩ with
 | some (.int _ c),some (.int _ a) => if c=0 then ts.length - a.toNat + 1 else 0
 | _,_ => 0
theorem SP.far {P g cap : Nat} {ts : List Tk} {n : Nat} {σ : Sx} {W : World} (h : SP P g cap ts n σ W) : a22 P ts W=a7Q σ:=by
 obtain ⟨a,m,c,f,hp,hr⟩:=h
 obtain ⟨⟨-,p1,-,p3,-⟩,-⟩:=hp.cells
 unfold a22
 rw [p1,p3]
 cases σ with
 | ok r =>
   obtain ⟨rfl,rfl,rfl,rfl⟩:=hr
   show (if (0 : Int)=0 then ts.length - ((a : Int).toNat) + 1 else 0)=(ts.drop a).length + 1
   rw [if_pos rfl,List.length_drop]; rfl
 | error e =>
   obtain ⟨k,p⟩:=e
   obtain ⟨rfl,rfl,hk,h1,h2⟩:=hr
   exact if_neg hk
def RdP (P g cap : Nat) (ts : List Tk) (nest : Nat) (x : Rd) (w : World) (e : Ending) (w' : World) : Prop :=
 ∃ (t : Nd) (a : Option Addr) (cp : Nat),e=.returned (t.val a cp)∧SP P g cap ts nest (p6 x) w'∧w.grownBy w' (some P)∧∀ t' r,x=.ok (t',r)→t'=t∧t.lies (Fr w.heap.size w'.heap.size) w' a cp∧c8 t≤100
theorem RdP.err {P g cap : Nat} {ts : List Tk} {nest : Nat} {k p : Int} {w w' : World} {e : Ending} (t : Nd) (a : Option Addr) (cp : Nat) (he : e=.returned (t.val a cp)) (h : SP P g cap ts nest (.error (k,p)) w') (hg : w.grownBy w' (some P)) : RdP P g cap ts nest (.error (k,p)) w e w' :=
 ⟨t,a,cp,he,h,hg,fun _ _ h => by cases h⟩
end
section
open Lib (hid)
open Go.RowKit
structure PQ (P g cap : Nat) (ts : List Tk) (a : Nat) (n : Int) (W : World) : Prop where
 at' : W.heap[P]?=some (.cells #[.slice (some ⟨g,a * 4,none⟩) (ts.length - a) (cap - a),.int .i64 n] 77 (0,0))
 toks : wB W g 0 ts
 ne : g≠P
 lt : g<W.heap.size
 le : ts.length≤cap
 max : cap≤maxLen
 pos : a<ts.length
section
variable {P g cap : Nat} {ts : List Tk} {a : Nat} {n : Int} {W W' : World}
theorem PQ.cells (h : PQ P g cap ts a n W) : (W.cell? ⟨P,0,none⟩=some (.slice (some ⟨g,a * 4,none⟩) (ts.length - a) (cap - a))∧W.cell? ⟨P,1,none⟩=some (.int .i64 n))∧(W.frozen? ⟨P,0,none⟩=false∧W.frozen? ⟨P,1,none⟩=false):=by
 have h':=h.at'
 refine ⟨⟨?_,?_⟩,?_,?_⟩ <;> simp [World.cell?,World.frozen?,h']
theorem PQ.plt (h : PQ P g cap ts a n W) : P<W.heap.size:=(Array.getElem?_eq_some_iff.1 h.at').1
theorem PQ.keeps (h : PQ P g cap ts a n W) (hk : j7 (fun b => b=P∨b=g) W W') (hs : W.heap.size≤W'.heap.size) : PQ P g cap ts a n W':=by
 refine ⟨(hk P (.inl rfl)).trans h.at',fun j hj => ?_,h.ne,Nat.lt_of_lt_of_le h.lt hs,h.le,h.max,h.pos⟩
 have q : ∀ o,W'.cell? ⟨g,o,none⟩=W.cell? ⟨g,o,none⟩:=fun o => World.cell?_of_block (hk g (.inr rfl))
 obtain ⟨h0,h1,h2,h3⟩:=h.toks j hj
 exact ⟨(q _).trans h0,(q _).trans h1,(q _).trans h2,(q _).trans h3⟩
theorem PQ.later {B : Nat} (h : PQ P g cap ts a n W) (hb : Below B W W') (hp : P<B) (hg : g<B) : PQ P g cap ts a n W' :=
 ⟨(hb.block P hp).trans h.at',h.toks.below hb hg,h.ne,Nat.lt_of_lt_of_le h.lt hb.size,h.le,h.max,h.pos⟩
theorem PQ.below (h : PQ P g cap ts a n W) (hb : Below W.heap.size W W') : PQ P g cap ts a n W':=h.later hb h.plt h.lt
theorem PQ.tok (h : PQ P g cap ts a n W) : W.cell? ⟨g,a * 4,none⟩=some (.int .i64 (ts[a]'h.pos).kind)∧W.cell? ⟨g,a * 4 + 1,none⟩=some (.string ⟨(ts[a]'h.pos).text.toArray⟩)∧W.cell? ⟨g,a * 4 + 2,none⟩=some (.int .i64 (ts[a]'h.pos).n)∧W.cell? ⟨g,a * 4 + 3,none⟩=some (.int .i64 (ts[a]'h.pos).pos):=by
 have:=h.toks a h.pos
 rw [Nat.zero_add] at this
 exact this
theorem PQ.kept (h : PQ P g cap ts a n W) (i : Nat) (v : Value) {a' : Nat} {n' : Int} (hp : a'<ts.length) (hat : (W.setCell ⟨P,i,none⟩ v).heap[P]?=some (.cells #[.slice (some ⟨g,a' * 4,none⟩) (ts.length - a') (cap - a'),.int .i64 n'] 77 (0,0))) :
 PQ P g cap ts a' n' (W.setCell ⟨P,i,none⟩ v):=by
 refine ⟨hat,fun j hj => ?_,h.ne,by simp [World.setCell]; exact h.lt,h.le,h.max,hp⟩
 have q : ∀ o,(W.setCell ⟨P,i,none⟩ v).cell? ⟨g,o,none⟩=W.cell? ⟨g,o,none⟩:=fun o => World.cell?_of_block (Below.heap_setCell _ _ _ _ (fun e => h.ne (by simp at e; exact e)))
 obtain ⟨h0,h1,h2,h3⟩:=h.toks j hj
 exact ⟨(q _).trans h0,(q _).trans h1,(q _).trans h2,(q _).trans h3⟩
theorem PQ.set_l (h : PQ P g cap ts a n W) {a' : Nat} (hp : a'<ts.length) : PQ P g cap ts a' n (W.setCell ⟨P,0,none⟩ (.slice (some ⟨g,a' * 4,none⟩) (ts.length - a') (cap - a'))) :=
 h.kept 0 _ hp (by simp [World.setCell,Array.getElem?_modify,h.at'])
theorem PQ.set_nest (h : PQ P g cap ts a n W) (n' : Int) : PQ P g cap ts a n' (W.setCell ⟨P,1,none⟩ (.int .i64 n')) :=
 h.kept 1 _ h.pos (by simp [World.setCell,Array.getElem?_modify,h.at'])
end
def SQ (P g cap : Nat) (ts : List Tk) (nest : Nat) (l : List Tk) (W : World) : Prop:=∃ a,l=ts.drop a∧PQ P g cap ts a nest W
def flt (k p : Int) : Ending:=.panicked [{ v:=.iface 75 (.agg #[.int .i64 p,.int .i64 k]),recovered:=false }]
theorem aM (P : Nat) (k p : Int) (w : World) :
 Calls Tryz.prog 47 #[.pointer (some ⟨P,0,none⟩),.int .i64 p,.int .i64 k] w fun e w' => e=flt k p∧w=w':=by
 go_enter Tryz.func47,Tryz.ntmps47
 go_wp2_with fail
 exact ⟨rfl,rfl,rfl⟩
theorem a6F (P g cap : Nat) (ts : List Tk) (a : Nat) (n : Int) (x : ByteArray) (w : World) (h : PQ P g cap ts a n w) :
 Calls Tryz.prog 50 #[.pointer (some ⟨P,0,none⟩),.string x] w fun e w' => e=.returned (.bool (isT x.data.toList (ts.drop a)))∧Below w.heap.size w w':=by
 have I:=hid (a5i h.pos x.data.toList)
 have hpos:=h.pos
 have hmx:=h.max
 have hle:=h.le
 unfold maxLen at hmx
 obtain ⟨⟨p0,p1⟩,-⟩:=h.cells
 obtain ⟨t0,t1,t2,t3⟩:=h.tok
 have hL : 0<ts.length - a:=by omega
 generalize hT : ts[a]'hpos=T at t0 t1 t2 t3 I
 generalize ts.length - a=L at p0 hL
 generalize cap - a=C at p0
 generalize a * 4=off at p0 t0 t1 t2 t3
 clear hT h hmx hle
 go_enter Tryz.func50,Tryz.ntmps50
 go_wp2_with fail
 all_goals
  go_ret
  refine ⟨x8 ?_,c6 _ _⟩
  rw [I.out]
  simp [Lib.toList_data, *]
theorem D6 (w : World) (o o' : Obj) : Below w.heap.size w ((w.alloc o).alloc o'):=(c6 w o).alloc (c6 w o).size o'
def sL (b : Nat) (w : World) : Prop:=w.heap[b]?=some (.cells #[.int .i64 0,.string ⟨#[]⟩,.int .i64 0,.int .i64 0] 79 (0,0))
theorem sL.make (w : World) : sL w.heap.size (w.alloc (.cells #[.int .i64 0,.string ⟨#[]⟩,.int .i64 0,.int .i64 0] 79)):=by
 show (w.heap.push _)[w.heap.size]?=_; simp
theorem sL.cells {b : Nat} {w : World} (h : sL b w) : w.cell? ⟨b,0,none⟩=some (.int .i64 0)∧w.cell? ⟨b,1,none⟩=some (.string ⟨#[]⟩)∧w.cell? ⟨b,2,none⟩=some (.int .i64 0)∧w.cell? ⟨b,3,none⟩=some (.int .i64 0) ∧
 w.frozen? ⟨b,0,none⟩=false∧w.frozen? ⟨b,1,none⟩=false∧w.frozen? ⟨b,2,none⟩=false∧w.frozen? ⟨b,3,none⟩=false:=by
 have h' : w.heap[b]?=some (.cells #[.int .i64 0,.string ⟨#[]⟩,.int .i64 0,.int .i64 0] 79 (0,0)):=h
 refine ⟨?_,?_,?_,?_,?_,?_,?_,?_⟩ <;> simp [World.cell?,World.frozen?,h']
def a7O (P g cap : Nat) (ts : List Tk) (a : Nat) (n : Int) (w : World) (e : Ending) (w' : World) : Prop :=
 ∃ a',(∃ h : a<ts.length,e=.returned (tkV ts[a]))∧PQ P g cap ts a' n w'∧b9 (ts.drop a)=ts.drop a'∧w.grownBy w' (some P)∧a≤a'
theorem a3j (P g cap : Nat) (ts : List Tk) (a : Nat) (n : Int) (w : World) (h : PQ P g cap ts a n w) (he : y6 ts) :
 Calls Tryz.prog 52 #[.pointer (some ⟨P,0,none⟩)] w (a7O P g cap ts a n w):=by
 have hpos:=h.pos
 have hmx:=h.max
 have hle:=h.le
 unfold maxLen at hmx
 have hPlt:=h.plt
 have hg0:=h.lt
 have HN:=hid (he a hpos)
 obtain ⟨⟨p0,p1⟩,⟨g0,g1⟩⟩:=h.cells
 obtain ⟨t0,t1,t2,t3⟩:=h.tok
 have HH:=hid h
 have K1:=hid (fun hk => qW (ts:=ts) hpos hk)
 have K0:=hid (fun hk => sW (ts:=ts) hpos hk)
 have HE:=hid (show ∃ h : a<ts.length,Ending.returned (tkV (ts[a]'hpos))=.returned (tkV ts[a]) from ⟨hpos,rfl⟩)
 have hL : 0<ts.length - a:=by omega
 generalize hT : ts[a]'hpos=T at t0 t1 t2 t3 K1 K0 HN HE
 clear hT
 obtain ⟨L,hLe⟩ : ∃ L,L=ts.length - a:=⟨_,rfl⟩
 obtain ⟨C,hCe⟩ : ∃ C,C=cap - a:=⟨_,rfl⟩
 obtain ⟨off,hOe⟩ : ∃ off,off=a * 4:=⟨_,rfl⟩
 rw [← hLe] at p0 hL
 rw [← hCe] at p0
 rw [← hOe] at p0 t0 t1 t2 t3
 have HLe:=hid hLe
 have HCe:=hid hCe
 have HOe:=hid hOe
 have hLC : L≤C:=by omega
 have hC2 : C≤9223372036854775807:=by omega
 have HL2:=hid (show T.kind≠0→1<L from fun hk => by have:=HN.out hk; omega)
 clear hLe hCe hOe hmx hle h he
 go_enter Tryz.func52,Tryz.ntmps52
 by_cases hk : T.kind=0
 ·have e0 : (T.kind != 0)=false:=by rw [hk]; rfl
  have HK:=hid hk
  clear hk
  go_wp2_with fail
  refine bodyPost_ret (v:=tkV T) (by simp [results,Tryz.results52,go_sem,tkV]) rfl ?_
  exact ⟨a,HE,HH.out.below (D6 w _ _),K0.out HK,b8 (D6 w _ _),Nat.le_refl _⟩
 ·have e0 : (T.kind != 0)=true:=bne_iff_ne.2 hk
  have HK:=hid hk
  have h1L : 1<L:=HL2.out hk
  clear hk
  go_wp2_with fail
  rw [show off + 4=(a + 1) * 4 by rw [HOe.out]; omega,show L - 1=ts.length - (a + 1) by rw [HLe.out]; omega,show C - 1=cap - (a + 1) by rw [HCe.out]; omega]
  refine bodyPost_ret (v:=tkV T) (by simp [results,Tryz.results52,go_sem,tkV]) rfl ?_
  have HS:=HH.out.set_l (HN.out HK)
  exact ⟨a + 1,HE,HS.below (D6 _ _ _),K1.out HK,d8 (e9 _ _ _ _) ((D6 _ _ _).mono (by simp [World.setCell])),Nat.le_succ _⟩
section
variable {P g cap : Nat} {ts : List Tk} {nest : Nat} {l : List Tk} {W W' : World}
theorem SQ.blocks (h : SQ P g cap ts nest l W) : P<W.heap.size∧g<W.heap.size∧g≠P:=by
 obtain ⟨a,-,h⟩:=h
 exact ⟨h.plt,h.lt,h.ne⟩
theorem SQ.keeps (h : SQ P g cap ts nest l W) (hk : j7 (fun b => b=P∨b=g) W W') (hs : W.heap.size≤W'.heap.size) : SQ P g cap ts nest l W':=by
 obtain ⟨a,e,h⟩:=h
 exact ⟨a,e,h.keeps hk hs⟩
theorem SQ.later {B : Nat} (h : SQ P g cap ts nest l W) (hb : Below B W W') (hp : P<B) (hg : g<B) : SQ P g cap ts nest l W':=by
 obtain ⟨a,e,h⟩:=h
 exact ⟨a,e,h.later hb hp hg⟩
theorem SQ.below (h : SQ P g cap ts nest l W) (hb : Below W.heap.size W W') : SQ P g cap ts nest l W':=h.later hb h.blocks.1 h.blocks.2.1
theorem SQ.set_other (h : SQ P g cap ts nest l W) {c : Nat} (hp : c≠P) (hg : c≠g) (i : Nat) (v : Value) : SQ P g cap ts nest l (W.setCell ⟨c,i,none⟩ v) :=
 h.keeps ((j7.refl _ W).set (fun b hb e => by subst e; rcases hb with rfl | rfl <;> contradiction) i v) (by simp [World.setCell])
theorem SQ.mem (h : SQ P g cap ts nest l W) : hd l∈ts:=by
 obtain ⟨a,rfl,h⟩:=h
 rw [O7 h.pos]
 exact List.getElem_mem _
end
def a7M (P g cap : Nat) (ts : List Tk) (nest : Nat) (σ : Sx) (w : World) (e : Ending) (w' : World) : Prop:=match σ with
 | .ok r => e=.returned (.tuple #[])∧SQ P g cap ts nest r w'∧w.grownBy w' (some P)
 | .error (k,p) => e=flt k p∧w.grownBy w' (some P)
def TkQ (P g cap : Nat) (ts : List Tk) (nest : Nat) (T : Tk) (σ : Sx) (w : World) (e : Ending) (w' : World) : Prop:=match σ with
 | .ok r => e=.returned (tkV T)∧SQ P g cap ts nest r w'∧w.grownBy w' (some P)
 | .error (k,p) => e=flt k p∧w.grownBy w' (some P)
theorem aV (P g cap : Nat) (ts : List Tk) (nest : Nat) (l : List Tk) (x : ByteArray) (w : World) (h : SQ P g cap ts nest l w) :
 Calls Tryz.prog 50 #[.pointer (some ⟨P,0,none⟩),.string x] w fun e w' => e=.returned (.bool (isT x.data.toList l))∧Below w.heap.size w w':=by
 obtain ⟨a,rfl,h⟩:=h
 exact a6F P g cap ts a nest x w h
theorem dP (P g cap : Nat) (ts : List Tk) (nest : Nat) (l : List Tk) (w : World) (h : SQ P g cap ts nest l w) (he : y6 ts) :
 Calls Tryz.prog 52 #[.pointer (some ⟨P,0,none⟩)] w fun e w' => e=.returned (tkV (hd l))∧SQ P g cap ts nest (b9 l) w'∧w.grownBy w' (some P):=by
 obtain ⟨a,rfl,h⟩:=h
 refine (a3j P g cap ts a nest w h he).mono fun e w' => ?_
 rintro ⟨a',⟨ha,rfl⟩,hp,hs,hg,-⟩
 exact ⟨by rw [O7 ha],⟨a',hs,hp⟩,hg⟩
theorem V0 (P g cap : Nat) (ts : List Tk) (nest : Nat) (l : List Tk) (x : ByteArray) (w : World) (h : SQ P g cap ts nest l w) (he : y6 ts) :
 Calls Tryz.prog 89 #[.pointer (some ⟨P,0,none⟩),.string x] w fun e w' => e=.returned (.bool (isT x.data.toList l))∧SQ P g cap ts nest (if isT x.data.toList l=true then b9 l else l) w'∧w.grownBy w' (some P):=by
 have C:=hid (aV P g cap ts nest l x w h)
 have H:=hid h
 have HE:=hid he
 clear h he
 generalize isT x.data.toList l=B at C ⊢
 cases B
 ·go_enter Tryz.func89,Tryz.ntmps89
  go_wp2_with fail
  (with_reducible refine Calls.mono C.out ?_)
  rintro e w1 ⟨rfl,hb⟩
  go_wp2_with fail
  go_ret
  exact ⟨rfl,H.out.below hb,b8 hb⟩
 ·go_enter Tryz.func89,Tryz.ntmps89
  go_wp2_with fail
  (with_reducible refine Calls.mono C.out ?_)
  rintro e w1 ⟨rfl,hb⟩
  have C2:=hid (dP P g cap ts nest l w1 (H.out.below hb) HE)
  have HB:=hid hb
  clear hb C
  go_wp2_with fail
  (with_reducible refine Calls.mono C2.out ?_)
  rintro e w2 ⟨rfl,hs,hg⟩
  unfold tkV
  go_wp2_with fail
  go_ret
  exact ⟨rfl,hs,b6 (b8 HB) hg⟩
theorem a2R (P g cap : Nat) (ts : List Tk) (nest : Nat) (l : List Tk) (x : ByteArray) (w : World) (h : SQ P g cap ts nest l w) (he : y6 ts) :
 Calls Tryz.prog 53 #[.pointer (some ⟨P,0,none⟩),.string x] w (a7M P g cap ts nest (bZ x.data.toList (.ok l)) w):=by
 have C:=hid (V0 P g cap ts nest l x w h he)
 have R:=hid (show bZ x.data.toList (.ok l)=if isT x.data.toList l=true then .ok (b9 l) else .error (74,(hd l).pos) from rfl)
 clear h he
 go_enter Tryz.func53,Tryz.ntmps53
 go_wp2_with fail
 (with_reducible refine Calls.mono C.out ?_)
 rintro e w1 ⟨rfl,hs,hg⟩
 generalize isT x.data.toList l=B at R hs ⊢
 have HG:=hid hg
 clear hg C
 cases B
 ·obtain ⟨a,rfl,hp⟩:=hs
  have hpos:=hp.pos
  have D:=hid (O7 hpos)
  obtain ⟨⟨p0,p1⟩,-⟩:=hp.cells
  obtain ⟨t0,t1,t2,t3⟩:=hp.tok
  have hL : 0<ts.length - a:=by omega
  have C3:=hid (aM P 74 (ts[a]'hpos).pos w1)
  generalize ts[a]'hpos=T at t0 t1 t2 t3 D C3
  generalize ts.length - a=L at p0 hL
  generalize cap - a=C at p0
  generalize a * 4=off at p0 t0 t1 t2 t3
  clear hp hpos
  go_wp2_with fail
  (with_reducible refine Calls.mono C3.out ?_)
  rintro e w2 ⟨rfl,rfl⟩
  refine ⟨rfl,?_⟩
  rw [R.out,if_neg (by decide),D.out]
  exact ⟨rfl,HG⟩
 ·have HS:=hid hs
  clear hs
  go_wp2_with fail
  (first | (refine bodyPost_end (results_none rfl _ _ _) rfl ?_) | (refine bodyPost_ret (results_none rfl _ _ _) rfl ?_))
  rw [R.out]
  exact ⟨rfl,HS,HG⟩
theorem dZ (P g cap : Nat) (ts : List Tk) (nest : Nat) (l : List Tk) (k : Int) (w : World) (h : SQ P g cap ts nest l w) (he : y6 ts) :
 Calls Tryz.prog 66 #[.pointer (some ⟨P,0,none⟩),.int .i64 k] w (TkQ P g cap ts nest (hd l) (Y3 k (.ok l)) w):=by
 have R:=hid (show Y3 k (.ok l)=if (hd l).kind=k then .ok (b9 l) else .error (74,(hd l).pos) from rfl)
 have H:=hid h
 have HE:=hid he
 obtain ⟨a,hl,hp⟩:=h
 have hpos:=hp.pos
 have hPlt:=hp.plt
 have hg0:=hp.lt
 have D:=hid (show hd l=ts[a]'hpos by rw [hl,O7 hpos])
 obtain ⟨⟨p0,p1⟩,-⟩:=hp.cells
 obtain ⟨t0,t1,t2,t3⟩:=hp.tok
 have hL : 0<ts.length - a:=by omega
 generalize ts[a]'hpos=T at t0 t1 t2 t3 D
 generalize ts.length - a=L at p0 hL
 generalize cap - a=C at p0
 generalize a * 4=off at p0 t0 t1 t2 t3
 clear hp he hl hpos
 go_enter Tryz.func66,Tryz.ntmps66
 by_cases hk : T.kind=k
 ·have e0 : (T.kind != k)=false:=by rw [hk]; exact bne_self_eq_false k
  have R2:=hid (R.out.trans (if_pos (by rw [D.out]; exact hk)))
  have C2:=hid (dP P g cap ts nest l _ (H.out.below (c6 w (.cells #[.int .i64 0,.string ⟨#[]⟩,.int .i64 0,.int .i64 0] 79))) HE)
  clear hk
  go_wp2_with fail
  (with_reducible refine Calls.mono C2.out ?_)
  rintro e w2 ⟨rfl,hs,hg⟩
  have hne : w.heap.size≠P:=Nat.ne_of_gt hPlt
  have HZ:=(hg.block w.heap.size (by simp) (fun e => hne (Option.some.inj e))).trans (sL.make w)
  obtain ⟨c0,c1,c2,c3,f0,f1,f2,f3⟩:=sL.cells HZ
  have hwl : w.heap.size<w2.heap.size:=(Array.getElem?_eq_some_iff.1 HZ).1
  have HS:=hid hs
  have HG:=hid (b6 (b8 (c6 w _)) hg)
  rw [D.out]
  unfold tkV
  clear hs hg HZ t0 t1 t2 t3 p0 p1
  go_wp2_with fail
  refine bodyPost_ret (v:=tkV T) (by simp [results,Tryz.results66,go_sem,tkV,c0,c1,c2,c3]) rfl ?_
  rw [R2.out,D.out]
  have HF:=(j0 (Below.refl w.heap.size w2) (.int .i64 T.kind) (.string ⟨T.text.toArray⟩) (.int .i64 T.n) (.int .i64 T.pos))
  exact ⟨rfl,HS.out.later HF hPlt hg0,d8 HG HF⟩
 ·have e0 : (T.kind != k)=true:=bne_iff_ne.2 hk
  have R2:=hid (R.out.trans (if_neg (by rw [D.out]; exact hk)))
  have C3:=hid (aM P 74 T.pos (w.alloc (.cells #[.int .i64 0,.string ⟨#[]⟩,.int .i64 0,.int .i64 0] 79)))
  clear hk
  go_wp2_with fail
  (with_reducible refine Calls.mono C3.out ?_)
  rintro e w2 ⟨rfl,rfl⟩
  refine ⟨rfl,?_⟩
  rw [R2.out,D.out]
  exact ⟨rfl,b8 (c6 w _)⟩
end
end Go.Proofs.YtibiccacafjjfaaGreatDoor
