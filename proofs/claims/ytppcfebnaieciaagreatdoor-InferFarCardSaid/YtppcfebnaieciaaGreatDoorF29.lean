/-
  Laws that the proof rests on.
-/
import Derived.Test.YtppcfebnaieciaaGreatDoorF21
import Derived.Laws.RangeString
import Derived.Lib.SlBytesConst
import Derived.Test.YtppcfebnaieciaaGreatDoorF24
import Derived.Test.YtppcfebnaieciaaGreatDoorF13
namespace Go.Proofs.YtppcfebnaieciaaGreatDoor
set_option maxRecDepth 100000
set_option maxHeartbeats 16000000
section
open Go.RowKit Go.Maps Go.WideMaps
def SM (av : Nat→Prop) (b n : Nat) (g : List UInt8→Option Sch) (w : World) : Prop:=∃ f : Lit→Option Value,q7 9 b n f w∧∀ s,match g s with
 | none => f (.string s)=none
 | some d => ∃ v,f (.string s)=some v∧cU av w (some d) v
theorem SM.made (av : Nat→Prop) (w : World) : SM av w.heap.size 0 (fun _ => none) (w.alloc (.map #[] 0)):=⟨_,q7.made _ _,fun _ => rfl⟩
theorem SM.move {av av' : Nat→Prop} {b n : Nat} {g : List UInt8→Option Sch} {w w' : World} (h : SM av b n g w) (hb : w'.heap[b]?=w.heap[b]?) (hk : ∀ b,av b→w'.heap[b]?=w.heap[b]?) (ha : ∀ b,av b→av' b) : SM av' b n g w':=by
 obtain ⟨f,h2,h4⟩:=h
 refine ⟨f,h2.kept hb,fun s => ?_⟩
 have:=h4 s
 cases hg : g s with
 | none => rw [hg] at this; exact this
 | some d =>
   rw [hg] at this
   obtain ⟨v,e1,e2⟩:=this
   exact ⟨v,e1,e2.move hk ha⟩
theorem SM.smap {av : Nat→Prop} {b n : Nat} {g : List UInt8→Option Sch} {w : World} (h : SM av b n g w) (hb : av b) (hn : n≤1000000) : eC av (.map (some b)) g w:=by
 obtain ⟨f,h1,h2⟩:=h
 exact ⟨b,n,f,rfl,hb,h1,hn,h2⟩
theorem aV {av : Nat→Prop} {w : World} {pa : Option Addr} {l : List Int} (h : y6 av w pa l) : y6 (fun b => av b∧b<w.heap.size) w pa l:=fun j hj => by
 obtain ⟨b,off,e,h1,h2⟩:=h j hj
 refine ⟨b,off,e,⟨h1,?_⟩,h2⟩
 rcases Nat.lt_or_ge b w.heap.size with g | g
 ·exact g
 ·simp [World.cell?,Array.getElem?_eq_none g] at h2
theorem cU.lt {av : Nat→Prop} {w : World} {x : Option Sch} {v : Value} (h : cU av w x v) : cU (fun b => av b∧b<w.heap.size) w x v:=by
 cases x with
 | none => exact h
 | some d =>
   obtain ⟨pa,pc,h1,h2,h3⟩:=h
   exact ⟨pa,pc,h1,aV h2,h3⟩
theorem SM.lt {av : Nat→Prop} {b n : Nat} {g : List UInt8→Option Sch} {w : World} (h : SM av b n g w) : SM (fun b => av b∧b<w.heap.size) b n g w:=by
 obtain ⟨f,h2,h4⟩:=h
 refine ⟨f,h2,fun s => ?_⟩
 have:=h4 s
 cases hg : g s with
 | none => rw [hg] at this; exact this
 | some d =>
   rw [hg] at this
   obtain ⟨v,e1,e2⟩:=this
   exact ⟨v,e1,e2.lt⟩
theorem SM.below {av : Nat→Prop} {b n : Nat} {g : List UInt8→Option Sch} {w w' : World} (h : SM av b n g w) (hb : Below w.heap.size w w') : SM av b n g w':=by
 have hbl : b<w.heap.size:=h.elim fun f h => h.1.lt
 exact h.lt.move (hb.block b hbl) (fun c hc => hb.block c hc.2) fun _ h => h.1
theorem a1w {av : Nat→Prop} {w w' : World} {b : Nat} {es : Array MapEntry} {clock : Nat} {pa : Option Addr} {l : List Int} (h : y6 av w pa l) (hb : w.heap[b]?=some (.map es clock)) (hk : ∀ d,d≠b→d<w.heap.size→w'.heap[d]?=w.heap[d]?) : y6 av w' pa l:=fun j hj => by
 obtain ⟨c,off,e,⟨h1,hl⟩,h2⟩:=aV h j hj
 refine ⟨c,off,e,h1,(World.cell?_of_block (hk c (fun e => ?_) hl)).trans h2⟩
 subst e
 simp [World.cell?,hb] at h2
theorem cU.map {av : Nat→Prop} {w w' : World} {b : Nat} {es : Array MapEntry} {clock : Nat} {x : Option Sch} {v : Value} (h : cU av w x v) (hb : w.heap[b]?=some (.map es clock)) (hk : ∀ d,d≠b→d<w.heap.size→w'.heap[d]?=w.heap[d]?) : cU av w' x v:=by
 cases x with
 | none => exact h
 | some d =>
   obtain ⟨pa,pc,h1,h2,h3⟩:=h
   exact ⟨pa,pc,h1,a1w h2 hb hk,h3⟩
theorem SM.put {av : Nat→Prop} {b n : Nat} {g : List UInt8→Option Sch} {w : World} (h : SM av b n g w) (hn : n<maxLen) (d : Sch) {v : Value} (hs : d.name.length≤maxLen) (hv : cU av w (some d) v) :
 ∃ w',(Instr.mapUpdate 56 (.map (some b)) (.string (bsA d.name)) v).run Tryz.prog w=.ok () w'∧SM av b (n + 1) (fun s => if s=d.name then some d else g s) w'∧w.grownBy w' (some b):=by
 obtain ⟨f,h2,h4⟩:=h
 have h5:=h2
 obtain ⟨D,⟨es,clock,hb,-⟩,-⟩:=h5
 obtain ⟨w',r1,r2,r3⟩:=h2.update dE Tryz.underlying56 hn (bC hs) v
 have hk : ∀ c,c≠b→c<w.heap.size→w'.heap[c]?=w.heap[c]?:=fun c hc hl => r3.block c hl (fun e => hc (Option.some.inj e))
 obtain ⟨f',e1,e2⟩ : ∃ f' : Lit→Option Value,f' (.string d.name)=some v∧∀ x,x≠.string d.name→f' x=f x:=by
  classical exact ⟨fun x => if x=.string d.name then some v else f x,if_pos rfl,fun x hx => if_neg hx⟩
 refine ⟨w',r1,⟨f',r2 f' e1 e2,fun s => ?_⟩,r3⟩
 by_cases e : s=d.name
 ·subst e
  simp only [if_pos]
  exact ⟨v,e1,hv.map hb hk⟩
 ·simp only [if_neg e]
  have:=h4 s
  rw [e2 _ (fun e' => e (Lit.string.inj e'))]
  cases hg : g s with
  | none => rw [hg] at this; exact this
  | some d' =>
    rw [hg] at this
    obtain ⟨v',e3,e4⟩:=this
    exact ⟨v',e3,e4.map hb hk⟩
theorem nK {av : Nat→Prop} {b n : Nat} {g : List UInt8→Option Sch} {w : World} (h : SM av b n g w) {ops : Array Oper} {rest : List Oper} {o : Oper} {a : Act} {Q : Exit→Act→World→Prop} (hg : o.guard=none) (m x v : Operand) (hop : o.op=Op.mapUpdate 56 m x v)
 (hm : a.eval m=.map (some b)) (hn : n<maxLen) (d : Sch) (val : Value) (hx : a.eval x=.string (bsA d.name)) (hv : a.eval v=val) (hs : d.name.length≤maxLen) (hval : cU av w (some d) val)
 (hK : ∀ w',SM av b (n + 1) (fun s => if s=d.name then some d else g s) w'→w.grownBy w' (some b)→wpList Tryz.prog ops Q rest (a.put o.dst undef) w') : wpList Tryz.prog ops Q (o :: rest) a w:=by
 refine wpList_plain hg fun K' hK' => ?_
 obtain ⟨w',hrun,r1,r2⟩:=h.put hn d hs hval
 unfold Oper.wp
 simp [execOp,hop,hm,hx,hv,hrun,Result.andThen]
 exact hK' _ _ (hK w' r1 r2)
def gV : ByteArray:=⟨#[110,111,119,58,100,32,122,101,114,111,58,99,32,111,110,101,58,117,62,99,32,103,105,118,101,58,99,62,99,32,115,99,97,108,101,58,110,99,62,99,32,98,111,116,104,58,99,99,62,99,32,97,116,58,100,99,62,99,32,119,104,101,110,58,100,98,99,62,99,32,97,103,111,58,110,120,62,120,32,112,108,117,115,58,100,110,62,100,32,109,111,110,116,104,115,58,100,110,62,100,32,121,101,97,114,115,58,100,100,62,110,32,121,101,97,114,115,51,48,58,100,100,62,110,32,98,101,102,111,114,101,58,100,100,62,98]⟩
def nB : ByteArray:=⟨#[110,98,100,117,99,120]⟩
def U8 : List (List UInt8):=Lib.fields gV.data.toList
def X3 (l : List UInt8) : List Int:=(l.filter fun c => c != 62).map fun c => Lib.indexByte nB.data.toList c
def jT (row : List UInt8) : Sch:=⟨(Lib.cut row [58]).1,(X3 (Lib.cut row [58]).2.1).dropLast,(X3 (Lib.cut row [58]).2.1).getLastD 0⟩
theorem vO : U8.map (fun r => ((jT r).name,(jT r).params,(jT r).result))=l6.map fun d => (d.name,d.params,d.result):=by decide +kernel
theorem rE : U8.length=14:=by decide +kernel
theorem sY : U8.map jT=l6:=by
 have h:=congrArg (List.map fun (x : List UInt8 × List Int × Int) => (⟨x.1,x.2.1,x.2.2⟩ : Sch)) vO
 rw [List.map_map,List.map_map] at h
 have e1 : (fun x : List UInt8 × List Int × Int => (⟨x.1,x.2.1,x.2.2⟩ : Sch)) ∘ (fun r => ((jT r).name,(jT r).params,(jT r).result))=jT:=rfl
 have e2 : (fun x : List UInt8 × List Int × Int => (⟨x.1,x.2.1,x.2.2⟩ : Sch)) ∘ (fun d : Sch => (d.name,d.params,d.result))=id:=rfl
 rw [e1,e2,List.map_id] at h
 exact h
theorem a0W : ∀ r∈U8,r.length≤20∧(∀ c∈(Lib.cut r [58]).2.1,c.toNat<128∧(c≠62→0≤Lib.indexByte nB.data.toList c∧Lib.indexByte nB.data.toList c≤20))∧1≤(X3 (Lib.cut r [58]).2.1).length∧(Lib.cut r [58]).2.1.length≤8∧(Lib.cut r [58]).1.length≤20:=by decide +kernel
theorem a29 : ∀ k,k<14→((U8.take k).map fun r => (jT r).name).contains (jT (U8.getD k [])).name=false:=by decide +kernel
theorem lS {l : List Sch} {d : Sch} (h : j4 l d.name=none) (s : List UInt8) : j4 (l ++ [d]) s=if s=d.name then some d else j4 l s:=by
 unfold j4 at h ⊢
 rw [List.find?_append]
 by_cases e : s=d.name
 ·subst e; rw [h,if_pos rfl]; simp
 ·rw [if_neg e]
  have : ([d].find? fun x => x.name == s)=none:=by
   rw [List.find?_cons_of_neg]
   ·rfl
   ·simpa using fun h => e h.symm
  rw [this,Option.or_none]
theorem a2u {l : List Sch} {s : List UInt8} (h : (l.map fun d => d.name).contains s=false) : j4 l s=none:=mE fun j hj e => by
 have : s∈l.map fun d => d.name:=List.mem_map.2 ⟨l[j],List.getElem_mem hj,e⟩
 rw [← List.contains_iff_mem,h] at this
 cases this
end
section
open Lib (hid)
open Go.RowKit Go.Maps Go.WideMaps Go.Shelf
def bZ (w : World) : Prop:=Lib.TabIs Tryz.prog w "strings.asciiSpace" .u8 Lib.asciiSpaceTab
theorem bZ.lt {w : World} (h : bZ w) : 0<w.heap.size:=by
 have hg : Tryz.prog.globalNamed "strings.asciiSpace"=some 0:=by kernel_rfl
 unfold bZ Lib.TabIs World.var? at h
 rw [hg] at h
 simp only [Option.bind_some] at h
 rcases Nat.lt_or_ge 0 w.heap.size with h' | h'
 ·exact h'
 ·rw [Array.getElem?_eq_none h'] at h; cases h
theorem bZ.block {w w' : World} (h : bZ w) (hb : w'.heap[0]?=w.heap[0]?) : bZ w':=by
 have hg : Tryz.prog.globalNamed "strings.asciiSpace"=some 0:=by kernel_rfl
 unfold bZ Lib.TabIs World.var? at *
 rw [hg] at h ⊢
 simp only [Option.bind_some] at h ⊢
 rw [hb]
 exact h
theorem bZ.below {w w' : World} (h : bZ w) (hb : Below w.heap.size w w') : bZ w':=h.block (hb.block _ h.lt)
theorem uD : ∀ (j : Nat) b,gV.data.toList[j]?=some b→b.toNat<128:=ascii_of_all (by decide)
def a4x (l : List (List UInt8)) : Obj:=.cells (l.map Z3).toArray 9
theorem pQ (w : World) (ht : bZ w) : Calls Tryz.prog 47 #[.string gV] w fun e w' => e=.returned (.slice (some ⟨w.heap.size,0,none⟩) 14 14)∧w'=w.alloc (a4x U8):=by
 refine (Tryz.strings_Fields gV w (by decide) uD ht).mono ?_
 rintro e w' ⟨rfl,rfl⟩
 have : (Lib.fields gV.data.toList).length=14:=rE
 rw [this]
 exact ⟨rfl,rfl⟩
theorem a2h (l : List UInt8) (c : UInt8) : X3 (l ++ [c])=if c=62 then X3 l else X3 l ++ [Lib.indexByte nB.data.toList c]:=by
 unfold X3
 rw [List.filter_append]
 by_cases h : c=62
 ·subst h; simp
 ·rw [if_neg h,List.map_append]
  have : [c].filter (fun c => c != 62)=[c]:=by simp [h]
  rw [this]; rfl
def a5f (w : World) (e : Ending) (w' : World) : Prop:=e=.returned (.map (some w.heap.size))∧Below w.heap.size w w'∧∃ n,n≤14∧SM (fun b => w.heap.size<b∧b<w'.heap.size) w.heap.size n (j4 l6) w'
theorem wF (w : World) (ht : bZ w) (he : Env w) : Calls Tryz.prog 28 #[] w (a5f w):=by
 have hmm:=@run_makeMap Tryz.prog
 obtain ⟨W1,hW1⟩ : ∃ W,W=w.alloc (.map #[] 0):=⟨_,rfl⟩
 have B1:=hid (show Below w.heap.size w W1 from hW1 ▸ a7 _ _)
 have M1:=hid (show SM (fun b => w.heap.size<b) w.heap.size 0 (fun _ => none) W1 from hW1 ▸ SM.made _ _)
 have hz1 : w.heap.size<W1.heap.size:=by rw [hW1]; simp
 have C:=hid (pQ W1 (ht.below B1))
 unfold gV at C
 have HE:=hid he
 clear ht he
 go_enter Tryz.func28,Tryz.ntmps28
 go_upto_region 2 with fail
 rw [← hW1]
 clear hW1
 go_wp2_with fail
 (with_reducible refine Calls.mono C.out ?_)
 rintro e w2 ⟨rfl,hw2⟩
 have B2:=hid (show Below W1.heap.size W1 w2 from hw2 ▸ a7 _ _)
 have hc:=hid (show ∀ (k : Nat) (hk : k<U8.length),w2.cell? ⟨W1.heap.size,k,none⟩=some (Z3 U8[k]) from fun k hk => by rw [hw2]; exact kU W1 U8 _ k hk)
 have hz2 : W1.heap.size<w2.heap.size:=by rw [hw2]; simp
 have M2:=hid (M1.out.below B2)
 have HB2:=hid (B1.out.trans (B2.out.mono B1.out.size))
 have hfn : W1.heap.size≠w.heap.size:=by omega
 generalize W1.heap.size=fb at hc hz2 hfn
 clear hw2 C M1 B1 B2 hmm hz1
 go_wp2_with fail
 go_loopw [14] (fun i wr => ∃ k : Nat,i=.int .i64 k∧k≤14∧Hid (∃ n,n≤k∧SM (fun b => w.heap.size<b) w.heap.size n (j4 (l6.take k)) wr)∧Hid (Below w.heap.size w wr)∧fb<wr.heap.size∧Hid (∀ (k : Nat) (hk : k<U8.length),wr.cell? ⟨fb,k,none⟩=some (Z3 U8[k]))) (fun i _ => 14 - (intOf i).toNat)
 case atStart => exact ⟨0,rfl,by omega,⟨0,Nat.le_refl _,M2⟩,HB2,hz2,hc⟩
 case round =>
  obtain ⟨k,rfl,hk,HM,HBr,hfb,HC⟩:=hrel
  by_cases hlt : k<14
  ·have hkr : k<U8.length:=by rw [rE]; exact hlt
   have c0:=HC.out k hkr
   have hgood:=a0W _ (List.getElem_mem hkr)
   have hsch : jT U8[k]=l6[k]'(by have : l6.length=14:=rfl; omega):=by
    have:=congrArg (fun l => l[k]?) sY
    simp only [List.getElem?_map,List.getElem?_eq_getElem hkr,Option.map_some] at this
    rw [List.getElem?_eq_getElem (show k<l6.length by have : l6.length=14:=rfl; omega)] at this
    exact Option.some.inj this
   have HSC:=hid hsch
   have HNW:=hid (show j4 (l6.take k) (l6[k]'(by have : l6.length=14:=rfl; omega)).name=none from a2u (by
    have:=a29 k hlt
    rw [List.getD_eq_getElem?_getD,List.getElem?_eq_getElem hkr] at this
    rw [← hsch,← sY,← List.map_take,List.map_map]
    exact this))
   generalize U8[k]=row at c0 hgood HSC
   unfold Z3 at c0
   obtain ⟨hg1,hg2,hg3,hg4,hg5⟩:=hgood
   obtain ⟨m,hm⟩:=HE.out
   have hmr : wr.cell? ⟨2,0,none⟩=some (.int .i64 m):=(HBr.out.cell (p:=⟨2,0,none⟩) HE.out.size).trans hm
   have C:=hid (show Calls Tryz.prog 48 #[.string ⟨row.toArray⟩,.string ⟨#[58]⟩] wr fun e w' => e=.returned (.tuple #[.string ⟨(Lib.cut row [58]).1.toArray⟩,.string ⟨(Lib.cut row [58]).2.1.toArray⟩,.bool (Lib.cut row [58]).2.2])∧Below wr.heap.size wr w' from
    (Tryz.strings_Cut ⟨row.toArray⟩ ⟨#[58]⟩ m wr (by show row.toArray.size<_; simp; omega) hmr).mono fun _ _ ⟨h1,n,h2⟩ => ⟨h1,h2 ▸ dZ wr n⟩)
   unfold jT at HSC
   have HG2:=hid hg2
   have HG3:=hid hg3
   generalize (Lib.cut row [58]).1=nm at C HSC hg5
   generalize (Lib.cut row [58]).2.1=tl at C HSC HG2 HG3 hg4
   generalize (Lib.cut row [58]).2.2=far at C
   clear hsch hm hmr hg1 hg2 hg3
   obtain ⟨n,hnk,hsm⟩:=HM.out
   have HSM:=hid hsm
   have HNK:=hid hnk
   clear hsm hnk HM
   go_wp2_with fail
   (with_reducible refine Calls.mono C.out ?_)
   rintro e w3 ⟨rfl,hb⟩
   have HB3:=hid (HBr.out.trans (hb.mono HBr.out.size))
   have HSM3:=hid (HSM.out.below hb)
   have hfb3 : fb<w3.heap.size:=by have:=hb.size; omega
   have HC3:=hid (show ∀ (k : Nat) (hk : k<U8.length),w3.cell? ⟨fb,k,none⟩=some (Z3 U8[k]) from fun k hk => (hb.cell (p:=⟨fb,k,none⟩) hfb).trans (HC.out k hk))
   clear hb C HC HSM HBr hfb c0
   obtain ⟨W4,hW4⟩ : ∃ W,W=w3.alloc (.cells #[.string ⟨nm.toArray⟩,.slice none 0 0,.int .i64 0] 36):=⟨_,rfl⟩
   have B4:=hid (show Below w3.heap.size w3 W4 from hW4 ▸ a7 _ _)
   have K4:=hid (show y5 w3.heap.size ⟨nm.toArray⟩ none 0 0 0 W4 from hW4 ▸ y5.make _ _ _ _ _ _)
   go_upto_region 7 with fail
   rw [← hW4]
   clear hW4
   go_wp2_with fail
   obtain ⟨z,hz⟩ : ∃ z : ByteArray,z=⟨tl.toArray⟩:=⟨_,rfl⟩
   rw [← hz]
   have HZ:=hid (show z.data.toList=tl by rw [hz])
   have HZL:=hid (d7 z)
   clear hz
   have hk0:=World.iter_heap W4 z 0
   have hlt4 : W4.heap.size<(W4.iter z 0).heap.size:=by show _<(W4.heap.push _).size; simp
   have hb0 : Below W4.heap.size W4 (W4.iter z 0):=(Below.refl _ _).alloc (Nat.le_refl _) _
   have hb7 : w3.heap.size<W4.heap.size:=K4.out.cells.2.2
   have K5:=hid (K4.out.below hb0)
   have B5:=hid (B4.out.trans (hb0.mono B4.out.size))
   generalize W4.iter z 0=W5 at hk0 hlt4 hb0 K5 B5 ⊢
   generalize W4.heap.size=it at hk0 hlt4 hb7 ⊢
   have HK0:=hid hk0
   clear hk0 hb0 B4 K4
   have hzs : z.size≤8:=by have:=HZL.out; rw [HZ.out] at this; omega
   have hb7' : ∃ b,b=w3.heap.size:=⟨_,rfl⟩
   obtain ⟨b7,hb7e⟩:=hb7'
   rw [← hb7e] at K5 hb7 ⊢
   have HB7:=hid hb7e
   clear hb7e
   go_loopw [9] (fun _ wr => ∃ i : Nat,i≤z.size∧Hid (wr.heap[it]?=some (.stringIter z i))∧Hid (Below w3.heap.size w3 wr)∧it<wr.heap.size∧Hid (∃ a cp,y5 b7 ⟨nm.toArray⟩ a (X3 (tl.take i)).length cp 0 wr∧wr.ownsRow (it + 1) 3 1 (.slice a (X3 (tl.take i)).length cp) (X3 (tl.take i)).length ((X3 (tl.take i)).map fun (n : Int) => .int .i64 n))) (fun _ wr => z.size - wr.iterPos it)
   case atStart => exact ⟨0,Nat.zero_le _,HK0,B5,hlt4,none,0,K5,rfl,.inl ⟨rfl,rfl⟩⟩
   case round =>
    obtain ⟨i,hi,HKi,HBi,hitl,HR⟩:=hrel
    have hmu:=hid (show ∀ wr : World,wr.heap[it]?=some (.stringIter z i)→wr.iterPos it=i from fun wr h => by simp [World.iterPos,h])
    obtain ⟨a,cp,hkb,hrw⟩:=HR.out
    have HKB:=hid hkb
    have HRW:=hid hrw
    clear hkb hrw HR HK0 K5 B5
    by_cases hp : i<z.size
    ·have hzi : z[i]=tl[i]'(by have h1:=HZL.out; rw [HZ.out] at h1; omega):=by
      have h2 : z[i]=z.data.toList[i]'(by rw [HZL.out]; exact hp):=rfl
      rw [h2]
      simp only [HZ.out]
     have hil : i<tl.length:=by have h1:=HZL.out; rw [HZ.out] at h1; omega
     have hgd:=HG2.out _ (List.getElem_mem hil)
     rw [← hzi] at hgd
     have htk : X3 (tl.take (i + 1))=if z[i]=62 then X3 (tl.take i) else X3 (tl.take i) ++ [Lib.indexByte nB.data.toList z[i]]:=by
      rw [List.take_succ_eq_append_getElem hil,a2h,hzi]
     have HTK:=hid htk
     have hnext : ∀ ty,(Instr.next (.pointer (some ⟨it,0,none⟩)) true ty).run Tryz.prog wr=_:=fun ty => Lib.run_next_ascii_at wr it z i ty HKi hp (by have:=hgd.1; omega)
     have HK1:=hid (Lib.iterAt_heap wr it z i (i + 1) HKi)
     have HO1:=hid (show ∀ d,d≠it→(wr.iterAt it z (i + 1)).heap[d]?=wr.heap[d]? from fun d hd => Lib.iterAt_other wr it d z (i + 1) hd)
     have HB1:=hid (show Below w3.heap.size w3 (wr.iterAt it z (i + 1)) from Lib.below_iterAt HBi (by have:=HB7.out; omega) z (i + 1))
     have HS1:=hid (show (wr.iterAt it z (i + 1)).heap.size=wr.heap.size by simp [World.iterAt])
     generalize wr.iterAt it z (i + 1)=W6 at hnext HK1 HO1 HB1 HS1
     have K6:=hid (show y5 b7 ⟨nm.toArray⟩ a (X3 (tl.take i)).length cp 0 W6 from (HO1.out b7 (by omega)).trans HKB)
     have R6:=hid (Y0 (w':=W6) HRW fun g e => HO1.out g (by have:=(HRW.out.lt g e).1; omega))
     have hit6 : it<W6.heap.size:=by have:=HS1.out; omega
     have HMU1:=hid (show wr.iterPos it=i from hmu.out _ HKi)
     clear htk hzi hil hmu HKB HRW HO1
     by_cases hc : z[i]=62
     ·have e1 : ((z[i].toNat : Int) != 62)=false:=by rw [hc]; rfl
      have HT:=hid (show X3 (tl.take (i + 1))=X3 (tl.take i) by rw [HTK.out,if_pos hc])
      clear hc hgd
      go_wp2_with fail
      go_roundw
      case rel => exact ⟨i + 1,by omega,HK1,HB1,hit6,a,cp,by rw [HT.out]; exact K6,by rw [HT.out]; exact R6⟩
      case measure =>
       have : W6.iterPos it=i + 1:=by simp [World.iterPos,HK1.out]
       rw [HMU1.out,this]; omega
     ·have e1 : ((z[i].toNat : Int) != 62)=true:=bne_iff_ne.2 (fun h => hc (by
       have : z[i].toNat=62:=by omega
       exact UInt8.toNat_inj.1 this))
      have HT:=hid (show X3 (tl.take (i + 1))=X3 (tl.take i) ++ [Lib.indexByte nB.data.toList z[i]] by rw [HTK.out,if_neg hc])
      have C2:=hid (show ∀ cur : World,Calls Tryz.prog 49 #[.string nB,.int .i32 z[i].toNat] cur fun e w' => e=.returned (.int .i64 (Lib.indexByte nB.data.toList z[i]))∧w'=cur from fun cur => by
       have:=Tryz.strings_IndexRune_ascii nB (z[i].toNat : Int) cur (by omega) (by have:=hgd.1; omega)
       rw [show ((z[i].toNat : Int).toNat.toUInt8)=z[i] by simp] at this
       exact this)
      unfold nB at C2 HT
      have HV:=hid (hgd.2 hc)
      unfold nB at HV
      generalize Lib.indexByte (⟨#[110,98,100,117,99,120]⟩ : ByteArray).data.toList z[i]=v at HT C2 HV
      clear hc hgd HTK
      obtain ⟨⟨k0,k1,k2⟩,⟨l0,l1,l2⟩,hkl⟩:=K6.out.cells
      obtain ⟨ty,hty⟩ : ∃ ty,ty=X3 (tl.take i):=⟨_,rfl⟩
      rw [← hty] at K6 R6 k1 HT
      have HTY:=hid hty
      have htl : ty.length≤8:=by rw [hty]; unfold X3; rw [List.length_map]; have:=List.length_filter_le (fun c => c != 62) (tl.take i); rw [List.length_take] at this; omega
      clear hty
      go_upto_region 11 with fail
      refine s3 (S:=fun cur : World => cur.cell? ⟨b7,1,none⟩=some (.slice a ty.length cp)) (z:=7) (by kernel_rfl) ?_ (fun hHeld => ?_)
      ·exact k1
      refine b8.t 0 ?_; refine b8.t 1 ?_; refine b8.t 2 ?_
      refine b8.nx 3 fun K hK => ?_
      go_simp
      (with_reducible refine Calls.mono (C2.out _) ?_)
      rintro e w8 ⟨rfl,rfl⟩
      refine hK.out _ _ ?_ (fun hHeld => ?_)
      ·exact hHeld
      clear hK K
      try simp only [Act.put,j6,v6,v7]
      refine b8.nx 4 fun K hK => ?_
      go_simp
      obtain ⟨W9,hW9⟩ : ∃ W,W=(W6.alloc (.cells #[.int .i64 v] 3)).drew:=⟨_,rfl⟩
      have B9:=hid (show Below W6.heap.size W6 W9 from hW9 ▸ r8 (a7 _ _))
      have NEW:=hid (show (∀ (j : Nat) u',[Value.int .i64 v][j]?=some u'→W9.cell? ((⟨W6.heap.size,0,none⟩ : Addr).add j)=some u')∧W6.heap.size<W9.heap.size from hW9 ▸ ⟨fun j u' hu => V2 (w:=W6) j u' hu,by show W6.heap.size<(W6.alloc _).heap.size; simp⟩)
      rw [← hW9]
      clear hW9
      have k1' : W9.cell? ⟨b7,1,none⟩=some (.slice a ty.length cp):=(B9.out.cell (p:=⟨b7,1,none⟩) hkl).trans k1
      refine hK.out _ _ ?_ (fun hHeld => ?_)
      ·exact k1'
      clear hK K
      try simp only [Act.put,j6,v6,v7]
      obtain ⟨i1,hi1,hq0,hq1,hq2⟩:=info_parts (show (Tryz.prog.info? 3).map (fun i => (i.zero,i.size,i.bytes))=some (some (.int .i64 0),1,8) by kernel_rfl)
      refine b8.nx 5 fun K hK => ?_
      refine step_append_lies _ rfl _ _ 34 rfl (it + 1) 3 i1 (.int .i64 0) 1 8 Tryz.underlying34 hi1 hq0 hq1 hq2 rfl (by decide) (.slice a ty.length cp) ty.length _ rfl (n8 R6 B9) ⟨W6.heap.size,0,none⟩ 1 1 [.int .i64 v] rfl rfl NEW.out.1 aO (by decide) (by unfold maxLen; omega) (by omega) (by have:=B9.out.size; omega) _ rfl ?_
      intro g cap' w10 hown hgrow hat hlt'
      have hb7g : (Value.slice a ty.length cp).ownBlock≠some b7:=fun e => by have:=(R6.out.lt b7 e).1; omega
      have hitg : (Value.slice a ty.length cp).ownBlock≠some it:=fun e => by have:=(R6.out.lt it e).1; omega
      have K10:=hid (show y5 b7 ⟨nm.toArray⟩ a ty.length cp 0 w10 from (hgrow.block b7 (by have:=B9.out.size; omega) (fun e => hb7g e.symm)).trans ((B9.out.block b7 hkl).trans K6))
      have HK10:=hid (show w10.heap[it]?=some (.stringIter z (i + 1)) from (hgrow.block it (by have:=B9.out.size; omega) (fun e => hitg e.symm)).trans ((B9.out.block it hit6).trans HK1))
      have HB10:=hid (show Below w3.heap.size w3 w10 from (HB1.out.trans (B9.out.mono HB1.out.size)).grown hgrow (by have h1:=HB1.out.size; have h2:=B9.out.size; omega) (fun r e => by have:=(R6.out.lt r e).1; have:=HB7.out; omega))
      have HOWN:=hid hown
      have hg10:=hgrow.size
      have HSZ:=hid (show it<w10.heap.size∧g<w10.heap.size∧it + 1≤g from ⟨by have:=B9.out.size; omega,hlt',(hown.lt g rfl).1⟩)
      obtain ⟨⟨j0,j1,j2⟩,⟨p0,p1,p2⟩,hpl⟩:=K10.out.cells
      refine hK.out _ _ ?_ (fun hHeld => ?_)
      ·exact j1
      clear hK K hown hgrow hat hlt' hb7g hitg hi1 hq0 hq1 hq2
      try simp only [Act.put,j6,v6,v7]
      refine b8.t 6 ?_
      refine b8.la fun K hK => ?_
      go_simp
      obtain ⟨W11,hW11⟩ : ∃ W,W=w10.setCell ⟨b7,1,none⟩ (.slice (some ⟨g,0,none⟩) (ty.length + 1) cap'):=⟨_,rfl⟩
      have K11:=hid (show y5 b7 ⟨nm.toArray⟩ (some ⟨g,0,none⟩) (ty.length + 1) cap' 0 W11 from hW11 ▸ j9 (show w10.heap[b7]?=some (.cells #[.string ⟨nm.toArray⟩,.slice a ty.length cp,.int .i64 0] 36 (0,0)) from K10) 1 _)
      have HO11:=hid (show ∀ d,d≠b7→W11.heap[d]?=w10.heap[d]? from fun d hd => hW11 ▸ Below.heap_setCell _ _ _ _ hd)
      have HB11:=hid (show Below w3.heap.size w3 W11 from hW11 ▸ HB10.out.setCell (p:=⟨b7,1,none⟩) (by have:=HB7.out; show w3.heap.size≤b7; omega) _)
      have HSZ11:=hid (show W11.heap.size=w10.heap.size by rw [hW11]; simp [World.setCell])
      rw [← hW11]
      clear hW11
      refine hK.out _ _ ?_
      clear hK K
      try simp only [Act.put]
      have R11:=hid (eH HOWN (HO11.out g (by have:=HSZ.out; omega)))
      have HK11:=hid ((HO11.out it (by omega)).trans HK10)
      go_wp2_with fail
      go_roundw
      case rel => exact ⟨i + 1,by omega,HK11,HB11,by rw [HSZ11.out]; exact HSZ.out.1,some ⟨g,0,none⟩,cap',by rw [HT.out,List.length_append]; exact K11,by rw [HT.out,List.length_append,List.map_append]; exact R11⟩
      case measure =>
       have : W11.iterPos it=i + 1:=by simp [World.iterPos,HK11.out]
       rw [HMU1.out,this]; omega
    ·obtain rfl : i=z.size:=by omega
     have htl : tl.take z.size=tl:=List.take_of_length_le (by have h1:=HZL.out; rw [HZ.out] at h1; omega)
     rw [htl] at HKB HRW
     have hnext : ∀ ty,(Instr.next (.pointer (some ⟨it,0,none⟩)) true ty).run Tryz.prog wr=_:=fun ty => Lib.run_next_end_at wr it z z.size ty HKi hp
     obtain ⟨M,hM⟩ : ∃ M,(X3 tl).length=M + 1:=⟨(X3 tl).length - 1,by have:=HG3.out; omega⟩
     have HSC2:=hid (show (⟨nm,(X3 tl).dropLast,(X3 tl).getLastD 0⟩ : Sch)=l6[k]'(by have : l6.length=14:=rfl; omega) from HSC)
     have hM9 : M≤8:=by
      have : (X3 tl).length≤tl.length:=by unfold X3; rw [List.length_map]; exact List.length_filter_le _ _
      omega
     generalize htyl : X3 tl=ty at HKB HRW hM HSC2
     obtain ⟨g,cp2,e,hgB,hgl⟩:=HRW.out.form (by omega)
     obtain ⟨rfl,-,rfl⟩:=Value.slice.inj e
     rw [hM] at HKB
     have HMM:=hid hM
     have hlast : wr.cell? ⟨g,M,none⟩=some (.int .i64 (ty.getLastD 0)):=by
      rw [qX hM]
      have:=HRW.out.cells (g:=g) rfl M (.int .i64 (ty[M]'(by omega))) (by rw [List.getElem?_map,List.getElem?_eq_getElem (by omega)]; rfl)
      rwa [Go.WideShapes.add_plain,Nat.zero_add] at this
     have hcaps : M + 1≤cp∧cp≤maxLen:=by
      rcases HRW.out.2 with ⟨e,-⟩ | ⟨g',cap2,cur,e,-,-,h3,h4,-⟩
      ·cases e
      ·cases e; exact ⟨by omega,h4⟩
     have HINT:=hid (show ∀ j (hj : j<ty.dropLast.length),wr.cell? ⟨g,j,none⟩=some (.int .i64 ty.dropLast[j]) from fun j hj => by
      rw [List.getElem_dropLast]
      have:=HRW.out.cells (g:=g) rfl j (.int .i64 (ty[j]'(by rw [List.length_dropLast] at hj; omega))) (by rw [List.getElem?_map,List.getElem?_eq_getElem (by rw [List.length_dropLast] at hj; omega)]; rfl)
      rwa [Go.WideShapes.add_plain,Nat.zero_add] at this)
     have HCP:=hid hcaps
     have hle : (0 : Int)≤(M : Nat)∧((M : Nat) : Int)≤(cp : Nat):=by omega
     have hM1 : ((M : Nat) : Int)<(M : Int) + 1:=by omega
     have hM2 : M + 1≤9223372036854775807:=by omega
     have e1 : IntKind.i64.wrap ((M : Nat) : Int)=(M : Int):=IntWalk.i64_in _ (by omega)
     obtain ⟨⟨k0,k1,k2⟩,⟨l0,l1,l2⟩,hkl⟩:=HKB.out.cells
     have hgb : g≠b7:=by omega
     have HGB:=hid (show it + 1≤g∧g<wr.heap.size from ⟨hgB,hgl⟩)
     generalize hr : ty.getLastD 0=r at hlast HSC2
     clear htl hM htyl hcaps hr hgB
     go_upto_region 13 with fail
     go_region
     obtain ⟨W7,hW7⟩ : ∃ W,W=((wr.setCell ⟨b7,1,none⟩ (.slice (some ⟨g,0,none⟩) M cp)).setCell ⟨b7,2,none⟩ (.int .i64 r)).drew:=⟨_,rfl⟩
     have K7:=hid (show y5 b7 ⟨nm.toArray⟩ (some ⟨g,0,none⟩) M cp r W7 from hW7 ▸ j9 (j9 (show wr.heap[b7]?=some (.cells #[.string ⟨nm.toArray⟩,.slice (some ⟨g,0,none⟩) (M + 1) cp,.int .i64 0] 36 (0,0)) from HKB) 1 _) 2 _)
     have HO7:=hid (show ∀ d,d≠b7→W7.heap[d]?=wr.heap[d]? from fun d hd => hW7 ▸ (Below.heap_setCell _ _ _ _ hd).trans (Below.heap_setCell _ _ _ _ hd))
     have HB77:=hid (show Below w3.heap.size w3 W7 from hW7 ▸ r8 ((HBi.out.setCell (p:=⟨b7,1,none⟩) (by have:=HB7.out; show w3.heap.size≤b7; omega) _).setCell (p:=⟨b7,2,none⟩) (by have:=HB7.out; show w3.heap.size≤b7; omega) _))
     rw [← hW7]
     clear hW7 k0 k1 k2 l0 l1 l2 hkl hlast hnext
     obtain ⟨⟨k0,k1,k2⟩,⟨l0,l1,l2⟩,hkl⟩:=K7.out.cells
     have HSM7:=hid (HSM3.out.below HB77)
     have hdl : ty.dropLast.length=M:=by rw [List.length_dropLast,HMM.out]; rfl
     have HV7:=hid (show cU (fun b => w.heap.size<b) W7 (some (l6[k]'(by have : l6.length=14:=rfl; omega))) (.agg #[.string ⟨nm.toArray⟩,.slice (some ⟨g,0,none⟩) M cp,.int .i64 r]) from by
      rw [← HSC2.out]
      refine ⟨some ⟨g,0,none⟩,cp,by simp only [hdl]; rfl,tE (by have h1:=HGB.out; have h2:=HB7.out; have h3:=HB3.out.size; omega) (fun j hj => (World.cell?_of_block (HO7.out g hgb)).trans (HINT.out j hj)),by simp only [hdl]; have:=HCP.out; omega,HCP.out.2,fun e => by cases e⟩)
     have HNM:=hid (show bsA (l6[k]'(by have : l6.length=14:=rfl; omega)).name=⟨nm.toArray⟩ from by rw [← HSC2.out]; rfl)
     have HNL:=hid (show (l6[k]'(by have : l6.length=14:=rfl; omega)).name.length≤maxLen from by rw [← HSC2.out]; show nm.length≤_; unfold maxLen; omega)
     go_wp2_with (at_mapUpdate; refine nK HSM7 rfl _ _ _ rfl rfl (by have:=HNK.out; unfold maxLen; omega) _ (.agg #[.string ⟨nm.toArray⟩,.slice (some ⟨g,0,none⟩) M cp,.int .i64 r]) (by rw [HNM.out]; rfl) rfl HNL HV7 ?_)
     intro w12 hsm12 hgr
     have hb12:=hid (show Below w.heap.size w w12 from (HB3.out.trans (HB77.out.mono HB3.out.size)).grown hgr (by have h1:=HB3.out.size; have h2:=HB77.out.size; omega) (fun r e => by cases e; exact Nat.le_refl _))
     have HSM12:=hid (show SM (fun b => w.heap.size<b) w.heap.size (n + 1) (j4 (l6.take (k + 1))) w12 from by
      have e9 : j4 (l6.take (k + 1))=fun s => if s=(l6[k]'(by have : l6.length=14:=rfl; omega)).name then some (l6[k]'(by have : l6.length=14:=rfl; omega)) else j4 (l6.take k) s:=by
       funext s
       rw [List.take_succ_eq_append_getElem (by have : l6.length=14:=rfl; omega)]
       exact lS HNW s
      rw [e9]
      exact hsm12)
     have HC12:=hid (show ∀ (k : Nat) (hk : k<U8.length),w12.cell? ⟨fb,k,none⟩=some (Z3 U8[k]) from fun k hk => (World.cell?_of_block ((hgr.block fb (by have:=HB77.out.size; omega) (fun e => hfn (Option.some.inj e))).trans (HB77.out.block fb hfb3))).trans (HC3.out k hk))
     have hfb12 : fb<w12.heap.size:=by have h1:=HB77.out.size; have h2:=hgr.size; omega
     clear hsm12 hgr k0 k1 k2 l0 l1 l2 hkl
     go_wp2_with fail
     go_roundw
     case rel => exact ⟨k + 1,by go_num,by omega,⟨n + 1,by have:=HNK.out; omega,HSM12⟩,hb12,hfb12,HC12⟩
     case measure => simp [intOf]; omega
  ·obtain rfl : k=14:=by omega
   obtain ⟨n,hnk,hsm⟩:=HM.out
   have HSM:=hid hsm
   clear hsm
   go_wp2_with fail
   go_ret
   exact ⟨rfl,HBr,n,hnk,HSM.out.lt⟩
end
section
open Lib (hid)
open Go.RowKit
def bB (av : Nat→Prop) (W : World) (a : Option Addr) (l : List Sht) : Prop:=∀ j (h : j<l.length),∃ b off da dc,a=some ⟨b,off,none⟩∧av b∧b<W.heap.size∧W.cell? ⟨b,off + j * 2,none⟩=some (.string (bsA l[j].name))∧W.cell? ⟨b,off + j * 2 + 1,none⟩=some (.slice da l[j].defs.length dc)∧l[j].defs.length≤dc∧dc≤maxLen∧bS av W da l[j].defs
theorem bB.move {av av' : Nat→Prop} {W W' : World} {a : Option Addr} {l : List Sht} (h : bB av W a l) (hk : ∀ b,av b→W'.heap[b]?=W.heap[b]?) (ha : ∀ b,av b→av' b) (hs : W.heap.size≤W'.heap.size) : bB av' W' a l:=fun j hj => by
 obtain ⟨b,off,da,dc,k1,k2,k3,k4,k5,k6,k7,k8⟩:=h j hj
 exact ⟨b,off,da,dc,k1,ha b k2,Nat.lt_of_lt_of_le k3 hs,(World.cell?_of_block (hk b k2)).trans k4,(World.cell?_of_block (hk b k2)).trans k5,k6,k7,k8.move hk ha hs⟩
def cF {α : Type} (p : α→Bool) (l : List α) : Int:=match l.findIdx? p with
 | none => -1
 | some i => i
theorem kA {α : Type} {p : α→Bool} {l : List α} {k : Nat} (hk : k<l.length) (h : ∀ j (hj : j<l.length),j<k→p l[j]=false) (hp : p l[k]=true) : cF p l=k:=by
 unfold cF
 have : l.findIdx? p=some k:=List.findIdx?_eq_some_iff_getElem.2 ⟨hk,hp,fun j hj => by simpa using h j (by omega) hj⟩
 rw [this]
theorem iM {α : Type} {p : α→Bool} {l : List α} (h : ∀ j (hj : j<l.length),p l[j]=false) : cF p l=-1:=by
 unfold cF
 have : l.findIdx? p=none:=List.findIdx?_eq_none_iff.2 fun x hx => by
  obtain ⟨j,hj,rfl⟩:=List.getElem_of_mem hx
  exact h j hj
 rw [this]
theorem tO {α : Type} (p : α→Bool) (l : List α) : decide (0≤cF p l)=l.any p:=by
 unfold cF
 have h:=List.findIdx?_isSome (xs:=l) (p:=p)
 cases e : l.findIdx? p with
 | none => rw [e] at h; rw [← h]; rfl
 | some i => rw [e] at h; rw [← h]; simp
theorem mS (t : Int) (w : World) : Calls Tryz.prog 45 #[.int .i64 t] w fun e w' => e=.returned (.bool (!p9 t))∧w=w':=by
 go_enter Tryz.func45,Tryz.ntmps45
 by_cases h1 : t<0
 ·have F:=hid (show p9 t=false by unfold p9; rw [decide_eq_false (by omega)]; rfl)
  go_wp2_with fail
  go_ret
  exact ⟨by rw [F.out]; rfl,rfl⟩
 ·by_cases h2 : 20<t
  ·have F:=hid (show p9 t=false by unfold p9; rw [decide_eq_true (show 0≤t by omega),decide_eq_false (show ¬ t≤20 by omega)]; rfl)
   go_wp2_with fail
   go_ret
   exact ⟨by rw [F.out]; rfl,rfl⟩
  ·have F:=hid (show p9 t=true by unfold p9; rw [decide_eq_true (show 0≤t by omega),decide_eq_true (show t≤20 by omega)]; rfl)
   go_wp2_with fail
   go_ret
   exact ⟨by rw [F.out]; rfl,rfl⟩
theorem a0g (av : Nat→Prop) (l : List Int) (a : Option Addr) (cap : Nat) (w : World) (h : y6 av w a l) (hc : l.length≤cap∧cap≤maxLen) :
 Calls Tryz.prog 81 #[.slice a l.length cap,.func (.func 45) #[] #[]] w fun e w' => e=.returned (.int .i64 (cF (fun t => !p9 t) l))∧w=w':=by
 have eg:=enters_of Tryz.func45 (by kernel_rfl) rfl
 have hl : l.length≤9223372036854775807:=by have:=hc; unfold maxLen at this; omega
 have HL:=hid h
 clear h hc
 go_enter Tryz.func81,Tryz.ntmps81
 go_wp2_with fail
 go_loop [8] (fun i => ∃ k : Nat,k≤l.length∧i=.int .i64 k∧Hid (∀ j (hj : j<l.length),j<k→p9 l[j]=true)) (fun i => l.length - (intOf i).toNat)
 case atStart => exact ⟨0,Nat.zero_le _,rfl,fun j hj h => by omega⟩
 case round =>
  obtain ⟨k,hk,rfl,HAll⟩:=hrel
  by_cases hlt : k<l.length
  ·obtain ⟨b,off,rfl,-,c0⟩:=HL.out k hlt
   have C:=hid (mS l[k] w)
   cases hr : p9 l[k]
   ·have F:=hid (show cF (fun t => !p9 t) l=k from kA hlt (fun j hj h => by rw [HAll.out j hj h]; rfl) (by rw [hr]; rfl))
    rw [hr] at C
    clear hr
    go_wp2_with fail
    refine Calls.mono C.out ?_
    rintro e w4 ⟨rfl,rfl⟩
    go_wp2_with fail
    go_ret
    exact ⟨dH F.out.symm,rfl⟩
   ·have HR:=hid hr
    rw [hr] at C
    clear hr
    go_wp2_with fail
    refine Calls.mono C.out ?_
    rintro e w4 ⟨rfl,rfl⟩
    go_wp2_with fail
    go_round
    case rel =>
     refine ⟨k + 1,by omega,by go_num,fun j hj h => ?_⟩
     by_cases e : j=k
     ·subst e; exact HR
     ·exact HAll.out j hj (by omega)
    case measure => simp [intOf]; omega
  ·have F:=hid (show cF (fun t => !p9 t) l=-1 from iM fun j hj => by rw [HAll.out j hj (by omega)]; rfl)
   go_wp2_with fail
   go_ret
   exact ⟨dH F.out.symm,rfl⟩
theorem zQ (av : Nat→Prop) (l : List Int) (a : Option Addr) (cap : Nat) (w : World) (h : y6 av w a l) (hc : l.length≤cap∧cap≤maxLen) :
 Calls Tryz.prog 46 #[.slice a l.length cap,.func (.func 45) #[] #[]] w fun e w' => e=.returned (.bool (l.any fun t => !p9 t))∧w=w':=by
 have C:=hid (a0g av l a cap w h hc)
 have E:=hid (tO (fun t => !p9 t) l)
 generalize cF (fun t => !p9 t) l=x at C E
 clear h hc
 go_enter Tryz.func46,Tryz.ntmps46
 go_wp2_with fail
 (with_reducible refine Calls.mono C.out ?_)
 rintro e w2 ⟨rfl,rfl⟩
 go_wp2_with fail
 go_ret
 exact ⟨y9 E,rfl⟩
end
end Go.Proofs.YtppcfebnaieciaaGreatDoor
