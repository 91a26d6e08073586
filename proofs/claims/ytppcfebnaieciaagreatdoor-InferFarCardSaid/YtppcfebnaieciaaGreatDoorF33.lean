/-
  Laws that the proof rests on.
-/
import Derived.RangeFuncNested
import Derived.RangeFuncBound
import Derived.RangeFuncCalls
import Derived.RangeFuncLeaves
import Derived.RangeFuncBox
import Derived.Shelf.Abstract
import Derived.Shelf.RegionOpen
import Derived.WalkKit
import Derived.OwnWalkIn
import Derived.TacticsInMore
import Derived.LoopNIn
import Derived.LoopIn
import Derived.Test.YtppcfebnaieciaaGreatDoorF31
import Derived.Test.YtppcfebnaieciaaGreatDoorF32
namespace Go.Proofs.YtppcfebnaieciaaGreatDoor
set_option maxRecDepth 100000
set_option maxHeartbeats 16000000
section
open Lib (hid)
open Go.RowKit Go.Shelf
section
variable {l n : Nat} {P : Program} {ops : Array Oper} {Q : Exit→Act→World→Prop}
theorem wJ {o : Oper} {a : Act} {K : Act→World→Prop} : ∀ r : Result Next,o.upon P a K Q r→o.uponIn (Fence.wide.inRound l) n P a K Q r
 | .ok (.value _) _,h => h
 | .ok .skip _,h => h
 | .ok (.defer _) _,h => h
 | .ok (.enter _ _) _,h => ⟨fun e => (by cases e),CallsIn.inRound l (callsIn_wide.2 h)⟩
 | .ok (.row _ _) _,h => ⟨fun e => (by cases e),fun c cs _ => let ⟨v,w',r,s⟩:=h c cs; ⟨v,w',r,stepsIn_wide.2 s⟩⟩
 | .ok (.round _ _ _ _ _) _,h => h.elim
 | .halt (.panic _) _,h => h
theorem xE {i : Nat} {a : Act} {w : World} {K : Act→World→Prop} (hd : ∀ o c,ops[i]?=some o→o.op≠.defer c) (hQ : ¬ LetsOut Q) (h : wpOp P ops Q i K a w) : wpOpIn (Fence.wide.inRound l) n P ops Q i K a w:=by
 unfold wpOp at h
 unfold wpOpIn
 cases ho : ops[i]? with
 | none => rw [ho] at h; exact h
 | some o =>
   rw [ho] at h
   simp only at h ⊢
   split
   ·rename_i hw
    rw [if_pos hw] at h
    rcases h with h | ⟨-,h⟩
    ·refine ⟨fun _ _ => trivial,?_⟩
     show o.uponIn _ n P a K Q ((o.semAt (some l) a.eval).run P w)
     rw [Oper.semAt_some l _ o fun c => hd o c ho]
     exact wJ _ h
    ·exact (hQ h).elim
   ·rename_i hw
    rw [if_neg hw] at h
    exact ⟨fun _ _ => trivial,h⟩
theorem jF {md : Region.Mode} (hd : ∀ (i : Nat) o c,ops[i]?=some o→o.op≠.defer c) (hQ : ¬ LetsOut Q) : ∀ (m : Nat) (listed : Array Bool) (a : Act) (w : World),wpAny P md ops Q m listed a w→wpAnyIn (Fence.wide.inRound l) n P md ops Q m listed a w
 | 0,_,_,_,h => h
 | m + 1,_,_,_,h => ⟨h.1,fun i hi => xE (hd i) hQ (wpOp_mono (fun a w => jF hd hQ m _ a w) (h.2 i hi))⟩
theorem qL {id : Nat} {a : Act} {w : World} (hm : P.follows .mixedOrders=true) (hd : ∀ (i : Nat) o c,ops[i]?=some o→o.op≠.defer c) (hQ : ¬ LetsOut Q) (h : wpAny P .any ops Q ops.size (Array.replicate ops.size false) a w.drew) : (Code.region id ops true).wpIn (Fence.wide.inRound l) n P Q a w :=
 wpIn_region_any hm (jF hd hQ _ _ _ _ h)
end
def eZ {n : Nat} (pre : List { x : Nat // x<n }) (k : Nat) : Prop:=pre.length=k∧∀ j (h : j<pre.length),(pre[j]).1=j
theorem eZ.snoc {n k : Nat} {pre : List { x : Nat // x<n }} (h : eZ pre k) (hk : k<n) : eZ (pre ++ [⟨k,hk⟩]) (k + 1):=by
 refine ⟨by rw [List.length_append,h.1]; rfl,fun j hj => ?_⟩
 rw [List.length_append,h.1] at hj
 by_cases e : j<k
 ·rw [List.getElem_append_left (by rw [h.1]; exact e)]
  exact h.2 j _
 ·have : j=k:=by
   have hj' : j<k + 1:=hj
   omega
  subst this
  rw [List.getElem_append_right (by rw [h.1]; exact Nat.le_refl _)]
  simp [h.1]
def a3n (L : List cD) (x : { x : Nat // x<L.length }) : Array Value:=#[.int .i64 ((L.length - 1 - x.1 : Nat) : Int),.agg (eA (L[L.length - 1 - x.1]'(by have:=x.2; omega))).toArray]
def a4U (W : World) (b off : Nat) (L : List cD) : Prop:=∀ j (h : j<L.length),W.cell? ⟨b,off + j * 3,none⟩=some (.string (bsA L[j].1.name))∧W.cell? ⟨b,off + j * 3 + 1,none⟩=some (.slice L[j].2.1 L[j].1.params.length L[j].2.2)∧W.cell? ⟨b,off + j * 3 + 2,none⟩=some (.int .i64 L[j].1.result)
attribute [local go_sem] Oper.semAt_some
theorem a0P (av : Nat→Prop) (n l Bs b off cap : Nat) (L : List cD) (hL : L.length≤cap∧cap≤maxLen) (hb : av b) (J Jx : List { x : Nat // x<L.length }→World→Prop)
 (hY : ∀ pre x W,J pre W→pre.length<L.length→YieldAt Fence.wide (n - 1) Tryz.prog l (a3n L x) W fun e W' =>
   (e=.returned (.bool true)∧J (pre ++ [x]) W'∧f8 av W W')∨(e=.returned (.bool false)∧Jx (pre ++ [x]) W'))
 (W : World) (hBs : ∀ W',f8 av W W'→W'.cell? ⟨Bs,0,none⟩=some (.slice (some ⟨b,off,none⟩) L.length cap)) (hc : a4U W b off L) (h0 : J [] W) :
 CallsIn Fence.wide n Tryz.prog 89 #[.func (.yield l) #[] #[],.pointer (some ⟨Bs,0,none⟩)] W fun e W' => (∃ v,e=.returned v) ∧
  ((∃ ys,eZ ys L.length∧J ys W')∨(∃ pre,True∧Jx pre W')):=by
 have hcm : cap≤9223372036854775807:=by have:=hL.2; unfold maxLen at this; omega
 have hlc:=hL.1
 refine callsIn_of_wp Tryz.func89 rfl trivial ?_ rfl
 simp only [Tryz.ntmps89,List.size_toArray,List.length_cons,List.length_nil,Nat.reduceAdd,Nat.reduceSub,Array.replicate_succ,Array.replicate_zero,List.push_toArray,List.append_toArray,List.nil_append,List.cons_append]
 have hb0:=hBs W (f8.refl _ _)
 gi_wp2
 gi_loopw [3] (fun i wr => ∃ (k : Nat) (pre : List { x : Nat // x<L.length }),k≤L.length∧i=.int .i64 ((L.length : Int) - 1 - k)∧eZ pre k∧J pre wr∧f8 av W wr)
  (fun i _ => (intOf i + 1).toNat)
 case atStart => exact ⟨0,[],Nat.zero_le _,(by first | go_num | (rw [IntWalk.i64_in _ (by omega)]; congr 1; omega)),⟨rfl,fun j h => absurd h (Nat.not_lt_zero _)⟩,h0,f8.refl _ _⟩
 case round =>
  obtain ⟨k,pre,hk,rfl,hU,hJs,hnx⟩:=hrel
  have hb1:=hBs wr hnx
  by_cases hlt : k<L.length
  ·obtain ⟨c0,c1,c2⟩:=hc (L.length - 1 - k) (by omega)
   obtain ⟨fn,tmps,assign,qN,hy,hR⟩:=hY pre ⟨k,hlt⟩ wr hJs (by rw [hU.1]; exact hlt)
   have hU':=hU.snoc hlt
   unfold a3n eA at hy
   dsimp only at hy
   have ei : (L.length : Int) - 1 - k=((L.length - 1 - k : Nat) : Int):=by omega
   have hj : L.length - 1 - k<L.length:=by omega
   replace c0:=(World.cell?_of_block (hnx b hb)).trans c0
   replace c1:=(World.cell?_of_block (hnx b hb)).trans c1
   replace c2:=(World.cell?_of_block (hnx b hb)).trans c2
   have HK:=hid (show (L.length : Int) - 1 - k=((L.length - 1 - k : Nat) : Int)∧((L.length - 1 - k : Nat) : Int) - 1=(L.length : Int) - 1 - ((k + 1 : Nat) : Int)∧k + 1≤L.length from ⟨ei,by omega,hlt⟩)
   have HM:=hid (show ((L.length - 1 - k : Nat) : Int).toNat=L.length - 1 - k from Int.toNat_natCast _)
   rw [ei]
   clear ei hU
   obtain ⟨en,hen⟩ : ∃ en,en=L[L.length - 1 - k]:=⟨_,rfl⟩
   rw [← hen] at hy c0 c1 c2
   clear hen
   obtain ⟨idx,hidx⟩ : ∃ j,j=L.length - 1 - k:=⟨_,rfl⟩
   rw [← hidx] at hy c0 c1 c2 HK HM hj ⊢
   clear hidx
   gi_wp2
   refine ⟨fun e => absurd e (by decide),hR.mono ?_⟩
   rintro e W3 (⟨rfl,hJ3,hk3⟩ | ⟨rfl,hJx3⟩)
   ·gi_wp2
    go_roundw
    case rel => exact ⟨k + 1,_,HK.out.2.2,by rw [HK.out.2.1],hU',hJ3,hnx.trans hk3⟩
    case measure => simp [intOf]
   ·gi_wp2
    refine bodyPost_ret (results_none rfl _ _ _) rfl ?_
    exact ⟨⟨_,rfl⟩,.inr ⟨_,trivial,hJx3⟩⟩
  ·obtain rfl : k=L.length:=by omega
   have ei : (L.length : Int) - 1 - L.length=-1:=by omega
   rw [ei]
   gi_wp2
   go_end0
   exact ⟨⟨_,rfl⟩,.inl ⟨_,hU,hJs⟩⟩
theorem zN (n l Bs : Nat) (a : Option Addr) (cap : Nat) (J : List { x : Nat // x<([] : List cD).length }→World→Prop) (W : World) (hBs : W.cell? ⟨Bs,0,none⟩=some (.slice a 0 cap)) (h0 : J [] W) :
 CallsIn Fence.wide n Tryz.prog 89 #[.func (.yield l) #[] #[],.pointer (some ⟨Bs,0,none⟩)] W fun e W' => (∃ v,e=.returned v)∧J [] W':=by
 refine callsIn_of_wp Tryz.func89 rfl trivial ?_ rfl
 simp only [Tryz.ntmps89,List.size_toArray,List.length_cons,List.length_nil,Nat.reduceAdd,Nat.reduceSub,Array.replicate_succ,Array.replicate_zero,List.push_toArray,List.append_toArray,List.nil_append,List.cons_append]
 gi_wp2
 gi_loopw [3] (fun i wr => i=.int .i64 (-1)∧J [] wr) (fun _ _ => 0)
 case atStart => exact ⟨rfl,h0⟩
 case round =>
  obtain ⟨rfl,hJs⟩:=hrel
  gi_wp2
  go_end0
  exact ⟨⟨_,rfl⟩,hJs⟩
theorem nH (a : Option Addr) (len cap : Nat) (w : World) :
 Calls Tryz.prog 52 #[.slice a len cap] w fun e w' => e=.returned (.func (.func 89) #[] #[.pointer (some ⟨w.heap.size,0,none⟩)])∧w'=w.alloc (.cells #[.slice a len cap] 27):=by
 go_enter Tryz.func52,Tryz.ntmps52
 go_wp2_with fail
 go_ret
 exact ⟨rfl,rfl⟩
theorem lV (av : Nat→Prop) (n Bs : Nat) (a : Option Addr) (cap : Nat) (L : List cD) (w : World) (hL : L.length≤cap∧cap≤maxLen) (ha : L≠[]→∃ b off,a=some ⟨b,off,none⟩∧av b∧a4U w b off L) (hBs : av Bs) (hav : ∀ b,av b→b<w.heap.size)
 (hc : w.cell? ⟨Bs,0,none⟩=some (.slice a L.length cap)) :
 SeqStopsK Fence.wide n Tryz.prog 89 #[.pointer (some ⟨Bs,0,none⟩)] (a3n L) (f8 av) (fun ys => eZ ys L.length) (fun _ => True) L.length w:=fun l J Jx W hW _ _ hY h0 => by
 have hk : f8 av w W:=fun b hb => hW.block b (hav b hb)
 have hc':=(World.cell?_of_block (a:=⟨Bs,0,none⟩) (hk Bs hBs)).trans hc
 cases L with
 | nil => exact (zN n l Bs a cap J W hc' h0).mono fun e W' ⟨he,hj⟩ => ⟨he,.inl ⟨[],⟨rfl,fun j h => absurd h (Nat.not_lt_zero _)⟩,hj⟩⟩
 | cons x r =>
   obtain ⟨b,off,rfl,hb,hr⟩:=ha (by simp)
   refine a0P av n l Bs b off cap (x :: r) hL hb J Jx hY W (fun W2 h2 => (World.cell?_of_block (h2 Bs hBs)).trans hc') (fun j hj => ?_) h0
   obtain ⟨c0,c1,c2⟩:=hr j hj
   exact ⟨(World.cell?_of_block (hk b hb)).trans c0,(World.cell?_of_block (hk b hb)).trans c1,(World.cell?_of_block (hk b hb)).trans c2⟩
end
section
open Go.RowKit Go.Maps Go.WideMaps Go.Shelf
theorem a2w {av : Nat→Prop} {W : World} {a : Option Addr} {l : List Sch} (h : bS av W a l) : ∃ L : List cD,L.map (·.1)=l∧(L≠[]→∃ b off,a=some ⟨b,off,none⟩∧av b∧b<W.heap.size∧a4U W b off L)∧∀ e∈L,y6 av W e.2.1 e.1.params∧e.1.params.length≤e.2.2∧e.2.2≤maxLen∧(e.2.1=none→e.2.2=0):=by
 classical
 have key : ∀ j : Fin l.length,∃ e : cD,e.1=l[j.1]∧(∀ b off,a=some ⟨b,off,none⟩→W.cell? ⟨b,off + j.1 * 3,none⟩=some (.string (bsA e.1.name))∧W.cell? ⟨b,off + j.1 * 3 + 1,none⟩=some (.slice e.2.1 e.1.params.length e.2.2)∧W.cell? ⟨b,off + j.1 * 3 + 2,none⟩=some (.int .i64 e.1.result))∧y6 av W e.2.1 e.1.params∧e.1.params.length≤e.2.2∧e.2.2≤maxLen∧(e.2.1=none→e.2.2=0):=fun j => by
  obtain ⟨b,off,e1,e2,e3,pa,pc,c0,c1,c2,h4,h5,h6,h7⟩:=h j.1 j.2
  refine ⟨(l[j.1],pa,pc),rfl,fun b' off' e => ?_,h4,h5,h6,h7⟩
  rw [e1] at e
  cases e
  exact ⟨c0,c1,c2⟩
 let f : Fin l.length→cD:=fun j => (key j).choose
 have hf:=fun j => (key j).choose_spec
 refine ⟨List.ofFn f,List.ext_getElem (by simp) fun j h1 h2 => ?_,fun hne => ?_,fun e he => ?_⟩
 ·rw [List.getElem_map,List.getElem_ofFn]
  exact (hf ⟨j,by simpa using h2⟩).1
 ·have h0 : 0<l.length:=by
   rcases Nat.eq_zero_or_pos l.length with h | h
   ·exact (hne (List.eq_nil_of_length_eq_zero (by rw [List.length_ofFn,h]))).elim
   ·exact h
  obtain ⟨b,off,e1,e2,e3,-⟩:=h 0 h0
  refine ⟨b,off,e1,e2,e3,fun j hj => ?_⟩
  rw [List.getElem_ofFn]
  exact (hf ⟨j,by rw [List.length_ofFn] at hj; exact hj⟩).2.1 b off e1
 ·obtain ⟨j,hj,rfl⟩:=List.getElem_of_mem he
  rw [List.getElem_ofFn]
  exact (hf _).2.2
def gG (L : List cD) (pre : List { x : Nat // x<L.length }) : List UInt8→Option Sch:=pre.foldl (fun g x s => if s=(L[L.length - 1 - x.1]'(by have:=x.2; omega)).1.name then some (L[L.length - 1 - x.1]'(by have:=x.2; omega)).1 else g s) (fun _ => none)
theorem nX (L : List cD) (pre : List { x : Nat // x<L.length }) (x : { x : Nat // x<L.length }) : gG L (pre ++ [x])=fun s => if s=(L[L.length - 1 - x.1]'(by have:=x.2; omega)).1.name then some (L[L.length - 1 - x.1]'(by have:=x.2; omega)).1 else gG L pre s:=by
 unfold gG
 rw [List.foldl_append]
 rfl
theorem xH (d : Sch) (l : List Sch) (s : List UInt8) : j4 (d :: l) s=if s=d.name then some d else j4 l s:=by
 unfold j4
 rw [List.find?_cons]
 by_cases h : s=d.name
 ·subst h; simp
 ·rw [if_neg h,show (d.name == s)=false from beq_eq_false_iff_ne.2 fun e => h e.symm]
theorem pE (L : List cD) : ∀ (k : Nat) (pre : List { x : Nat // x<L.length }),eZ pre k→k≤L.length→gG L pre=j4 ((L.map (·.1)).drop (L.length - k))
 | 0,pre,h,_ => by
   obtain rfl:=List.eq_nil_of_length_eq_zero h.1
   rw [Nat.sub_zero,List.drop_of_length_le (by rw [List.length_map]; exact Nat.le_refl _)]
   rfl
 | k + 1,pre,h,hk => by
   obtain ⟨p',x,rfl⟩ : ∃ p' x,pre=p' ++ [x]:=by
    rcases List.eq_nil_or_concat pre with rfl | ⟨p',x,e⟩
    ·exact absurd h.1 (by simp)
    ·exact ⟨p',x,by rw [e,List.concat_eq_append]⟩
   have hl : p'.length=k:=by have:=h.1; simpa using this
   have hx : x.1=k:=by
    have:=h.2 k (by rw [h.1]; omega)
    rw [List.getElem_append_right (by omega)] at this
    simpa [hl] using this
   have h' : eZ p' k:=⟨hl,fun j hj => by
    have:=h.2 j (by rw [h.1]; omega)
    rwa [List.getElem_append_left hj] at this⟩
   have ih:=pE L k p' h' (by omega)
   rw [nX,ih]
   funext s
   have hj : L.length - (k + 1)<(L.map (·.1)).length:=by rw [List.length_map]; omega
   rw [List.drop_eq_getElem_cons hj,xH,List.getElem_map,show L.length - (k + 1) + 1=L.length - k by omega]
   have ei : L.length - 1 - x.1=L.length - (k + 1):=by omega
   simp only [ei]
theorem a2r (L : List cD) (pre : List { x : Nat // x<L.length }) (h : eZ pre L.length) : gG L pre=j4 (L.map (·.1)):=by
 rw [pE L _ pre h (Nat.le_refl _),Nat.sub_self,List.drop_zero]
structure BrI (W0 : World) (A bi : Nat) (L : List cD) (pre : List { x : Nat // x<L.length }) (W : World) : Prop where
 os : W.os=W0.os
 tape : W.tape=W0.tape
 output : W.output=W0.output
 size : W0.heap.size≤W.heap.size
 block : ∀ b,b<W0.heap.size→b≠bi→W.heap[b]?=W0.heap[b]?
 sm : SM (fun b => b<A) bi pre.length (gG L pre) W
theorem BrI.own {W0 : World} {A bi : Nat} {L : List cD} (hA : A≤W0.heap.size) (hb : bi<W0.heap.size) : OwnFrom W0.heap.size (BrI W0 A bi L):=fun pre W W' row h hg hr => by
 have hk : ∀ b,b<W0.heap.size→W'.heap[b]?=W.heap[b]?:=fun b hb => hg.block b (Nat.lt_of_lt_of_le hb h.size) fun e => by
  have:=(hr b e.symm).1
  omega
 exact ⟨hg.os.trans h.os,hg.tape.trans h.tape,hg.output.trans h.output,Nat.le_trans h.size hg.size,fun b h1 h2 => (hk b h1).trans (h.block b h1 h2),h.sm.kept (hk bi hb) (fun b _ hb => hk b (by omega)) fun _ _ h => h⟩
theorem wO {l : List Sht} {nm : List UInt8} {s : Sht} (h : j8 l nm=some s) : ∃ j,∃ (hj : j<l.length),cF (fun s => s.name == nm) l=j∧l[j]=s∧s.name=nm:=by
 unfold j8 at h
 obtain ⟨hp,j,hj,e,hb⟩:=List.find?_eq_some_iff_getElem.1 h
 refine ⟨j,hj,kA hj (fun i hi hij => by have:=hb i hij; simpa using this) (by rw [e]; exact hp),e,by simpa using hp⟩
theorem sV {l : List Sht} {d : Sht} (h : j8 l d.name=none) (s : List UInt8) : j8 (l ++ [d]) s=if s=d.name then some d else j8 l s:=by
 unfold j8 at h ⊢
 rw [List.find?_append]
 by_cases e : s=d.name
 ·subst e; rw [h,if_pos rfl]; simp
 ·rw [if_neg e]
  have : ([d].find? fun x => x.name == s)=none:=by
   rw [List.find?_cons_of_neg]
   ·rfl
   ·simpa using fun h => e h.symm
  rw [this,Option.or_none]
theorem zJ {F b0 b1 b2 n0 n1 n2 A D : Nat} {sheets : List Sht} {defs : List Sch} {v : Value} {s : Sht} {w3 w4 W5 W Wz : World} {fm : Lit→Option Value} {L : List cD} {ys : List { x : Nat // x<L.length }}
 (hE : ModE F b0 b1 b2 n0 n1 n2 sheets defs v w3) (hF : F + 1<w3.heap.size) (hn : n0<1000) (hfs : ∀ s,match j8 sheets s with
   | none => fm (.string s)=none
   | some sh => ∃ bi ni,fm (.string s)=some (.map (some bi))∧AvM F b0 b1 b2 v bi∧ni≤1000000∧SM (AvM F b0 b1 b2 v) bi ni (j4 sh.defs) w3)
 (hup : ∀ f' : Lit→Option Value,f' (.string s.name)=some (.map (some w3.heap.size))→(∀ x,x≠.string s.name→f' x=fm x)→q7 9 b0 (n0 + 1) f' w4)
 (hs : j8 sheets s.name=none) (hA : A≤b0∧A≤b1∧A≤b2) (hg4 : w3.grownBy w4 (some b0)) (hml : w3.heap.size<w4.heap.size) (h5 : Below w4.heap.size w4 W5) (hL : L.map (·.1)=s.defs) (hLn : s.defs.length≤200) (hI : BrI W5 A w3.heap.size L ys W) (hS : eZ ys L.length) (hz : W.grownBy Wz (some D)) (hD : W5.heap.size≤D) :
 w3.grownBy Wz (some b0)∧ModE F b0 b1 b2 (n0 + 1) n1 n2 (sheets ++ [s]) defs v Wz:=by
 have hlt:=hE.lt
 have hi0:=hE.ss.in
 have hi1:=hE.ds.in
 have hi2:=hE.bs.in
 have hle:=hE.le
 have hsz5 : w4.heap.size≤W5.heap.size:=h5.size
 have hszW:=hI.size
 have hszz:=hz.size
 have k5 : ∀ b,b<w4.heap.size→b≠w3.heap.size→Wz.heap[b]?=w4.heap[b]?:=fun b h1 h2 => (hz.block b (by omega) (fun e => by have:=Option.some.inj e; omega)).trans ((hI.block b (by omega) h2).trans (h5.block b h1))
 have k3 : ∀ b,b<w3.heap.size→b≠b0→Wz.heap[b]?=w3.heap[b]?:=fun b h1 h2 => (k5 b (by omega) (by omega)).trans (hg4.block b h1 fun e => h2 (Option.some.inj e))
 have kAv : ∀ b,b<w3.heap.size→AvM F b0 b1 b2 v b→Wz.heap[b]?=w3.heap[b]?:=fun b h1 h2 => k3 b h1 h2.1
 obtain ⟨x3,x4,x5,hf⟩:=hE.fb
 obtain ⟨m,he⟩:=hE.env.2
 have hav : AvM F b0 b1 b2 v w3.heap.size:=⟨by omega,by omega,by omega,by omega,by omega,fun e => by have:=(hE.own _ e).2; omega⟩
 have hsmz : SM (AvM F b0 b1 b2 v) w3.heap.size ys.length (j4 s.defs) Wz:=by
  have h:=hI.sm
  rw [a2r L ys hS,hL] at h
  exact h.kept (hz.block _ (by omega) fun e => by have:=Option.some.inj e; omega) (fun b h1 h2 => hz.block b h1 fun e => by have:=Option.some.inj e; omega) fun b h1 h2 => by
   have h2 : b<A:=h2
   exact ⟨by omega,by omega,by omega,by omega,by omega,fun e => by have:=(hE.own _ e).1; omega⟩
 refine ⟨⟨hz.os.trans (hI.os.trans (h5.os.trans hg4.os)),hz.tape.trans (hI.tape.trans (h5.tape.trans hg4.tape)),hz.output.trans (hI.output.trans (h5.output.trans hg4.output)),by omega,fun b h1 h2 => k3 b h1 fun e => h2 (by rw [e])⟩,?_⟩
 refine ⟨⟨x3,x4,x5,(k3 F (by omega) (by omega)).trans hf⟩,hlt,?_,hE.ds.kept (k3 _ hi1 (by omega)) kAv fun _ _ h => h,hE.bs.kept (k3 _ hi2 (by omega)) kAv fun _ _ h => h,⟨by omega,hle.2⟩,⟨hE.env.1,m,(World.cell?_of_block (kAv _ hE.env.2.size hE.env.1)).trans he⟩,fun g e => ⟨(hE.own g e).1,by have:=(hE.own g e).2; omega⟩⟩
 classical
 refine ⟨fun x => if x=.string s.name then some (.map (some w3.heap.size)) else fm x,(hup _ (if_pos rfl) fun x hx => if_neg hx).kept (k5 b0 (by omega) (by omega)),fun nm => ?_⟩
 rw [sV hs]
 by_cases e : nm=s.name
 ·subst e
  simp only [if_pos]
  exact ⟨_,_,rfl,hav,by have:=hS.1; have : L.length=s.defs.length:=by rw [← hL,List.length_map]
                        omega,hsmz⟩
 ·have e' : (Lit.string nm)≠.string s.name:=fun h => e (Lit.string.inj h)
  simp only [if_neg e,if_neg e']
  have h9:=hfs nm
  cases hg : j8 sheets nm with
  | none => rw [hg] at h9; exact h9
  | some sh =>
    rw [hg] at h9
    obtain ⟨bi,ni,e1,e2,e3,e4⟩:=h9
    exact ⟨bi,ni,e1,e2,e3,e4.kept (kAv _ e4.in e2) kAv fun _ _ h => h⟩
end
section
open Lib (hid)
open Go.RowKit Go.Maps Go.WideMaps Go.Shelf
attribute [local go_sem] Oper.semAt_some
def yW (ops : Array Oper) : Bool:=ops.all fun o => match o.op with
 | .defer _ => false
 | _ => true
theorem qF {ops : Array Oper} (h : yW ops=true) : ∀ (i : Nat) o c,ops[i]?=some o→o.op≠.defer c:=fun i o c ho e => by
 unfold yW at h
 have:=Array.all_eq_true'.1 h o (Array.mem_of_getElem? ho)
 rw [e] at this
 cases this
def a4v (Q : Exit→Act→World→Prop) : Exit→Act→World→Prop
 | .panic _,_,_ => False
 | e,a,w => Q e a w
theorem a0b {Q : Exit→Act→World→Prop} : ∀ e a w,a4v Q e a w→Q e a w
 | .normal,_,_,h => h
 | .ret,_,_,h => h
 | .exit _,_,_,h => h
 | .goto _,_,_,h => h
 | .outgrown,_,_,h => h
theorem zR (all : List Sht) (ia : Option Addr) (ic A : Nat) (hic : all.length≤ic∧ic≤maxLen) (hok : ∀ s∈all,o7 s=true) (F b0 b1 b2 n0 n1 n2 : Nat) (sheets : List Sht) (defs : List Sch) (own : ByteArray) (v : Value) (t : Nd) (a : Option Addr) (cap : Nat) (w : World)
 (hA : A≤b0∧A≤b1∧A≤b2) (hn : n0<1000) (hFl : F + 1<w.heap.size) (hbare : m5 2 t=true) (hI : bB (fun b => b<A) w ia all) (hE : ModE F b0 b1 b2 n0 n1 n2 sheets defs v w) (s : Sht) (hb : p8 own.data.toList all sheets t=.ok s) :
 Calls Tryz.prog 29 #[.pointer (some ⟨F,0,none⟩),.agg #[.int .i64 t.kind,.string t.text,.int .i64 t.n,.slice a t.kids.length cap,.int .i64 t.place],.string own,.slice ia all.length ic] w fun e w' => e=.returned (.tuple #[])∧w.grownBy w' (some b0)∧ModE F b0 b1 b2 (n0 + 1) n1 n2 (sheets ++ [s]) defs v w':=by
 have hts : t.text.data.toList.length≤24:=o0 (E0 hbare).1
 obtain ⟨ho,hns,hf⟩ : t.text.data.toList≠own.data.toList∧j8 sheets t.text.data.toList=none∧j8 all t.text.data.toList=some s:=by
  unfold p8 at hb
  split at hb
  ·cases hb
  ·rename_i h
   rw [Bool.or_eq_true,not_or,decide_eq_true_eq] at h
   cases hf : j8 all t.text.data.toList with
   | none => rw [hf] at hb; cases hb
   | some s' =>
     rw [hf] at hb
     cases hb
     refine ⟨h.1,?_,rfl⟩
     cases hq : j8 sheets t.text.data.toList with
     | none => rfl
     | some x => rw [hq] at h; exact (h.2 rfl).elim
 obtain ⟨j,hj,hidx,hjs,hsn⟩:=wO hf
 obtain ⟨mo,hlk⟩:=hE.ss.all (s:=t.text) (by unfold maxLen; omega)
 rw [hns] at hlk
 obtain ⟨W1,hW1⟩ : ∃ W,W=(w.alloc (.cells #[.pointer (some ⟨F,0,none⟩)] 54)).alloc (.cells #[.int .i64 t.kind,.string t.text,.int .i64 t.n,.slice a t.kids.length cap,.int .i64 t.place] 24):=⟨_,rfl⟩
 have B1:=hid (show Below w.heap.size w W1 from hW1 ▸ ((a7 _ _).alloc (by simp) _))
 have Z1:=hid (show W1.heap.size=w.heap.size + 2 by rw [hW1]; simp)
 have p1 : W1.heap[w.heap.size]?=some (.cells #[.pointer (some ⟨F,0,none⟩)] 54 (0,0)):=by rw [hW1]; exact dJ (by simp) (O0 _ _ rfl)
 have N1:=hid (show c6 (w.heap.size + 1) t a cap W1 by
  have:=c6.make (w.alloc (.cells #[.pointer (some ⟨F,0,none⟩)] 54)) t a cap
  rw [show (w.alloc (.cells #[.pointer (some ⟨F,0,none⟩)] 54)).heap.size=w.heap.size + 1 by simp] at this
  rwa [← hW1] at this)
 have HS:=hid (show ∀ cur,Below W1.heap.size W1 cur→cur.cell? ⟨w.heap.size,0,none⟩=some (.pointer (some ⟨F,0,none⟩))∧cur.cell? ⟨F,0,none⟩=some (.map (some b0))∧c6 (w.heap.size + 1) t a cap cur∧(Instr.lookup 55 (.map (some b0)) (.string t.text) true).run Tryz.prog cur=.ok (.tuple #[.map mo,.bool false]) cur from fun cur hb => by
  have hb0:=hE.ss.in
  have h1:=hb.block w.heap.size (by have:=Z1.out; omega)
  refine ⟨by simp [World.cell?,h1.trans p1],((hE.fb.below B1).below hb).cells.1,N1.out.below hb,hlk _ ((hb.block b0 (by have:=Z1.out; omega)).trans (B1.out.block b0 hb0))⟩)
 have HE:=hid hE
 have HI:=hid hI
 have HF:=hid (show _∧_ from ⟨hns,hsn⟩)
 have HOK:=hid (show o7 s=true from hok s (hjs ▸ List.getElem_mem hj))
 have HJ:=hid hjs
 have HIC:=hid hic
 have HA:=hid hA
 have HN:=hid hn
 have dj : decide ((j : Int)<0)=false:=decide_eq_false (by omega)
 have hmm:=@run_makeMap Tryz.prog
 have HKEY:=hid (show keyOf Tryz.prog 9 (.string t.text)=some (.string t.text.data.toList) by
  have h:=bC (s:=t.text.data.toList) (by unfold maxLen; omega)
  rwa [bR] at h)
 have eo : (t.text.toList == own.toList)=false:=by rw [Lib.toList_data,Lib.toList_data]; exact beq_eq_false_iff_ne.2 ho
 clear hA hn hbare hI hE hts hlk p1 ho hns hf hb hjs hsn hok hic
 refine callsIn_wide.1 (callsIn_of_wp_marks (n:=9) Tryz.func29 rfl trivial ?_ rfl)
 simp only [Tryz.ntmps29,List.size_toArray,List.length_cons,List.length_nil,Nat.reduceAdd,Nat.reduceSub,Array.replicate_succ,Array.replicate_zero,List.push_toArray,List.append_toArray,List.nil_append,List.cons_append]
 refine wpIn_wide.2 (wp_mono (Q:=a4v _) ?_ a0b)
 go_upto_region 1 with fail
 rw [← hW1]
 clear hW1
 go_cut [8,9] from 13 to 22 (fun s8 s9 wx => s8=.map mo∧s9=.bool false∧Hid (Below W1.heap.size W1 wx))
 case first =>
  have HB0:=hid (show Below W1.heap.size W1 W1.drew from r8 (Below.refl W1.heap.size W1))
  obtain ⟨p0,f0,hn0,hl0⟩:=HS.out _ HB0
  obtain ⟨⟨n0',n1',n2',n3',n4'⟩,-⟩:=hn0.cells
  refine wp_region_held_drew (S:=fun cur => Below W1.heap.size W1 cur∧cur.cell? ⟨w.heap.size,0,none⟩=some (.pointer (some ⟨F,0,none⟩))∧cur.cell? ⟨F,0,none⟩=some (.map (some b0))∧cur.cell? ⟨w.heap.size + 1,1,none⟩=some (.string t.text)∧(Instr.lookup 55 (.map (some b0)) (.string t.text) true).run Tryz.prog cur=.ok (.tuple #[.map mo,.bool false]) cur) (by kernel_rfl) ?_ (fun hHeld => ?_)
  ·exact ⟨HB0,p0,f0,n1',hl0⟩
  refine a8 0 ?_; refine a8 1 ?_; refine a8 2 ?_; refine a8 3 ?_; refine a8 4 ?_; refine a8 5 ?_; refine a8 6 ?_; refine a8 7 ?_; refine a8 8 ?_; refine a8 9 ?_; refine a8 10 ?_; refine a8 11 ?_
  refine wpAnyH_done (by kernel_rfl) ?_ _
  go_wp2_with fail
  go_meet
  case rel => exact ⟨rfl,rfl,HB0⟩
 case rest =>
 obtain ⟨rfl,rfl,HB0⟩:=hcut
 generalize wc=w2 at HB0 ⊢
 obtain ⟨p0,f0,hn0,-⟩:=HS.out _ HB0
 obtain ⟨⟨q0,q1,q2,q3,q4⟩,-⟩:=hn0.cells
 have HBw:=hid (show Below w.heap.size w w2 from B1.out.trans (HB0.out.mono B1.out.size))
 have C3:=hid (iV (fun b => b<A) all ia ic t a cap (w.heap.size + 1) w2 (HI.out.move (fun b hb => HBw.out.block b (by have:=HA.out.1; have:=HE.out.ss.in; omega)) (fun _ h => h) HBw.out.size) HIC hn0)
 rw [hidx] at C3
 clear hn0
 go_wp2_with fail
 (with_reducible refine Calls.mono C3.out ?_)
 rintro e w3 ⟨rfl,hb⟩
 have HB3:=hid (show Below W1.heap.size W1 w3 from HB0.out.trans (hb.mono HB0.out.size))
 clear hb C3 p0 f0 q0 q1 q2 q3 q4
 obtain ⟨p0,f0,hn0,-⟩:=HS.out _ HB3
 obtain ⟨⟨q0,q1,q2,q3,q4⟩,-⟩:=hn0.cells
 clear hn0
 have HBw3:=hid (show Below w.heap.size w w3 from B1.out.trans (HB3.out.mono B1.out.size))
 have E3:=hid (HE.out.below HBw3)
 obtain ⟨fm,hfm,hfs⟩:=E3.out.ss
 have hbl : b0<w3.heap.size:=hfm.lt
 have HFM:=hid hfm
 have HFS:=hid hfs
 clear hfm hfs
 go_upto_region 7 with fail
 go_cut [] from 41 to 47 (fun wx => Hid (w3.grownBy wx (some b0)∧SM (fun b => b<A) w3.heap.size 0 (fun _ => none) wx∧∀ f' : Lit→Option Value,f' (.string t.text.data.toList)=some (.map (some w3.heap.size))→(∀ x,x≠.string t.text.data.toList→f' x=fm x)→q7 9 b0 (n0 + 1) f' wx))
 case first =>
  refine s3 (S:=fun cur : World => cur.cell? ⟨w.heap.size,0,none⟩=some (.pointer (some ⟨F,0,none⟩))∧cur.cell? ⟨F,0,none⟩=some (.map (some b0))∧cur.cell? ⟨w.heap.size + 1,1,none⟩=some (.string t.text)) (z:=7) (by kernel_rfl) ?_ (fun hHeld => ?_)
  ·exact ⟨p0,f0,q1⟩
  refine b8.t 0 ?_; refine b8.t 1 ?_; refine b8.t 2 ?_; refine b8.t 3 ?_; refine b8.t 4 ?_; refine b8.t 5 ?_
  refine b8.nx 6 fun K hK => ?_
  go_simp
  have BM:=hid (show Below w3.heap.size w3 ((w3.alloc (.map #[] 0)).drew) from r8 (a7 _ _))
  have SM0:=hid (show SM (fun b => b<A) w3.heap.size 0 (fun _ => none) ((w3.alloc (.map #[] 0)).drew) from (SM.made _ w3).kept rfl (fun _ _ _ => rfl) fun _ _ h => h)
  have hml : w3.heap.size<((w3.alloc (.map #[] 0)).drew).heap.size:=by show _<(w3.alloc _).heap.size; simp
  generalize (w3.alloc (.map #[] 0)).drew=Wm at BM SM0 hml ⊢
  have hHm : Wm.cell? ⟨w.heap.size,0,none⟩=some (.pointer (some ⟨F,0,none⟩))∧Wm.cell? ⟨F,0,none⟩=some (.map (some b0))∧Wm.cell? ⟨w.heap.size + 1,1,none⟩=some (.string t.text):=by
   obtain ⟨x0,x1,x2,-⟩:=HS.out _ (HB3.out.trans (BM.out.mono HB3.out.size))
   exact ⟨x0,x1,x2.cells.1.2.1⟩
  refine hK.out _ _ hHm (fun hHeld => ?_)
  clear hK K hHm
  try simp only [Act.put,j6,v6,v7]
  refine b8.la fun K hK => ?_
  rw [if_pos (by rfl)]
  have hfm':=HFM.out.kept (BM.out.block b0 hbl)
  refine dF hfm' _ _ _ 55 rfl _ dE Tryz.underlying55 rfl (by have:=HN.out; unfold maxLen; omega) (.string t.text) (.map (some w3.heap.size)) (.string t.text.data.toList) rfl rfl HKEY ?_
  intro w4 hup hgr
  have hne : w3.heap.size≠b0:=by omega
  refine hK.out _ _ ?_
  clear hK K hHeld
  go_wp2_with fail
  go_meet
  case rel => exact ⟨a6 (c9 BM) hgr,SM0.out.kept (hgr.block _ hml (fun e => hne (Option.some.inj e))) (fun b hb h => hgr.block b hb (fun e => by have:=HA.out.1; have:=Option.some.inj e; omega)) (fun _ _ h => h),hup⟩
 case rest =>
 have HG4:=hid hcut.out.1
 have SM4:=hid hcut.out.2.1
 have HUP:=hid hcut.out.2.2
 clear hcut p0 f0 q0 q1 q2 q3 q4
 generalize wc=w4 at HG4 SM4 HUP ⊢
 obtain ⟨sb,soff,sda,sdc,rfl,hsav,hsl,c0,c1,h4,h5,hS⟩:=HI.out j hj
 have hs3 : sb<w3.heap.size:=Nat.lt_of_lt_of_le hsl HBw3.out.size
 have hs4 : sb<w4.heap.size:=Nat.lt_of_lt_of_le hs3 HG4.out.size
 have hk4 : ∀ b,b<w3.heap.size→b≠b0→w4.heap[b]?=w3.heap[b]?:=fun b h1 h2 => HG4.out.block b h1 fun e => h2 (Option.some.inj e)
 have hkA : ∀ b,b<A→b<w.heap.size→w4.heap[b]?=w.heap[b]?:=fun b h1 h2 => (hk4 b (Nat.lt_of_lt_of_le h2 HBw3.out.size) (by have:=HA.out.1; omega)).trans (HBw3.out.block b h2)
 have c1 : w4.cell? ⟨sb,soff + j * 2 + 1,none⟩=some (.slice sda s.defs.length sdc):=by
  rw [← HJ.out]
  exact (World.cell?_of_block (hkA sb hsav hsl)).trans c1
 obtain ⟨L,hL1,hL2,hL3⟩:=a2w hS
 rw [HJ.out] at hL1 h4
 have hLn : L.length=s.defs.length:=by rw [← hL1,List.length_map]
 have HL1:=hid hL1
 have HL2:=hid hL2
 have HL3:=hid hL3
 have HSD:=hid (show s.defs.length≤sdc∧sdc≤maxLen from ⟨h4,h5⟩)
 have hicm : ic≤9223372036854775807:=by have:=HIC.out.2; unfold maxLen at this; omega
 have hicl:=HIC.out.1
 have dja : decide ((all.length : Int)≤(j : Int))=false:=decide_eq_false (by omega)
 have C8:=hid (nH sda s.defs.length sdc w4)
 have hm4 : w3.heap.size<w4.heap.size:=SM4.out.in
 obtain ⟨w5,hW5⟩ : ∃ W,W=w4.alloc (.cells #[.slice sda s.defs.length sdc] 27):=⟨_,rfl⟩
 have H5:=hid (show Below w4.heap.size w4 w5 from hW5 ▸ a7 _ _)
 have hz5 : w4.heap.size<w5.heap.size:=by rw [hW5]; simp
 have HBX:=hid (show w5.heap[w4.heap.size]?=some (.cells #[.slice sda s.defs.length sdc] 27 (0,0)) by rw [hW5]; exact U6 _ _)
 have hAw : A≤w.heap.size:=by have:=HA.out.1; have:=HE.out.ss.in; omega
 have hkA5 : ∀ b,b<A→w5.heap[b]?=w.heap[b]?:=fun b h1 => (H5.out.block b (by have:=HBw3.out.size; omega)).trans (hkA b h1 (by omega))
 have HKA:=hid hkA5
 clear c0 h4 h5 hS hL1 hL2 hL3 hkA5
 go_wp2_with fail
 (with_reducible refine Calls.mono C8.out ?_)
 rintro e wz ⟨rfl,rfl⟩
 go_wp2_with fail
 rw [← hW5]
 clear hW5
 have hbiW : w3.heap.size<w5.heap.size:=by omega
 have HCE:=hid (show ∀ W,(∀ b,b<w5.heap.size→b≠w3.heap.size→W.heap[b]?=w5.heap[b]?)→W.cell? ⟨w.heap.size,0,none⟩=some (.pointer (some ⟨F,0,none⟩))∧W.cell? ⟨F,0,none⟩=some (.map (some b0))∧W.cell? ⟨w.heap.size + 1,1,none⟩=some (.string t.text)∧(Instr.lookup 55 (.map (some b0)) (.string t.text) false).run Tryz.prog W=.ok (.map (some w3.heap.size)) W from fun W hW => by
  have hz1:=Z1.out
  have hzb:=HB3.out.size
  have hFw : F<w.heap.size:=by have:=hFl; omega
  have hb0w:=HE.out.ss.in
  have hltE:=HE.out.lt
  obtain ⟨x0,x1,x2,-⟩:=HS.out _ HB3
  have kk : ∀ b,b<w3.heap.size→b≠b0→W.heap[b]?=w3.heap[b]?:=fun b h1 h2 => (hW b (by omega) (by omega)).trans ((H5.out.block b (by omega)).trans (hk4 b h1 h2))
  refine ⟨(World.cell?_of_block (a:=⟨w.heap.size,0,none⟩) (kk w.heap.size (by omega) (by omega))).trans x0,(World.cell?_of_block (a:=⟨F,0,none⟩) (kk F (by omega) (by omega))).trans x1,(World.cell?_of_block (a:=⟨w.heap.size + 1,1,none⟩) (kk (w.heap.size + 1) (by omega) (by omega))).trans x2.cells.1.2.1,?_⟩
  classical
  have hm:=(HUP.out (fun x => if x=.string t.text.data.toList then some (.map (some w3.heap.size)) else fm x) (if_pos rfl) (fun x hx => if_neg hx)).kept (w':=W) ((hW b0 (by omega) (by omega)).trans (H5.out.block b0 (by omega)))
  have hl:=(hm.look dE Tryz.underlying55 (wB W) HKEY).2
  rw [if_pos rfl] at hl
  exact hl)
 have HLN:=hid hLn
 clear hLn
 have hbA : A≤w5.heap.size:=by have:=HBw3.out.size; omega
 have HOWN:=hid (BrI.own (L:=L) hbA hbiW)
 refine (wpIn_wide (n:=9)).1 ?_
 refine wpIn_rangeFunc_ownH rfl (by decide) (gf:=89) (lb:=#[.pointer (some ⟨w4.heap.size,0,none⟩)]) rfl trivial (enters_of Tryz.func89 (by kernel_rfl) rfl)
  (lV (fun b => b<w5.heap.size∧b≠w3.heap.size) 8 w4.heap.size sda sdc L w5 (by rw [HLN.out]; exact HSD) (fun hne => by
    obtain ⟨b,off,e1,e2,e3,e4⟩:=HL2.out hne
    refine ⟨b,off,e1,⟨by omega,by have:=HBw3.out.size; omega⟩,fun i hi => ?_⟩
    obtain ⟨r0,r1,r2⟩:=e4 i hi
    exact ⟨(World.cell?_of_block (HKA.out b e2)).trans r0,(World.cell?_of_block (HKA.out b e2)).trans r1,(World.cell?_of_block (HKA.out b e2)).trans r2⟩) ⟨hz5,by omega⟩ (fun b hb => hb.1) (by rw [HLN.out]; have h9:=HBX.out; simp [World.cell?,h9]))
  (fun h k => h.trans k)
  (fun W l o o' h1 h2 _ _ b hb => (grownBy_putObj' W l o').block b (by have:=(Array.getElem?_eq_some_iff.1 h2).1; have:=hb.1; omega) (fun e => by have:=Option.some.inj e; have:=hb.1; omega))
  (Below.refl _ _) (fun _ => rfl)
  (BrI w5 A w3.heap.size L) (fun _ _ _ => False) HOWN (fun _ _ _ _ _ h _ _ => h)
  ⟨rfl,rfl,rfl,Nat.le_refl _,fun _ _ _ => rfl,SM4.out.kept (H5.out.block _ hm4) (fun b hb h => H5.out.block b hb) fun _ _ h => h⟩
  (fun x a' W => ∃ Bx,w5.heap.size≤Bx∧W.heap[Bx]?=some (.cells (eA (L[L.length - 1 - x.1]'(by have:=x.2; omega))).toArray 36 (0,0))∧a'={ tmps:=#[.pointer (some ⟨F,0,none⟩),.agg #[.int .i64 t.kind,.string t.text,.int .i64 t.n,.slice a t.kids.length cap,.int .i64 t.place],.string own,.slice (some ⟨sb,soff,none⟩) all.length ic,.pointer (some ⟨w.heap.size,0,none⟩),.pointer (some ⟨w.heap.size + 1,0,none⟩),undef,undef,.map mo,.bool false,.int .i64 j,undef,.pointer (some ⟨Bx,0,none⟩),u13,u14,u15,u16,u17,u18,u19,u20,u21,u22,.bool false,.bool false,.pointer (some ⟨w.heap.size + 1,1,none⟩),.string t.text,.string own,.bool false,.bool false,undef,undef,undef,.slice (some ⟨sb,soff,none⟩) all.length ic,.func (.func 51) #[] #[.pointer (some ⟨w.heap.size + 1,0,none⟩)],.int .i64 j,.int .i64 j,.bool false,undef,undef,undef,u41,u42,u43,u44,u45,u46,u47,.slice (some ⟨sb,soff,none⟩) all.length ic,.int .i64 j,.pointer (some ⟨sb,soff + j * 2,none⟩),.pointer (some ⟨sb,soff + j * 2 + 1,none⟩),.slice sda s.defs.length sdc,.func (.func 89) #[] #[.pointer (some ⟨w4.heap.size,0,none⟩)],.int .i64 ((L.length - 1 - x.1 : Nat) : Int),.agg (eA (L[L.length - 1 - x.1]'(by have:=x.2; omega))).toArray,undef,undef,undef,undef,undef,undef,undef,undef,undef,undef],defers:=[] })
  ?own ?assign ?qN ?done ?stop
 case own =>
  rintro x a' _ A1 B1 row ⟨Bx,h1,h2,h3⟩ hg hr
  refine ⟨Bx,h1,(hg.block Bx (Array.getElem?_eq_some_iff.1 h2).1 fun e => ?_).trans h2,h3⟩
  obtain ⟨-,o,ho,hc⟩:=hr Bx e.symm
  rw [h2] at ho
  cases ho
  cases hc
 case assign =>
  intro l pre x W K hi hK
  have hsW:=hi.size
  unfold a3n
  dsimp only at hK
  obtain ⟨en,hen⟩ : ∃ en,en=L[L.length - 1 - x.1]'(by have:=x.2; omega):=⟨_,rfl⟩
  rw [← hen] at hK ⊢
  clear hen
  unfold eA
  gi_wp2
  exact hK _ _ ((KeepsOthers.alloc _ _).from _) (fun b hb => (a7 W _).block b (by have:=hb.1; omega)) ((HOWN).alloc _ hi) ⟨W.heap.size,hi.size,U6 _ _,rfl⟩
 case qN =>
  rintro l pre x a' W hl ⟨r,hr⟩ hi ⟨Bx,hBx,hbx,rfl⟩ hlt
  obtain ⟨en,hen⟩ : ∃ en,en=L[L.length - 1 - x.1]'(by have:=x.2; omega):=⟨_,rfl⟩
  have HMEM:=hid (show en∈L from hen ▸ List.getElem_mem _)
  have HPS:=hid (show gG L (pre ++ [x])=fun s => if s=en.1.name then some en.1 else gG L pre s from by rw [nX,hen])
  rw [← hen] at hbx ⊢
  clear hen
  refine wpIn_block ?_
  refine Go.wpIn_mono (Q:=fun e _ W1 => e=.normal∧KeepsFrom w5.heap.size W W1∧f8 (fun b => b<w5.heap.size∧b≠w3.heap.size) W W1∧BrI w5 A w3.heap.size L (pre ++ [x]) W1) (qL (by kernel_rfl) (qF (by kernel_rfl)) (by rintro ⟨_,_,h,-⟩; cases h) (b8.any (z:=10) (S:=fun cur : World => cur.cell? ⟨w.heap.size,0,none⟩=some (.pointer (some ⟨F,0,none⟩))∧cur.cell? ⟨F,0,none⟩=some (.map (some b0))∧cur.cell? ⟨w.heap.size + 1,1,none⟩=some (.string t.text)∧(Instr.lookup 55 (.map (some b0)) (.string t.text) false).run Tryz.prog cur=.ok (.map (some w3.heap.size)) cur∧cur.cell? ⟨Bx,0,none⟩=some (.string (bsA en.1.name))∧cur.cell? ⟨Bx,1,none⟩=some (.slice en.2.1 en.1.params.length en.2.2)∧cur.cell? ⟨Bx,2,none⟩=some (.int .i64 en.1.result)) _ _ _ _ ?_)) (by rintro e a1 W1 ⟨rfl,h⟩; exact h)
  dsimp only
  obtain ⟨ce0,ce1,ce2,ce3⟩:=HCE.out W.drew hi.block
  unfold eA at hbx
  obtain ⟨eb0,eb1,eb2⟩ : W.drew.cell? ⟨Bx,0,none⟩=some (.string (bsA en.1.name))∧W.drew.cell? ⟨Bx,1,none⟩=some (.slice en.2.1 en.1.params.length en.2.2)∧W.drew.cell? ⟨Bx,2,none⟩=some (.int .i64 en.1.result):=by
   have h9 : W.drew.heap[Bx]?=_:=hbx
   exact ⟨by simp [World.cell?,h9],by simp [World.cell?,h9],by simp [World.cell?,h9]⟩
  have hSt : W.drew.cell? ⟨w.heap.size,0,none⟩=some (.pointer (some ⟨F,0,none⟩))∧W.drew.cell? ⟨F,0,none⟩=some (.map (some b0))∧W.drew.cell? ⟨w.heap.size + 1,1,none⟩=some (.string t.text)∧(Instr.lookup 55 (.map (some b0)) (.string t.text) false).run Tryz.prog W.drew=.ok (.map (some w3.heap.size)) W.drew∧W.drew.cell? ⟨Bx,0,none⟩=some (.string (bsA en.1.name))∧W.drew.cell? ⟨Bx,1,none⟩=some (.slice en.2.1 en.1.params.length en.2.2)∧W.drew.cell? ⟨Bx,2,none⟩=some (.int .i64 en.1.result):=⟨ce0,ce1,ce2,ce3,eb0,eb1,eb2⟩
  refine b8.t 0 ?_; refine b8.t 1 ?_; refine b8.t 2 ?_; refine b8.t 3 ?_; refine b8.t 4 ?_; refine b8.t 5 ?_; refine b8.t 6 ?_; refine b8.t 7 ?_; refine b8.t 8 ?_; refine b8.t 9 ?_
  refine b8.la fun K hK => ?_
  rw [if_pos (by rfl)]
  have hsm : SM (fun b => b<A) w3.heap.size pre.length (gG L pre) W.drew:=hi.sm.kept rfl (fun _ _ _ => rfl) fun _ _ h => h
  obtain ⟨hia,hip⟩:=HL3.out en HMEM
  have hnm : en.1.name.length≤maxLen∧L.length≤200:=by
   have h1:=HOK.out
   have h2 : en.1∈s.defs:=HL1.out ▸ List.mem_map_of_mem HMEM
   unfold o7 at h1
   simp only [Bool.and_eq_true,decide_eq_true_eq,List.all_eq_true] at h1
   have h3:=h1.2 _ h2
   unfold aK at h3
   simp only [Bool.and_eq_true] at h3
   have h4:=o0 h3.1.1.1
   exact ⟨by unfold maxLen; omega,by rw [HLN.out]; exact h1.1.2⟩
  have hkA : ∀ b,b<A→W.drew.heap[b]?=w.heap[b]?:=fun b hb => (hi.block b (by omega) (by have:=HBw3.out.size; omega)).trans (HKA.out b hb)
  refine oY hsm _ _ _ rfl rfl (by unfold maxLen; omega) en.1 _ rfl rfl hnm.1 ⟨en.2.1,en.2.2,rfl,hia.move hkA fun _ h => h,hip⟩ ?_
  intro w' hsm' hgr
  have hbiw : w3.heap.size<W.heap.size:=by have:=hi.size; omega
  refine hK.out _ _ ⟨rfl,?_,?_,?_⟩
  ·exact (KeepsFrom.of_grownBy (c9 (r:=none) (r8 (Below.refl W.heap.size W))) fun j e => by cases e).trans (KeepsFrom.of_grownBy hgr fun j e => by cases e; exact hbiW)
  ·intro b hb
   exact hgr.block b (by have:=hi.size; have:=hb.1; show b<W.heap.size; omega) fun e => hb.2 (Option.some.inj e)
  ·refine ⟨hgr.os.trans hi.os,hgr.tape.trans hi.tape,hgr.output.trans hi.output,Nat.le_trans hi.size hgr.size,fun b h1 h2 => (hgr.block b (by have:=hi.size; show b<W.heap.size; omega) fun e => h2 (Option.some.inj e)).trans (hi.block b h1 h2),?_⟩
   rw [HPS.out,List.length_append]
   exact hsm'
 case done =>
  rintro D ys W hD hS hi hDd
  have HEND:=hid (fun Wz hz => zJ (Wz:=Wz) E3 (by have:=HBw3.out.size; omega) HN HFS (by rw [HF.out.2]; exact HUP) (by rw [HF.out.2]; exact HF.out.1) HA HG4 hm4 H5 HL1 (by
   have h1:=HOK.out
   unfold o7 at h1
   simp only [Bool.and_eq_true,decide_eq_true_eq] at h1
   exact h1.1.2) hi hS hz hD)
  refine ⟨by simp,.inl ⟨_,_,rfl,run_takeDeferred hDd,?_⟩⟩
  obtain ⟨g1,g2⟩:=HEND.out _ (grownBy_putObj' W D (.deferred none))
  exact ⟨_,results_none rfl _ _ _,rfl,a6 (c9 HBw3) g1,g2⟩
 case stop =>
  rintro D c pre W _ _ h _
  exact h.elim
end
end Go.Proofs.YtppcfebnaieciaaGreatDoor
