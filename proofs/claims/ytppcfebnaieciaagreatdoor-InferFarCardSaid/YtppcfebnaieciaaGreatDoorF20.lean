/-
  Laws that the proof rests on.
-/
import Derived.Test.YtppcfebnaieciaaGreatDoorF19
namespace Go.Proofs.YtppcfebnaieciaaGreatDoor
set_option maxRecDepth 100000
set_option maxHeartbeats 16000000
section
open Go.RowKit Go.Maps
theorem lP {ps : List (List UInt8)} {s : List UInt8} : (ps.findIdx? fun p => p == s).isSome=ps.contains s:=by
 rw [Bool.eq_iff_iff,List.findIdx?_isSome,List.any_eq_true,List.contains_iff_mem]
 constructor
 ·rintro ⟨x,hx,he⟩; rw [← eq_of_beq he]; exact hx
 ·intro h; exact ⟨s,h,beq_self_eq_true _⟩
theorem a1Q {ps : List (List UInt8)} {s : List UInt8} (h : ps.contains s=false) (x : List UInt8) : ((ps ++ [s]).findIdx? fun p => p == x)=if x=s then some ps.length else ps.findIdx? fun p => p == x:=by
 rw [List.findIdx?_append]
 by_cases e : x=s
 ·subst e
  rw [if_pos rfl]
  have : (ps.findIdx? fun p => p == x)=none:=by
   cases hf : (ps.findIdx? fun p => p == x) with
   | none => rfl
   | some i => have:=lP (ps:=ps) (s:=x); rw [hf,h] at this; cases this
  rw [this]
  simp
 ·rw [if_neg e]
  have : ([s].findIdx? fun p => p == x)=none:=by
   rw [List.findIdx?_eq_none_iff]
   intro y hy
   rw [List.mem_singleton] at hy
   subst hy
   exact beq_eq_false_iff_ne.2 (fun h => e h.symm)
  rw [this]
  simp
theorem wZ {l : List Nd} {k : Nat} (h : k<l.length) (ps : List (List UInt8)) : F7 (l.drop k) ps=if ps.contains l[k].text.data.toList then .error (111,l[k].place) else F7 (l.drop (k + 1)) (ps ++ [l[k].text.data.toList]):=by
 rw [List.drop_eq_getElem_cons h,F7]
theorem a0O {l : List Nd} {k : Nat} (h : ¬ k<l.length) (ps : List (List UInt8)) : F7 (l.drop k) ps=.ok ps:=by
 rw [List.drop_of_length_le (by omega),F7]
theorem Y8 (k : Nat) : (l5 k).length=k:=by simp [l5]
theorem a4d {k i : Nat} (h : i<k) : (l5 k)[i]?=some (5 + (i : Int)):=by simp [l5,h]
theorem yR (k : Nat) : frT (l5 k)=l5 (k + 1):=by
 unfold frT
 rw [Y8]
 simp [l5,List.range_succ]
theorem a0C (k : Nat) : l5 k ++ [5 + ((l5 k).length : Int)]=l5 (k + 1):=yR k
def dM (k : TypeId) (b n : Nat) (f : Lit→Option Value) (w : World) : Prop:=∃ D : DataW Value,w.ownsMap Tryz.prog k a4e b n D∧Tidy D∧size D=n∧(∀ kl,gE D kl=f kl)∧∀ kl,has D kl=(f kl).isSome
theorem dM.at {k : TypeId} {b n : Nat} {f : Lit→Option Value} {w : World} (h : dM k b n f w) : q7 k b n f w:=by
 obtain ⟨D,h1,h2,-,h4,-⟩:=h
 exact ⟨D,h1,h2.isMap,h4⟩
theorem dM.made (k : TypeId) (w : World) : dM k w.heap.size 0 (fun _ => none) (w.alloc (.map #[] 0)):=⟨_,World.ownsMap_made w Tryz.prog k a4e,tidy_empty,rfl,fun _ => rfl,fun _ => rfl⟩
theorem dM.kept {k : TypeId} {b n : Nat} {f : Lit→Option Value} {w w' : World} (h : dM k b n f w) (hb : w'.heap[b]?=w.heap[b]?) : dM k b n f w':=by
 obtain ⟨D,⟨es,clock,h1,h2⟩,h3⟩:=h
 exact ⟨D,⟨es,clock,hb.trans h1,h2⟩,h3⟩
theorem dM.add {k t e : TypeId} {b n : Nat} {f : Lit→Option Value} {w : World} (h : dM k b n f w) (K : Keyed Tryz.prog k) (ht : Tryz.prog.underlying t=some (.map k e)) (hn : n<maxLen) {key : Value} {kl : Lit} (hkey : keyOf Tryz.prog k key=some kl) (v : Value) (hf : f kl=none) :
 ∃ w',(Instr.mapUpdate t (.map (some b)) key v).run Tryz.prog w=.ok () w'∧(∀ f' : Lit→Option Value,f' kl=some v→(∀ x,x≠kl→f' x=f x)→dM k b (n + 1) f' w')∧w.grownBy w' (some b):=by
 obtain ⟨D,h1,h2,h3,h4,h5⟩:=h
 obtain ⟨w',r1,r2,r3⟩:=h1.update K ht hn hkey (d:=.held v) (ps:=[]) (val:=v) rfl
 have hk:=K.key hkey
 refine ⟨w',r1,fun f' e1 e2 => ⟨_,r2,h2.put hk _,?_,fun x => ?_,fun x => ?_⟩,r3⟩
 ·rw [Go.Maps.size_put h2,h5,hf]; simp [h3]
 ·by_cases e : x=kl
  ·subst e; rw [kT h2.isMap hk,e1]
  ·rw [jA e,h4,e2 x e]
 ·by_cases e : x=kl
  ·subst e; rw [has_put_same h2.isMap hk,e1]; rfl
  ·rw [has_put_other e,h5,e2 x e]
theorem a2U {t k e ty : TypeId} (ht : Tryz.prog.underlying t=some (.map k e)) {b : Nat} {es : Array MapEntry} {clock : Nat} {w : World} (hb : w.heap[b]?=some (.map es clock)) :
 (Builtin.len_ #[t] ty #[.map (some b)]).run Tryz.prog w=.ok (.int .i64 es.size) w:=by
 simp [Builtin.len_,run_underlying ht,MapKept.run_getObj_map hb,goInt]
theorem dM.len {k t e ty : TypeId} {b n : Nat} {f : Lit→Option Value} {w : World} (h : dM k b n f w) (ht : Tryz.prog.underlying t=some (.map k e)) : (Builtin.len_ #[t] ty #[.map (some b)]).run Tryz.prog w=.ok (.int .i64 (n : Nat)) w:=by
 obtain ⟨D,⟨es,clock,h1,h2,h3,h6⟩,-,h4,-⟩:=h
 subst h6
 rw [a2U ht h1]
 have : es.size=n:=by rw [← h4,size_eq,length_sorted]; simp
 rw [this]
theorem dF {k : TypeId} {b n : Nat} {f : Lit→Option Value} {w : World} (h : q7 k b n f w) {o : Oper} {a : Act} {K' : Act→World→Prop} {Q : Exit→Act→World→Prop} (m x v : Operand) (t : TypeId) (hop : o.op=Op.mapUpdate t m x v) (e : TypeId) (K : Keyed Tryz.prog k) (ht : Tryz.prog.underlying t=some (.map k e))
 (hm : a.eval m=.map (some b)) (hn : n<maxLen) (key val : Value) (kl : Lit) (hx : a.eval x=key) (hv : a.eval v=val) (hkey : keyOf Tryz.prog k key=some kl)
 (hK : ∀ w',(∀ f' : Lit→Option Value,f' kl=some val→(∀ x,x≠kl→f' x=f x)→q7 k b (n + 1) f' w')→w.grownBy w' (some b)→K' (a.put o.dst undef) w') : Oper.wp Tryz.prog o a w K' Q:=by
 obtain ⟨w',hrun,r1,r2⟩:=h.update K ht hn hkey val
 unfold Oper.wp
 simp [execOp,hop,hm,hx,hv,hrun,Result.andThen]
 exact hK w' r1 r2
theorem eC.move {av av' : Nat→Prop} {v : Value} {g : List UInt8→Option Sch} {w w' : World} (h : eC av v g w) (hk : ∀ b,av b→w'.heap[b]?=w.heap[b]?) (ha : ∀ b,av b→av' b) : eC av' v g w':=by
 obtain ⟨b,n,f,e,h1,h2,h3,h4⟩:=h
 refine ⟨b,n,f,e,ha b h1,h2.kept (hk b h1),h3,fun s => ?_⟩
 have:=h4 s
 cases hg : g s with
 | none => rw [hg] at this; exact this
 | some d =>
   rw [hg] at this
   obtain ⟨v,e1,e2⟩:=this
   exact ⟨v,e1,e2.move hk ha⟩
theorem dI.move {av av' : Nat→Prop} {v : Value} {g : List UInt8→Option Sht} {w w' : World} (h : dI av v g w) (hk : ∀ b,av b→w'.heap[b]?=w.heap[b]?) (ha : ∀ b,av b→av' b) : dI av' v g w':=by
 obtain ⟨b,n,f,e,h1,h2,h3,h4⟩:=h
 refine ⟨b,n,f,e,ha b h1,h2.kept (hk b h1),h3,fun s => ?_⟩
 have:=h4 s
 cases hg : g s with
 | none => rw [hg] at this; exact this
 | some d =>
   rw [hg] at this
   obtain ⟨v,e1,e2⟩:=this
   exact ⟨v,e1,e2.move hk ha⟩
theorem Cls.apart_low {B F : Nat} {c : CM} {kn : List (Option Int)} {ro rk : Nat→Nat} {S φ : List Int} {w : World} (h : Cls B F c kn ro rk S φ w) {d : Nat} (h1 : d<B) (h2 : d≠F) : s7 F c w d:=by
 refine ⟨⟨Nat.lt_of_lt_of_le h1 h.hin.le,h2,fun e => by have:=(h.hin.u_lt e).1; omega,fun e => by have:=(h.hin.k_lt e).1; omega⟩,fun a ha => ?_⟩
 obtain ⟨i,hi,e⟩:=List.getElem_of_mem ha
 have hk : i<kn.length:=by rw [h.hin.len]; exact hi
 cases hkn : kn[i] with
 | none =>
   have:=h.hin.free i (by rw [List.getElem?_eq_getElem hk,hkn])
   rw [List.getElem?_eq_getElem hi,e] at this
   cases this
 | some x =>
   obtain ⟨b,g1,g2,-⟩:=h.hin.got i x (by rw [List.getElem?_eq_getElem hk,hkn])
   rw [List.getElem?_eq_getElem hi,e] at g1
   cases g1
   show b≠d
   omega
def dU (k : Nat) : List Value:=(List.range k).map fun (n : Nat) => Value.int .i64 n
theorem tQ (k : Nat) : dU (k + 1)=dU k ++ [.int .i64 (k : Nat)]:=by simp [dU,List.range_succ]
structure ParI (F bp : Nat) (m0 m1 m2 : Value) (W5 : World) (k kr : Nat) (v : Value) (ps : List (List UInt8)) (c : CM) (kn : List (Option Int)) (ro rk : Nat→Nat) (f : Lit→Option Value) (n : Nat) (wr : World) : Prop where
 cls : Cls (bp + 1) F c kn ro rk (l5 k) (l5 k) wr
 ms : c.m0=m0∧c.m1=m1∧c.m2=m2∧c.m3=.map (some bp)
 len : c.up.length=k
 map : q7 9 bp n f wr
 nk : n≤k
 names : ∀ s,f (.string s)=(ps.findIdx? fun p => p == s).map fun i => .int .i64 (i : Nat)
 pl : ps.length=k
 row : wr.ownsRow (bp + 1) 3 1 v kr (dU kr)
 vA : ∀ g,v.ownBlock=some g→s7 F c wr g
 off : Off bp F W5 wr
theorem Y0 {w w' : World} {B T k n : Nat} {v : Value} {xs : List Value} (h : w.ownsRow B T k v n xs) (hk : ∀ g,v.ownBlock=some g→w'.heap[g]?=w.heap[g]?) : w'.ownsRow B T k v n xs:=by
 rcases h.2 with ⟨e,h0⟩ | ⟨g',cap',cur,e,-⟩
 ·exact ⟨h.1,.inl ⟨e,h0⟩⟩
 ·subst e
  exact eH h (hk _ rfl)
theorem Off.sub {B B' F : Nat} {w w' : World} (h : Off B F w w') (hb : B'≤B) : Off B' F w w':=⟨h.os,h.tape,h.output,h.size,fun b hb' => h.block b ⟨by have:=hb'.1; omega,hb'.2⟩⟩
theorem ParI.below {F bp : Nat} {m0 m1 m2 : Value} {W5 : World} {k kr : Nat} {v : Value} {ps : List (List UInt8)} {c : CM} {kn : List (Option Int)} {ro rk : Nat→Nat} {f : Lit→Option Value} {n : Nat} {wr wr' : World} (h : ParI F bp m0 m1 m2 W5 k kr v ps c kn ro rk f n wr) (hb : Below wr.heap.size wr wr') : ParI F bp m0 m1 m2 W5 k kr v ps c kn ro rk f n wr' :=
 ⟨h.cls.below hb,h.ms,h.len,h.map.kept (hb.block _ h.map.lt),h.nk,h.names,h.pl,n8 h.row hb,fun g e => (h.vA g e).grown hb.size,h.off.trans (Off.of hb (by have:=h.cls.hin.le; omega))⟩
theorem a0n {B F : Nat} {m0 m1 m2 m3 : Value} {w : World} (h : w.heap[F]?=some (.cells #[m0,m1,m2,m3,.slice none 0 0,.slice none 0 0] 63 (0,0))) (hF : F<B) (hB : B≤w.heap.size) : Cls B F ⟨m0,m1,m2,m3,none,0,none,0,[],[]⟩ [] (fun z => z) (fun _ => 0) [] [] w:=by
 refine ⟨⟨h,hF,hB,⟨rfl,.inl ⟨rfl,rfl⟩⟩,⟨rfl,.inl ⟨rfl,rfl⟩⟩,(fun d e => by cases e),rfl,(fun i x e => by simp at e),(fun i e => by simp at e)⟩,⟨fun i h => absurd h (Nat.not_lt_zero i),fun i h => absurd h (Nat.not_lt_zero i),fun i h => absurd h (Nat.not_lt_zero i),fun i h => absurd h (Nat.not_lt_zero i)⟩,⟨⟨rfl,rfl⟩,fun x h => absurd h (Nat.not_lt_zero x),fun x h => absurd h (Nat.not_lt_zero x),fun x h => absurd h (Nat.not_lt_zero x),fun x h => absurd h (Nat.not_lt_zero x),fun x _ h => absurd h (Nat.not_lt_zero x)⟩,fun j h => absurd h (Nat.not_lt_zero j),rfl⟩
theorem ParI.start {F bp : Nat} {m0 m1 m2 : Value} {W5 : World} (h : W5.heap[F]?=some (.cells #[m0,m1,m2,.map (some bp),.slice none 0 0,.slice none 0 0] 63 (0,0))) (hF : F<bp) (hB : bp + 1≤W5.heap.size) (hm : q7 9 bp 0 (fun _ => none) W5) :
 ParI F bp m0 m1 m2 W5 0 0 (.slice none 0 0) [] ⟨m0,m1,m2,.map (some bp),none,0,none,0,[],[]⟩ [] (fun z => z) (fun _ => 0) (fun _ => none) 0 W5 :=
 ⟨a0n h (by omega) hB,⟨rfl,rfl,rfl,rfl⟩,rfl,hm,Nat.le_refl _,fun _ => rfl,rfl,⟨rfl,.inl ⟨rfl,rfl⟩⟩,(fun g e => by cases e),Off.refl _ _ _⟩
theorem ParI.put {F bp : Nat} {m0 m1 m2 : Value} {W5 : World} {k : Nat} {v : Value} {ps : List (List UInt8)} {s : List UInt8} {c c2 : CM} {kn kn2 : List (Option Int)} {ro rk ro2 rk2 : Nat→Nat} {f f' : Lit→Option Value} {n : Nat} {wr w2 w3 : World} (h : ParI F bp m0 m1 m2 W5 k k v ps c kn ro rk f n wr) (hFb : F<bp)
 (hl : c2.up.length=c.up.length + 1) (hc : Cls (bp + 1) F c2 kn2 ro2 rk2 (frT (l5 k)) (l5 k ++ [5 + ((l5 k).length : Int)]) w2) (hm : Mv F c c2 wr w2) (hn : V4 c c2 wr) (hg : w2.grownBy w3 (some bp)) (hf : q7 9 bp (n + 1) f' w3) (hs : ps.contains s=false) (e1 : f' (.string s)=some (.int .i64 (k : Nat))) (e2 : ∀ x,x≠.string s→f' x=f x) :
 ParI F bp m0 m1 m2 W5 (k + 1) k v (ps ++ [s]) c2 kn2 ro2 rk2 f' (n + 1) w3:=by
 rw [yR,a0C] at hc
 have hA : s7 F c2 w2 bp:=hc.apart_low (by omega) (by omega)
 have hk : ∀ d,d<w2.heap.size→d≠bp→w3.heap[d]?=w2.heap[d]?:=fun d hd hn => hg.block d hd (fun e => hn (Option.some.inj e))
 have hvb : ∀ g,v.ownBlock=some g→g≠bp:=fun g e => by have:=(h.row.lt g e).1; omega
 refine ⟨hc.other hg (fun d e => by cases e; exact hA),⟨hm.maps.1.trans h.ms.1,hm.maps.2.1.trans h.ms.2.1,hm.maps.2.2.1.trans h.ms.2.2.1,hm.maps.2.2.2.trans h.ms.2.2.2⟩,by rw [hl,h.len],hf,by have:=h.nk; omega,fun x => ?_,by rw [List.length_append,h.pl]; rfl,?_,fun g e => ((h.vA g e).mv hm hn).1.grown hg.size,h.off.trans ⟨hg.os.trans hm.os,hg.tape.trans hm.tape,hg.output.trans hm.output,Nat.le_trans hm.size hg.size,fun b hb => ?_⟩⟩
 ·rw [a1Q hs]
  by_cases e : x=s
  ·subst e; rw [if_pos rfl,e1,h.pl]; rfl
  ·rw [if_neg e,e2 _ (fun e' => e (Lit.string.inj e')),h.names]
 ·exact Y0 h.row fun g e => (hk g ((h.vA g e).mv hm hn).1.1.1 (hvb g e)).trans ((h.vA g e).mv hm hn).2
 ·have hb2 : b<wr.heap.size:=by have:=hb.1; have:=h.cls.hin.le; omega
  refine (hk b (Nat.lt_of_lt_of_le hb2 hm.size) (by have:=hb.1; omega)).trans (hm.block b hb2 hb.2 (fun e => ?_) (fun e => ?_))
  ·have:=(h.cls.hin.u_lt e).1; have:=hb.1; omega
  ·have:=(h.cls.hin.k_lt e).1; have:=hb.1; omega
theorem ParI.app {F bp : Nat} {m0 m1 m2 : Value} {W5 : World} {k : Nat} {v : Value} {ps : List (List UInt8)} {c : CM} {kn : List (Option Int)} {ro rk : Nat→Nat} {f : Lit→Option Value} {n : Nat} {wr w6 : World} {g cap : Nat} (h : ParI F bp m0 m1 m2 W5 (k + 1) k v ps c kn ro rk f n wr)
 (hg : wr.grownBy w6 v.ownBlock) (hat : v.ownBlock=some g∨g=wr.heap.size) (hlt : g<w6.heap.size) (hrow : w6.ownsRow (bp + 1) 3 1 (.slice (some ⟨g,0,none⟩) (k + 1) cap) (k + 1) (dU k ++ [.int .i64 (k : Nat)])) :
 ParI F bp m0 m1 m2 W5 (k + 1) (k + 1) (.slice (some ⟨g,0,none⟩) (k + 1) cap) ps c kn ro rk f n w6:=by
 have hb : ∀ d,d<bp + 1→d<wr.heap.size→w6.heap[d]?=wr.heap[d]?:=fun d h1 h2 => hg.block d h2 (fun e => by have:=(h.row.lt d e.symm).1; omega)
 have hle:=h.cls.hin.le
 refine ⟨h.cls.other hg h.vA,h.ms,h.len,h.map.kept (hb bp (by omega) h.map.lt),h.nk,h.names,h.pl,by rw [tQ]; exact hrow,fun g' e => ?_,h.off.trans ⟨hg.os,hg.tape,hg.output,hg.size,fun b h1 => hb b (by have:=h1.1; omega) (by have:=h1.1; omega)⟩⟩
 obtain rfl : g=g':=Option.some.inj (show some g=some g' from e)
 rcases hat with e2 | e2
 ·exact (h.vA _ e2).grown hg.size
 ·exact h.cls.apart_new (by omega) hlt
theorem a3W {l : List Nd} {n : Nat} (h : l.length=n + 1) (z : Nd) : l.getLastD z=l[n]'(by omega):=by
 rw [List.getLastD_eq_getLast?,List.getLast?_eq_getElem?]
 simp [h]
theorem pK {t : Int} {ts seen : List Int} (h : t<5) : r7 (t :: ts) seen=t :: r7 ts seen:=by rw [r7,if_pos h]
theorem qI {t : Int} {ts seen : List Int} (h : ¬ t<5) (hm : t∈seen) : r7 (t :: ts) seen=(5 + (seen.idxOf t : Int)) :: r7 ts seen:=by rw [r7,if_neg h,if_pos hm]
theorem yZ {t : Int} {ts seen : List Int} (h : ¬ t<5) (hm : t ∉ seen) : r7 (t :: ts) seen=(5 + (seen.length : Int)) :: r7 ts (seen ++ [t]):=by rw [r7,if_neg h,if_neg hm]
theorem kB : ∀ (ts seen : List Int),(r7 ts seen).length=ts.length
 | [],_ => by simp [r7]
 | t :: ts,seen => by
   by_cases h : t<5
   ·rw [pK h,List.length_cons,List.length_cons,kB]
   ·by_cases hm : t∈seen
    ·rw [qI h hm,List.length_cons,List.length_cons,kB]
    ·rw [yZ h hm,List.length_cons,List.length_cons,kB]
structure NumI (B F : Nat) (w0 : World) (kn : List (Option Int)) (ro rk : Nat→Nat) (S φ L Rs : List Int) (m0 m1 m2 : Value) (g cap bn k : Nat) (c : CM) (seen outs : List Int) (f : Lit→Option Value) (wr : World) : Prop where
 cls : Cls B F c kn ro rk S φ wr
 ms : c.m0=m0∧c.m1=m1∧c.m2=m2
 row : wr.ownsRow B 3 1 (.slice (some ⟨g,0,none⟩) L.length cap) L.length ((outs ++ L.drop k).map fun (n : Int) => .int .i64 n)
 out : outs.length=k∧outs ++ r7 (Rs.drop k) seen=r7 Rs []
 names : dM 3 bn seen.length f wr
 rel : ∀ x (hx : x<φ.length),kn[ro x]?=some none→f (.int .i64 (ro x : Nat))=if j3 S φ[x]∈seen then some (.int .i64 (5 + (seen.idxOf (j3 S φ[x]) : Int))) else none
 gA : s7 F c wr g
 nA : s7 F c wr bn∧g≠bn∧B≤bn
 off : Off B F w0 wr
section
variable {B F : Nat} {w0 : World} {kn : List (Option Int)} {ro rk : Nat→Nat} {S φ L Rs : List Int} {m0 m1 m2 : Value} {g cap bn k : Nat} {c : CM} {seen outs : List Int} {f : Lit→Option Value} {wr : World}
theorem NumI.move (h : NumI B F w0 kn ro rk S φ L Rs m0 m1 m2 g cap bn k c seen outs f wr) {c' : CM} {wr' : World} (hc : Cls B F c' kn ro rk S φ wr') (hm : Mv F c c' wr wr') (hn : V4 c c' wr) : NumI B F w0 kn ro rk S φ L Rs m0 m1 m2 g cap bn k c' seen outs f wr' :=
 ⟨hc,⟨hm.maps.1.trans h.ms.1,hm.maps.2.1.trans h.ms.2.1,hm.maps.2.2.1.trans h.ms.2.2⟩,Y0 h.row (fun d e => by cases e; exact (h.gA.mv hm hn).2),h.out,h.names.kept (h.nA.1.mv hm hn).2,h.rel,(h.gA.mv hm hn).1,⟨(h.nA.1.mv hm hn).1,h.nA.2⟩,h.off.trans (hm.off h.cls.hin)⟩
theorem NumI.cell (h : NumI B F w0 kn ro rk S φ L Rs m0 m1 m2 g cap bn k c seen outs f wr) (hk : k<L.length) : wr.cell? ⟨g,k,none⟩=some (.int .i64 L[k])∧wr.frozen? ⟨g,k,none⟩=false∧g<wr.heap.size:=by
 obtain ⟨cur,hc⟩:=rV h.row
 have:=h.row.cells (g:=g) rfl k (.int .i64 L[k]) (by
  rw [List.getElem?_map,List.getElem?_append_right (by rw [h.out.1]; exact Nat.le_refl _),h.out.1,Nat.sub_self,List.getElem?_drop,Nat.add_zero,List.getElem?_eq_getElem hk]; rfl)
 rw [Go.WideShapes.add_plain,Nat.zero_add] at this
 exact ⟨this,by simp [World.frozen?,hc],h.gA.1.1⟩
theorem NumI.set (h : NumI B F w0 kn ro rk S φ L Rs m0 m1 m2 g cap bn k c seen outs f wr) (hk : k<L.length) {v : Int} (hr : outs ++ [v] ++ r7 (Rs.drop (k + 1)) seen=r7 Rs []) : NumI B F w0 kn ro rk S φ L Rs m0 m1 m2 g cap bn (k + 1) c seen (outs ++ [v]) f (wr.setCell ⟨g,k,none⟩ (.int .i64 v)):=by
 have hg:=F4 wr g k (.int .i64 v)
 have hb : ∀ d,d≠g→(wr.setCell ⟨g,k,none⟩ (.int .i64 v)).heap[d]?=wr.heap[d]?:=fun d hd => Below.heap_setCell _ _ _ _ hd
 have hgB:=(h.row.lt g rfl).1
 refine ⟨h.cls.other hg (fun d e => by cases e; exact h.gA),h.ms,?_,⟨by rw [List.length_append,h.out.1]; rfl,hr⟩,h.names.kept (hb _ (Ne.symm h.nA.2.1)),h.rel,h.gA.grown hg.size,⟨h.nA.1.grown hg.size,h.nA.2⟩,h.off.trans ⟨hg.os,hg.tape,hg.output,hg.size,fun b h1 => hb b (by have:=h1.1; omega)⟩⟩
 have:=sE h.row k (.int .i64 v)
 rw [← a39 v hk h.out.1,List.map_set]
 exact this
theorem NumI.add (h : NumI B F w0 kn ro rk S φ L Rs m0 m1 m2 g cap bn k c seen outs f wr) {x : Nat} (hx : x<φ.length) (hn : kn[ro x]?=some none) (hs : j3 S φ[x] ∉ seen) {f' : Lit→Option Value} {wr' : World} (hg : wr.grownBy wr' (some bn)) (hm : dM 3 bn (seen.length + 1) f' wr') (e1 : f' (.int .i64 (ro x : Nat))=some (.int .i64 (5 + (seen.length : Int)))) (e2 : ∀ y,y≠.int .i64 (ro x : Nat)→f' y=f y)
 (hkR : k<Rs.length) (hR : Rs[k]=j3 S φ[x]) : NumI B F w0 kn ro rk S φ L Rs m0 m1 m2 g cap bn k c (seen ++ [j3 S φ[x]]) outs f' wr':=by
 have hk : ∀ d,d<wr.heap.size→d≠bn→wr'.heap[d]?=wr.heap[d]?:=fun d hd hne => hg.block d hd (fun e => hne (Option.some.inj e))
 have h5:=h.cls.sim.free x hx hn
 refine ⟨h.cls.other hg (fun d e => by cases e; exact h.nA.1),h.ms,Y0 h.row (fun d e => by cases e; exact hk _ h.gA.1.1 h.nA.2.1),⟨h.out.1,?_⟩,by rw [List.length_append]; exact hm,fun y hy hny => ?_,h.gA.grown hg.size,⟨h.nA.1.grown hg.size,h.nA.2⟩,h.off.trans ⟨hg.os,hg.tape,hg.output,hg.size,fun b hb => hk b (by have:=hb.1; have:=h.cls.hin.le; omega) (by have:=hb.1; have:=h.nA.2.2; omega)⟩⟩
 ·rw [← h.out.2,List.drop_eq_getElem_cons hkR,hR,yZ (by omega) hs,qI (by omega) (List.mem_append_right _ (List.mem_singleton_self _)),List.idxOf_append,if_neg hs]
  simp
 ·by_cases e : ro y=ro x
  ·have hre : j3 S φ[y]=j3 S φ[x]:=h.cls.sim.res hy hx e
   rw [e,e1,if_pos (by rw [hre]; exact List.mem_append_right _ (List.mem_singleton_self _)),hre,List.idxOf_append,if_neg hs]
   simp
  ·have hre : j3 S φ[y]≠j3 S φ[x]:=fun h' => e ((h.cls.sim.same y x hy hx hny hn).2 h')
   rw [e2 _ (fun h' => e (by have:=(Lit.int.inj h').2; omega)),h.rel y hy hny]
   by_cases hm2 : j3 S φ[y]∈seen
   ·rw [if_pos hm2,if_pos (List.mem_append_left _ hm2),List.idxOf_append,if_pos hm2]
   ·rw [if_neg hm2,if_neg (fun h' => by rcases List.mem_append.1 h' with h' | h'; exact hm2 h'; exact hre (List.mem_singleton.1 h'))]
end
def Q6 (k y : Nat) : List Int:=((List.range k).map fun (n : Nat) => (n : Int)) ++ [(y : Int)]
theorem uQ (k y : Nat) : (Q6 k y).map (fun (n : Int) => Value.int .i64 n)=dU k ++ [.int .i64 (y : Nat)]:=by simp [Q6,dU]
theorem fG (k y : Nat) : (Q6 k y).length=k + 1:=by simp [Q6]
theorem a0c {k y : Nat} {l S : List Int} {r : Int} (hy : (l5 k ++ l)[y]?=some r) (j : Nat) (h1 : j<(Q6 k y).length) (h2 : j<((l5 k ++ [r]).map (j3 S)).length) : ∃ (x : Nat) (hx : x<(l5 k ++ l).length),(Q6 k y)[j]=x∧((l5 k ++ [r]).map (j3 S))[j]=j3 S (l5 k ++ l)[x]:=by
 rw [fG] at h1
 by_cases h : j<k
 ·refine ⟨j,by rw [List.length_append,Y8]; omega,by simp [Q6,List.getElem_append_left,h],?_⟩
  rw [List.getElem_map,List.getElem_append_left (by rw [Y8]; exact h),List.getElem_append_left (by rw [Y8]; exact h)]
 ·obtain rfl : j=k:=by omega
  obtain ⟨hx,e⟩:=List.getElem?_eq_some_iff.1 hy
  refine ⟨y,hx,by simp [Q6],?_⟩
  rw [List.getElem_map,e,List.getElem_append_right (by rw [Y8]; exact Nat.le_refl _)]
  simp [Y8]
theorem NumI.start {B F : Nat} {kn : List (Option Int)} {ro rk : Nat→Nat} {S φ L Rs : List Int} {m0 m1 m2 : Value} {g cap : Nat} {c : CM} {w6 w7 : World} (hw7 : w7=w6.alloc (.map #[] 0)) (hc : Cls B F c kn ro rk S φ w6) (hm : c.m0=m0∧c.m1=m1∧c.m2=m2) (hr : w6.ownsRow B 3 1 (.slice (some ⟨g,0,none⟩) L.length cap) L.length (L.map fun (n : Int) => .int .i64 n)) (hg : s7 F c w6 g) :
 NumI B F w7 kn ro rk S φ L Rs m0 m1 m2 g cap w6.heap.size 0 c [] [] (fun _ => none) w7:=by
 have hb : Below w6.heap.size w6 w7:=hw7 ▸ a7 _ _
 have hs : w6.heap.size<w7.heap.size:=by rw [hw7]; simp
 have hgl:=hg.1.1
 exact ⟨hc.below hb,hm,n8 hr hb,⟨rfl,rfl⟩,hw7 ▸ dM.made _ _,fun x hx hn => by simp,hg.grown hb.size,⟨hc.apart_new (Nat.le_refl _) hs,by omega,hc.hin.le⟩,Off.refl _ _ _⟩
section
variable {B F : Nat} {w0 : World} {kn : List (Option Int)} {ro rk : Nat→Nat} {S φ L Rs : List Int} {m0 m1 m2 : Value} {g cap bn k : Nat} {c : CM} {seen outs : List Int} {f : Lit→Option Value} {wr : World}
theorem NumI.known (h : NumI B F w0 kn ro rk S φ L Rs m0 m1 m2 g cap bn k c seen outs f wr) (hk : k<L.length) (hkR : k<Rs.length) {v : Int} (hR : Rs[k]=v) (h5 : v<5) : NumI B F w0 kn ro rk S φ L Rs m0 m1 m2 g cap bn (k + 1) c seen (outs ++ [v]) f (wr.setCell ⟨g,k,none⟩ (.int .i64 v)) :=
 h.set hk (by rw [← h.out.2,List.drop_eq_getElem_cons hkR,pK (by omega),hR]; simp)
theorem NumI.old (h : NumI B F w0 kn ro rk S φ L Rs m0 m1 m2 g cap bn k c seen outs f wr) (hk : k<L.length) (hkR : k<Rs.length) (h5 : ¬ Rs[k]<5) (hm : Rs[k]∈seen) : NumI B F w0 kn ro rk S φ L Rs m0 m1 m2 g cap bn (k + 1) c seen (outs ++ [5 + (seen.idxOf Rs[k] : Int)]) f (wr.setCell ⟨g,k,none⟩ (.int .i64 (5 + (seen.idxOf Rs[k] : Int)))) :=
 h.set hk (by rw [← h.out.2,List.drop_eq_getElem_cons hkR,qI h5 hm]; simp)
theorem NumI.look (h : NumI B F w0 kn ro rk S φ L Rs m0 m1 m2 g cap bn k c seen outs f wr) {q : Nat} (hq : q≤100000000) : (Instr.lookup 92 (.map (some bn)) (.int .i64 (q : Nat)) true).run Tryz.prog wr=.ok (.tuple #[(f (.int .i64 (q : Nat))).getD (.int .i64 0),.bool (f (.int .i64 (q : Nat))).isSome]) wr∧(Instr.lookup 92 (.map (some bn)) (.int .i64 (q : Nat)) false).run Tryz.prog wr=.ok ((f (.int .i64 (q : Nat))).getD (.int .i64 0)) wr :=
 h.names.at.look a2G Tryz.underlying92 (iP wr) (mX (t:=(q : Nat)) (by omega))
end
theorem fQ {k : TypeId} {b n : Nat} {f : Lit→Option Value} {w : World} (h : dM k b n f w) {ops : Array Oper} {rest : List Oper} {o : Oper} {a : Act} {Q : Exit→Act→World→Prop} (hg : o.guard=none) (m x v : Operand) (t : TypeId) (hop : o.op=Op.mapUpdate t m x v) (e : TypeId) (K : Keyed Tryz.prog k) (ht : Tryz.prog.underlying t=some (.map k e))
 (hm : a.eval m=.map (some b)) (hn : n<maxLen) (key val : Value) (kl : Lit) (hx : a.eval x=key) (hv : a.eval v=val) (hkey : keyOf Tryz.prog k key=some kl) (hf : f kl=none)
 (hK : ∀ w',(∀ f' : Lit→Option Value,f' kl=some val→(∀ x,x≠kl→f' x=f x)→dM k b (n + 1) f' w')→w.grownBy w' (some b)→wpList Tryz.prog ops Q rest (a.put o.dst undef) w') : wpList Tryz.prog ops Q (o :: rest) a w:=by
 refine wpList_plain hg fun K' hK' => ?_
 obtain ⟨w',hrun,r1,r2⟩:=h.add K ht hn hkey val hf
 unfold Oper.wp
 simp [execOp,hop,hm,hx,hv,hrun,Result.andThen]
 exact hK' _ _ (hK w' r1 r2)
end
theorem aW {S S' : List Int} {t : Int} (h : aC S t) (hl : S.length≤S'.length) : aC S' t:=⟨h.1,by have:=h.2; omega⟩
theorem gP : ∀ (ts : List Int) (m : List (Int × Int)) (S : List Int),Q3 S→(∀ t∈ts,0≤t)→(∀ (t x : Int),m.lookup t=some x→aC S x)→Q3 (o5 ts m S).2∧S.length≤(o5 ts m S).2.length∧(∀ t∈(o5 ts m S).1,aC (o5 ts m S).2 t)∧(o5 ts m S).1.length=ts.length
 | [],m,S,hS,_,_ => by
   rw [o5]
   exact ⟨hS,Nat.le_refl _,fun t ht => (List.not_mem_nil ht).elim,rfl⟩
 | t :: ts,m,S,hS,h0,hm => by
   have h0' : ∀ t∈ts,0≤t:=fun x hx => h0 x (List.mem_cons_of_mem _ hx)
   rw [o5]
   split
   ·rename_i h5
    obtain ⟨i1,i2,i3,i4⟩:=gP ts m S hS h0' hm
    refine ⟨i1,i2,fun x hx => ?_,by show (_ :: _).length=_; rw [List.length_cons,i4]; rfl⟩
    rcases List.mem_cons.1 hx with rfl | hx
    ·exact ⟨h0 _ (List.mem_cons_self ..),by omega⟩
    ·exact i3 x hx
   ·cases hl : m.lookup t with
    | some y =>
      obtain ⟨i1,i2,i3,i4⟩:=gP ts m S hS h0' hm
      refine ⟨i1,i2,fun x hx => ?_,by show (_ :: _).length=_; rw [List.length_cons,i4]; rfl⟩
      rcases List.mem_cons.1 hx with rfl | hx
      ·exact aW (hm _ _ hl) i2
      ·exact i3 x hx
    | none =>
      have hv : aC (frT S) (5 + (S.length : Int)):=⟨by omega,by rw [aM]; omega⟩
      obtain ⟨i1,i2,i3,i4⟩:=gP ts ((t,5 + (S.length : Int)) :: m) (frT S) (mT hS) h0' fun t' x hx => by
       rw [List.lookup_cons] at hx
       split at hx
       ·rw [← Option.some.inj hx]; exact hv
       ·exact aW (hm _ _ hx) (by rw [aM]; omega)
      rw [aM] at i2
      refine ⟨i1,by show S.length≤(o5 ts _ (frT S)).2.length; omega,fun x hx => ?_,by show (_ :: _).length=_; rw [List.length_cons,i4]; rfl⟩
      rcases List.mem_cons.1 hx with rfl | hx
      ·exact aW hv (by rw [aM]; exact i2)
      ·exact i3 x hx
def sK (E : Env7) : Prop:=∀ s d,E8 E s=some d→O8 d
theorem wT {E : Env7} {S S' : List Int} {kind p : Int} {s : List UInt8} {k : Nat} {l : List Int} {r : Int} (hS : Q3 S) (hE : sK E) (hp : E.params.length≤S.length) (h : bX E kind s k p S=.ok ((l,r),S')) :
 Q3 S'∧S.length≤S'.length∧(∀ t∈l,aC S' t)∧aC S' r:=by
 have c : ∀ (l' : List Int) (r' : Int),(∀ t∈l',0≤t∧t<5)→(0≤r'∧r'<5)→(Except.ok ((l',r'),S) : Ty (List Int × Int))=.ok ((l,r),S')→Q3 S'∧S.length≤S'.length∧(∀ t∈l,aC S' t)∧aC S' r:=by
  intro l' r' h1 h2 e
  have e':=Except.ok.inj e
  obtain ⟨e1,rfl⟩:=Prod.mk.inj e'
  obtain ⟨rfl,rfl⟩:=Prod.mk.inj e1
  exact ⟨hS,Nat.le_refl _,fun t ht => ⟨(h1 t ht).1,by have:=(h1 t ht).2; omega⟩,h2.1,by have:=h2.2; omega⟩
 unfold bX at h
 split at h
 ·exact c _ _ (by simp) (by decide) h
 split at h
 ·exact c _ _ (by simp) (by decide) h
 split at h
 ·exact c _ _ (by simp) (by decide) h
 split at h
 ·exact c _ _ (by simp) (by decide) h
 split at h
 ·split at h
  ·exact c _ _ (by simp) (by decide) h
  ·exact c _ _ (by simp) (by decide) h
 split at h
 ·have e':=Except.ok.inj h
  obtain ⟨e1,rfl⟩:=Prod.mk.inj e'
  obtain ⟨rfl,rfl⟩:=Prod.mk.inj e1
  have hv : aC (frT S) (5 + (S.length : Int)):=⟨by omega,by rw [aM]; omega⟩
  refine ⟨mT hS,by rw [aM]; omega,fun t ht => ?_,hv⟩
  simp at ht
  rcases ht with rfl | rfl
  ·exact ⟨by decide,by omega⟩
  ·exact hv
 split at h
 ·exact c _ _ (by simp) (by decide) h
 split at h
 ·split at h
  ·exact c _ _ (by simp) (by decide) h
  split at h
  ·exact c _ _ (by simp) (by decide) h
  ·exact c _ _ (by simp) (by decide) h
 cases hpar : cG E s with
 | some t =>
   rw [hpar] at h
   simp only at h
   split at h
   ·have e':=Except.ok.inj h
    obtain ⟨e1,rfl⟩:=Prod.mk.inj e'
    obtain ⟨rfl,rfl⟩:=Prod.mk.inj e1
    refine ⟨hS,Nat.le_refl _,fun t ht => (List.not_mem_nil ht).elim,?_⟩
    unfold cG at hpar
    cases hf : (E.params.findIdx? fun p => p == s) with
    | none => rw [hf] at hpar; cases hpar
    | some i =>
      rw [hf] at hpar
      have : t=5 + (i : Int):=(Option.some.inj hpar).symm
      subst this
      have hi : i<E.params.length:=(List.findIdx?_eq_some_iff_getElem.1 hf).1
      exact ⟨by omega,by omega⟩
   ·cases h
 | none =>
   rw [hpar] at h
   simp only at h
   cases hm : E8 E s with
   | none => rw [hm] at h; cases h
   | some d =>
     rw [hm] at h
     simp only at h
     split at h
     ·have e':=Except.ok.inj h
      obtain ⟨e1,rfl⟩:=Prod.mk.inj e'
      obtain ⟨rfl,rfl⟩:=Prod.mk.inj e1
      obtain ⟨i1,i2,i3,i4⟩:=gP (d.params ++ [d.result]) [] S hS (fun t ht => ((hE s d hm).2 t ht).1) (fun t x hx => by simp at hx)
      generalize o5 (d.params ++ [d.result]) [] S=o at i1 i2 i3 i4
      refine ⟨i1,i2,fun t ht => i3 t (List.dropLast_subset _ ht),?_⟩
      have hne : o.1≠[]:=fun e => by rw [e] at i4; simp at i4
      rw [List.getLastD_eq_getLast?,List.getLast?_eq_some_getLast hne]
      exact i3 _ (List.getLast_mem hne)
     ·cases h
theorem iG {α β : Type} {x : Ty α} {f : α→List Int→Ty β} {b : β} {S' : List Int} (h : x.then f=.ok (b,S')) : ∃ a S1,x=.ok (a,S1)∧f a S1=.ok (b,S'):=by
 match x,h with
 | .ok (a,S1),h => exact ⟨a,S1,rfl,h⟩
mutual
theorem pA {E : Env7} (hE : sK E) : ∀ (t : Nd) (S S' : List Int) (r : Int),Q3 S→E.params.length≤S.length→g9 E t S=.ok (r,S')→Q3 S'∧S.length≤S'.length∧aC S' r
 | .mk kind s n ks p,S,S',r,hS,hp,h => by
   rw [g9] at h
   obtain ⟨l,S1,h1,h2⟩:=iG h
   obtain ⟨u,S2,h3,h4⟩:=iG h2
   obtain ⟨rfl,rfl⟩:=Prod.mk.inj (Except.ok.inj h4)
   obtain ⟨l,r⟩:=l
   obtain ⟨i1,i2,i3,i4⟩:=wT hS hE hp h1
   obtain ⟨j1,j2⟩:=lT hE ks l S1 S2 u i1 (by omega) i3 h3
   exact ⟨j1,by omega,aW i4 j2⟩
theorem lT {E : Env7} (hE : sK E) : ∀ (ks : List Nd) (l S S' : List Int) (u : Unit),Q3 S→E.params.length≤S.length→(∀ t∈l,aC S t)→o4 E ks l S=.ok (u,S')→Q3 S'∧S.length≤S'.length
 | [],l,S,S',u,hS,hp,hl,h => by
   rw [o4] at h
   obtain ⟨-,rfl⟩:=Prod.mk.inj (Except.ok.inj h)
   exact ⟨hS,Nat.le_refl _⟩
 | k :: ks,l,S,S',u,hS,hp,hl,h => by
   rw [o4] at h
   obtain ⟨t,S1,h1,h2⟩:=iG h
   obtain ⟨i1,i2,i3⟩:=pA hE k S S1 t hS hp h1
   have hh : aC S1 (l.headD 0):=by
    cases l with
    | nil => exact ⟨by decide,by show (0 : Int) < _; omega⟩
    | cons x l => exact aW (hl x (List.mem_cons_self ..)) i2
   cases hu : cE S1 t (l.headD 0) with
   | none => rw [hu] at h2; cases h2
   | some S2 =>
     rw [hu] at h2
     have e2:=a25 hu
     have:=lT hE ks l.tail S2 S' u (iU i1 i3 hh hu) (by omega) (fun x hx => aW (hl x (List.mem_of_mem_tail hx)) (by omega)) h2
     exact ⟨this.1,by omega⟩
end
theorem gJ : ∀ (ts seen : List Int) (x : Int),x∈r7 ts seen→(x∈ts∧x<5)∨(5≤x∧x<5 + ((seen.length + ts.length : Nat) : Int))
 | [],seen,x,h => (List.not_mem_nil h).elim
 | t :: ts,seen,x,h => by
   rw [r7] at h
   split at h
   ·rename_i h5
    rcases List.mem_cons.1 h with rfl | h
    ·exact .inl ⟨List.mem_cons_self ..,h5⟩
    ·rcases gJ ts seen x h with ⟨h1,h2⟩ | ⟨h1,h2⟩
     ·exact .inl ⟨List.mem_cons_of_mem _ h1,h2⟩
     ·exact .inr ⟨h1,by simp only [List.length_cons]; omega⟩
   split at h
   ·rename_i hm
    rcases List.mem_cons.1 h with rfl | h
    ·have:=List.idxOf_lt_length_iff.2 hm
     exact .inr ⟨by omega,by simp only [List.length_cons]; omega⟩
    ·rcases gJ ts seen x h with ⟨h1,h2⟩ | ⟨h1,h2⟩
     ·exact .inl ⟨List.mem_cons_of_mem _ h1,h2⟩
     ·exact .inr ⟨h1,by simp only [List.length_cons]; omega⟩
   ·rcases List.mem_cons.1 h with rfl | h
    ·exact .inr ⟨by omega,by simp only [List.length_cons]; omega⟩
    ·rcases gJ ts _ x h with ⟨h1,h2⟩ | ⟨h1,h2⟩
     ·exact .inl ⟨List.mem_cons_of_mem _ h1,h2⟩
     ·exact .inr ⟨h1,by simp only [List.length_cons,List.length_append,List.length_nil] at h2 ⊢; omega⟩
theorem sM : ∀ (ks : List Nd) (l ps : List (List UInt8)),F7 ks l=.ok ps→ps.length=l.length + ks.length
 | [],l,ps,h => by rw [F7] at h; cases h; rfl
 | k :: ks,l,ps,h => by
   rw [F7] at h
   split at h
   ·cases h
   ·have:=sM ks _ ps h
    simp only [List.length_append,List.length_cons,List.length_nil] at this ⊢
    omega
theorem vG (k : Nat) : Q3 (l5 k):=fun j hj => by
 have hl : (l5 k).length=k:=by simp [l5]
 rw [hl] at hj
 have e : (l5 k).getD j 0=5 + (j : Int):=by rw [dD (by rw [hl]; exact hj)]; simp [l5]
 exact .inr ⟨j,by rw [hl]; exact hj,e,rfl⟩
theorem tL {sheets : List Sht} {defs : List Sch} {t : Nd} {d : Sch} (hE : ∀ ps,sK ⟨sheets,defs,ps⟩) (hl : H6 t=true) (h : Y1 sheets defs t=.ok d) :
 d.name=t.text.data.toList∧d.params.length=t.kids.length - 1∧O8 d∧j4 defs d.name=none:=by
 rw [aR] at hl
 simp only [Bool.and_eq_true,decide_eq_true_eq] at hl
 obtain ⟨⟨⟨⟨-,hnear⟩,h1⟩,h9⟩,-⟩:=hl
 unfold Y1 at h
 split at h
 ·cases h
 rename_i hno
 cases hp : F7 t.kids.dropLast [] with
 | error e => rw [hp] at h; cases h
 | ok ps =>
   rw [hp] at h
   simp only at h
   have hpl:=sM _ _ _ hp
   rw [List.length_dropLast,List.length_nil,Nat.zero_add] at hpl
   cases hty : g9 ⟨sheets,defs,ps⟩ (D6 t) (l5 ps.length) with
   | error e => rw [hty] at h; cases h
   | ok q =>
     obtain ⟨r,S⟩:=q
     rw [hty] at h
     simp only at h
     have hd:=Except.ok.inj h
     subst hd
     have hvl : (l5 ps.length).length=ps.length:=by simp [l5]
     obtain ⟨i1,i2,i3⟩:=pA (hE ps) _ _ _ _ (vG _) (by show ps.length≤_; omega) hty
     have hnl : (r7 ((l5 ps.length ++ [r]).map (j3 S)) []).length=ps.length + 1:=by
      have : ∀ (ts seen : List Int),(r7 ts seen).length=ts.length:=by
       intro ts
       induction ts with
       | nil => intro seen; rfl
       | cons a l ih => intro seen; rw [r7]; split <;> (try split) <;> simp [ih]
      rw [this]; simp [hvl]
     have hval : ∀ x∈r7 ((l5 ps.length ++ [r]).map (j3 S)) [],0≤x∧x≤20:=fun x hx => by
      rcases gJ _ _ x hx with ⟨h2,h3⟩ | ⟨h2,h3⟩
      ·obtain ⟨y,hy,rfl⟩:=List.mem_map.1 h2
       have hv : aC S y:=by
        rcases List.mem_append.1 hy with hy | hy
        ·unfold l5 at hy
         obtain ⟨i,hi,rfl⟩:=List.mem_map.1 hy
         have:=List.mem_range.1 hi
         exact ⟨by omega,by omega⟩
        ·obtain rfl:=List.mem_singleton.1 hy; exact i3
       exact ⟨(gH i1 hv).1,by omega⟩
      ·rw [List.length_map,List.length_append,hvl] at h3
       simp only [List.length_cons,List.length_nil] at h3
       exact ⟨by omega,by omega⟩
     generalize r7 ((l5 ps.length ++ [r]).map (j3 S)) []=N at hnl hval
     refine ⟨rfl,by show N.dropLast.length=_; rw [List.length_dropLast]; omega,⟨by show N.dropLast.length≤8; rw [List.length_dropLast]; omega,fun x hx => ?_⟩,?_⟩
     ·have hne : N≠[]:=fun e => by rw [e] at hnl; simp at hnl
      have e : N.dropLast ++ [N.getLastD 0]=N:=by
       rw [List.getLastD_eq_getLast?,List.getLast?_eq_some_getLast hne]
       exact List.dropLast_concat_getLast hne
      exact hval x (e ▸ hx)
     ·show j4 defs t.text.data.toList=none
      rw [Bool.or_eq_true,not_or] at hno
      cases hf : j4 defs t.text.data.toList with
      | none => rfl
      | some x => rw [hf] at hno; exact (hno.2 rfl).elim
theorem mI {l : List Sch} {s : List UInt8} {d : Sch} (h : j4 l s=some d) : d∈l:=List.mem_of_find?_eq_some h
theorem uN : ∀ d∈l6,O8 d:=by unfold O8; decide
theorem lM {sheets : List Sht} {defs : List Sch} (h1 : ∀ s∈sheets,∀ d∈s.defs,O8 d) (h2 : ∀ d∈defs,O8 d) (ps : List (List UInt8)) : sK ⟨sheets,defs,ps⟩:=fun s d h => by
 unfold E8 at h
 split at h
 ·obtain ⟨sh,e1,e2⟩:=Option.bind_eq_some_iff.1 h
  exact h1 sh (List.mem_of_find?_eq_some e1) d (mI e2)
 ·rcases Option.or_eq_some_iff.1 h with e | ⟨-,e⟩
  ·exact h2 d (mI e)
  ·exact uN d (mI e)
theorem vV {d : Sch} (h : aK d=true) : O8 d:=by
 unfold aK p9 at h
 simp only [Bool.and_eq_true,decide_eq_true_eq,List.all_eq_true] at h
 obtain ⟨⟨⟨-,h1⟩,h2⟩,h3⟩:=h
 refine ⟨h2,fun t ht => ?_⟩
 rcases List.mem_append.1 ht with ht | ht
 ·exact h3 t ht
 ·obtain rfl:=List.mem_singleton.1 ht; exact h1
theorem uZ {s : Sht} (h : o7 s=true) : ∀ d∈s.defs,O8 d:=fun d hd => by
 unfold o7 at h
 rw [Bool.and_eq_true,List.all_eq_true] at h
 exact vV (h.2 d hd)
end Go.Proofs.YtppcfebnaieciaaGreatDoor
