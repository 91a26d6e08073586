/-
  Laws that the proof rests on.
-/
import Derived.Test.YtibiccacafjjfaaGreatDoorR23
import Derived.Test.YtibiccacafjjfaaGreatDoorR07
namespace Go.Proofs.YtibiccacafjjfaaGreatDoor
set_option maxRecDepth 100000
set_option maxHeartbeats 16000000
section
open Lib (hid)
open Go.RowKit
structure Gx (P b B : Nat) (W W' : World) : Prop where
 os : W'.os=W.os
 tape : W'.tape=W.tape
 output : W'.output=W.output
 size : W.heap.size≤W'.heap.size
 block : ∀ k,k<B→k<W.heap.size→k≠P→k≠b→W'.heap[k]?=W.heap[k]?
theorem Gx.of {P b B : Nat} {W W' : World} (g : W.grownBy W' (some P)) : Gx P b B W W':=⟨g.os,g.tape,g.output,g.size,fun k _ hk hp _ => g.block k hk (fun e => hp (Option.some.inj e))⟩
theorem Gx.trans {P b B : Nat} {A C D : World} (h : Gx P b B A C) (k : Gx P b B C D) : Gx P b B A D :=
 ⟨k.os.trans h.os,k.tape.trans h.tape,k.output.trans h.output,Nat.le_trans h.size k.size,fun i hB hi hp hb => (k.block i hB (Nat.lt_of_lt_of_le hi h.size) hp hb).trans (h.block i hB hi hp hb)⟩
theorem Gx.grown {P b B : Nat} {w A C : World} (h : Gx P b B A C) (g : w.grownBy A (some P)) (hb : w.heap.size≤b) (hB : w.heap.size≤B) : w.grownBy C (some P) :=
 ⟨h.os.trans g.os,h.tape.trans g.tape,h.output.trans g.output,Nat.le_trans g.size h.size,fun i hi hp => (h.block i (by omega) (Nat.lt_of_lt_of_le hi g.size) (fun e => hp (by rw [e])) (by omega)).trans (g.block i hi hp)⟩
def a5V (P g cap : Nat) (ts : List Tk) (nest bx B : Nat) (J : List Nd→World→Prop) (acc : List Nd) (x : Rd) (w : World) (e : Ending) (w' : World) : Prop:=Gx P bx B w w'∧match x with
 | .ok (t,q) => e=.returned (.tuple #[])∧SQ P g cap ts nest q w'∧J (acc ++ [t]) w'
 | .error (k,p) => e=flt k p
def a5w (P g cap : Nat) (ts : List Tk) (nest bx B : Nat) (J : List Nd→World→Prop) (x : Rd) (w : World) (e : Ending) (w' : World) : Prop:=Gx P bx B w w'∧match x with
 | .ok (t,q) => e=.returned (.tuple #[])∧SQ P g cap ts nest q w'∧J t.kids w'
 | .error (k,p) => e=flt k p
def a4O (P g cap : Nat) (ts : List Tk) (nest bx B most : Nat) (J : List Nd→World→Prop) (rdr : List Tk→Rd) (l : List Tk) (X : Rd) (w : World) (acc : List Nd) (r : List Tk) (wr : World) : Prop :=
 SQ P g cap ts nest r wr∧J acc wr∧Gx P bx B w wr∧X=F4 rdr (most - acc.length) acc r∧r.length<l.length
theorem uA (P g cap : Nat) (ts : List Tk) (he : y6 ts) (nest : Nat) (l : List Tk) (most : Nat) (hm : most≤8) (K : Nat) (cs : Array Value) (rdr : List Tk→Rd) (bx B : Nat) (J : List Nd→World→Prop) (w : World) (hK : m9 K)
 (hJ : ∀ acc W W',J acc W→W.grownBy W' (some P)→J acc W') (hlen : ∀ r t q,rdr r=.ok (t,q)→q.length≤r.length)
 (hread : ∀ acc r W,r.length<l.length→acc.length<most→J acc W→SQ P g cap ts nest r W→Gx P bx B w W→Calls Tryz.prog K cs W (a5V P g cap ts nest bx B J acc (rdr r) W))
 (h : SQ P g cap ts nest l w) (hj : J [] w) (ho : isT o7 l=true) :
 Calls Tryz.prog 97 #[.pointer (some ⟨P,0,none⟩),.int .i64 most,.func (.func K) #[] cs] w (a5w P g cap ts nest bx B J (F4 rdr most [] (b9 l)) w):=by
 unfold m9 at hK
 have hln:=n5 ho
 obtain ⟨X,hX⟩ : ∃ X,X=F4 rdr most [] (b9 l):=⟨_,rfl⟩
 rw [← hX]
 have C1:=hid (V9 P g cap ts nest l ⟨#[40]⟩ o7 rfl w h he)
 have HO:=hid ho
 have HX:=hid hX
 have HJ:=hid hJ
 have HLn:=hid hln
 have HLe:=hid hlen
 have HR:=hid hread
 have HE:=hid he
 have HJ0:=hid hj
 clear h he hJ hlen hread hj ho hX hln
 go_enter Tryz.func97,Tryz.ntmps97
 go_wp2_with fail
 (with_reducible refine Calls.mono C1.out ?_)
 rintro e w1 ⟨hg,hq⟩
 obtain ⟨rfl,hs⟩:=hq.1 HO
 have I1:=hid (show a4O P g cap ts nest bx B most J rdr l X w [] (b9 l) w1 from ⟨hs,HJ.out _ _ _ HJ0 hg,Gx.of hg,HX,by have:=HLn.out; omega⟩)
 clear hg hq hs C1
 go_upto_block 0 with fail
 go_wp2_with fail
 go_loopw [6] (fun v wr => ∃ (acc : List Nd) (r : List Tk),v=.int .i64 acc.length∧acc.length≤most∧Hid (a4O P g cap ts nest bx B most J rdr l X w acc r wr)) (fun v _ => (most - (intOf v).toNat))
 case atStart => exact ⟨[],_,rfl,Nat.zero_le _,I1⟩
 case round =>
  obtain ⟨acc,r,rfl,ha,HI⟩:=hrel
  clear I1
  by_cases hk : acc.length=most
  ·have e0 : ((acc.length : Int) == (most : Int))=true:=by rw [hk]; exact beq_self_eq_true _
   have HXe:=hid (show X=.error (76,(hd r).pos) by rw [HI.out.2.2.2.1,hk,Nat.sub_self]; rfl)
   obtain ⟨a,rfl,hp⟩:=HI.out.1
   have hpos:=hp.pos
   have D:=hid (O7 hpos)
   obtain ⟨⟨p0,p1⟩,-⟩:=hp.cells
   obtain ⟨t0,t1,t2,t3⟩:=hp.tok
   have hL : 0<ts.length - a:=by omega
   have C3:=hid (aM P 76 (ts[a]'hpos).pos wr)
   generalize ts[a]'hpos=T at t0 t1 t2 t3 D C3
   generalize ts.length - a=L at p0 hL
   generalize cap - a=C at p0
   generalize a * 4=off at p0 t0 t1 t2 t3
   clear hp hpos hk
   go_wp2_with fail
   (with_reducible refine Calls.mono C3.out ?_)
   rintro e w2 ⟨rfl,rfl⟩
   refine And.intro rfl ?_
   rw [HXe.out,D.out]
   exact ⟨HI.out.2.2.1,rfl⟩
  ·have e0 : ((acc.length : Int) == (most : Int))=false:=beq_eq_false_iff_ne.2 (by omega)
   have hlt : acc.length<most:=by omega
   obtain ⟨f,hf⟩ : ∃ f,most - acc.length=f + 1:=⟨most - acc.length - 1,by omega⟩
   have HXn:=hid (show X=(rdr r).then fun t q => if isT l0 q=true then F4 rdr (most - (acc ++ [t]).length) (acc ++ [t]) (b9 q) else d7 m7 q fun q => .ok (mkN 0 [] 0 (acc ++ [t]) 0,q) by
    rw [HI.out.2.2.2.1,hf,F4]
    congr 1
    funext t q
    rw [show most - (acc ++ [t]).length=f by rw [List.length_append]; simp; omega])
   have C2:=hid (HR.out acc r wr HI.out.2.2.2.2 hlt HI.out.2.1 HI.out.1 HI.out.2.2.1)
   have HL2:=hid (fun t q (h : rdr r=.ok (t,q)) => HLe.out r t q h)
   generalize rdr r=x at C2 HXn HL2
   clear hk hf
   go_wp2_with fail
   (with_reducible refine Calls.mono C2.out ?_)
   intro e w3 hq
   obtain ⟨hg,hq⟩:=hq
   have G3:=hid (HI.out.2.2.1.trans hg)
   cases x with
   | error q =>
     obtain ⟨k,p⟩:=q
     obtain rfl:=hq
     refine And.intro rfl ?_
     rw [HXn.out]
     exact ⟨G3,rfl⟩
   | ok q =>
   obtain ⟨t,q⟩:=q
   obtain ⟨rfl,hs,hj⟩:=hq
   have S3:=hid hs
   have J3:=hid hj
   have HL3:=hid (HL2.out t q rfl)
   have C4:=hid (show Calls Tryz.prog 89 #[.pointer (some ⟨P,0,none⟩),.string ⟨#[44]⟩] w3 (fun e w' => e=.returned (.bool (isT l0 q))∧SQ P g cap ts nest (if isT l0 q=true then b9 q else q) w'∧w3.grownBy w' (some P)) from V0 P g cap ts nest q ⟨#[44]⟩ w3 S3 HE)
   have HXm:=hid (show X=if isT l0 q=true then F4 rdr (most - (acc ++ [t]).length) (acc ++ [t]) (b9 q) else d7 m7 q fun q => .ok (mkN 0 [] 0 (acc ++ [t]) 0,q) from HXn)
   have HC:=hid (fun h : isT l0 q=true => n5 h)
   generalize isT l0 q=b at C4 HXm HC
   clear hs hj hg C2 HXn HL2
   cases b
   ·have HX5:=hid (show X=d7 m7 q fun q => .ok (mkN 0 [] 0 (acc ++ [t]) 0,q) from HXm.out.trans (if_neg (by decide)))
    go_wp2_with fail
    (with_reducible refine Calls.mono C4.out ?_)
    rintro e w5 ⟨rfl,hs,hg⟩
    rw [if_neg (by decide)] at hs
    have C5:=hid (show Calls Tryz.prog 53 #[.pointer (some ⟨P,0,none⟩),.string ⟨#[41]⟩] w5 (eV P g cap ts nest m7 q w5) from V9 P g cap ts nest q ⟨#[41]⟩ m7 rfl w5 hs HE)
    have G5:=hid (G3.out.trans (Gx.of hg))
    have J5:=hid (HJ.out _ _ _ J3 hg)
    clear hs hg C4
    go_wp2_with fail
    (with_reducible refine Calls.mono C5.out ?_)
    rintro e w6 ⟨hg,hq⟩
    cases hw : isT m7 q
    ·obtain rfl:=hq.2 hw
     refine And.intro rfl ?_
     rw [HX5.out,Y8 hw]
     exact ⟨G5.out.trans (Gx.of hg),rfl⟩
    ·obtain ⟨rfl,hs⟩:=hq.1 hw
     have HX6:=hid (HX5.out.trans (O4 hw))
     have S6:=hid hs
     have G6:=hid (G5.out.trans (Gx.of hg))
     have J6:=hid (HJ.out _ _ _ J5 hg)
     clear hs hg hq hw
     go_wp2_with fail
     (first | (refine bodyPost_end (results_none rfl _ _ _) rfl ?_) | (refine bodyPost_ret (results_none rfl _ _ _) rfl ?_))
     rw [HX6.out]
     exact ⟨G6,rfl,S6,J6⟩
   ·have HX5:=hid (show X=F4 rdr (most - (acc ++ [t]).length) (acc ++ [t]) (b9 q) from HXm.out.trans (if_pos rfl))
    have HC':=hid (HC.out rfl)
    go_wp2_with fail
    (with_reducible refine Calls.mono C4.out ?_)
    rintro e w5 ⟨rfl,hs,hg⟩
    replace hs : SQ P g cap ts nest (b9 q) w5:=by simpa using hs
    have I5:=hid (show a4O P g cap ts nest bx B most J rdr l X w (acc ++ [t]) (b9 q) w5 from ⟨hs,HJ.out _ _ _ J3 hg,G3.out.trans (Gx.of hg),HX5,by have:=HC'.out; have:=HL3.out; have:=HI.out.2.2.2.2; omega⟩)
    clear hs hg C4
    go_wp2_with fail
    go_roundw
    case rel => exact ⟨acc ++ [t],b9 q,by rw [List.length_append]; rfl,by rw [List.length_append]; simp; omega,I5⟩
    case measure => simp [intOf]; omega
end
section
open Lib (hid)
open Go.RowKit
def sC (L : List Ent) : List Value:=L.flatMap trC
theorem a32 (L : List Ent) (e : Ent) : sC (L ++ [e])=sC L ++ trC e:=by unfold sC; simp
theorem a1F : ∀ (L : List Ent) (j : Nat) (hj : j<L.length) (i : Nat) (_ : i<6),(sC L)[j * 6 + i]?=(trC L[j])[i]?
 | e :: L,0,_,i,hi => by
   unfold sC
   rw [List.flatMap_cons,Nat.zero_mul,Nat.zero_add,List.getElem?_append_left (by exact hi)]
   rfl
 | e :: L,j + 1,hj,i,hi => by
   have:=a1F L j (by simpa using hj) i hi
   unfold sC at this ⊢
   rw [List.flatMap_cons,List.getElem?_append_right (by show 6≤_; omega)]
   rw [show (j + 1) * 6 + i - (trC e).length=j * 6 + i by show (j + 1) * 6 + i - 6=_; omega]
   exact this
theorem a7q (e : Ent) : ∀ u∈trC e,u.oneCell'=true:=by
 intro u hu
 unfold trC at hu
 rcases List.mem_append.1 hu with h | h
 ·exact pP e u h
 ·obtain rfl:=List.mem_singleton.1 h; rfl
theorem a0c (W : World) (T : TypeId) (v0 v1 v2 v3 v4 v5 : Value) : ∀ j u,[v0,v1,v2,v3,v4,v5][j]?=some u→(W.alloc (.cells #[v0,v1,v2,v3,v4,v5] T)).cell? ((⟨W.heap.size,0,none⟩ : Addr).add j)=some u:=by
 intro j u h
 rw [Go.WideShapes.add_plain,Nat.zero_add]
 have h' : (W.alloc (.cells #[v0,v1,v2,v3,v4,v5] T)).heap[W.heap.size]?=some (.cells #[v0,v1,v2,v3,v4,v5] T (0,0)):=by show (W.heap.push _)[W.heap.size]?=_; simp
 rw [World.cell?]
 simp only [h']
 match j,h with
 | 0,h => exact h
 | 1,h => exact h
 | 2,h => exact h
 | 3,h => exact h
 | 4,h => exact h
 | 5,h => exact h
theorem a4P {base T : Nat} {W : World} {g cp : Nat} {L : List Ent} (h : W.ownsRow base T 6 (.slice (some ⟨g,0,none⟩) L.length cp) L.length (sC L)) : lK W g 0 L:=by
 have hc:=h.cells (g:=g) rfl
 intro j hj
 have q : ∀ i,i<6→∀ u,(trC L[j])[i]?=some u→W.cell? ⟨g,0 + j * 6 + i,none⟩=some u:=fun i hi u hu => by
  have:=hc (j * 6 + i) u (by rw [a1F L j hj i hi]; exact hu)
  rw [Go.WideShapes.add_plain] at this
  rw [Nat.add_assoc]
  exact this
 exact ⟨q 0 (by decide) _ rfl,q 1 (by decide) _ rfl,q 2 (by decide) _ rfl,q 3 (by decide) _ rfl,q 4 (by decide) _ rfl,q 5 (by decide) _ rfl⟩
def mX (base kb pb P : Nat) (acc : List Nd) (W : World) : Prop:=W.cell? ⟨pb,0,none⟩=some (.pointer (some ⟨P,0,none⟩))∧base≤W.heap.size∧∃ (L : List Ent) (ao : Option Addr) (cp : Nat),L.map (·.1)=acc∧W.heap[kb]?=some (.cells #[.slice ao L.length cp] 114 (0,0)) ∧
 W.ownsRow base 50 6 (.slice ao L.length cp) L.length (sC L)∧∀ e∈L,c8 e.1≤100∧e.1.lies (fun c => base≤c∧c<W.heap.size∧(Value.slice ao L.length cp).ownBlock≠some c) W e.2.1 e.2.2
theorem mX.grown {base kb pb P : Nat} {acc : List Nd} {W W' : World} (h : mX base kb pb P acc W) (g : W.grownBy W' (some P)) (hP : P<base) (hk : kb≠P) (hp : pb≠P∧pb<base) : mX base kb pb P acc W':=by
 obtain ⟨h1,h2,L,ao,cp,h3,h4,h5,h6⟩:=h
 have hkb : kb<W.heap.size:=(Array.getElem?_eq_some_iff.1 h4).1
 refine ⟨(World.cell?_of_block (g.block pb (by omega) (fun e => hp.1 (Option.some.inj e)))).trans h1,Nat.le_trans h2 g.size,L,ao,cp,h3,(g.block kb hkb (fun e => hk (Option.some.inj e))).trans h4,h5.kept g ?_,fun e he => ?_⟩
 ·cases hv : (Value.slice ao L.length cp).ownBlock with
  | none => exact .inl rfl
  | some c => exact .inr (fun e => by have:=(h5.lt c hv).1; cases e; omega)
 ·obtain ⟨hd,hl⟩:=h6 e he
  exact ⟨hd,d5 hl (fun c hc => g.block c hc.2.1 (fun e => by have:=Option.some.inj e; have:=hc.1; omega)) fun c hc => ⟨hc.1,Nat.lt_of_lt_of_le hc.2.1 g.size,hc.2.2⟩⟩
theorem a0w (P g cap : Nat) (ts : List Tk) (nest base kb pb : Nat) (acc : List Nd) (r : List Tk) (w : World) (hn : nest≤300) (h : SQ P g cap ts nest r w) (hj : mX base kb pb P acc w) (ha : acc.length≤8) (hP : P<base∧g<base) (hk : kb≠P∧kb≠g∧kb<base) (hp : pb≠P∧pb<base∧pb≠kb)
 (hE : CQ 25 .expr P g cap ts r) : Calls Tryz.prog 222 #[.pointer (some ⟨kb,0,none⟩),.pointer (some ⟨pb,0,none⟩)] w (a5V P g cap ts nest kb base (mX base kb pb P) acc (rd .expr nest r) w):=by
 obtain ⟨i0,hi,hz0,hz1,hz2⟩:=info_parts (show (Tryz.prog.info? 50).map (fun i => (i.zero,i.size,i.bytes))=some (some (.agg #[.int .i64 0,.string ⟨#[]⟩,.int .i64 0,.slice none 0 0,.int .i64 0,.int .i64 0]),6,72) by kernel_rfl)
 have HI0:=hid (show _∧_∧_∧_ from ⟨hi,hz0,hz1,hz2⟩)
 clear hi hz0 hz1 hz2
 have BD:=hid (show Below w.heap.size w w.drew from z8 (Below.refl _ _))
 have HJ:=hid hj
 obtain ⟨q1,q2,L,ao,cp,q3,q4,q5,q6⟩:=hj
 have HL6:=hid q6
 have HO:=hid q5
 have HM:=hid q3
 have HK4:=hid q4
 have hLl : L.length≤8:=by rw [← q3,List.length_map] at ha; exact ha
 have hkc : w.cell? ⟨kb,0,none⟩=some (.slice ao L.length cp):=by simp [World.cell?,q4]
 have C1:=hid (hE nest w.drew hn (h.below BD))
 have HS:=hid h.blocks
 have HC0:=hid (show w.cell? ⟨kb,0,none⟩=some (.slice ao L.length cp)∧w.cell? ⟨pb,0,none⟩=some (.pointer (some ⟨P,0,none⟩)) from ⟨hkc,q1⟩)
 have hkw : kb<w.heap.size:=(Array.getElem?_eq_some_iff.1 q4).1
 generalize rd .expr nest r=x at C1 ⊢
 clear h hE q3 q4 q5 q6 hkc
 go_enter Tryz.func222,Tryz.ntmps222
 refine e8 (S:=(fun cur => cur.cell? ⟨kb,0,none⟩=some (.slice ao L.length cp)∧cur.cell? ⟨pb,0,none⟩=some (.pointer (some ⟨P,0,none⟩)))) (z:=5) (by kernel_rfl) ?_ (fun hHeld => ?_)
 ·exact HC0
 refine b7.t 0 ?_; refine b7.t 1 ?_
 refine b7.nx 2 fun K hK => ?_
 go_simp
 (with_reducible refine Calls.mono C1.out ?_)
 intro e w4 hq
 cases x with
 | error q =>
   obtain ⟨k0,p0⟩:=q
   obtain ⟨rfl,hg⟩:=hq
   refine And.intro rfl ?_
   exact ⟨Gx.of (b6 (b8 BD) hg),rfl⟩
 | ok q =>
 obtain ⟨t,q⟩:=q
 obtain ⟨a,c,rfl,hs,hg,hl,hdp⟩:=hq
 have S4:=hid hs
 have G4:=hid (show w.grownBy w4 (some P) from b6 (b8 BD) hg)
 have HL4:=hid (show t.lies (Fr w.heap.size w4.heap.size) w4 a c from hl)
 have HD4:=hid hdp
 have HK5:=hid (show w4.heap[kb]?=some (.cells #[.slice ao L.length cp] 114 (0,0)) from (G4.out.block kb hkw (fun e => hk.1 (Option.some.inj e))).trans HK4)
 have HC4:=hid (show w4.cell? ⟨kb,0,none⟩=some (.slice ao L.length cp)∧w4.cell? ⟨pb,0,none⟩=some (.pointer (some ⟨P,0,none⟩)) from
  ⟨(World.cell?_of_block (G4.out.block kb hkw (fun e => hk.1 (Option.some.inj e)))).trans HC0.out.1,(World.cell?_of_block (G4.out.block pb (by omega) (fun e => hp.1 (Option.some.inj e)))).trans HC0.out.2⟩)
 have HO4:=hid (show w4.ownsRow base 50 6 (.slice ao L.length cp) L.length (sC L) from HO.out.kept G4 (by
  cases hv : (Value.slice ao L.length cp).ownBlock with
  | none => exact .inl rfl
  | some c => exact .inr (fun e => by have:=(HO.out.lt c hv).1; cases e; omega)))
 have HOB:=hid (show ∀ d,(Value.slice ao L.length cp).ownBlock=some d→base≤d∧d<w.heap.size from fun d hd => HO.out.lt d hd)
 clear hs hg hl hdp C1
 unfold trV
 go_wp2_with fail
 refine hK.out _ _ ?_ (fun hHeld => ?_)
 ·exact HC4
 clear hK K
 try simp only [Act.put,c9,f8,f7]
 refine b7.nx 3 fun K hK => ?_
 go_simp
 obtain ⟨W5,hW5⟩ : ∃ W,W=w4.alloc (.cells #[.int .i64 t.kind,.string t.text,.int .i64 t.n,.slice a t.kids.length c,.int .i64 t.place,.int .i64 (c8 t)] 50):=⟨_,rfl⟩
 have B5:=hid (show Below w4.heap.size w4 W5 from hW5 ▸ c6 _ _)
 have N5:=hid (show ∀ i u,(trC (t,a,c))[i]?=some u→W5.cell? ((⟨w4.heap.size,0,none⟩ : Addr).add i)=some u from hW5 ▸ a0c _ _ _ _ _ _ _ _)
 have O5:=hid (show W5.ownsRow base 50 6 (.slice ao L.length cp) L.length (sC L) from n7 HO4 B5)
 have hz5:=hid (show W5.heap.size=w4.heap.size + 1 by rw [hW5]; simp)
 have HK6:=hid (show W5.heap[kb]?=some (.cells #[.slice ao L.length cp] 114 (0,0)) from (B5.out.block kb (by have:=G4.out.size; omega)).trans HK5)
 have HC5:=hid (show W5.cell? ⟨kb,0,none⟩=some (.slice ao L.length cp)∧W5.cell? ⟨pb,0,none⟩=some (.pointer (some ⟨P,0,none⟩)) from
  ⟨(B5.out.cell (p:=⟨kb,0,none⟩) (by show kb<w4.heap.size; have:=G4.out.size; omega)).trans HC4.out.1,(B5.out.cell (p:=⟨pb,0,none⟩) (by show pb<w4.heap.size; have:=G4.out.size; omega)).trans HC4.out.2⟩)
 have HF:=hid (show ∀ w6,W5.grownBy w6 (Value.slice ao L.length cp).ownBlock→w6.heap[kb]?=some (.cells #[.slice ao L.length cp] 114 (0,0))∧(w6.cell? ⟨kb,0,none⟩=some (.slice ao L.length cp)∧w6.cell? ⟨pb,0,none⟩=some (.pointer (some ⟨P,0,none⟩))) from fun w6 hg6 => by
  have h1 : ∀ d,d<base→w6.heap[d]?=W5.heap[d]?:=fun d hd => hg6.block d (by have:=G4.out.size; have:=hz5.out; omega) (fun e => by have:=(HOB.out d e.symm).1; omega)
  exact ⟨(h1 kb hk.2.2).trans HK6,(World.cell?_of_block (h1 kb hk.2.2)).trans HC5.out.1,(World.cell?_of_block (h1 pb hp.2.1)).trans HC5.out.2⟩)
 rw [← hW5]
 clear hW5
 refine hK.out _ _ ?_ (fun hHeld => ?_)
 ·exact HC5
 clear hK K
 try simp only [Act.put,c9,f8,f7]
 refine b7.nx 4 fun K hK => ?_
 refine step_append_lies _ rfl _ _ 114 rfl base 50 i0 (.agg #[.int .i64 0,.string ⟨#[]⟩,.int .i64 0,.slice none 0 0,.int .i64 0,.int .i64 0]) 6 72 Tryz.underlying114 HI0.out.1 HI0.out.2.1 HI0.out.2.2.1 HI0.out.2.2.2 rfl (by decide) _ _ _ rfl O5 ⟨w4.heap.size,0,none⟩ 1 1 (trC (t,a,c)) rfl rfl N5 (a7q _) (by decide) (by unfold maxLen; omega) (by omega) (by have:=G4.out.size; have:=hz5.out; omega) _ rfl ?_
 intro gb cap' w6 hown' hgrow' hat hltg
 have X6:=hid (HF.out w6 hgrow')
 have HO6:=hid hown'
 have HG6:=hid hgrow'
 have HAT:=hid hat
 clear hown' hgrow' hat
 refine hK.out _ _ ?_ (fun hHeld => ?_)
 ·exact X6.out.2
 clear hK K
 try simp only [Act.put,c9,f8,f7]
 have hk6:=X6.out.2.1
 have hf6 : w6.frozen? ⟨kb,0,none⟩=false:=by simp [World.frozen?,X6.out.1]
 have hkl : kb<w6.heap.size:=(Array.getElem?_eq_some_iff.1 X6.out.1).1
 refine b7.la fun K hK => ?_
 go_simp
 refine hK.out _ _ ?_
 clear hK K
 go_wp2_with fail
 (first | (refine bodyPost_end (results_none rfl _ _ _) rfl ?_) | (refine bodyPost_ret (results_none rfl _ _ _) rfl ?_))
 have h4:=G4.out.size
 have h5:=hz5.out
 have h6:=HG6.out.size
 have h1 : ∀ d,d<w4.heap.size→(Value.slice ao L.length cp).ownBlock≠some d→w6.heap[d]?=w4.heap[d]?:=fun d hd hne => (HG6.out.block d (by omega) (fun e => hne e.symm)).trans (B5.out.block d hd)
 have hlow : ∀ d,d<base→(Value.slice ao L.length cp).ownBlock≠some d:=fun d hd e => by have:=(HOB.out d e).1; omega
 have hset : ∀ d,d≠kb→(w6.setCell ⟨kb,0,none⟩ (.slice (some ⟨gb,0,none⟩) (L.length + 1) cap')).heap[d]?=w6.heap[d]?:=fun d hd => Below.heap_setCell _ _ _ _ hd
 have hgb:=HO6.out.lt gb rfl
 have hgbk : gb≠kb:=by omega
 have hold : (Value.slice ao L.length cp).ownBlock=some gb∨gb=W5.heap.size:=HAT.out
 have hgb2 : ∀ c,c<w4.heap.size→(Value.slice ao L.length cp).ownBlock≠some c→c≠gb:=fun c hc hne e => by
  subst e
  rcases hold with e | e
  ·exact hne e
  ·omega
 refine ⟨⟨HG6.out.os.trans (B5.out.os.trans G4.out.os),HG6.out.tape.trans (B5.out.tape.trans G4.out.tape),HG6.out.output.trans (B5.out.output.trans G4.out.output),by simp [World.setCell]; omega,fun d hdB hdw hdP hdk => (hset d hdk).trans ((h1 d (by omega) (hlow d hdB)).trans (G4.out.block d hdw (fun e => hdP (Option.some.inj e))))⟩,rfl,?_,?_⟩
 ·refine S4.out.keeps (fun d hd => ?_) (by simp [World.setCell]; omega)
  have hb:=S4.out.blocks
  rcases hd with rfl | rfl
  ·exact (hset _ (fun e => hk.1 e.symm)).trans (h1 _ (by omega) (hlow _ hP.1))
  ·exact (hset _ (fun e => hk.2.1 e.symm)).trans (h1 _ (by omega) (hlow _ hP.2))
 ·refine ⟨(World.cell?_of_block (hset pb hp.2.2)).trans X6.out.2.2,by simp [World.setCell]; omega,L ++ [(t,a,c)],some ⟨gb,0,none⟩,cap',by rw [List.map_append,HM.out]; rfl,?_,?_,fun e he => ?_⟩
  ·rw [show (L ++ [(t,a,c)]).length=L.length + 1 by simp]
   exact l3 X6.out.1 0 _
  ·rw [a32,show (L ++ [(t,a,c)]).length=L.length + 1 by simp]
   exact HO6.out.kept (e9 w6 kb 0 _) (.inr (fun e => hgbk (Option.some.inj e)))
  ·have key : ∀ {av : Nat→Prop} {u : Nd} {ua : Option Addr} {uc : Nat},u.lies av w4 ua uc→(∀ d,av d→base≤d∧d<w4.heap.size∧(Value.slice ao L.length cp).ownBlock≠some d)→u.lies (fun d => base≤d∧d<(w6.setCell ⟨kb,0,none⟩ (.slice (some ⟨gb,0,none⟩) (L.length + 1) cap')).heap.size∧(Value.slice (some ⟨gb,0,none⟩) (L ++ [(t,a,c)]).length cap').ownBlock≠some d) (w6.setCell ⟨kb,0,none⟩ (.slice (some ⟨gb,0,none⟩) (L.length + 1) cap')) ua uc:=fun hl hav =>
    d5 hl (fun d hd => (hset d (by have:=(hav d hd).1; omega)).trans (h1 d (hav d hd).2.1 (hav d hd).2.2)) fun d hd => ⟨(hav d hd).1,by simp [World.setCell]; have:=(hav d hd).2.1; omega,fun e => hgb2 d (hav d hd).2.1 (hav d hd).2.2 (Option.some.inj e).symm⟩
   rcases List.mem_append.1 he with he | he
   ·obtain ⟨hd1,hl1⟩:=HL6.out e he
    exact ⟨hd1,key (d5 hl1 (fun d hd => G4.out.block d hd.2.1 (fun e => by have:=Option.some.inj e; have:=hd.1; omega)) fun d hd => hd) fun d hd => ⟨hd.1,by have:=hd.2.1; omega,hd.2.2⟩⟩
   ·obtain rfl:=List.mem_singleton.1 he
    exact ⟨HD4,key HL4 fun d hd => ⟨by have:=hd.1; omega,hd.2,fun e => by have:=(HOB.out d e).2; have:=hd.1; omega⟩⟩
end
section
open Lib (hid)
open Go.RowKit
def tL (nest : Nat) (l : List Tk) : Rd:=if isT o7 (b9 l)=true then (rd (.args []) nest (b9 (b9 l))).then fun a r => made (mkN 11 (hd l).text 0 a.kids (hd l).pos) r
 else .ok (mkN 10 (hd l).text 0 [] (hd l).pos,b9 l)
theorem lT {rdr : List Tk→Rd} : ∀ (f : Nat) (acc : List Nd) (l : List Tk) (u : Nd) (q : List Tk),F4 rdr f acc l=.ok (u,q)→u.kids.length≤acc.length + f
 | 0,_,_,_,_,h => by rw [F4] at h; cases h
 | f + 1,acc,l,u,q,h => by
   rw [F4] at h
   cases hx : rdr l with
   | error e => rw [hx] at h; cases h
   | ok p =>
     obtain ⟨t,r⟩:=p
     rw [hx] at h
     replace h : (if isT l0 r=true then F4 rdr f (acc ++ [t]) (b9 r) else d7 m7 r fun r => .ok (mkN 0 [] 0 (acc ++ [t]) 0,r))=.ok (u,q):=h
     split at h
     ·have:=lT f _ _ _ _ h
      rw [List.length_append] at this
      simp at this; omega
     ·unfold d7 at h
      split at h
      ·cases h
       show (acc ++ [t]).length≤_
       rw [List.length_append]; simp
      ·cases h
theorem a26 (P g cap : Nat) (ts : List Tk) (he : y6 ts) (htk : ∀ t∈ts,z7 t) (nest : Nat) (l : List Tk) (w : World) (hn : nest≤300) (h : SQ P g cap ts nest l w) (hk0 : (hd l).kind≠0) (hE : ∀ r,r.length<l.length→CQ 25 .expr P g cap ts r) :
 Calls Tryz.prog 219 #[.pointer (some ⟨P,0,none⟩)] w (QP P g cap ts nest (tL nest l) w):=by
 have hln:=cA (l:=l) rfl hk0
 have HT0:=hid (htk _ h.mem)
 have HB:=hid h.blocks
 obtain ⟨X,hX⟩ : ∃ X,X=tL nest l:=⟨_,rfl⟩
 rw [← hX]
 rw [show tL nest l=if isT o7 (b9 l)=true then (rd (.args []) nest (b9 (b9 l))).then fun a r => made (mkN 11 (hd l).text 0 a.kids (hd l).pos) r else .ok (mkN 10 (hd l).text 0 [] (hd l).pos,b9 l) from rfl] at hX
 obtain ⟨W1,hW1⟩ : ∃ W,W=w.alloc (.cells #[.pointer (some ⟨P,0,none⟩)] 48):=⟨_,rfl⟩
 have B1:=hid (show Below w.heap.size w W1 from hW1 ▸ c6 _ _)
 have hz1:=hid (show W1.heap.size=w.heap.size + 1 by rw [hW1]; simp)
 have hp1:=hid (show W1.cell? ⟨w.heap.size,0,none⟩=some (.pointer (some ⟨P,0,none⟩)) by rw [hW1]; simp)
 obtain ⟨W2,hW2⟩ : ∃ W,W=W1.alloc (.cells #[.int .i64 0,.string ⟨#[]⟩,.int .i64 0,.slice none 0 0,.int .i64 0,.int .i64 0] 50):=⟨_,rfl⟩
 have B2':=hid (show Below W1.heap.size W1 W2 from hW2 ▸ c6 _ _)
 have B2:=hid (B1.out.trans (B2'.out.mono B1.out.size))
 have hz2:=hid (show W2.heap.size=w.heap.size + 2 by rw [hW2]; simp [hz1.out])
 have Z2:=hid (show T6 (w.heap.size + 1) 0 ⟨#[]⟩ 0 none 0 0 0 0 W2 from hW2 ▸ (show w.heap.size + 1=W1.heap.size by rw [hz1.out]) ▸ T6.make W1 _ _ _ _ _ _ _ _)
 have hpc:=(B2'.out.cell (p:=⟨w.heap.size,0,none⟩) (by show w.heap.size<W1.heap.size; rw [hz1.out]; omega)).trans hp1
 have HPC:=hid hpc
 have C1:=hid (dP P g cap ts nest l W2 (h.below B2) he)
 have HE:=hid he
 have HEx:=hid hE
 have HLn:=hid hln
 generalize hd l=T at C1 hX HT0
 have HX:=hid hX
 clear h he htk hE hX hln hk0
 go_enter Tryz.func219,Tryz.ntmps219
 go_upto_region 1 with fail
 rw [← hW1,← hW2]
 clear hW1 hW2
 go_wp2_with fail
 (with_reducible refine Calls.mono C1.out ?_)
 rintro e w3 ⟨rfl,hs,hg⟩
 have hsz3:=hid (show w.heap.size + 2≤w3.heap.size by have:=hg.size; have:=hz2.out; omega)
 have G3:=hid (b6 (b8 B2) hg)
 have Z3:=hid (Z2.out.grown hg (fun e => by have:=Option.some.inj e; have:=HB.out; omega))
 have HP3:=hid (show w3.cell? ⟨w.heap.size,0,none⟩=some (.pointer (some ⟨P,0,none⟩)) from (World.cell?_of_block (hg.block w.heap.size (by have:=hz2.out; omega) (fun e => by have:=Option.some.inj e; have:=HB.out; omega))).trans HPC)
 have S3:=hid hs
 clear hs hg C1 hpc
 unfold tkV
 obtain ⟨W4,hW4⟩ : ∃ W,W=w3.alloc (.cells #[.int .i64 T.kind,.string ⟨T.text.toArray⟩,.int .i64 T.n,.int .i64 T.pos] 79):=⟨_,rfl⟩
 have B4:=hid (show Below w3.heap.size w3 W4 from hW4 ▸ c6 _ _)
 have hz4:=hid (show W4.heap.size=w3.heap.size + 1 by rw [hW4]; simp)
 have Q4:=hid (show QT w3.heap.size T W4 from hW4 ▸ QT.make w3 T)
 obtain ⟨⟨t0,t1,t2,t3⟩,-⟩:=Q4.out.cells
 have htl:=Q4.out.lt
 go_upto_region 2 with fail
 rw [← hW4]
 clear hW4
 obtain ⟨W5,hW5⟩ : ∃ W,W=W4.alloc (.cells #[.int .i64 10,.string ⟨T.text.toArray⟩,.int .i64 0,.slice none 0 0,.int .i64 T.pos] 24):=⟨_,rfl⟩
 have B5:=hid (show Below W4.heap.size W4 W5 from hW5 ▸ c6 _ _)
 have hz5:=hid (show W5.heap.size=W4.heap.size + 1 by rw [hW5]; simp)
 have N5:=hid (show f6 W4.heap.size (.mk 10 ⟨T.text.toArray⟩ 0 [] T.pos) none 0 W5 from hW5 ▸ f6.make W4 (.mk 10 ⟨T.text.toArray⟩ 0 [] T.pos) none 0)
 go_upto_region 3 with fail
 rw [← hW5]
 clear hW5 t0 t1 t2 t3 htl
 obtain ⟨W6,hW6⟩ : ∃ W,W=W5.alloc (.cells #[.slice none 0 0] 114):=⟨_,rfl⟩
 have B6:=hid (show Below W5.heap.size W5 W6 from hW6 ▸ c6 _ _)
 have hz6:=hid (show W6.heap.size=W5.heap.size + 1 by rw [hW6]; simp)
 have K6:=hid (show W6.heap[W5.heap.size]?=some (.cells #[.slice none 0 0] 114 (0,0)) by rw [hW6]; show (W5.heap.push _)[W5.heap.size]?=_; simp)
 have B36:=hid (show Below w3.heap.size w3 W6 from B4.out.trans ((B5.out.trans (B6.out.mono B5.out.size)).mono B4.out.size))
 have N6:=hid (N5.out.below B6)
 have Z6:=hid (Z3.out.below B36)
 have S6:=hid (S3.out.below B36)
 have G6:=hid (b6 G3 (b8 B36))
 have hp6 : W6.cell? ⟨w.heap.size,0,none⟩=some (.pointer (some ⟨P,0,none⟩)):=(B36.out.cell (p:=⟨w.heap.size,0,none⟩) (by show w.heap.size<w3.heap.size; have:=hsz3.out; omega)).trans HP3
 have HP6:=hid hp6
 have C6:=hid (show Calls Tryz.prog 50 #[.pointer (some ⟨P,0,none⟩),.string ⟨#[40]⟩] W6 (fun e w' => e=.returned (.bool (isT o7 (b9 l)))∧Below W6.heap.size W6 w') from aV P g cap ts nest (b9 l) ⟨#[40]⟩ W6 S6)
 have hbp : w.heap.size<W6.heap.size:=by have:=hsz3.out; have:=hz4.out; have:=hz5.out; have:=hz6.out; omega
 go_upto_region 4 with fail
 rw [← hW6]
 clear hW6
 cases hb : isT o7 (b9 l)
 case false =>
  rw [hb] at C6
  have HX':=hid (show X=.ok (mkN 10 T.text 0 [] T.pos,b9 l) by rw [HX.out,if_neg (by rw [hb]; decide)])
  clear hb
  go_wp2_with fail
  (with_reducible refine Calls.mono C6.out ?_)
  rintro e w8 ⟨rfl,hb⟩
  have B8:=hid hb
  have N8:=hid (N6.out.below hb)
  have Z8:=hid (Z6.out.below hb)
  have S8:=hid (S6.out.below hb)
  have G8:=hid (b6 G6 (b8 hb))
  have hz8:=hid (show w.heap.size + 1<w8.heap.size from Z8.out.lt)
  have hp8:=(hb.cell (p:=⟨w.heap.size,0,none⟩) hbp).trans HP6
  have hk8 : w8.cell? ⟨W5.heap.size,0,none⟩=some (.slice none 0 0):=(World.cell?_of_block (hb.block W5.heap.size (by rw [hz6.out]; omega))).trans (by simp [World.cell?,K6.out])
  obtain ⟨⟨n0,n1,n2,n3,n4⟩,-⟩:=N8.out.cells
  have hn8:=N8.out.lt
  simp only [Nd.kind,Nd.text,Nd.n,Nd.kids,Nd.place,List.length_nil] at n0 n1 n2 n3 n4
  have hbl8:=hb.size
  obtain ⟨L,hL⟩ : ∃ L : List Ent,L=[]:=⟨_,rfl⟩
  obtain ⟨q,hq⟩ : ∃ q,q=b9 l:=⟨_,rfl⟩
  have C9:=hid (show Calls Tryz.prog 54 #[.pointer (some ⟨P,0,none⟩),.agg #[.int .i64 10,.string ⟨T.text.toArray⟩,.int .i64 0,.slice none 0 0,.int .i64 T.pos],.slice none 0 0] w8 (gR 10 T.text 0 T.pos L w8) by
   subst hL
   exact aO P 10 T.text 0 T.pos none 0 [] w8 (by decide) (fun h => absurd rfl h) (fun e he => (by cases he)))
  have HXm:=hid (show X=made (mkN 10 T.text 0 (L.map (·.1)) T.pos) q by
   rw [HX'.out,hL,hq]
   exact (cS (by show c8 (mkN 10 T.text 0 [] T.pos)≤100; unfold mkN; rw [c8,i7]; decide)).symm)
  have HLL:=hid (show ∀ e∈L,e.1.lies (fun c => w.heap.size + 1<c∧c<w8.heap.size) w8 e.2.1 e.2.2 from fun e he => by rw [hL] at he; cases he)
  rw [← hq] at S8
  clear hb C6 hL hq
  go_wp2_with fail
  (with_reducible refine Calls.mono C9.out ?_)
  intro e wy hm
  have HMR:=hid (show jL (made (mkN 10 T.text 0 (L.map (·.1)) T.pos) q) (fun c => w.heap.size + 1<c∧c<w8.heap.size) w8 e wy from
   hm.use rfl (by have:=HT0.out.2.2; omega) rfl HT0.out.2.1 (fun c hc => hc.2) HLL q)
  clear hm C9
  obtain ⟨hb8,hm⟩:=HMR.out
  have By:=hid hb8
  cases hmd : made (mkN 10 T.text 0 (L.map (·.1)) T.pos) q with
  | error z =>
    obtain ⟨k0,p0⟩:=z
    rw [hmd] at hm
    obtain rfl:=hm
    refine And.intro rfl ?_
    rw [HXm.out,hmd]
    exact ⟨rfl,b6 G8 (b8 By)⟩
  | ok z =>
  obtain ⟨t4,q2⟩:=z
  have hq2 : q2=q:=dU hmd
  subst hq2
  rw [hmd] at hm
  obtain ⟨a4,c4,rfl,hl3,hd3⟩:=hm
  have HMD:=hid hmd
  have HL4:=hid hl3
  have HD4:=hid hd3
  have Zy:=hid (Z8.out.below By)
  obtain ⟨⟨z0,z1,z2,z3,z4,z5⟩,⟨f0,f1,f2,f3,f4,f5⟩⟩:=Zy.out.cells
  have hzl:=Zy.out.lt
  clear hmd hl3 hd3 hb8
  unfold trV
  go_wp2_with fail
  refine bodyPost_ret (v:=trV t4 a4 c4) (by simp [results,Tryz.results219,go_sem,trV,z0,z1,z2,z3,z4,z5]) rfl ?_
  rw [HXm.out,HMD.out]
  have h2:=By.out.size
  have hb:=HB.out
  have h4:=G8.out.size
  have h5:=hz8.out
  exact QP.fin (S8.out.below By) (b6 G8 (b8 By)) (by omega) (by omega) HL4 (fun c hc => by
   rcases hc with hc | hc
   ·have:=hc.1; have:=hc.2; omega
   ·have:=hc.1; have:=hc.2; omega) HD4
 case true =>
 rw [hb] at C6
 have HX':=hid (show X=(F4 (rd .expr nest) 8 [] (b9 (b9 l))).then fun a r => made (mkN 11 T.text 0 a.kids T.pos) r by rw [HX.out,if_pos hb,uH nest 8 [] _ rfl])
 have HO:=hid hb
 clear hb
 go_wp2_with fail
 (with_reducible refine Calls.mono C6.out ?_)
 rintro e w7 ⟨rfl,hb⟩
 have B7:=hid hb
 have N7:=hid (N6.out.below hb)
 have Z7:=hid (Z6.out.below hb)
 have S7:=hid (S6.out.below hb)
 have G7:=hid (b6 G6 (b8 hb))
 have hp7:=(hb.cell (p:=⟨w.heap.size,0,none⟩) hbp).trans HP6
 have HK7:=hid (show w7.heap[W5.heap.size]?=some (.cells #[.slice none 0 0] 114 (0,0)) from (hb.block W5.heap.size (by rw [hz6.out]; omega)).trans K6)
 have hz7:=hid (show W6.heap.size≤w7.heap.size from hb.size)
 obtain ⟨⟨n0,n1,n2,n3,n4⟩,⟨m0,m1,m2,m3,m4⟩⟩:=N7.out.cells
 have hn7:=N7.out.lt
 simp only [Nd.kind,Nd.text,Nd.n,Nd.kids,Nd.place,List.length_nil] at n0 n1 n2 n3 n4
 have N8':=hid (show f6 W4.heap.size (.mk 11 ⟨T.text.toArray⟩ 0 [] T.pos) none 0 (w7.setCell ⟨W4.heap.size,0,none⟩ (.int .i64 11)) from
  l3 (show w7.heap[W4.heap.size]?=some (.cells #[.int .i64 10,.string ⟨T.text.toArray⟩,.int .i64 0,.slice none 0 0,.int .i64 T.pos] 24 (0,0)) from N7) 0 _)
 obtain ⟨Wl,hWl⟩ : ∃ W,W=w7.setCell ⟨W4.heap.size,0,none⟩ (.int .i64 11):=⟨_,rfl⟩
 have hsl:=hid (show Wl.heap.size=w7.heap.size by rw [hWl]; simp [World.setCell])
 have HBk:=hid (show ∀ d,d≠W4.heap.size→Wl.heap[d]?=w7.heap[d]? from fun d hd => hWl ▸ Below.heap_setCell _ _ _ _ hd)
 have Nl:=hid (show f6 W4.heap.size (.mk 11 ⟨T.text.toArray⟩ 0 [] T.pos) none 0 Wl from hWl ▸ N8'.out)
 have hnum:=hid (show P<w.heap.size∧g<w.heap.size∧w.heap.size + 2≤w3.heap.size∧W4.heap.size=w3.heap.size + 1∧W5.heap.size=W4.heap.size + 1∧W6.heap.size=W5.heap.size + 1∧W6.heap.size≤w7.heap.size from ⟨HB.out.1,HB.out.2.1,hsz3,hz4,hz5,hz6,hz7⟩)
 have Gl:=hid (show w.grownBy Wl (some P) from eA G7 (hWl ▸ e9 w7 W4.heap.size 0 _) (by have:=hnum.out; omega))
 have Sl:=hid (show SQ P g cap ts nest (b9 l) Wl from hWl ▸ S7.out.set_other (by have:=hnum.out; omega) (by have:=hnum.out; omega) 0 _)
 have Zl:=hid (show T6 (w.heap.size + 1) 0 ⟨#[]⟩ 0 none 0 0 0 0 Wl from (HBk.out _ (by have:=hnum.out; omega)).trans Z7)
 have hpl' : Wl.cell? ⟨w.heap.size,0,none⟩=some (.pointer (some ⟨P,0,none⟩)):=(World.cell?_of_block (HBk.out w.heap.size (by have:=hnum.out; omega))).trans hp7
 have HPl:=hid hpl'
 have Jl:=hid (show mX Wl.heap.size W5.heap.size w.heap.size P [] Wl from ⟨hpl',Nat.le_refl _,[],none,0,rfl,(HBk.out _ (by have:=hnum.out; omega)).trans HK7,World.ownsRow_nil _ _ _ _,fun e he => (by cases he)⟩)
 have eg : m9 222:=enters_of Tryz.func222 (by kernel_rfl) rfl
 have C7:=hid (show Calls Tryz.prog 97 #[.pointer (some ⟨P,0,none⟩),.int .i64 8,.func (.func 222) #[] #[.pointer (some ⟨W5.heap.size,0,none⟩),.pointer (some ⟨w.heap.size,0,none⟩)]] Wl (a5w P g cap ts nest W5.heap.size Wl.heap.size (mX Wl.heap.size W5.heap.size w.heap.size P) (F4 (rd .expr nest) 8 [] (b9 (b9 l))) Wl) from by
  have hnm:=hnum.out
  have hsl':=hsl.out
  have hln:=HLn.out
  exact uA P g cap ts HE nest (b9 l) 8 (by decide) 222 _ (rd .expr nest) W5.heap.size Wl.heap.size (mX Wl.heap.size W5.heap.size w.heap.size P) Wl eg
   (fun acc W W' hj hg => hj.grown hg (by omega) (by omega) (by omega)) (fun r t q h => bC .expr nest r h)
   (fun acc r W hr ha hj hs hgx => a0w P g cap ts nest Wl.heap.size W5.heap.size w.heap.size acc r W hn hs hj (by omega) (by omega) (by omega) (by omega) (HEx.out r (by omega))) Sl Jl HO)
 have HLR:=hid (fun u q (h : F4 (rd .expr nest) 8 [] (b9 (b9 l))=.ok (u,q)) => lT 8 [] _ u q h)
 generalize F4 (rd .expr nest) 8 [] (b9 (b9 l))=x at C7 HX' HLR
 go_upto_region 6 with fail
 rw [← hWl]
 clear hWl hp7 n0 n1 n2 n3 n4 m0 m1 m2 m3 m4 hn7 hb C6 hp6 hpl' eg
 have hpl:=HPl.out
 go_wp2_with fail
 (with_reducible refine Calls.mono C7.out ?_)
 intro e w8 hq
 obtain ⟨hgx,hq⟩:=hq
 have GX:=hid hgx
 have G8:=hid (show w.grownBy w8 (some P) from hgx.grown Gl (by have:=hnum.out; omega) (by have:=hnum.out; have:=hsl.out; omega))
 cases x with
 | error q =>
   obtain ⟨k,p⟩:=q
   obtain rfl:=hq
   refine And.intro rfl ?_
   rw [HX'.out]
   exact ⟨rfl,G8⟩
 | ok q =>
 obtain ⟨u,q⟩:=q
 obtain ⟨rfl,hs,hj⟩:=hq
 have S8:=hid hs
 obtain ⟨j1,j2,L,ao,cp,j3,j4,j5,j6⟩:=hj
 have HLl:=hid (show L.length≤8 by have:=HLR.out u q rfl; rw [← j3,List.length_map] at this; exact this)
 have N8:=hid (show f6 W4.heap.size (.mk 11 ⟨T.text.toArray⟩ 0 [] T.pos) none 0 w8 from (hgx.block _ (by have:=hnum.out; have:=hsl.out; omega) (by have:=hnum.out; have:=hsl.out; omega) (by have:=hnum.out; omega) (by have:=hnum.out; omega)).trans Nl)
 have Z8:=hid (show T6 (w.heap.size + 1) 0 ⟨#[]⟩ 0 none 0 0 0 0 w8 from (hgx.block _ (by have:=hnum.out; have:=hsl.out; omega) (by have:=hnum.out; have:=hsl.out; omega) (by have:=hnum.out; omega) (by have:=hnum.out; omega)).trans Zl)
 have hz8:=hid (show w.heap.size + 1<w8.heap.size from Z8.out.lt)
 have HJ3:=hid j3
 have hk8 : w8.cell? ⟨W5.heap.size,0,none⟩=some (.slice ao L.length cp):=by simp [World.cell?,j4]
 obtain ⟨⟨n0,n1,n2,n3,n4⟩,-⟩:=N8.out.cells
 have hn8:=N8.out.lt
 simp only [Nd.kind,Nd.text,Nd.n,Nd.kids,Nd.place,List.length_nil] at n0 n1 n2 n3 n4
 have C9:=hid (show Calls Tryz.prog 54 #[.pointer (some ⟨P,0,none⟩),.agg #[.int .i64 11,.string ⟨T.text.toArray⟩,.int .i64 0,.slice none 0 0,.int .i64 T.pos],.slice ao L.length cp] w8 (gR 11 T.text 0 T.pos L w8) from
  aO P 11 T.text 0 T.pos ao cp L w8 HLl (fun hne => by
   obtain ⟨g',c',e',hb',hl'⟩:=j5.form (by have:=List.length_pos_iff.2 hne; omega)
   obtain ⟨rfl,-,rfl⟩:=Value.slice.inj e'
   exact ⟨g',0,rfl,hl',a4P j5⟩) fun e he => (j6 e he).1)
 have HXm:=hid (show X=made (mkN 11 T.text 0 (L.map (·.1)) T.pos) q by rw [HX'.out,HJ3.out]; rfl)
 have HLL:=hid (show ∀ e∈L,e.1.lies (fun c => w.heap.size + 1<c∧c<w8.heap.size) w8 e.2.1 e.2.2 from fun e he => d5 (j6 e he).2 (j7.refl _ _) fun c hc => ⟨by have:=hc.1; have:=hnum.out; have:=hsl.out; omega,hc.2.1⟩)
 clear hs j2 j3 j4 j5 j6 hgx C7 hpl
 go_wp2_with fail
 (with_reducible refine Calls.mono C9.out ?_)
 intro e wy hm
 have HMR:=hid (show jL (made (mkN 11 T.text 0 (L.map (·.1)) T.pos) q) (fun c => w.heap.size + 1<c∧c<w8.heap.size) w8 e wy from
  hm.use rfl (by have:=HT0.out.2.2; omega) rfl HT0.out.2.1 (fun c hc => hc.2) HLL q)
 clear hm C9
 obtain ⟨hb8,hm⟩:=HMR.out
 have By:=hid hb8
 cases hmd : made (mkN 11 T.text 0 (L.map (·.1)) T.pos) q with
 | error z =>
   obtain ⟨k0,p0⟩:=z
   rw [hmd] at hm
   obtain rfl:=hm
   refine And.intro rfl ?_
   rw [HXm.out,hmd]
   exact ⟨rfl,b6 G8 (b8 By)⟩
 | ok z =>
 obtain ⟨t4,q2⟩:=z
 have hq2 : q2=q:=dU hmd
 subst hq2
 rw [hmd] at hm
 obtain ⟨a4,c4,rfl,hl3,hd3⟩:=hm
 have HMD:=hid hmd
 have HL4:=hid hl3
 have HD4:=hid hd3
 have Zy:=hid (Z8.out.below By)
 obtain ⟨⟨z0,z1,z2,z3,z4,z5⟩,⟨f0,f1,f2,f3,f4,f5⟩⟩:=Zy.out.cells
 have hzl:=Zy.out.lt
 clear hmd hl3 hd3 hb8
 unfold trV
 go_wp2_with fail
 refine bodyPost_ret (v:=trV t4 a4 c4) (by simp [results,Tryz.results219,go_sem,trV,z0,z1,z2,z3,z4,z5]) rfl ?_
 rw [HXm.out,HMD.out]
 have h2:=By.out.size
 have hb:=HB.out
 have h4:=G8.out.size
 have h5:=hz8.out
 exact QP.fin (S8.out.below By) (b6 G8 (b8 By)) (by omega) (by omega) HL4 (fun c hc => by
  rcases hc with hc | hc
  ·have:=hc.1; have:=hc.2; omega
  ·have:=hc.1; have:=hc.2; omega) HD4
end
end Go.Proofs.YtibiccacafjjfaaGreatDoor
