/-
  Laws that the proof rests on.
-/
import Derived.Test.YtibiccacafjjfaaGreatDoorB29
import Derived.Test.YtibiccacafjjfaaGreatDoorB22
import Derived.Test.YtibiccacafjjfaaGreatDoorB08
import Derived.Test.YtibiccacafjjfaaGreatDoorB03
import Derived.Test.YtibiccacafjjfaaGreatDoorB16
import Derived.Deep.DeepHandedRow
import Derived.Lay
import Derived.Lib.SlBytesConst
import Derived.Test.YtibiccacafjjfaaGreatDoorB27
import Derived.Deep.QuietTactic
import Derived.BigQuiet
namespace Go.Proofs.YtibiccacafjjfaaGreatDoor
set_option maxRecDepth 100000
set_option maxHeartbeats 16000000
section
open Lib (hid)
open Go.RowKit
theorem uC {t : Nd} {a : Option Addr} {cp : Nat} {f k : Int} {x : Except (Int × Int) Nd} {w W1 W2 : World} (hx : match x with
 | .ok u => u=t∧f=0∧k=0∧t.lies (Fr W1.heap.size W2.heap.size) W2 a cp
 | .error (c,p) => k=c∧f=p∧t=nd0∧a=none∧cp=0) (hb : Below w.heap.size w W2) (hlt : w.heap.size < W1.heap.size) :
 mP x w (.returned (.tuple #[t.val a cp,.int .i64 f,.int .i64 k])) (V6 W2 w.heap.size t a cp):=by
 refine ⟨t,a,cp,f,k,rfl,L5 (P:=w.heap.size) (r7 (b8 hb) (Nat.le_refl _) t a cp) (Nat.le_refl _),?_⟩
 match x,hx with
 | .ok u,hx =>
   refine ⟨hx.1,hx.2.1,hx.2.2.1,d5 hx.2.2.2 ((j0.refl _ _).put (fun k hk e => by have:=hk.1; omega) t a cp) fun k hk => ⟨by have:=hk.1; omega,?_⟩⟩
   rw [L8]
   exact hk.2
 | .error (c,p),hx => exact hx
def vX : Prop:=∀ (s : ByteArray) (w : World),s.size≤maxLen→iS w→Calls Tryz.prog 45 #[.string s] w (a1v (r6 s.data.toList) w)
theorem zT (args : Array Value) (w : World) : (callFunc 37 args).run Tryz.prog w=.ok (.enter 37 args) w:=by kernel_rfl
theorem a5c (l : List UInt8) : gU l=oS (rd .expr 0) l:=rfl
def fY (l : List UInt8) : Except (Int × Int) Nd:=oS vP l
theorem xG (hS : vX) (s : ByteArray) (w : World) (hs : s.size≤maxLen) (ht : iS w) :
 Calls Tryz.prog 14 #[.string s] w (mP (fY s.data.toList) w):=by
 obtain ⟨W2,hW2⟩ : ∃ W,W=w.alloc (.cells #[.int .i64 0,.string ⟨#[]⟩,.int .i64 0,.slice none 0 0,.int .i64 0] 24):=⟨_,rfl⟩
 have B2:=hid (show Below w.heap.size w W2 from hW2 ▸ c6 _ _)
 have Z2:=hid (show f6 w.heap.size nd0 none 0 W2 from hW2 ▸ f6.make w nd0 none 0)
 have C:=hid (tR 37 vP zT (fun P g cap ts w he htk h => xF P g cap ts he htk ts w h) hS s W2 hs (ht.below B2))
 rw [show oS vP s.data.toList=fY s.data.toList from rfl] at C
 generalize fY s.data.toList=x at C
 clear hS ht
 go_enter Tryz.func14,Tryz.ntmps14
 go_upto_region 1 with fail
 rw [← hW2]
 clear hW2
 go_wp2_with fail
 (with_reducible refine Calls.mono C.out ?_)
 rintro e w3 ⟨t,a,cp,f,k,rfl,hb,hx⟩
 have HX:=hid hx
 have HBl:=hid (B2.out.trans (hb.mono B2.out.size))
 obtain ⟨⟨z0,z1,z2,z3,z4⟩,⟨f0,f1,f2,f3,f4⟩⟩:=(Z2.out.below hb).cells
 have hzl:=(Z2.out.below hb).lt
 clear hx hb C
 unfold Nd.val
 go_wp2_with fail
 refine bodyPost_ret (v:=.tuple #[t.val a cp,.int .i64 f,.int .i64 k]) (by simp [results,Tryz.results14,go_sem,Nd.val,z0,z1,z2,z3,z4]) rfl ?_
 exact uC (W1:=W2) HX HBl Z2.out.lt
end
def tN (s : List UInt8) : Tk:=⟨1,s,0,0⟩
theorem yG {s rest : List UInt8} (h : o7 s=true) (hr : brk rest) : Sc s [tN s] rest:=by
 have hn : r9 s=true:=by unfold o7 at h; rw [Bool.and_eq_true] at h; exact h.1
 have:=vE hn hr
 rwa [if_neg (jX h)] at this
theorem nB {α : Type} (f : α→List UInt8) (g : α→List Tk) : ∀ (ks : List α) (rest : List UInt8),(∀ k∈ks,∀ r,brk r→Sc (f k) (g k) r)→Sc (Y4 (ks.map f) ++ [41]) (bA (ks.map g) ++ [tS m5]) rest
 | [],rest,_ => L6 (by decide) (fun e => by cases e)
 | k :: ks,rest,h => by
   show Sc (44 :: (32 :: (f k ++ Y4 (ks.map f))) ++ [41]) (([tS l0] ++ (g k ++ bA (ks.map g))) ++ [tS m5]) rest
   have hk:=h k (List.mem_cons_self ..)
   have hc:=nB f g ks rest fun k hk => h k (List.mem_cons_of_mem _ hk)
   rw [List.append_assoc,List.append_assoc,show 44 :: (32 :: (f k ++ Y4 (ks.map f))) ++ [41]=44 :: (32 :: (f k ++ (Y4 (ks.map f) ++ [41]))) by simp]
   refine Sc.cons (L6 (by decide) (fun e => by cases e)) (Sc.skip (by decide) (Sc.app (hk _ ?_) hc))
   cases ks with
   | nil => exact o2 rfl _
   | cons k ks => exact o2 (c:=44) rfl _
theorem a0D {α : Type} (f : α→List UInt8) (g : α→List Tk) {ks : List α} (hne : ks≠[]) (rest : List UInt8) (h : ∀ k∈ks,∀ r,brk r→Sc (f k) (g k) r) : Sc (bF (ks.map f)) (pU (ks.map g)) rest:=by
 cases ks with
 | nil => exact absurd rfl hne
 | cons k ks =>
   show Sc ([40] ++ f k ++ Y4 (ks.map f) ++ [41]) ([tS o6] ++ (g k ++ (bA (ks.map g) ++ [tS m5]))) rest
   rw [show [40] ++ f k ++ Y4 (ks.map f) ++ [41]=40 :: (f k ++ (Y4 (ks.map f) ++ [41])) by simp]
   refine Sc.cons (L6 (by decide) (fun e => by cases e)) (Sc.app (h k (List.mem_cons_self ..) _ ?_) (nB f g ks rest fun k hk => h k (List.mem_cons_of_mem _ hk)))
   cases ks with
   | nil => exact o2 rfl _
   | cons k ks => exact o2 (c:=44) rfl _
def uL (t : Nd) : List Tk:=[tW aQ,tN t.text.data.toList,tS t8]
def a1L (t : Nd) : List Tk:=if t.kids.length=1 then [] else pU (t.kids.dropLast.map fun p => [tN p.text.data.toList])
def sL (t : Nd) : List Tk:=tW gK :: tN t.text.data.toList :: (a1L t ++ tS tEq :: (n9 (J0 t) ++ [tS t8]))
def rH (k : Nd) : List Tk:=if k.kind=2 then uL k else sL k
def a1A (t : Nd) : List Tk:=tW dN :: tN t.text.data.toList :: tS t8 :: t.kids.flatMap rH
theorem pE (rest : List UInt8) : Sc [59,10] [tS t8] rest:=Sc.cons (T:=[tS t8]) (U:=[]) (L6 (by decide) (fun e => by cases e)) (Sc.blank (by decide) rest)
theorem mB {w s : List UInt8} (hw : F7 w=true) (hw' : r9 w=true) (hs : o7 s=true) {b rest : List UInt8} {T : List Tk} (hb : brk (b ++ rest)) (h : Sc b T rest) : Sc (w ++ 32 :: (s ++ b)) (tW w :: tN s :: T) rest :=
 Sc.app (T:=[tW w]) (cM hw' hw (o2 rfl _)) (Sc.skip (by decide) (Sc.app (T:=[tN s]) (yG hs hb) h))
theorem a5k {t : Nd} (h : l7 2 t=true) (rest : List UInt8) : Sc (eD t) (uL t) rest:=by
 have:=mB (w:=aQ) (s:=t.text.data.toList) (by decide) (by decide) (L4 h).1 (o2 rfl _) (pE rest)
 unfold eD
 rw [show [105,109,112,111,114,116,32] ++ t.text.data.toList ++ [59,10]=aQ ++ 32 :: (t.text.data.toList ++ [59,10]) by simp [aQ]]
 exact this
theorem a4S {t : Nd} (h : x7 t=true) (rest : List UInt8) : Sc (dJ t) (sL t) rest:=by
 obtain ⟨h1,h2,h3,h4,h5⟩:=eY h
 have hF : Sc (e7 (J0 t) ++ [59,10]) (n9 (J0 t) ++ [tS t8]) rest:=Sc.app (a3t h5 _ (o2 rfl _)) (pE rest)
 have hE : Sc (32 :: 61 :: 32 :: (e7 (J0 t) ++ [59,10])) (tS tEq :: (n9 (J0 t) ++ [tS t8])) rest:=Sc.skip (by decide) (Sc.cons (T:=[tS tEq]) (L6 (by decide) (fun e => by cases e)) (Sc.skip (by decide) hF))
 have hP : Sc ((if t.kids.length=1 then [] else bF (t.kids.dropLast.map fun p => p.text.data.toList)) ++ 32 :: 61 :: 32 :: (e7 (J0 t) ++ [59,10])) (a1L t ++ tS tEq :: (n9 (J0 t) ++ [tS t8])) rest:=by
  unfold a1L
  split
  ·exact hE
  ·refine Sc.app (a0D _ _ (fun e => ?_) _ fun p hp r hr => yG (L4 (h4 p hp)).1 hr) hE
   have:=congrArg List.length e
   rw [List.length_dropLast,List.length_nil] at this
   omega
 have hB : brk (((if t.kids.length=1 then [] else bF (t.kids.dropLast.map fun p => p.text.data.toList)) ++ 32 :: 61 :: 32 :: (e7 (J0 t) ++ [59,10])) ++ rest):=by
  split
  ·exact o2 rfl _
  ·cases t.kids.dropLast with
   | nil => exact o2 (c:=40) rfl _
   | cons k ks => exact o2 (c:=40) rfl _
 have:=mB (w:=gK) (by decide) (by decide) h1 hB hP
 unfold dJ eK
 rw [show ∀ A B : List UInt8,[108,101,116,32] ++ t.text.data.toList ++ A ++ [32,61,32] ++ B ++ [59,10]=gK ++ 32 :: (t.text.data.toList ++ (A ++ 32 :: 61 :: 32 :: (B ++ [59,10]))) from fun A B => by simp [gK]]
 exact this
theorem sT : ∀ (ks : List Nd),(∀ k∈ks,(k.kind=2∧l7 2 k=true)∨(k.kind≠2∧x7 k=true))→∀ rest,Sc (ks.flatMap lV) (ks.flatMap rH) rest
 | [],_,rest => Sc.nil rest
 | k :: ks,h,rest => by
   rw [List.flatMap_cons,List.flatMap_cons]
   refine Sc.app ?_ (sT ks (fun k hk => h k (List.mem_cons_of_mem _ hk)) rest)
   rcases h k (List.mem_cons_self ..) with ⟨a,b⟩ | ⟨a,b⟩
   ·rw [xY a,rH,if_pos a]; exact a5k b _
   ·rw [xS a,rH,if_neg a]; exact a4S b _
theorem wP {t : Nd} (h : v8 t=true) : ∀ k∈t.kids,(k.kind=2∧l7 2 k=true)∨(k.kind≠2∧x7 k=true):=fun k hk => by
 obtain ⟨j,hj,rfl⟩:=List.getElem_of_mem hk
 exact a1K h j hj
theorem a4U {t : Nd} (h : v8 t=true) (rest : List UInt8) : Sc (cS t) (a1A t) rest:=by
 have:=mB (w:=dN) (by decide) (by decide) (iO h).2.1 (o2 rfl _) (Sc.app (pE _) (sT t.kids (wP h) rest))
 rw [nZ h]
 unfold O6
 rw [show [109,111,100,117,108,101,32] ++ t.text.data.toList ++ [59,10] ++ t.kids.flatMap lV=dN ++ 32 :: (t.text.data.toList ++ ([59,10] ++ t.kids.flatMap lV)) by simp [dN]]
 exact this
theorem a5p {t : Nd} (h : v8 t=true) {l : List Tk} (hl : r6 (cS t)=.ok l) : ∃ e,Sp (a1A t) l [e]∧e.kind=0:=by
 unfold r6 at hl
 split at hl
 ·cases hl
 ·have:=a4U h [] 0 0 l (by rw [List.append_nil]; exact hl)
  obtain ⟨ts,l',rfl,e,p,k,hs⟩:=this
  replace hs : Except.ok [(⟨0,[],0,p⟩ : Tk)]=Except.ok (ε:=Int × Int) l':=hs
  cases hs
  exact ⟨⟨0,[],0,p⟩,⟨ts,rfl,e⟩,rfl⟩
theorem Sp.near {s : List UInt8} {T l x : List Tk} (h : Sp (tN s :: T) l x) : (Proofs.YtibiccacafjjfaaGreatDoor.hd l).kind=1∧(Proofs.YtibiccacafjjfaaGreatDoor.hd l).text=s∧Sp T (b9 l) x:=⟨h.head.1,h.head.2.1,h.head.2.2.2 (show (1 : Int)≠0 by decide)⟩
theorem qN {k p : Int} {u : Nd} {s : List UInt8} (h : l7 k u=true) (hs : s=u.text.data.toList) : o0 false (mkN k s 0 [] p)=o0 false u:=by
 obtain ⟨-,h2,h3,h4⟩:=L4 h
 exact I4 h2 hs.symm h3 (by rw [h4])
theorem kM : ∀ (ks acc : List Nd) (f : Nat),(∀ k∈ks,l7 4 k=true)→ks≠[]→ks.length≤f→∀ (l x : List Tk),Sp (qT (ks.map fun p => [tN p.text.data.toList])) l x →
 ∃ ts,H5 aU f acc l=.ok (mkN 0 [] 0 (acc ++ ts) 0,x)∧ts.map (o0 false)=ks.map (o0 false)
 | [],_,_,_,h,_,_,_,_ => absurd rfl h
 | [k],acc,0,_,_,h,_,_,_ => by simp at h
 | [k],acc,f + 1,ih,_,hlen,l,x,h => by
   obtain ⟨h1,h2,h3⟩:=Sp.near (T:=[tS m5]) h
   refine ⟨[mkN 4 (hd l).text 0 [] (hd l).pos],?_,by rw [List.map_cons,List.map_cons,qN (ih k (List.mem_cons_self ..)) h2]⟩
   rw [H5,aU,fP h1,r5,if_neg (by rw [Sp.sign h3]; decide),Q9 h3,Sp.nil (Sp.signStep h3)]
 | k :: k' :: r,acc,0,_,_,h,_,_,_ => by simp at h
 | k :: k' :: r,acc,f + 1,ih,_,hlen,l,x,h => by
   obtain ⟨h1,h2,h3⟩:=Sp.near (T:=bA ((k' :: r).map fun p => [tN p.text.data.toList]) ++ [tS m5]) h
   have h3' : Sp (tS l0 :: qT ((k' :: r).map fun p => [tN p.text.data.toList])) (b9 l) x:=by
    have e : bA ((k' :: r).map fun p => [tN p.text.data.toList]) ++ [tS m5]=tS l0 :: qT ((k' :: r).map fun p => [tN p.text.data.toList]):=by
     rw [List.map_cons,bA,List.cons_append,List.append_assoc]; rfl
    rw [← e]; exact h3
   obtain ⟨ts,hts,hss⟩:=kM (k' :: r) (acc ++ [mkN 4 (hd l).text 0 [] (hd l).pos]) f (fun u hu => ih u (List.mem_cons_of_mem _ hu)) (by simp) (by simp at hlen ⊢; omega) _ x h3'.signStep
   refine ⟨mkN 4 (hd l).text 0 [] (hd l).pos :: ts,?_,by rw [List.map_cons,List.map_cons,qN (ih k (List.mem_cons_self ..)) h2,hss]⟩
   rw [H5,aU,fP h1,r5,if_pos (by rw [h3'.sign]; decide),hts,List.append_assoc]; rfl
theorem a00 {t : Nd} (h : 1≤t.kids.length) : t.kids=t.kids.dropLast ++ [J0 t]:=by
 have hne : t.kids≠[]:=fun e => by rw [e] at h; simp at h
 unfold J0
 rw [List.getLastD_eq_getLast?,List.getLast?_eq_some_getLast hne]
 exact (List.dropLast_concat_getLast hne).symm
theorem a2V {t : Nd} (h : x7 t=true) {l x : List Tk} (hl : Sp (sL t) l x) : ∃ u,wL l=.ok (u,x)∧o0 false u=o0 false t:=by
 obtain ⟨h1,h2,h3,h4,h5⟩:=eY h
 have h6:=kQ h
 have h7 : t.n=0:=by
  rw [kH] at h
  simp only [Bool.and_eq_true,beq_iff_eq] at h
  exact h.1.1.1.2
 have hl1:=hl.wordStep
 obtain ⟨a1,a2,a3⟩:=hl1.near
 obtain ⟨y,b1,b2⟩:=a3.app
 obtain ⟨z,c1,c2⟩:=b2.signStep.app
 obtain ⟨v,hv,hs⟩:=a0Y h5 c1 (cC (by decide) c2)
 have hP : ∃ ps ts,X8 (b9 (b9 l))=.ok (ps,y)∧ps.kids=ts∧ts.map (o0 false)=t.kids.dropLast.map (o0 false):=by
  unfold a1L at b1
  split at b1
  ·rename_i e
   rw [b1.nil] at *
   refine ⟨mkN 0 [] 0 [] 0,[],by unfold X8; rw [if_neg (by rw [b2.sign]; decide)],rfl,?_⟩
   have : t.kids.dropLast=[]:=List.eq_nil_of_length_eq_zero (by rw [List.length_dropLast]; omega)
   rw [this]
  ·obtain ⟨ts,r,s⟩:=kM t.kids.dropLast [] 8 h4 (fun e => by have:=congrArg List.length e; rw [List.length_dropLast,List.length_nil] at this; omega) (by rw [List.length_dropLast]; omega) _ y b1.signStep
   exact ⟨_,ts,by unfold X8; rw [if_pos (by rw [b1.sign]; decide),r],rfl,s⟩
 obtain ⟨ps,ts,p1,rfl,p2⟩:=hP
 refine ⟨mkN 3 (hd (b9 l)).text 0 (ps.kids ++ [v]) (hd (b9 l)).pos,?_,I4 h6 a2.symm h7 ?_⟩
 ·unfold wL
  rw [iR hl,fP a1,p1,r5,Q9 b2,hv,r5,Q9 c2,c2.signStep.nil]
 ·rw [a00 h2,List.map_append,List.map_append,p2,List.map_cons,List.map_cons,hs]
theorem iY : ∀ (ks acc : List Nd) (f : Nat) (l x : List Tk),(∀ k∈ks,l7 2 k=true)→ks.length≤f→Sp (ks.flatMap uL) l x→isT aQ x=false →
 ∃ ts,q9 f acc l=.ok (mkN 0 [] 0 (acc ++ ts) 0,x)∧ts.map (o0 false)=ks.map (o0 false)
 | [],acc,f,l,x,_,_,h,hx => by
   rw [Sp.nil h]
   refine ⟨[],?_,rfl⟩
   cases f <;> rw [q9,if_neg (by rw [hx]; decide),List.append_nil]
 | k :: ks,acc,0,l,x,_,h,_,_ => by simp at h
 | k :: ks,acc,f + 1,l,x,hk,hlen,h,hx => by
   rw [List.flatMap_cons] at h
   have h1 : Sp (tW aQ :: tN k.text.data.toList :: tS t8 :: ks.flatMap uL) l x:=h
   obtain ⟨a1,a2,a3⟩:=h1.wordStep.near
   obtain ⟨ts,r,s⟩:=iY ks (acc ++ [mkN 2 (hd (b9 l)).text 0 [] (hd (b9 l)).pos]) f _ x (fun u hu => hk u (List.mem_cons_of_mem _ hu)) (by simpa using hlen) a3.signStep hx
   refine ⟨mkN 2 (hd (b9 l)).text 0 [] (hd (b9 l)).pos :: ts,?_,by rw [List.map_cons,List.map_cons,s,qN (hk k (List.mem_cons_self ..)) a2]⟩
   rw [q9,if_pos (by rw [h1.word]; decide),fP a1,Q9 a3,r,List.append_assoc]; rfl
theorem pP : ∀ (ks acc : List Nd) (f : Nat) (l x : List Tk),(∀ k∈ks,x7 k=true)→ks.length≤f→Sp (ks.flatMap sL) l x→isT gK x=false →
 ∃ ts,S0 f acc l=.ok (mkN 0 [] 0 (acc ++ ts) 0,x)∧ts.map (o0 false)=ks.map (o0 false)
 | [],acc,f,l,x,_,_,h,hx => by
   rw [Sp.nil h]
   refine ⟨[],?_,rfl⟩
   cases f <;> rw [S0,if_neg (by rw [hx]; decide),List.append_nil]
 | k :: ks,acc,0,l,x,_,h,_,_ => by simp at h
 | k :: ks,acc,f + 1,l,x,hk,hlen,h,hx => by
   rw [List.flatMap_cons] at h
   have hw : isT gK l=true:=by
    have h1 : Sp (tW gK :: _) l x:=h
    rw [h1.word]; decide
   obtain ⟨y,h1,h2⟩:=h.app
   obtain ⟨u,hu,su⟩:=a2V (hk k (List.mem_cons_self ..)) h1
   obtain ⟨ts,r,s⟩:=pP ks (acc ++ [u]) f _ x (fun u hu => hk u (List.mem_cons_of_mem _ hu)) (by simpa using hlen) h2 hx
   refine ⟨u :: ts,?_,by rw [List.map_cons,List.map_cons,s,su]⟩
   rw [S0,if_pos hw,hu,r5,r,List.append_assoc]; rfl
theorem jG {α β : Type} {f g : α→List β} {l : List α} (h : ∀ a∈l,f a=g a) : l.flatMap f=l.flatMap g:=by
 rw [List.flatMap_def,List.flatMap_def,List.map_congr_left h]
theorem a1Z {t : Nd} (h : v8 t=true) {l : List Tk} {e : Tk} (hl : Sp (a1A t) l [e]) (he : e.kind=0) : ∃ u,vP l=.ok (u,[e])∧o0 false u=o0 false t:=by
 have hp:=h
 unfold v8 at hp
 simp only [Bool.and_eq_true,beq_iff_eq,decide_eq_true_eq,List.all_eq_true] at hp
 obtain ⟨⟨⟨⟨k1,-⟩,k3⟩,-⟩,⟨k4,k5⟩,k6⟩:=hp
 have hI : ∀ k∈t.kids.take (p9 t.kids),l7 2 k=true:=fun k hk => by
  obtain ⟨i,hi,rfl⟩:=List.getElem_of_mem hk
  rw [List.length_take] at hi
  rw [List.getElem_take]
  exact dO (by omega) (by omega)
 have e0 : t.kids.flatMap rH=(t.kids.take (p9 t.kids)).flatMap uL ++ (t.kids.drop (p9 t.kids)).flatMap sL:=by
  rw [← jG (f:=rH) (g:=uL) (fun k hk => if_pos (L4 (hI k hk)).2.1),← jG (f:=rH) (g:=sL) (fun k hk => if_neg (by rw [kQ (k6 k hk)]; decide)),← List.flatMap_append,List.take_append_drop]
 have hx : ∀ w,isT w [e]=false:=fun w => by unfold isT hd; simp [he]
 unfold a1A at hl
 rw [e0] at hl
 obtain ⟨a1,a2,a3⟩:=hl.wordStep.near
 obtain ⟨y,b1,b2⟩:=a3.signStep.app
 have hy : isT aQ y=false:=by
  cases hd : t.kids.drop (p9 t.kids) with
  | nil => rw [hd] at b2; rw [Sp.nil b2]; exact hx _
  | cons k ks =>
    rw [hd,List.flatMap_cons] at b2
    have b3 : Sp (tW gK :: _) y [e]:=b2
    rw [b3.word]; decide
 obtain ⟨is,r1,s1⟩:=iY _ [] 100 _ y hI (by rw [List.length_take]; omega) b1 hy
 obtain ⟨ls,r2,s2⟩:=pP _ is 200 _ [e] k6 (by rw [List.length_drop]; exact k5) b2 (hx _)
 refine ⟨mkN 1 (hd (b9 l)).text 0 (is ++ ls) (hd l).pos,?_,I4 k1 a2.symm k3 (by rw [List.map_append,s1,s2,← List.map_append,List.take_append_drop])⟩
 unfold vP
 rw [iR hl,fP a1,Q9 a3,r1,r5]
 show (S0 200 is y).then _=_
 rw [r2,r5]; rfl
theorem a4V {t : Nd} (h : v8 t=true) {l : List Tk} (hl : r6 (cS t)=.ok l) : ∃ u,fY (cS t)=.ok u∧aM u t=true:=by
 obtain ⟨e,hs,he⟩:=a5p h hl
 obtain ⟨u,hr,hsu⟩:=a1Z h hs he
 refine ⟨u,?_,(fH u t).2 hsu⟩
 unfold fY oS
 rw [hl]
 show a1X (vP l)=_
 rw [hr]
 show (if e.kind=0 then Except.ok u else _)=_
 rw [if_pos he]
theorem bE (b : Bool) (t : Nd) : (o0 b t).kids=t.kids.map (o0 b):=by cases t; rw [o0,← iF]; rfl
theorem nH (b : Bool) (k : Int) (t : Nd) : l7 k (o0 b t)=l7 k t:=by
 rw [kK,kK,bE,List.length_map]; cases t; rw [o0]; rfl
theorem mQ (b : Bool) {t : Nd} (h : 1≤t.kids.length) : J0 (o0 b t)=o0 b (J0 t):=by
 unfold J0
 rw [bE,List.getLastD_eq_getLast?,List.getLastD_eq_getLast?,List.getLast?_map]
 cases e : t.kids.getLast? with
 | none => rw [List.getLast?_eq_none_iff] at e; rw [e] at h; simp at h
 | some a => rfl
theorem aB (b : Bool) (t : Nd) : (o0 b t).text=t.text∧(o0 b t).kind=t.kind∧(o0 b t).n=t.n:=by cases t; rw [o0]; exact ⟨rfl,rfl,rfl⟩
mutual
theorem sW : ∀ t : Nd,o0 false (o0 false t)=o0 false t
 | .mk k s n ks p => by rw [o0,o0,rO ks]; simp
theorem rO : ∀ ks : List Nd,x6 false (x6 false ks)=x6 false ks
 | [] => by rw [x6,x6]
 | k :: ks => by rw [x6,x6,sW k,rO ks]
end
theorem yI (b : Bool) (t : Nd) : e7 (o0 b t)=e7 t:=sX _ _ ((fH _ _).2 (by cases b with
 | true => rw [uA]
 | false => exact sW t))
theorem a0B (b : Bool) (t : Nd) : x7 (o0 b t)=x7 t:=by
 obtain ⟨e1,e2,e3⟩:=aB b t
 rw [kH,kH,e1,e2,e3,bE,List.length_map,← List.map_dropLast,List.all_map]
 rw [show (l7 4 ∘ o0 b)=l7 4 from funext fun p => nH b 4 p]
 by_cases h : 1≤t.kids.length
 ·rw [mQ b h,tT]
 ·rw [decide_eq_false h]; simp
theorem zF (b : Bool) {t : Nd} (h : 1≤t.kids.length) : dJ (o0 b t)=dJ t:=by
 obtain ⟨e1,e2,e3⟩:=aB b t
 unfold dJ eK
 rw [e1,bE,List.length_map,mQ b h,yI,← List.map_dropLast,List.map_map]
 rw [show (fun p : Nd => p.text.data.toList) ∘ o0 b=fun p => p.text.data.toList from funext fun p => by show (o0 b p).text.data.toList=_; rw [(aB b p).1]]
theorem yD (b : Bool) (ks : List Nd) : p9 (ks.map (o0 b))=p9 ks:=by
 unfold p9
 rw [List.takeWhile_map,List.length_map,show (l7 2 ∘ o0 b)=l7 2 from funext fun p => nH b 2 p]
theorem uP (b : Bool) (t : Nd) : s8 (o0 b t)=s8 t:=by rw [iG,iG,sK]
theorem jQ (b : Bool) (t : Nd) : v8 (o0 b t)=v8 t:=by
 obtain ⟨e1,e2,e3⟩:=aB b t
 unfold v8
 rw [e1,e2,e3,uP,bE,yD,List.length_map,← List.map_drop,List.all_map]
 rw [show (x7 ∘ o0 b)=x7 from funext fun p => a0B b p]
theorem nJ (b : Bool) {t : Nd} (h : v8 t=true) : cS (o0 b t)=cS t:=by
 rw [nZ h,nZ ((jQ b t).trans h)]
 unfold O6
 rw [(aB b t).1,bE,List.flatMap_map]
 refine congrArg _ (jG fun k hk => ?_)
 unfold lV
 rw [(aB b k).2.1]
 rcases wP h k hk with ⟨a,c⟩ | ⟨a,c⟩
 ·rw [if_pos a,if_pos a]; unfold eD; rw [(aB b k).1]
 ·rw [if_neg a,if_neg a,zF b (eY c).2.1]
theorem yS {a b : Nd} (h : aM a b=true) : v8 a=v8 b:=by
 rw [← jQ false a,← jQ false b,(fH a b).1 h]
theorem a2Y {a b : Nd} (h : aM a b=true) (hb : v8 b=true) : cS a=cS b:=by
 rw [← nJ false ((yS h).trans hb),← nJ false hb,(fH a b).1 h]
theorem a3A {t : Nd} (h : v8 t=true) {l : List Tk} (hl : r6 (cS t)=.ok l) : ∃ u,fY (cS t)=.ok u∧aM u t=true∧v8 u=true∧cS u=cS t:=by
 obtain ⟨u,hu,hs⟩:=a4V h hl
 exact ⟨u,hu,hs,(yS hs).trans h,a2Y hs h⟩
section
open Go.ChangeShapes Go.WideShapes Go.ChangeAt Go.RowKit
theorem nK {H : Type} {enc : TypeId × Value→H} {C : Checked} {os : Os} {f : FuncId} {fn : Func} {s : OpenSpec} {conds : List PathCond} {apart : Bool} {laid : List (String × DataW Unit)} (modest : Bool) (w0 : World) (args : Array Value) (hos : w0.os=os)
 (hv : (w0.forCall (fun _ _ => 0) ⟨#[],args,[]⟩).variablesZipB C.prog=true)
 (hr : ((w0.forCall (fun _ _ => 0) ⟨#[],args,[]⟩).heap.toList.drop C.prog.globals.size).take ((begin C.prog (fun _ _ => 0) default).world.heap.size - C.prog.globals.size) =
   (begin C.prog (fun _ _ => 0) default).world.heap.toList.drop C.prog.globals.size)
 (hok : Input.okWideB C.prog (w0.forCall (fun _ _ => 0) ⟨#[],args,[]⟩) f ⟨#[],args,[]⟩=true)
 (hrow : s.preRow enc C.prog fn conds apart laid (w0.forCall (fun _ _ => 0) ⟨#[],args,[]⟩).memory args) :
 ∃ (w : World) (tape : Tape) (i : Input),w.os=os∧(w.forCall tape i).Shaped C.prog∧i.vars=[]∧Input.okWide C.prog (w.forCall tape i) .any w.heap.size f i ∧
  s.preRow enc C.prog fn conds apart laid (w.forCall tape i).memory i.args∧({ modest:=modest } : Assume).holds C.prog (lone (Frame.enter C.prog f i.args .normal) [] (w.forCall tape i)) :=
 ⟨w0,fun _ _ => 0,⟨#[],args,[]⟩,hos,World.shaped_of_ZipB hv hr,(Input.okWide_of_okWideB (base:=0) hok).1,(Input.okWide_of_okWideB hok).2,hrow,by
  simp only [Assume.holds]
  exact ⟨by simp,by simp,fun _ => Modest.zero,by simp,by simp⟩⟩
theorem a7k : Tryz.prog.globalNamed "strings.asciiSpace"=some 0:=by kernel_rfl
theorem a0G : (Tryz.prog.globals[0]?).map (·.type)=some 152:=by kernel_rfl
theorem a55 : Tryz.prog.underlying 152=some (.array 256 5):=by kernel_rfl
theorem u8U : Tryz.prog.underlying 5=some (.int .u8):=by kernel_rfl
theorem u8C : Tryz.prog.cellsOf 5=1:=by kernel_rfl
theorem a5Q : Tryz.prog.cellsOf 152=256:=by kernel_rfl
end
section
open Go.ChangeShapes Go.WideShapes Go.ChangeAt Go.RowKit
def jJ : List (String × DataW Unit):=[("math/bits.deBruijn32tab",Rows.laid_math_bits_deBruijn32tab),("math/bits.deBruijn64tab",Rows.laid_math_bits_deBruijn64tab),("internal/strconv.uint64pow10",Rows.laid_internal_strconv_uint64pow10),("unicode/utf8.acceptRanges",Rows.laid_unicode_utf8_acceptRanges),("unicode.White_Space",Rows.laid_unicode_White_Space),("strings.asciiSpace",Rows.laid_strings_asciiSpace),("unicode/utf8.first",Rows.laid_unicode_utf8_first)]
noncomputable def jH (os : Os) : World:=World.laidAll Tryz.prog os jJ
theorem a4N {W : World} (h : laidMetH Tryz.prog jJ W) : iS W:=by
 have h' : laidMet Tryz.prog jJ W:=h
 exact Lib.tabIs_of_head a7k a0G a55 u8U u8C a5Q h'.tail.tail.tail.tail.tail
theorem a6h {W : World} (h : laidMetH Tryz.prog jJ W) : Tab W:=by
 have h' : laidMet Tryz.prog jJ W:=h
 exact Lib.tabIs_of_head a7G a4R a7o a7J a7E a7r h'.tail.tail
end
section
open Lib (hid)
open Go.RowKit
structure SC (X M : Nat) (s : ByteArray) (a : Nat) (ts : List Tk) (W : World) : Prop where
 lt : M<X∧X<W.heap.size
 ex : ∃ ao cp,W.heap[X]?=some (.cells #[.string s,.int .i64 a,.map (some M),.slice ao ts.length cp,.pointer none] 109 (0,0))∧W.ownsRow (X + 1) 79 4 (.slice ao ts.length cp) ts.length (l8 ts)
 keys : cA M 13 W
section
variable {X M a : Nat} {s : ByteArray} {ts : List Tk} {W W' : World}
theorem SC.below (h : SC X M s a ts W) (hb : Below W.heap.size W W') : SC X M s a ts W':=by
 obtain ⟨ao,cp,h1,h2⟩:=h.ex
 exact ⟨⟨h.lt.1,Nat.lt_of_lt_of_le h.lt.2 hb.size⟩,⟨ao,cp,(hb.block X h.lt.2).trans h1,n7 h2 hb⟩,h.keys.below hb (by have:=h.lt; omega)⟩
theorem SC.sb (h : SC X M s a ts W) : SB X s a W:=by
 obtain ⟨ao,cp,h1,-⟩:=h.ex
 exact ⟨by simp [World.cell?,h1],by simp [World.cell?,h1]⟩
theorem SB.below (h : SB X s a W) (hb : Below W.heap.size W W') : SB X s a W':=by
 have hlt : X<W.heap.size:=by
  rcases Nat.lt_or_ge X W.heap.size with h' | h'
  ·exact h'
  ·have:=h.1
   simp [World.cell?,Array.getElem?_eq_none h'] at this
 exact ⟨(hb.cell (p:=⟨X,0,none⟩) hlt).trans h.1,(hb.cell (p:=⟨X,1,none⟩) hlt).trans h.2⟩
end
theorem a44 (b : Bool) (P : List Bool) (u : List UInt8) : dD (b :: P) u=((if b=true then dgC (u.headD 0) else u.headD 0 == 45) && dD P (u.drop 1)):=by
 cases u with
 | nil => cases b <;> rfl
 | cons c u => rfl
theorem a2z (w : World) (T : TypeId) : ∀ (k : Nat) (hk : k<o9.length),(w.alloc (.cells #[.int .u8 48,.int .u8 48,.int .u8 48,.int .u8 48,.int .u8 45,.int .u8 48,.int .u8 48,.int .u8 45,.int .u8 48,.int .u8 48] T (10,11))).cell? ⟨w.heap.size,k,none⟩=some (.int .u8 (if o9[k]=true then 48 else 45)):=by
 have h : (w.alloc (.cells #[.int .u8 48,.int .u8 48,.int .u8 48,.int .u8 48,.int .u8 45,.int .u8 48,.int .u8 48,.int .u8 45,.int .u8 48,.int .u8 48] T (10,11))).heap[w.heap.size]?=some (.cells #[.int .u8 48,.int .u8 48,.int .u8 48,.int .u8 48,.int .u8 45,.int .u8 48,.int .u8 48,.int .u8 45,.int .u8 48,.int .u8 48] T (10,11)):=by show (w.heap.push _)[w.heap.size]?=_; simp
 intro k hk
 rw [Lib.cell_of_heap h]
 match k,hk with
 | 0,_ => rfl
 | 1,_ => rfl
 | 2,_ => rfl
 | 3,_ => rfl
 | 4,_ => rfl
 | 5,_ => rfl
 | 6,_ => rfl
 | 7,_ => rfl
 | 8,_ => rfl
 | 9,_ => rfl
theorem a2e (X : Nat) (s : ByteArray) (a : Nat) (w : World) (h : SB X s a w) (ha : a≤16384) :
 Calls Tryz.prog 146 #[.pointer (some ⟨X,0,none⟩)] w fun e w' => e=.returned (.bool (p6 (s.data.toList.drop a)))∧Below w.heap.size w w':=by
 rw [a4M]
 obtain ⟨l,hl⟩ : ∃ l,l=s.data.toList.drop a:=⟨_,rfl⟩
 rw [← hl]
 have HC:=hid (show ∀ (k : Nat) (v : World),SB X s a v→Calls Tryz.prog 145 #[.pointer (some ⟨X,0,none⟩),.int .i64 ((a : Int) + k)] v fun e w' => e=.returned (.int .u8 ((l.drop k).headD 0).toNat)∧v=w' from fun k v hv => by
  rw [hl,List.drop_drop,show ((a : Int) + k)=((a + k : Nat) : Int) by omega]
  exact F6 X s a (a + k) v hv)
 have HF:=hid (a2z w 5)
 have HB:=hid (c6 w (.cells #[.int .u8 48,.int .u8 48,.int .u8 48,.int .u8 48,.int .u8 45,.int .u8 48,.int .u8 48,.int .u8 45,.int .u8 48,.int .u8 48] 5 (10,11)))
 have HS:=hid (h.below HB)
 have hz : w.heap.size<(w.alloc (.cells #[.int .u8 48,.int .u8 48,.int .u8 48,.int .u8 48,.int .u8 45,.int .u8 48,.int .u8 48,.int .u8 45,.int .u8 48,.int .u8 48] 5 (10,11))).heap.size:=by simp
 have kc:=fun (w : World) (C : Array Value) (n c : Nat) => Lib.run_convert_bytes_const (P:=Tryz.prog) w 39 5 C n c Tryz.underlying39 Tryz.underlying5
 clear hl h
 go_enter Tryz.func146,Tryz.ntmps146
 go_wp2_with fail
 clear kc
 generalize w.alloc _=W1 at HF HB HS hz ⊢
 obtain ⟨h0,h1⟩:=HS.out
 go_loop [9] (fun i => ∃ k : Nat,k≤10∧i=.int .i64 k∧Hid (dD o9 l=dD (o9.drop k) (l.drop k))) (fun i => 10 - (intOf i).toNat)
 case atStart => exact ⟨0,by omega,rfl,rfl⟩
 case round =>
  obtain ⟨k,hk,rfl,HI⟩:=hrel
  by_cases hlt : k<10
  ·have c0:=HF.out k hlt
   have ST:=hid (show dD (o9.drop k) (l.drop k)=((if o9[k]'hlt=true then dgC ((l.drop k).headD 0) else (l.drop k).headD 0 == 45) && dD (o9.drop (k + 1)) (l.drop (k + 1))) by
    rw [show o9.drop k=o9[k]'hlt :: o9.drop (k + 1) from List.drop_eq_getElem_cons hlt,a44,List.drop_drop])
   have C:=hid (HC.out k W1 HS)
   generalize (l.drop k).headD 0=c at C ST
   generalize o9[k]'hlt=b at c0 ST
   have HD:=hid (bL c)
   cases b
   ·replace c0 : W1.cell? ⟨w.heap.size,k,none⟩=some (.int .u8 45):=c0
    by_cases h45 : (c.toNat : Int)=45
    ·have q1 : ((c.toNat : Int) != 45)=false:=by rw [h45]; rfl
     have N:=hid (show dD o9 l=dD (o9.drop (k + 1)) (l.drop (k + 1)) by
      rw [HI.out,ST.out,if_neg (by decide),show (c == 45)=true by rw [beq_iff_eq]; exact UInt8.toNat_inj.1 (Int.ofNat.inj h45),Bool.true_and])
     clear h45
     go_wp2_with (first | ((with_reducible refine Calls.mono C.out ?_); rintro e w1 ⟨rfl,rfl⟩))
     go_round
     case rel => exact ⟨k + 1,by omega,by go_num,N⟩
     case measure => simp [intOf]; omega
    ·have q1 : ((c.toNat : Int) != 45)=true:=by rw [bne_iff_ne]; exact h45
     have N:=hid (show dD o9 l=false by
      rw [HI.out,ST.out,if_neg (by decide),show (c == 45)=false by rw [beq_eq_false_iff_ne]; intro e; exact h45 (by rw [e]; rfl)]; rfl)
     clear h45
     go_wp2_with (first | ((with_reducible refine Calls.mono C.out ?_); rintro e w1 ⟨rfl,rfl⟩))
     go_ret
     exact ⟨R8 N.out.symm,HB⟩
   ·replace c0 : W1.cell? ⟨w.heap.size,k,none⟩=some (.int .u8 48):=c0
    cases hd : dgI c.toNat
    ·have N:=hid (show dD o9 l=false by rw [HI.out,ST.out,if_pos rfl,HD.out,hd]; rfl)
     go_wp2_with (first | ((with_reducible refine Calls.mono C.out ?_); rintro e w1 ⟨rfl,rfl⟩) | (go_at_call 118; refine (F8 _ _).mono ?_; rintro e w' ⟨rfl,rfl⟩; rw [hd]))
     go_ret
     exact ⟨R8 N.out.symm,HB⟩
    ·have N:=hid (show dD o9 l=dD (o9.drop (k + 1)) (l.drop (k + 1)) by rw [HI.out,ST.out,if_pos rfl,HD.out,hd,Bool.true_and])
     go_wp2_with (first | ((with_reducible refine Calls.mono C.out ?_); rintro e w1 ⟨rfl,rfl⟩) | (go_at_call 118; refine (F8 _ _).mono ?_; rintro e w' ⟨rfl,rfl⟩; rw [hd]))
     go_round
     case rel => exact ⟨k + 1,by omega,by go_num,N⟩
     case measure => simp [intOf]; omega
  ·obtain rfl : k=10:=by omega
   have C:=hid (HC.out 10 W1 HS)
   have N:=hid (show dD o9 l=!dgI ((l.drop 10).headD 0).toNat by rw [HI.out,← bL]; rfl)
   generalize (l.drop 10).headD 0=c at C N
   go_wp2_with (first | ((with_reducible refine Calls.mono C.out ?_); rintro e w1 ⟨rfl,rfl⟩) | (go_at_call 118; refine (F8 _ _).mono ?_; rintro e w' ⟨rfl,rfl⟩))
   go_ret
   exact ⟨R8 N.out.symm,HB⟩
theorem O8 {X M a gb cap' : Nat} {s : ByteArray} {ts : List Tk} {t : Tk} {ao : Option Addr} {cp : Nat} {W W5 w6 : World} (hMX : M<X) (hXW : X<W.heap.size)
 (hO : W.ownsRow (X + 1) 79 4 (.slice ao ts.length cp) ts.length (l8 ts)) (hK : cA M 13 W) (hB : Below W.heap.size W W5)
 (hX6 : w6.heap[X]?=some (.cells #[.string s,.int .i64 a,.map (some M),.slice ao ts.length cp,.pointer none] 109 (0,0)))
 (hO6 : w6.ownsRow (X + 1) 79 4 (.slice (some ⟨gb,0,none⟩) (ts.length + 1) cap') (ts.length + 1) (l8 ts ++ n6 t)) (hG : W5.grownBy w6 (Value.slice ao ts.length cp).ownBlock) :
 SC X M s a (ts ++ [t]) (w6.setCell ⟨X,3,none⟩ (.slice (some ⟨gb,0,none⟩) (ts.length + 1) cap'))∧Below X W (w6.setCell ⟨X,3,none⟩ (.slice (some ⟨gb,0,none⟩) (ts.length + 1) cap')):=by
 have h5:=hB.size
 have h6:=hG.size
 have hlow : ∀ d,d<X→(w6.setCell ⟨X,3,none⟩ (.slice (some ⟨gb,0,none⟩) (ts.length + 1) cap')).heap[d]?=W.heap[d]?:=fun d hd =>
  (Below.heap_setCell _ _ _ _ (by show d≠X; omega)).trans ((hG.block d (by omega) (fun e => by have:=(hO.lt d e.symm).1; omega)).trans (hB.block d (by omega)))
 have hgb:=hO6.lt gb rfl
 have el : (ts ++ [t]).length=ts.length + 1:=by rw [List.length_append]; rfl
 refine ⟨⟨⟨hMX,by simp [World.setCell]; omega⟩,⟨some ⟨gb,0,none⟩,cap',?_,?_⟩,?_⟩,?_⟩
 ·rw [el]; exact l5 hX6 3 _
 ·rw [el,qG]; exact jZ hO6 (Below.heap_setCell _ _ _ _ (by show gb≠X; omega))
 ·obtain ⟨es,clock,k1,k2,k3,k4⟩:=hK
  exact ⟨es,clock,(hlow M hMX).trans k1,k2,k3,k4⟩
 ·have hS:=e9 w6 X 3 (.slice (some ⟨gb,0,none⟩) (ts.length + 1) cap')
  exact ⟨hS.os.trans (hG.os.trans hB.os),hS.tape.trans (hG.tape.trans hB.tape),hS.output.trans (hG.output.trans hB.output),by simp [World.setCell]; omega,fun d hd => hlow d hd⟩
def a2a (X M : Nat) (s : ByteArray) (a : Nat) (ts : List Tk) (r : Except Int (Tk × Nat)) (w : World) (e : Ending) (w' : World) : Prop :=
 Below X w w'∧match r with
  | .ok (t,n) => e=.returned (.tuple #[.int .i64 n,.int .i64 0])∧SC X M s a (ts ++ [t]) w'
  | .error c => c≠0∧∃ (n : Int) (ts' : List Tk),e=.returned (.tuple #[.int .i64 n,.int .i64 c])∧SC X M s a ts' w'
theorem aR {X M a m : Nat} {s : ByteArray} {ts : List Tk} {r : Except Int (Tk × Nat)} {t u : Tk} {n : Int} {w w' : World} (h : r=.ok (t,m)) (hb : Below X w w') (hn : n=m) (hu : u=t) (hs : SC X M s a (ts ++ [u]) w') : a2a X M s a ts r w (.returned (.tuple #[.int .i64 n,.int .i64 0])) w':=by
 subst h hn hu; exact ⟨hb,rfl,hs⟩
theorem o4 {X M a : Nat} {s : ByteArray} {ts ts' : List Tk} {r : Except Int (Tk × Nat)} {c n : Int} {w w' : World} (h : r=.error c) (hc : c≠0) (hb : Below X w w') (hs : SC X M s a ts' w') : a2a X M s a ts r w (.returned (.tuple #[.int .i64 n,.int .i64 c])) w':=by
 subst h; exact ⟨hb,hc,n,ts',rfl,hs⟩
end
section
open Lib (hid)
open Go.RowKit
theorem oQ (p : UInt8→Bool) : ∀ (l : List UInt8) (n : Nat),(l.take n).takeWhile p=(l.takeWhile p).take n
 | [],n => by simp
 | a :: l,0 => by simp
 | a :: l,n + 1 => by
   rw [List.take_succ_cons,List.takeWhile_cons,List.takeWhile_cons]
   cases p a with
   | true => simp only [if_true,List.take_succ_cons,oQ p l n]
   | false => simp
theorem oX (p : UInt8→Bool) : ∀ (l : List UInt8) (n : Nat),n<l.length→p ((l.drop n).headD 0)=false→(l.takeWhile p).length≤n
 | [],n,h,_ => by simp at h
 | a :: l,0,_,h => by rw [List.drop_zero,List.headD_cons] at h; rw [List.takeWhile_cons,if_neg (by rw [h]; decide)]; exact Nat.le_refl _
 | a :: l,n + 1,hl,h => by
   rw [List.takeWhile_cons]
   split
   ·rw [List.length_cons]; have:=oX p l n (by rw [List.length_cons] at hl; omega) h; omega
   ·simp
theorem a0A (r : List UInt8) : (r.drop (dC r)).headD 0=34→(r9 (r.take (dC r))=true↔dC r≠0∧dC r≤24∧m6 r=dC r):=by
 intro h
 generalize hn : dC r=n at h
 have hle : n≤r.length:=by rw [← hn]; exact D7 kY r
 have hlt : n<r.length:=by
  rcases Nat.lt_or_ge n r.length with g | g
  ·exact g
  ·rw [List.drop_of_length_le g] at h; exact absurd h (by decide)
 have hlen : (r.take n).length=n:=by rw [List.length_take]; omega
 have hw : (r.takeWhile inC).length≤n:=oX inC r n hlt (by rw [h]; decide)
 rw [← eZ]
 unfold dW
 rw [hlen,Bool.and_eq_true,Bool.and_eq_true,decide_eq_true_eq,decide_eq_true_eq,decide_eq_true_eq]
 have hs : 0<n→m6 (r.take n)=m6 r:=fun h0 => by
  rw [uQ,uQ,oQ,List.length_take,Nat.min_eq_right hw]
  cases r with
  | nil => simp at hlt
  | cons a r =>
    obtain ⟨k,rfl⟩ : ∃ k,n=k + 1:=⟨n - 1,by omega⟩
    rfl
 constructor
 ·rintro ⟨⟨h0,h24⟩,e⟩
  rw [hs h0] at e
  exact ⟨by omega,h24,e⟩
 ·rintro ⟨h0,h24,e⟩
  exact ⟨⟨by omega,h24⟩,by rw [hs (by omega)]; exact e⟩
theorem zD (X M : Nat) (s : ByteArray) (a : Nat) (ts : List Tk) (w : World) (h : SC X M s a ts w) (hs : s.size≤16384) (ha : a<s.size) (htl : ts.length≤8192) :
 Calls Tryz.prog 120 #[.pointer (some ⟨X,0,none⟩)] w (a2a X M s a ts (aA (s.data.toList.drop (a + 1)) a) w):=by
 have Q:=hid (show aA (s.data.toList.drop (a + 1)) a=if ((s.data.toList.drop (a + 1)).drop (dC (s.data.toList.drop (a + 1)))).headD 0≠34 then .error 71
  else if r9 ((s.data.toList.drop (a + 1)).take (dC (s.data.toList.drop (a + 1))))=true then .ok (⟨7,(s.data.toList.drop (a + 1)).take (dC (s.data.toList.drop (a + 1))),0,a⟩,dC (s.data.toList.drop (a + 1)) + 2) else .error 73 from rfl)
 have hqr : dC (s.data.toList.drop (a + 1))≤s.size - (a + 1):=by
  have:=D7 kY (s.data.toList.drop (a + 1))
  rwa [List.length_drop,d6] at this
 have C1:=hid (a4r X s a (a + 1) w h.sb hs (by omega))
 have CN:=hid (fun (v : World) (hv : SB X s a v) => mI X s a (a + 1) v hv hs (by omega))
 have NT:=hid (a0A (s.data.toList.drop (a + 1)))
 rw [show ((a + 1 : Nat) : Int)=(a : Int) + 1 by omega] at C1 CN
 generalize hq : dC (s.data.toList.drop (a + 1))=n at Q C1 hqr NT
 have C2:=hid (fun (v : World) (hv : SB X s a v) => F6 X s a (a + 1 + n) v hv)
 rw [← List.drop_drop,show ((a + 1 + n : Nat) : Int)=(a : Int) + 1 + n by omega] at C2
 generalize hc : ((s.data.toList.drop (a + 1)).drop n).headD 0=c at C2 Q NT
 generalize hm : m6 (s.data.toList.drop (a + 1))=m at CN NT
 obtain ⟨tx,htx,htx2⟩ : ∃ tx : List UInt8,s.extract (a + 1) (a + 1 + n)=⟨tx.toArray⟩∧tx=(s.data.toList.drop (a + 1)).take n:=⟨_,by rw [a7g,Nat.add_sub_cancel_left],rfl⟩
 rw [← htx2] at Q NT
 have HTX:=hid htx
 have HS:=hid h
 have HTL:=hid htl
 obtain ⟨i0,hi,hz0,hz1,hz2⟩:=info_parts (show (Tryz.prog.info? 79).map (fun i => (i.zero,i.size,i.bytes))=some (some (.agg #[.int .i64 0,.string ⟨#[]⟩,.int .i64 0,.int .i64 0]),4,40) by kernel_rfl)
 have HI0:=hid (show _∧_∧_∧_ from ⟨hi,hz0,hz1,hz2⟩)
 clear hi hz0 hz1 hz2
 clear hq hc hm h htx htx2
 obtain ⟨hX0,hX1⟩:=HS.out.sb
 go_enter Tryz.func120,Tryz.ntmps120
 go_wp2_with fail
 (with_reducible refine Calls.mono C1.out ?_)
 rintro e w1 ⟨rfl,hw1⟩
 rw [← hw1]
 clear hw1 C1 w1
 go_upto_region 2 with fail
 go_quiet (fail)
 go_upto_region 3 with fail
 rw [HTX.out]
 obtain ⟨W1,hW1⟩ : ∃ W,W=w.drewN nq:=⟨_,rfl⟩
 have HS1:=hid (show SC X M s a ts W1 from hW1 ▸ HS.out.below (Go.Proofs.YtibiccacafjjfaaGreatDoor.v6 w nq))
 have BX1:=hid (show Below X w W1 from hW1 ▸ ((Go.Proofs.YtibiccacafjjfaaGreatDoor.v6 w nq).mono (Nat.le_of_lt HS.out.lt.2)))
 rw [← hW1]
 clear hW1 hX0 hX1
 obtain ⟨hMX,hXW⟩:=HS1.out.lt
 obtain ⟨ao,cp,hat0,how0⟩:=HS1.out.ex
 have HAT0:=hid hat0
 have HOW0:=hid how0
 have HKY0:=hid HS1.out.keys
 have HSI:=hid (show (W1.cell? ⟨X,3,none⟩=some (.slice ao ts.length cp)∧W1.cell? ⟨X,1,none⟩=some (.int .i64 a)∧W1.cell? ⟨X,0,none⟩=some (.string s))∧True from ⟨⟨by simp [World.cell?,hat0],by simp [World.cell?,hat0],by simp [World.cell?,hat0]⟩,trivial⟩)
 have HSB:=hid (show ∀ vv : World,(∀ b,b<W1.heap.size→(Value.slice ao ts.length cp).ownBlock≠some b→vv.heap[b]?=W1.heap[b]?)→vv.cell? ⟨X,3,none⟩=some (.slice ao ts.length cp)∧vv.cell? ⟨X,1,none⟩=some (.int .i64 a)∧vv.cell? ⟨X,0,none⟩=some (.string s) from fun vv hv => by
  have hX : ∀ i,vv.cell? ⟨X,i,none⟩=W1.cell? ⟨X,i,none⟩:=fun i => World.cell?_of_block (hv X hXW (fun e => by have:=(how0.lt X e).1; omega))
  exact ⟨(hX 3).trans HSI.out.1.1,(hX 1).trans HSI.out.1.2.1,(hX 0).trans HSI.out.1.2.2⟩)
 clear hat0 how0
 refine e8 (S:=(fun cur : World => cur.cell? ⟨X,3,none⟩=some (.slice ao ts.length cp)∧cur.cell? ⟨X,1,none⟩=some (.int .i64 a)∧cur.cell? ⟨X,0,none⟩=some (.string s))) (z:=15) (by kernel_rfl) ?_ (fun hHeld => ?_)
 ·exact HSB.out W1.drew (fun b _ _ => rfl)
 refine b7.t 0 ?_; refine b7.t 1 ?_; refine b7.t 2 ?_; refine b7.t 3 ?_; refine b7.t 4 ?_; refine b7.t 5 ?_; refine b7.t 6 ?_; refine b7.t 7 ?_; refine b7.t 8 ?_; refine b7.t 9 ?_; refine b7.t 10 ?_
 refine b7.nx 11 fun K hK => ?_
 go_simp
 obtain ⟨W5,hW5⟩ : ∃ V,V=(W1.alloc (.cells #[.int .i64 7,.string ⟨tx.toArray⟩,.int .i64 0,.int .i64 a] 79)).drew:=⟨_,rfl⟩
 have B5:=hid (show Below W1.heap.size W1 W5 from hW5 ▸ A7 (c6 _ _))
 have hz5 : W5.heap.size=W1.heap.size + 1:=by rw [hW5]; show (W1.alloc _).heap.size=_; simp
 have N5:=hid (show ∀ j u,(n6 (⟨7,tx,0,a⟩ : Tk))[j]?=some u→W5.cell? ((⟨W1.heap.size,0,none⟩ : Addr).add j)=some u from hW5 ▸ x8 W1 _ _ _ _ _)
 have O5:=hid (show W5.ownsRow (X + 1) 79 4 (.slice ao ts.length cp) ts.length (l8 ts) from n7 HOW0 B5)
 rw [← hW5]
 clear hW5
 refine hK.out _ _ ?_ (fun hHeld => ?_)
 ·exact HSB.out W5 (fun b hb _ => B5.out.block b hb)
 clear hK K
 try simp only [Act.put,c9,f8,f7]
 refine b7.nx 12 fun K hK => ?_
 refine step_append_lies _ rfl _ _ 70 rfl (X + 1) 79 i0 (.agg #[.int .i64 0,.string ⟨#[]⟩,.int .i64 0,.int .i64 0]) 4 40 Tryz.underlying70 HI0.out.1 HI0.out.2.1 HI0.out.2.2.1 HI0.out.2.2.2 rfl (by decide) _ _ _ rfl O5 ⟨W1.heap.size,0,none⟩ 1 1 (n6 (⟨7,tx,0,a⟩ : Tk)) rfl rfl N5 (bS _) (by decide) (by unfold maxLen; omega) (by omega) (by omega) _ rfl ?_
 intro gb cap' w6 hown' hgrow' hat' hltg
 have HG6:=hid hgrow'
 have HO6:=hid hown'
 have HX6:=hid (show w6.heap[X]?=some (.cells #[.string s,.int .i64 a,.map (some M),.slice ao ts.length cp,.pointer none] 109 (0,0)) from (hgrow'.block X (by omega) (fun e => by have:=(HOW0.out.lt X e.symm).1; omega)).trans ((B5.out.block X hXW).trans HAT0))
 clear hown' hgrow' hat' hltg
 refine hK.out _ _ ?_ (fun hHeld => ?_)
 ·exact HSB.out w6 (fun b hb hne => (HG6.out.block b (by omega) (fun e => hne e.symm)).trans (B5.out.block b hb))
 clear hK K
 try simp only [Act.put,c9,f8,f7]
 refine b7.nx 13 fun K hK => ?_
 go_simp
 refine hK.out _ _ ?_ (fun hHeld => ?_)
 ·exact hHeld
 clear hK K
 try simp only [Act.put,c9,f8,f7]
 refine b7.nx 14 fun K hK => ?_
 go_simp
 refine hK.out _ _ ?_ (fun hHeld => ?_)
 ·exact hHeld
 clear hK K
 try simp only [Act.put,c9,f8,f7]
 have hX3 : w6.cell? ⟨X,3,none⟩=some (.slice ao ts.length cp):=by simp [World.cell?,HX6.out]
 have hf6 : w6.frozen? ⟨X,3,none⟩=false:=by simp [World.frozen?,HX6.out]
 have hX6l : X<w6.heap.size:=(Array.getElem?_eq_some_iff.1 HX6).1
 refine b7.la fun K hK => ?_
 go_simp
 refine hK.out _ _ ?_
 clear hK K hHeld
 obtain ⟨W7,hW7⟩ : ∃ V,V=w6.setCell ⟨X,3,none⟩ (.slice (some ⟨gb,0,none⟩) (ts.length + 1) cap'):=⟨_,rfl⟩
 have Z7:=hid (show SC X M s a (ts ++ [(⟨7,tx,0,a⟩ : Tk)]) W7∧Below X W1 W7 from hW7 ▸ O8 hMX hXW HOW0 HKY0 B5 HX6 HO6 HG6)
 have HS7:=hid Z7.out.1
 have BX7:=hid Z7.out.2
 rw [← hW7]
 clear hW7 hX3 hf6 hX6l HX6 HO6 HG6 O5 N5 B5 HSB HSI HAT0 HOW0 HKY0 Z7
 have BX:=hid (BX1.out.trans BX7)
 obtain ⟨hX0,hX1⟩:=HS7.out.sb
 replace C2:=hid (C2.out W7 HS7.out.sb)
 replace CN:=hid (CN.out W7 HS7.out.sb)
 clear HS HS1 BX1 BX7 hMX hXW hz5
 by_cases h34 : (c.toNat : Int)=34
 case neg =>
  have q1 : ((c.toNat : Int) != 34)=true:=by rw [bne_iff_ne]; exact h34
  have R:=hid (show aA (s.data.toList.drop (a + 1)) a=.error 71 by rw [Q.out,if_pos (fun e => h34 (by rw [e]; rfl))])
  clear h34
  go_wp2_with (first | ((with_reducible refine Calls.mono C2.out ?_); rintro e w1 ⟨rfl,hw⟩; rw [← hw]; clear hw w1))
  go_ret2
  exact o4 R (by decide) BX HS7
 have q1 : ((c.toNat : Int) != 34)=false:=by rw [h34]; rfl
 have e34 : c=34:=UInt8.toNat_inj.1 (Int.ofNat.inj h34)
 have Q2:=hid (show aA (s.data.toList.drop (a + 1)) a=if r9 tx=true then .ok (⟨7,tx,0,a⟩,n + 2) else .error 73 by rw [Q.out,if_neg (fun h => h e34)])
 have N2:=hid (NT.out e34)
 clear h34 e34 Q NT
 by_cases h0 : n=0
 ·have q0 : ((n : Int) == 0)=true:=by rw [h0]; rfl
  have R:=hid (show aA (s.data.toList.drop (a + 1)) a=.error 73 by rw [Q2.out,if_neg (fun h => (N2.out.1 h).1 h0)])
  clear h0
  go_wp2_with (first | ((with_reducible refine Calls.mono C2.out ?_); rintro e w1 ⟨rfl,hw⟩; rw [← hw]; clear hw w1))
  go_ret2
  exact o4 R (by decide) BX HS7
 have q0 : ((n : Int) == 0)=false:=by rw [beq_eq_false_iff_ne]; omega
 by_cases h24 : 24<(n : Int)
 ·have R:=hid (show aA (s.data.toList.drop (a + 1)) a=.error 73 by rw [Q2.out,if_neg (fun h => by have:=(N2.out.1 h).2.1; omega)])
  clear h0
  go_wp2_with (first | ((with_reducible refine Calls.mono C2.out ?_); rintro e w1 ⟨rfl,hw⟩; rw [← hw]; clear hw w1))
  go_ret2
  exact o4 R (by decide) BX HS7
 by_cases hmn : m=n
 ·have q2 : ((m : Int) != n)=false:=by rw [hmn]; simp
  have R:=hid (show aA (s.data.toList.drop (a + 1)) a=.ok (⟨7,tx,0,a⟩,n + 2) by rw [Q2.out,if_pos (N2.out.2 ⟨h0,by omega,hmn⟩)])
  clear h0 hmn
  go_wp2_with (first | ((with_reducible refine Calls.mono C2.out ?_); rintro e w1 ⟨rfl,hw⟩; rw [← hw]; clear hw w1) | ((with_reducible refine Calls.mono CN.out ?_); rintro e w1 ⟨rfl,hw⟩; rw [← hw]; clear hw w1))
  go_ret2
  exact aR R BX (by omega) rfl HS7
 ·have q2 : ((m : Int) != n)=true:=by rw [bne_iff_ne]; omega
  have R:=hid (show aA (s.data.toList.drop (a + 1)) a=.error 73 by rw [Q2.out,if_neg (fun h => hmn (N2.out.1 h).2.2)])
  clear h0 hmn
  go_wp2_with (first | ((with_reducible refine Calls.mono C2.out ?_); rintro e w1 ⟨rfl,hw⟩; rw [← hw]; clear hw w1) | ((with_reducible refine Calls.mono CN.out ?_); rintro e w1 ⟨rfl,hw⟩; rw [← hw]; clear hw w1))
  go_ret2
  exact o4 R (by decide) BX HS7
end
end Go.Proofs.YtibiccacafjjfaaGreatDoor
