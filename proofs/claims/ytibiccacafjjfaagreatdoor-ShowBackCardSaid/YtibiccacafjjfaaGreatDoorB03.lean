/-
  Laws that the proof rests on.
-/
import Derived.Test.YtibiccacafjjfaaGreatDoorB02
import Derived.Test.YtibiccacafjjfaaGreatDoorB01
import Derived.WalkKit
import Derived.WalkSpells
import Derived.WalkLawsBesides
import Derived.IntWalk
import Derived.Lib.Hide
import Derived.Lib.Strings
import Derived.Test.YtibiccacafjjfaaGreatDoorRows
namespace Go.Proofs.YtibiccacafjjfaaGreatDoor
set_option maxRecDepth 100000
set_option maxHeartbeats 16000000
def a1z (k : Int) : Prop:=(5≤k∧k≤11)∨k=15
theorem F5 {t : Nd} {d : Int} (h : d7 t d=true) : z7 t.kind t.kids.length=true∧y8 t.kind t.text.data.toList=true∧bD t.kind t.n=true∧m9 t.kids (d + 1)=true:=by
 cases t
 rw [d7] at h
 simp only [Bool.and_eq_true] at h
 exact ⟨h.1.1.1.2,h.1.1.2,h.1.2,h.2⟩
theorem sI {k : Int} {n : Nat} (h : z7 k n=true) : 5≤k∧k≤15:=by
 unfold z7 at h
 split at h
 ·omega
 split at h
 ·omega
 split at h
 ·omega
 split at h
 ·omega
 split at h
 ·omega
 ·cases h
theorem a1G {k : Int} {n : Nat} (h : z7 k n=true) (h' : ¬ I9 k=true) : a1z k:=by
 have:=sI h
 unfold I9 at h'
 simp only [Bool.or_eq_true,decide_eq_true_eq] at h'
 unfold a1z
 omega
theorem vI (t : Nd) : e7 t=vK t.kind t.n t.text.data.toList (r4 t.kids):=by cases t; rw [e7]; rfl
theorem yQ (s : ByteArray) (n p : Int) (k u : Nd) : e7 (.mk 13 s n [k,u] p)=Y2 k.kind (e7 k) ++ 32 :: (s.data.toList ++ 32 :: Y2 u.kind (e7 u)):=by
 rw [e7,r4,r4,r4]
 show Y2 k.kind (e7 k) ++ [32] ++ s.data.toList ++ [32] ++ Y2 u.kind (e7 u)=_
 simp
theorem wR (s : ByteArray) (n p : Int) (k : Nd) : e7 (.mk 12 s n [k] p)=(if s.data.toList=[45] then [45] else [110,111,116,32]) ++ Y2 k.kind (e7 k):=by
 rw [e7,r4,r4]; rfl
theorem a1U (s : ByteArray) (n p : Int) (k u v : Nd) : e7 (.mk 14 s n [k,u,v] p)=105 :: 102 :: 32 :: (e7 k ++ 32 :: ([116,104,101,110] ++ 32 :: (e7 u ++ 32 :: ([101,108,115,101] ++ 32 :: e7 v)))):=by
 rw [e7,r4,r4,r4,r4]
 show [105,102,32] ++ e7 k ++ [32,116,104,101,110,32] ++ e7 u ++ [32,101,108,115,101,32] ++ e7 v=_
 simp
theorem fZ {t : Nd} {d : Int} (h : d7 t d=true) (hk : 5≤t.kind∧t.kind≤10) : t.kids=[]:=by
 have:=(F5 h).1
 unfold z7 at this
 rw [if_pos hk,decide_eq_true_eq] at this
 exact List.eq_nil_of_length_eq_zero this
def hw (t : Nd) : List UInt8:=if t.kind=9 then [102,101,101,100] else if t.kind=15 then [112,105,99,107] else if t.kind=11 then t.text.data.toList else e7 t
theorem a3x (l : List (List UInt8)) : ∃ x,bF l=40 :: x:=by
 cases l <;> exact ⟨_,rfl⟩
theorem rK {k : Int} (h : a1z k) : k=5∨k=6∨k=7∨k=8∨k=9∨k=10∨k=11∨k=15:=by unfold a1z at h; omega
theorem a7p {c : UInt8} (h : dgC c=true) : c≠45:=by rintro rfl; exact absurd h (by decide)
theorem qO {t : Nd} {d : Int} (h : d7 t d=true) (hk : t.kind=11∨t.kind=15) : t.kids≠[]:=by
 have:=(F5 h).1
 intro e
 rw [e] at this
 rcases hk with hk | hk <;> (rw [hk] at this; exact absurd this (by decide))
theorem dI {k n : Int} (h : bD k n=true) (hk : k≠5∧k≠6∧k≠8) : n=0:=by
 unfold bD at h
 rw [if_neg hk.1,if_neg hk.2.1,if_neg hk.2.2,decide_eq_true_eq] at h
 exact h
theorem a7b {α : Type} {l : List α} (h : l.length=1) : ∃ a,l=[a]:=by
 match l,h with
 | [a],_ => exact ⟨a,rfl⟩
theorem a6Q {α : Type} {l : List α} (h : l.length=2) : ∃ a b,l=[a,b]:=by
 match l,h with
 | [a,b],_ => exact ⟨a,b,rfl⟩
theorem a5z {α : Type} {l : List α} (h : l.length=3) : ∃ a b c,l=[a,b,c]:=by
 match l,h with
 | [a,b,c],_ => exact ⟨a,b,c,rfl⟩
theorem tX {t : Nd} {d : Int} (h : d7 t d=true) (hk : t.kind=12) : ∃ s k p,t=.mk 12 s 0 [k] p∧(s.data.toList=[45]∨s.data.toList=[110,111,116])∧d7 k (d + 1)=true:=by
 obtain ⟨q,ht,hn,hr⟩:=F5 h
 cases t with
 | mk kind s n ks p =>
 obtain rfl : kind=12:=hk
 obtain ⟨k,rfl⟩:=a7b (show ks.length=1 by have q' : z7 12 ks.length=true:=q; simpa [z7] using q')
 obtain rfl : n=0:=dI (k:=12) hn (by decide)
 have ht' : s.data.toList=[45]∨s.data.toList=[110,111,116]:=by
  have : (s.data.toList == [45] || s.data.toList == [110,111,116])=true:=ht
  simpa using this
 rw [Nd.kids,m9,Bool.and_eq_true] at hr
 exact ⟨s,k,p,rfl,ht',hr.1⟩
theorem sN {t : Nd} {d : Int} (h : d7 t d=true) (hk : t.kind=13) : ∃ s k u p,t=.mk 13 s 0 [k,u] p∧dE s.data.toList=true∧d7 k (d + 1)=true∧d7 u (d + 1)=true:=by
 obtain ⟨q,ht,hn,hr⟩:=F5 h
 cases t with
 | mk kind s n ks p =>
 obtain rfl : kind=13:=hk
 obtain ⟨k,u,rfl⟩:=a6Q (show ks.length=2 by have q' : z7 13 ks.length=true:=q; simpa [z7] using q')
 obtain rfl : n=0:=dI (k:=13) hn (by decide)
 rw [Nd.kids,m9,m9,Bool.and_eq_true,Bool.and_eq_true] at hr
 exact ⟨s,k,u,p,rfl,ht,hr.1,hr.2.1⟩
theorem xC {t : Nd} {d : Int} (h : d7 t d=true) (hk : t.kind=14) : ∃ s k u v p,t=.mk 14 s 0 [k,u,v] p∧s.data.toList=[]∧d7 k (d + 1)=true∧d7 u (d + 1)=true∧d7 v (d + 1)=true:=by
 obtain ⟨q,ht,hn,hr⟩:=F5 h
 cases t with
 | mk kind s n ks p =>
 obtain rfl : kind=14:=hk
 obtain ⟨k,u,v,rfl⟩:=a5z (show ks.length=3 by have q' : z7 14 ks.length=true:=q; simpa [z7] using q')
 obtain rfl : n=0:=dI (k:=14) hn (by decide)
 rw [Nd.kids,m9,m9,m9,Bool.and_eq_true,Bool.and_eq_true,Bool.and_eq_true] at hr
 exact ⟨s,k,u,v,p,rfl,List.isEmpty_iff.1 ht,hr.1,hr.2.1,hr.2.2.1⟩
theorem yF {t k : Nd} {N : Nat} (h : SizeOf.sizeOf t<N + 1) (hk : k∈t.kids) : SizeOf.sizeOf k<N:=by
 cases t with
 | mk kind s n ks p =>
 have:=List.sizeOf_lt_of_mem (show k∈ks from hk)
 simp only [Nd.mk.sizeOf_spec] at h
 omega
mutual
theorem sX : ∀ (a b : Nd),aM a b=true→e7 a=e7 b
 | .mk k s n ks p,b,h => by
   rw [kB] at h
   simp only [Bool.and_eq_true,beq_iff_eq,Nd.kind,Nd.text,Nd.n,Nd.kids] at h
   obtain ⟨⟨⟨h1,h2⟩,h3⟩,h4⟩:=h
   cases b with
   | mk k' s' n' ks' p' =>
   have h2' : s.data.toList=s'.data.toList:=by rw [Lib.toList_data,Lib.toList_data] at h2; exact h2
   rw [e7,e7,qK ks ks' h4]
   simp only at h1 h3
   rw [h1,h3,h2']
theorem qK : ∀ (a b : List Nd),D6 a b=true→r4 a=r4 b
 | [],b,h => by
   rw [D6,List.isEmpty_iff] at h
   rw [h]
 | a :: r,[],h => by rw [D6] at h; cases h
 | a :: r,b :: l,h => by
   rw [D6,Bool.and_eq_true] at h
   have e : a.kind=b.kind:=by
    have:=h.1
    rw [kB] at this
    simp only [Bool.and_eq_true,beq_iff_eq] at this
    exact this.1.1.1
   rw [r4,r4,sX a b h.1,qK r l h.2,e]
end
def y9 (t : Nd) : Bool:=decide (5≤t.kind∧t.kind≤10) && (y8 t.kind t.text.data.toList && bD t.kind t.n) && t.kids.isEmpty
def iX (t : Nd) : Bool :=
 if t.kind=11 then gT t.text.data.toList
 else if t.kind=15 then r9 t.text.data.toList && decide (t.kids.length=3)
 else if t.kind=14 then t.text.data.toList.isEmpty && decide (t.kids.length=3)
 else if t.kind=12 then (t.text.data.toList == [45] || t.text.data.toList == [110,111,116]) && decide (t.kids.length=1)
 else if t.kind=13 then dE t.text.data.toList && decide (t.kids.length=2)
 else false
theorem yK (t : Nd) (d : Int) : d7 t d=(decide (d≤100) && (y9 t || (decide (t.n=0) && (decide (1≤t.kids.length) && decide (t.kids.length≤8)) && m9 t.kids (d + 1) && iX t))):=by
 cases t with
 | mk kind s n ks p =>
 rw [d7]
 show (decide (d≤100) && z7 kind ks.length && y8 kind s.data.toList && bD kind n && m9 ks (d + 1))=(decide (d≤100) && ((decide (5≤kind∧kind≤10) && (y8 kind s.data.toList && bD kind n) && ks.isEmpty) ||
  (decide (n=0) && (decide (1≤ks.length) && decide (ks.length≤8)) && m9 ks (d + 1) && (if kind=11 then gT s.data.toList
    else if kind=15 then r9 s.data.toList && decide (ks.length=3)
    else if kind=14 then s.data.toList.isEmpty && decide (ks.length=3)
    else if kind=12 then (s.data.toList == [45] || s.data.toList == [110,111,116]) && decide (ks.length=1)
    else if kind=13 then dE s.data.toList && decide (ks.length=2)
    else false))))
 cases decide (d≤100)
 ·simp
 simp only [Bool.true_and]
 by_cases h1 : 5≤kind∧kind≤10
 ·rw [decide_eq_true h1,if_neg (by omega),if_neg (by omega),if_neg (by omega),if_neg (by omega),if_neg (by omega),Bool.and_false,Bool.or_false,Bool.true_and]
  unfold z7
  rw [if_pos h1]
  cases ks with
  | nil => rw [m9]; simp
  | cons k ks => simp
 ·rw [decide_eq_false h1,Bool.false_and,Bool.false_and,Bool.false_or]
  have hk : kind=11∨kind=15∨kind=14∨kind=12∨kind=13∨(kind≠11∧kind≠15∧kind≠14∧kind≠12∧kind≠13):=by omega
  rcases hk with hk | hk | hk | hk | hk | hk
  ·subst hk
   have e1 : z7 11 ks.length=(decide (1≤ks.length) && decide (ks.length≤8)):=rfl
   have e2 : y8 11 s.data.toList=gT s.data.toList:=rfl
   have e3 : bD 11 n=decide (n=0):=rfl
   rw [e1,e2,e3,if_pos rfl]
   cases decide (1≤ks.length) <;> cases decide (ks.length≤8) <;> cases decide (n=0) <;> cases gT s.data.toList <;> cases m9 ks (d + 1) <;> rfl
  ·subst hk
   have e1 : z7 15 ks.length=decide (ks.length=3):=rfl
   have e2 : y8 15 s.data.toList=r9 s.data.toList:=rfl
   have e3 : bD 15 n=decide (n=0):=rfl
   rw [e1,e2,e3,if_neg (by decide),if_pos rfl]
   by_cases hl : ks.length=3
   ·rw [decide_eq_true hl,decide_eq_true (show 1≤ks.length by omega),decide_eq_true (show ks.length≤8 by omega)]
    cases decide (n=0) <;> cases r9 s.data.toList <;> cases m9 ks (d + 1) <;> rfl
   ·rw [decide_eq_false hl]; simp
  ·subst hk
   have e1 : z7 14 ks.length=decide (ks.length=3):=rfl
   have e2 : y8 14 s.data.toList=s.data.toList.isEmpty:=rfl
   have e3 : bD 14 n=decide (n=0):=rfl
   rw [e1,e2,e3,if_neg (by decide),if_neg (by decide),if_pos rfl]
   by_cases hl : ks.length=3
   ·rw [decide_eq_true hl,decide_eq_true (show 1≤ks.length by omega),decide_eq_true (show ks.length≤8 by omega)]
    cases decide (n=0) <;> cases s.data.toList.isEmpty <;> cases m9 ks (d + 1) <;> rfl
   ·rw [decide_eq_false hl]; simp
  ·subst hk
   have e1 : z7 12 ks.length=decide (ks.length=1):=rfl
   have e2 : y8 12 s.data.toList=(s.data.toList == [45] || s.data.toList == [110,111,116]):=rfl
   have e3 : bD 12 n=decide (n=0):=rfl
   rw [e1,e2,e3,if_neg (by decide),if_neg (by decide),if_neg (by decide),if_pos rfl]
   by_cases hl : ks.length=1
   ·rw [decide_eq_true hl,decide_eq_true (show 1≤ks.length by omega),decide_eq_true (show ks.length≤8 by omega)]
    cases decide (n=0) <;> cases (s.data.toList == [45] || s.data.toList == [110,111,116]) <;> cases m9 ks (d + 1) <;> rfl
   ·rw [decide_eq_false hl]; simp
  ·subst hk
   have e1 : z7 13 ks.length=decide (ks.length=2):=rfl
   have e2 : y8 13 s.data.toList=dE s.data.toList:=rfl
   have e3 : bD 13 n=decide (n=0):=rfl
   rw [e1,e2,e3,if_neg (by decide),if_neg (by decide),if_neg (by decide),if_neg (by decide),if_pos rfl]
   by_cases hl : ks.length=2
   ·rw [decide_eq_true hl,decide_eq_true (show 1≤ks.length by omega),decide_eq_true (show ks.length≤8 by omega)]
    cases decide (n=0) <;> cases dE s.data.toList <;> cases m9 ks (d + 1) <;> rfl
   ·rw [decide_eq_false hl]; simp
  ·have e1 : z7 kind ks.length=false:=by
    unfold z7
    rw [if_neg h1,if_neg hk.1,if_neg hk.2.2.2.1,if_neg hk.2.2.2.2,if_neg (by omega)]
   rw [e1,if_neg hk.1,if_neg hk.2.1,if_neg hk.2.2.1,if_neg hk.2.2.2.1,if_neg hk.2.2.2.2]
   simp
theorem kL (ks : List Nd) (d : Int) : ∀ n,(∀ j (hj : j<ks.length),j<n→d7 ks[j] d=true)→m9 (ks.take n) d=true:=by
 intro n h
 rw [eQ,List.all_eq_true]
 intro k hk
 obtain ⟨i,hi,rfl⟩:=List.getElem_of_mem hk
 rw [List.length_take] at hi
 rw [List.getElem_take]
 exact h i (by omega) (by omega)
theorem gM {ks : List Nd} {d : Int} {j : Nat} (hj : j<ks.length) (h : d7 ks[j] d=false) : m9 ks d=false:=by
 rw [eQ,Bool.eq_false_iff]
 intro e
 rw [List.all_eq_true] at e
 rw [e _ (List.getElem_mem hj)] at h
 cases h
def l7 (kind : Int) (t : Nd) : Bool:=t.kind == kind && o7 t.text.data.toList && t.n == 0 && t.kids.isEmpty
def J0 (t : Nd) : Nd:=t.kids.getLastD (.mk 0 ByteArray.empty 0 [] 0)
def x7 (t : Nd) : Bool:=t.kind == 3 && o7 t.text.data.toList && t.n == 0 && decide (1≤t.kids.length) && decide (t.kids.length≤9) && (t.kids.dropLast.all (l7 4) && d7 (J0 t) 1)
def eK (t : Nd) : List UInt8:=[108,101,116,32] ++ t.text.data.toList
def dJ (t : Nd) : List UInt8:=eK t ++ (if t.kids.length=1 then [] else bF (t.kids.dropLast.map fun p => p.text.data.toList)) ++ [32,61,32] ++ e7 (J0 t) ++ [59,10]
def eD (t : Nd) : List UInt8:=[105,109,112,111,114,116,32] ++ t.text.data.toList ++ [59,10]
def O6 (t : Nd) : List UInt8:=[109,111,100,117,108,101,32] ++ t.text.data.toList ++ [59,10]
def p9 (ks : List Nd) : Nat:=(ks.takeWhile (l7 2)).length
def v8 (t : Nd) : Bool:=t.kind == 1 && o7 t.text.data.toList && t.n == 0 && s8 t && (decide (p9 t.kids≤100) && decide (t.kids.length - p9 t.kids≤200) && (t.kids.drop (p9 t.kids)).all x7)
def cS (t : Nd) : List UInt8:=O6 t ++ (t.kids.take (p9 t.kids)).flatMap eD ++ (t.kids.drop (p9 t.kids)).flatMap dJ
theorem wH (ks : List Nd) : p9 ks≤ks.length:=(List.takeWhile_sublist (l:=ks) (l7 2)).length_le
theorem sM : ∀ (ks : List Nd) (k : Nd),k∈ks→aV k≤O4 ks
 | a :: r,k,h => by
   rw [O4]
   rcases List.mem_cons.1 h with rfl | h
   ·omega
   ·have:=sM r k h; omega
 | [],_,h => by cases h
theorem oT (t : Nd) : aV t=O4 t.kids + 1:=by cases t; rw [aV]; rfl
theorem cK {t k : Nd} (h : s8 t=true) (hk : k∈t.kids) : s8 k=true:=by
 rw [iG,decide_eq_true_eq] at h ⊢
 have:=sM t.kids k hk
 have:=oT t
 omega
theorem rI {t : Nd} (h : 1≤t.kids.length) : t.kids[t.kids.length - 1]'(by omega)=J0 t:=by
 unfold J0
 rw [List.getLastD_eq_getLast?,List.getLast?_eq_getElem?,List.getElem?_eq_getElem (by omega)]
 rfl
theorem kU {t : Nd} (h : 1≤t.kids.length) : J0 t∈t.kids:=by
 rw [← rI h]
 exact List.getElem_mem _
theorem a69 {l : List Nat} {b : Nat} (h : ∀ x∈l,x≤b) : l.sum≤l.length * b:=by
 induction l with
 | nil => simp
 | cons a l ih =>
   have h1:=h a (List.mem_cons_self ..)
   have h2:=ih fun x hx => h x (List.mem_cons_of_mem _ hx)
   rw [List.sum_cons,List.length_cons,Nat.succ_mul]
   omega
theorem jM {t : Nd} (h : s8 t=true) {d : Int} (hr : d7 t d=true) : (e7 t).length≤1048576:=by
 rw [iG,decide_eq_true_eq] at h
 have:=mC t d hr
 omega
theorem L4 {k : Int} {t : Nd} (h : l7 k t=true) : o7 t.text.data.toList=true∧t.kind=k∧t.n=0∧t.kids=[]:=by
 unfold l7 at h
 simp only [Bool.and_eq_true,beq_iff_eq,List.isEmpty_iff] at h
 exact ⟨h.1.1.2,h.1.1.1,h.1.2,h.2⟩
theorem rJ {t : Nd} (h : x7 t=true) : (bF (t.kids.dropLast.map fun p => p.text.data.toList)).length≤300:=by
 unfold x7 at h
 simp only [Bool.and_eq_true,decide_eq_true_eq,List.all_eq_true] at h
 have h1:=tQ (t.kids.dropLast.map fun p => p.text.data.toList)
 have h2:=a69 (l:=(t.kids.dropLast.map fun p => p.text.data.toList).map fun f => f.length + 2) (b:=26) (by
  intro x hx
  rw [List.map_map,List.mem_map] at hx
  obtain ⟨p,hp,rfl⟩:=hx
  have:=V4 (L4 (h.2.1 p hp)).1
  show p.text.data.toList.length + 2≤26
  omega)
 simp only [List.length_map,List.length_dropLast] at h2
 omega
theorem zG {t : Nd} (h : x7 t=true) (hs : s8 (J0 t)=true) : (dJ t).length≤1100000:=by
 have h1:=rJ h
 unfold x7 at h
 simp only [Bool.and_eq_true,decide_eq_true_eq,List.all_eq_true] at h
 have h2:=V4 h.1.1.1.1.2
 have h3:=jM hs h.2.2
 unfold dJ eK
 simp only [List.length_append,List.length_cons,List.length_nil]
 split <;> (try simp only [List.length_nil]) <;> omega
theorem kW {t : Nd} (h : l7 2 t=true) : (eD t).length≤40:=by
 have:=V4 (L4 h).1
 unfold eD
 simp only [List.length_append,List.length_cons,List.length_nil]
 omega
theorem oV {f : Nd→List UInt8} {b : Nat} : ∀ (l : List Nd),(∀ x∈l,(f x).length≤b)→(l.flatMap f).length≤l.length * b
 | [],_ => by simp
 | a :: l,h => by
   have h1:=h a (List.mem_cons_self ..)
   have h2:=oV l fun x hx => h x (List.mem_cons_of_mem _ hx)
   rw [List.flatMap_cons,List.length_append,List.length_cons,Nat.succ_mul]
   omega
theorem lJ {f : Nd→List UInt8} (l : List Nd) (k : Nat) (h : k<l.length) : (l.take (k + 1)).flatMap f=(l.take k).flatMap f ++ f l[k]:=by
 rw [List.take_succ_eq_append_getElem h,List.flatMap_append]
 simp
theorem dO {ks : List Nd} {k : Nat} (h : k<p9 ks) (hk : k<ks.length) : l7 2 ks[k]=true:=by
 unfold p9 at h
 have h1 : (ks.takeWhile (l7 2))[k]=ks[k]:=(List.takeWhile_prefix (l7 2)).getElem h
 rw [← h1]
 exact List.all_eq_true.1 (List.all_takeWhile (l:=ks) (p:=l7 2)) _ (List.getElem_mem _)
def eL (ks : List Nd) : Nat:=(ks.takeWhile (fun k => k.kind == 2)).length
theorem a3W (t : Nd) (h : t.kind=2) : x7 t=false:=by unfold x7; rw [h]; rfl
def qY (ks : List Nd) : Bool:=(ks.take (eL ks)).all (l7 2) && (decide (eL ks≤100) && decide (ks.length - eL ks≤200) && (ks.drop (eL ks)).all x7)
def a6I (ks : List Nd) : Bool:=decide (p9 ks≤100) && decide (ks.length - p9 ks≤200) && (ks.drop (p9 ks)).all x7
theorem tA : ∀ ks : List Nd,(ks.take (eL ks)).all (l7 2)=true→p9 ks=eL ks
 | [],_ => rfl
 | k :: r,h => by
   unfold eL at h
   unfold p9 eL
   rw [List.takeWhile_cons] at h ⊢
   rw [List.takeWhile_cons]
   by_cases e : (k.kind == 2)=true
   ·rw [if_pos e] at h ⊢
    rw [List.length_cons,List.take_succ_cons,List.all_cons,Bool.and_eq_true] at h
    rw [if_pos h.1,List.length_cons,List.length_cons]
    exact congrArg (· + 1) (tA r h.2)
   ·have : ¬ l7 2 k=true:=fun g => e (by rw [(L4 g).2.1]; rfl)
    rw [if_neg e,if_neg this]
theorem pY : ∀ ks : List Nd,(ks.take (eL ks)).all (l7 2)=false→(ks.drop (p9 ks)).all x7=false
 | [],h => by cases h
 | k :: r,h => by
   unfold eL at h
   unfold p9
   rw [List.takeWhile_cons] at h ⊢
   by_cases e : (k.kind == 2)=true
   ·rw [if_pos e,List.length_cons,List.take_succ_cons,List.all_cons] at h
    by_cases g : l7 2 k=true
    ·rw [g,Bool.true_and] at h
     rw [if_pos g,List.length_cons,List.drop_succ_cons]
     exact pY r h
    ·rw [if_neg g,List.length_nil,List.drop_zero,List.all_cons,a3W k (eq_of_beq e),Bool.false_and]
   ·rw [if_neg e] at h; cases h
theorem a5S (ks : List Nd) : qY ks=a6I ks:=by
 unfold qY a6I
 cases h : (ks.take (eL ks)).all (l7 2) with
 | true => rw [tA ks h,Bool.true_and]
 | false => rw [pY ks h,Bool.and_false,Bool.false_and]
def lV (k : Nd) : List UInt8:=if k.kind=2 then eD k else dJ k
theorem kQ {t : Nd} (h : x7 t=true) : t.kind=3:=by
 unfold x7 at h
 simp only [Bool.and_eq_true,beq_iff_eq] at h
 exact h.1.1.1.1.1
theorem nZ {t : Nd} (h : v8 t=true) : cS t=O6 t ++ t.kids.flatMap lV:=by
 unfold v8 at h
 simp only [Bool.and_eq_true,List.all_eq_true] at h
 have e1 : (t.kids.take (p9 t.kids)).flatMap eD=(t.kids.take (p9 t.kids)).flatMap lV:=by
  rw [List.flatMap_def,List.flatMap_def]
  congr 1
  refine List.map_congr_left fun k hk => ?_
  obtain ⟨i,hi,rfl⟩:=List.getElem_of_mem hk
  rw [List.length_take] at hi
  rw [List.getElem_take]
  have:=dO (ks:=t.kids) (k:=i) (by omega) (by omega)
  rw [lV,if_pos (L4 this).2.1]
 have e2 : (t.kids.drop (p9 t.kids)).flatMap dJ=(t.kids.drop (p9 t.kids)).flatMap lV:=by
  rw [List.flatMap_def,List.flatMap_def]
  congr 1
  refine List.map_congr_left fun k hk => ?_
  rw [lV,if_neg (by rw [kQ (h.2.2 k hk)]; decide)]
 unfold cS
 rw [e1,e2,List.append_assoc,← List.flatMap_append,List.take_append_drop]
theorem E0 {α : Type} (p : α→Bool) : ∀ (l : List α) (k : Nat),k≤l.length→(∀ j (hj : j<l.length),j<k→p l[j]=true)→(∀ (hk : k<l.length),p l[k]=false)→(l.takeWhile p).length=k
 | [],k,hk,_,_ => by simp at hk; simp [hk]
 | a :: r,0,_,_,h => by
   have:=h (by simp)
   rw [List.takeWhile_cons,if_neg (by rw [show (a :: r)[0]=a from rfl] at this; rw [this]; decide)]
   rfl
 | a :: r,k + 1,hk,h,h' => by
   have:=h 0 (by simp) (by omega)
   rw [List.takeWhile_cons,if_pos (by rw [show (a :: r)[0]=a from rfl] at this; exact this),List.length_cons]
   rw [E0 p r k (by simpa using hk) (fun j hj hjk => by have:=h (j + 1) (by simpa using hj) (by omega); simpa using this) (fun hk' => by have:=h' (by simpa using hk'); simpa using this)]
theorem kT {α : Type} (p : α→Bool) : ∀ (l : List α) (k : Nat),k<l.length→(∀ j (hj : j<l.length),j≤k→p l[j]=true)→k<(l.takeWhile p).length
 | [],k,hk,_ => by simp at hk
 | a :: r,k,hk,h => by
   have:=h 0 (by simp) (by omega)
   rw [List.takeWhile_cons,if_pos (by rw [show (a :: r)[0]=a from rfl] at this; exact this),List.length_cons]
   cases k with
   | zero => omega
   | succ k =>
     have:=kT p r k (by simpa using hk) (fun j hj hjk => by have:=h (j + 1) (by simpa using hj) (by omega); simpa using this)
     omega
theorem Y6 {α : Type} {p : α→Bool} {l : List α} {n : Nat} (h : ∀ j (hj : j<l.length),j<n→p l[j]=true) : (l.take n).all p=true:=by
 rw [List.all_eq_true]
 intro a ha
 obtain ⟨i,hi,rfl⟩:=List.getElem_of_mem ha
 rw [List.length_take] at hi
 rw [List.getElem_take]
 exact h i (by omega) (by omega)
theorem pL {α : Type} {p : α→Bool} {l : List α} {n : Nat} (h : ∀ j (hj : j<l.length),n≤j→p l[j]=true) : (l.drop n).all p=true:=by
 rw [List.all_eq_true]
 intro a ha
 obtain ⟨i,hi,rfl⟩:=List.getElem_of_mem ha
 rw [List.length_drop] at hi
 rw [List.getElem_drop]
 exact h _ (by omega) (by omega)
theorem nR {α : Type} {p : α→Bool} {l : List α} {a : α} (ha : a∈l) (h : p a=false) : l.all p=false:=by
 rw [Bool.eq_false_iff]
 intro e
 rw [List.all_eq_true] at e
 rw [e a ha] at h; cases h
theorem a4p {α : Type} {l : List α} {j n : Nat} (hj : j<l.length) (h : j<n) : l[j]∈l.take n:=by
 have : (l.take n)[j]'(by rw [List.length_take]; omega)=l[j]:=List.getElem_take ..
 rw [← this]; exact List.getElem_mem _
theorem kE {α : Type} {l : List α} {j n : Nat} (hj : j<l.length) (h : n≤j) : l[j]∈l.drop n:=by
 have : (l.drop n)[j - n]'(by rw [List.length_drop]; omega)=l[j]:=by rw [List.getElem_drop]; congr 1; omega
 rw [← this]; exact List.getElem_mem _
theorem a6c {ks : List Nd} {k : Nat} (hk : k≤ks.length) (h : ∀ j (hj : j<ks.length),j<k→ks[j].kind=2) (h' : ∀ (hk : k<ks.length),ks[k].kind≠2) : eL ks=k :=
 E0 _ ks k hk (fun j hj hjk => by rw [beq_iff_eq]; exact h j hj hjk) (fun hk => by rw [beq_eq_false_iff_ne]; exact h' hk)
theorem a3O {ks : List Nd} {k : Nat} (hk : k<ks.length) (h : ∀ j (hj : j<ks.length),j≤k→ks[j].kind=2) (hb : l7 2 ks[k]=false) : qY ks=false:=by
 have hlt : k<eL ks:=kT _ ks k hk fun j hj hjk => by rw [beq_iff_eq]; exact h j hj hjk
 unfold qY
 rw [nR (a4p hk hlt) hb,Bool.false_and]
theorem a6C (t : Nd) : v8 t=(t.kind == 1 && o7 t.text.data.toList && t.n == 0 && s8 t && qY t.kids):=by rw [a5S]; rfl
theorem kH (t : Nd) : x7 t=(t.kind == 3 && o7 t.text.data.toList && t.n == 0 && decide (1≤t.kids.length) && decide (t.kids.length≤9) && (t.kids.dropLast.all (l7 4) && d7 (J0 t) 1)):=rfl
theorem kK (kind : Int) (t : Nd) : l7 kind t=(t.kind == kind && o7 t.text.data.toList && t.n == 0 && decide ((t.kids.length : Int)=0)):=by
 unfold l7
 cases t.kids with
 | nil => rfl
 | cons a l =>
   have : decide ((((a :: l).length : Nat) : Int)=0)=false:=decide_eq_false (by simp; omega)
   rw [this]; rfl
theorem jT {ks : List Nd} {j : Nat} (hj : j<ks.length - 1) (hj' : j<ks.length) : ks[j]∈ks.dropLast:=by
 have : (ks.dropLast)[j]'(by rw [List.length_dropLast]; exact hj)=ks[j]:=List.getElem_dropLast ..
 rw [← this]; exact List.getElem_mem _
theorem vY {ks : List Nd} {p : Nd→Bool} (h : ∀ j (hj : j<ks.length),j<ks.length - 1→p ks[j]=true) : ks.dropLast.all p=true:=by
 rw [List.all_eq_true]
 intro a ha
 obtain ⟨i,hi,rfl⟩:=List.getElem_of_mem ha
 rw [List.length_dropLast] at hi
 rw [List.getElem_dropLast]
 exact h i (by omega) (by omega)
theorem iO {t : Nd} (h : v8 t=true) : s8 t=true∧o7 t.text.data.toList=true∧t.kids.length≤300:=by
 unfold v8 at h
 simp only [Bool.and_eq_true,decide_eq_true_eq] at h
 exact ⟨h.1.2,h.1.1.1.2,by omega⟩
theorem a1K {t : Nd} (h : v8 t=true) (j : Nat) (hj : j<t.kids.length) : (t.kids[j].kind=2∧l7 2 t.kids[j]=true)∨(t.kids[j].kind≠2∧x7 t.kids[j]=true):=by
 unfold v8 at h
 simp only [Bool.and_eq_true] at h
 rcases Nat.lt_or_ge j (p9 t.kids) with g | g
 ·have:=dO g hj
  exact .inl ⟨(L4 this).2.1,this⟩
 ·have:=List.all_eq_true.1 h.2.2 _ (kE hj g)
  exact .inr ⟨by rw [kQ this]; decide,this⟩
theorem xY {k : Nd} (h : k.kind=2) : lV k=eD k:=if_pos h
theorem xS {k : Nd} (h : ¬ k.kind=2) : lV k=dJ k:=if_neg h
theorem eY {t : Nd} (h : x7 t=true) : o7 t.text.data.toList=true∧1≤t.kids.length∧t.kids.length≤9∧(∀ p∈t.kids.dropLast,l7 4 p=true)∧d7 (J0 t) 1=true:=by
 unfold x7 at h
 simp only [Bool.and_eq_true,decide_eq_true_eq,List.all_eq_true] at h
 exact ⟨h.1.1.1.1.2,h.1.1.2,h.1.2,h.2.1,h.2.2⟩
theorem a5Y {t : Nd} (h : v8 t=true) (k : Nat) : (O6 t ++ (t.kids.take k).flatMap lV).length≤400000000:=by
 have hp:=iO h
 have h1 : ((t.kids.take k).flatMap lV).length≤(t.kids.take k).length * 1100000:=oV _ fun x hx => by
  have hx':=List.mem_of_mem_take hx
  obtain ⟨j,hj,rfl⟩:=List.getElem_of_mem hx'
  rcases a1K h j hj with ⟨a,b⟩ | ⟨a,b⟩
  ·rw [xY a]; have:=kW b; omega
  ·rw [xS a]
   have hsk:=cK hp.1 hx'
   exact zG b (cK hsk (kU (eY b).2.1))
 have h2 : (t.kids.take k).length≤300:=by rw [List.length_take]; omega
 have h3:=V4 hp.2.1
 have h4 : (t.kids.take k).length * 1100000≤300 * 1100000:=Nat.mul_le_mul_right _ h2
 unfold O6
 simp only [List.length_append,List.length_cons,List.length_nil]
 omega
theorem rB (ks : List Nd) : (r4 ks).map (·.2)=ks.map e7:=by rw [jR,List.map_map]; rfl
section
open Lib (hid)
open Go.RowKit
theorem c6 (w : World) (o : Obj) : Below w.heap.size w (w.alloc o):=(Below.refl _ _).alloc (Nat.le_refl _) _
theorem nC {k : IntKind} {a b : Int} (h : a=b) : Ending.returned (.int k a)=.returned (.int k b):=by rw [h]
theorem j9 {a b : Bool} (h : a=b) : Ending.returned (.bool a)=.returned (.bool b):=by rw [h]
theorem a7f (w : World) (x0 x1 x2 x3 x4 : Value) : (w.alloc (.cells #[x0,x1,x2,x3,x4] 24)).cell? ⟨w.heap.size,0,none⟩=some x0∧(w.alloc (.cells #[x0,x1,x2,x3,x4] 24)).cell? ⟨w.heap.size,1,none⟩=some x1 ∧
 (w.alloc (.cells #[x0,x1,x2,x3,x4] 24)).cell? ⟨w.heap.size,2,none⟩=some x2∧(w.alloc (.cells #[x0,x1,x2,x3,x4] 24)).cell? ⟨w.heap.size,3,none⟩=some x3∧(w.alloc (.cells #[x0,x1,x2,x3,x4] 24)).cell? ⟨w.heap.size,4,none⟩=some x4:=by
 refine ⟨?_,?_,?_,?_,?_⟩ <;> simp
theorem a0Z (N : Nat) : ∀ (t : Nd),SizeOf.sizeOf t<N→∀ (a : Option Addr) (cap n₀ : Nat) (m : Int) (w : World),t.hold n₀ w a cap→n₀≤w.heap.size→0≤m→m≤8192 →
 Calls Tryz.prog 39 #[.agg #[.int .i64 t.kind,.string t.text,.int .i64 t.n,.slice a t.kids.length cap,.int .i64 t.place],.int .i64 m] w fun e w' => e=.returned (.int .i64 (V5 t m))∧Below w.heap.size w w':=by
 induction N with
 | zero => intro t ht; omega
 | succ N ih =>
 intro t ht
 cases t with
 | mk kind s n ks p =>
 intro a cap n₀ m w hh hn h0 h1
 show Calls Tryz.prog 39 #[.agg #[.int .i64 kind,.string s,.int .i64 n,.slice a ks.length cap,.int .i64 p],.int .i64 m] w _
 have hkl : ks.length≤cap∧cap≤maxLen:=⟨hh.2.2.2.2.1,hh.2.2.2.2.2.1⟩
 have hm:=hkl
 unfold maxLen at hm
 have HH:=hid hh
 have IH:=hid ih
 have HT:=hid ht
 clear hh ih ht
 have E:=hid (show V5 (.mk kind s n ks p) m=z6 ks (m - 1) by rw [V5])
 go_enter Tryz.func39,Tryz.ntmps39
 go_wp2
 obtain ⟨W1,hW1⟩ : ∃ W1,W1=w.alloc (.cells #[.int .i64 kind,.string s,.int .i64 n,.slice a ks.length cap,.int .i64 p] 24):=⟨_,rfl⟩
 have HB:=hid (show Below w.heap.size w W1 from hW1 ▸ c6 _ _)
 have hsz : W1.heap.size=w.heap.size + 1:=by rw [hW1]; simp
 have D3:=hid (show W1.cell? ⟨w.heap.size,3,none⟩=some (.slice a ks.length cap) from hW1 ▸ (a7f w _ _ _ _ _).2.2.2.1)
 rw [← hW1]
 clear hW1
 go_loopw [1,5] (fun x i wr => ∃ (k : Nat) (y : Int),k≤ks.length∧i=.int .i64 k∧x=.int .i64 y∧-1≤y∧y≤8192∧Hid (z6 (ks.drop k) y=z6 ks (m - 1))∧Hid (Below W1.heap.size W1 wr)) (fun _ i _ => (ks.length - (intOf i).toNat))
 case atStart => exact ⟨0,m - 1,Nat.zero_le _,rfl,by go_num,by omega,by omega,rfl,Below.refl _ _⟩
 case round =>
  obtain ⟨k,y,hk,rfl,rfl,hy0,hy1,HI,HBr⟩:=hrel
  have d3:=(HBr.out.cell (p:=⟨w.heap.size,3,none⟩) (by show w.heap.size<W1.heap.size; omega)).trans D3
  have HW:=hid (HB.out.trans (HBr.out.mono HB.out.size))
  by_cases hlt : k<ks.length
  ·by_cases hy : 0≤y
   ·obtain ⟨b,off,a',cap',A⟩:=(HH.out.below (HW.out.mono hn)).kid k hlt
    obtain ⟨rfl,hb,c0,c1,c2,c3,c4,hk1⟩:=A
    have HK:=hid hk1
    clear hk1
    have R:=mY ks[k] y hy
    have S:=hid (mU ks k hlt y)
    go_wp2_with (go_at_call 39; refine (IH.out _ (dQ hlt HT) a' cap' n₀ y _ HK (Nat.le_trans hn HW.out.size) hy hy1).mono ?_; rintro e w' ⟨rfl,hb⟩)
    go_roundw
    case rel => exact ⟨k + 1,_,by omega,by go_num,rfl,R.1,by omega,by show _=_; rw [← HI.out,S.out,if_pos hy],HBr.out.trans (hb.mono HBr.out.size)⟩
    case measure => simp [intOf]; omega
   ·have S:=hid (gE (ks.drop k) hy)
    go_wp2
    go_ret
    exact ⟨nC (by rw [E.out,← HI.out,S.out]),HW⟩
  ·have S:=hid (rC ks k hlt y)
   go_wp2
   go_ret
   exact ⟨nC (by rw [E.out,← HI.out,S.out]),HW⟩
theorem a2M (t : Nd) (a : Option Addr) (cap n₀ : Nat) (m : Int) (w : World) (hh : t.hold n₀ w a cap) (hn : n₀≤w.heap.size) (h0 : 0≤m) (h1 : m≤8192) :
 Calls Tryz.prog 39 #[.agg #[.int .i64 t.kind,.string t.text,.int .i64 t.n,.slice a t.kids.length cap,.int .i64 t.place],.int .i64 m] w fun e w' => e=.returned (.int .i64 (V5 t m))∧Below w.heap.size w w' :=
 a0Z _ t (Nat.lt_succ_self _) a cap n₀ m w hh hn h0 h1
theorem oU (t : Nd) (a : Option Addr) (cap n₀ : Nat) (w : World) (hh : t.hold n₀ w a cap) (hn : n₀≤w.heap.size) :
 Calls Tryz.prog 18 #[.agg #[.int .i64 t.kind,.string t.text,.int .i64 t.n,.slice a t.kids.length cap,.int .i64 t.place]] w fun e w' => e=.returned (.bool (s8 t))∧Below w.heap.size w w':=by
 have HH:=hid hh
 clear hh
 have HB:=hid (c6 w (.cells #[.int .i64 t.kind,.string t.text,.int .i64 t.n,.slice a t.kids.length cap,.int .i64 t.place] 24))
 go_enter Tryz.func18,Tryz.ntmps18
 go_wp2_with (go_at_call 39; refine (a2M t a cap n₀ 8192 _ (HH.out.below (HB.out.mono hn)) (Nat.le_trans hn HB.out.size) (by omega) (by omega)).mono ?_; rintro e w' ⟨rfl,hb⟩)
 go_ret
 exact ⟨rfl,HB.out.trans (hb.mono HB.out.size)⟩
end
section
open Go.RowKit
theorem a3X {s s' : ByteArray} (h : s.toList=s'.toList) : s=s':=by
 rw [Lib.toList_data,Lib.toList_data] at h
 cases s
 cases s'
 simp only [ByteArray.mk.injEq]
 exact Array.toList_inj.1 h
end
section
open Go.RowKit
theorem iA (w : World) (o : Obj) : Below w.heap.size w (w.alloc o):=(Below.refl _ _).alloc (Nat.le_refl _) _
theorem a6W (w : World) (o o' : Obj) : Below w.heap.size w ((w.alloc o).alloc o'):=(iA w o).alloc (by simp) _
theorem vT {k : IntKind} {a b : Int} (h : a=b) : Ending.returned (.int k a)=.returned (.int k b):=by rw [h]
theorem uX {k : IntKind} {a b : Int} (h : a=b) : Value.int k a=Value.int k b:=by rw [h]
theorem xA (y : Int) (w : World) (h0 : 0≤y) (h1 : y≤100000) :
 Calls Tryz.prog 188 #[.int .i64 y] w fun e w' => e=.returned (.bool (Cal.lp y))∧w=w':=by
 go_enter Tryz.func188,Tryz.ntmps188
 go_wp2
 all_goals go_ret
 all_goals exact ⟨by simp [Cal.lp, *],rfl⟩
theorem lS (y : Int) (w : World) (h0 : 0≤y) (h1 : y≤100000) :
 Calls Tryz.prog 172 #[.int .i64 y] w fun e w' => e=.returned (.bool (Cal.lp y))∧w=w':=by
 go_enter Tryz.func172,Tryz.ntmps172
 go_wp2
 all_goals go_ret
 all_goals exact ⟨by simp [Cal.lp, *],rfl⟩
theorem yO (y : Int) (w : World) (h0 : 0≤y) (h1 : y≤100000) :
 Calls Tryz.prog 165 #[.int .i64 y] w fun e w' => e=.returned (.int .i64 (365 + Cal.lpI y))∧w=w':=by
 cases hl : Cal.lp y
 all_goals
  go_enter Tryz.func165,Tryz.ntmps165
  go_wp2_with (go_at_call 188; refine (xA _ _ (by omega) (by omega)).mono ?_; rintro e w' ⟨rfl,rfl⟩)
  go_ret
  exact ⟨by simp [Cal.lpI,hl],rfl⟩
theorem lL (y : Int) (w : World) (h0 : 1≤y) (h1 : y≤100000) :
 Calls Tryz.prog 164 #[.int .i64 y] w fun e w' => e=.returned (.int .i64 (Cal.ahead y))∧w=w':=by
 go_enter Tryz.func164,Tryz.ntmps164
 go_wp2
 go_ret
 exact ⟨rfl,rfl⟩
theorem eF (y : Int) (w : World) (h0 : 0≤y) (h1 : y≤100000) :
 Calls Tryz.prog 166 #[.int .i64 y] w fun e w' => e=.returned (.agg #[.int .i64 31,.int .i64 (28 + Cal.lpI y),.int .i64 31,.int .i64 30,.int .i64 31,.int .i64 30,.int .i64 31,.int .i64 31,.int .i64 30,.int .i64 31,.int .i64 30,.int .i64 31])∧Below w.heap.size w w':=by
 cases hl : Cal.lp y
 all_goals
  go_enter Tryz.func166,Tryz.ntmps166
  go_wp2_with (go_at_call 188; refine (xA _ _ (by omega) (by omega)).mono ?_; rintro e w' ⟨rfl,rfl⟩)
  refine bodyPost_ret (v:=.agg #[.int .i64 31,.int .i64 (28 + Cal.lpI y),.int .i64 31,.int .i64 30,.int .i64 31,.int .i64 30,.int .i64 31,.int .i64 31,.int .i64 30,.int .i64 31,.int .i64 30,.int .i64 31]) ?_ rfl ⟨rfl,a6W _ _ _⟩
  simp [results,Tryz.results166,go_sem,Cal.lpI,hl]
theorem a7t (y : Int) {m : Int} (h2 : 1≤m) (h3 : m≤12) (hm : ¬ m=2) : [Value.int IntKind.i64 31,Value.int IntKind.i64 28,Value.int IntKind.i64 31,Value.int IntKind.i64 30,Value.int IntKind.i64 31,Value.int IntKind.i64 30,Value.int IntKind.i64 31,Value.int IntKind.i64 31,Value.int IntKind.i64 30,Value.int IntKind.i64 31,Value.int IntKind.i64 30,Value.int IntKind.i64 31][m.toNat - 1]?=some (.int .i64 (Cal.mlen y m)):=by
 rcases Cal.months_cases h2 h3 with e | e | e | e | e | e | e | e | e | e | e | e <;> subst e <;> first | rfl | omega
theorem a6U (y : Int) {k : Nat} (h3 : k<12) : [Value.int IntKind.i64 31,Value.int IntKind.i64 (28 + Cal.lpI y),Value.int IntKind.i64 31,Value.int IntKind.i64 30,Value.int IntKind.i64 31,Value.int IntKind.i64 30,Value.int IntKind.i64 31,Value.int IntKind.i64 31,Value.int IntKind.i64 30,Value.int IntKind.i64 31,Value.int IntKind.i64 30,Value.int IntKind.i64 31][k]?=some (.int .i64 (Cal.mlen y ((k : Int) + 1))):=by
 have c : k=0∨k=1∨k=2∨k=3∨k=4∨k=5∨k=6∨k=7∨k=8∨k=9∨k=10∨k=11:=by omega
 rcases c with e | e | e | e | e | e | e | e | e | e | e | e <;> subst e <;> rfl
theorem gX (y m : Int) (w : World) (h0 : 0≤y) (h1 : y≤100000) (h2 : 1≤m) (h3 : m≤12) :
 Calls Tryz.prog 171 #[.int .i64 y,.int .i64 m] w fun e w' => e=.returned (.int .i64 (Cal.mlen y m))∧Below w.heap.size w w':=by
 by_cases hm : m=2
 ·subst hm
  cases hl : Cal.lp y
  all_goals
   go_enter Tryz.func171,Tryz.ntmps171
   go_wp2_with (go_at_call 172; refine (lS _ _ (by omega) (by omega)).mono ?_; rintro e w' ⟨rfl,rfl⟩)
   go_ret
   exact ⟨by simp [Cal.mlen,Cal.lpI,hl],iA _ _⟩
 ·have hg:=a7t y h2 h3 hm
  go_enter Tryz.func171,Tryz.ntmps171
  go_wp2_with (go_at_call 172; refine (lS _ _ (by omega) (by omega)).mono ?_; rintro e w' ⟨rfl,rfl⟩)
  go_ret
  exact ⟨rfl,iA _ _⟩
end
section
open Lib (hid)
open Go.RowKit
theorem a5W (y m d : Int) (w : World) (h : ¬ Cal.ok y m d) :
 Calls Tryz.prog 139 #[.int .i64 y,.int .i64 m,.int .i64 d] w fun e w' => e=.returned (.tuple #[.int .i64 0,.int .i64 30])∧Below w.heap.size w w':=by
 by_cases h1 : y<1900
 ·clear h
  go_enter Tryz.func139,Tryz.ntmps139
  go_wp2
  go_ret2
  exact ⟨rfl,Below.refl _ _⟩
 by_cases h2 : 2099<y
 ·clear h
  go_enter Tryz.func139,Tryz.ntmps139
  go_wp2
  go_ret2
  exact ⟨rfl,Below.refl _ _⟩
 by_cases h3 : m<1
 ·clear h
  go_enter Tryz.func139,Tryz.ntmps139
  go_wp2
  go_ret2
  exact ⟨rfl,Below.refl _ _⟩
 by_cases h4 : 12<m
 ·clear h
  go_enter Tryz.func139,Tryz.ntmps139
  go_wp2
  go_ret2
  exact ⟨rfl,Below.refl _ _⟩
 by_cases h5 : d<1
 ·clear h
  go_enter Tryz.func139,Tryz.ntmps139
  go_wp2
  go_ret2
  exact ⟨rfl,Below.refl _ _⟩
 have h6 : Cal.mlen y m<d:=by unfold Cal.ok at h; omega
 clear h
 go_enter Tryz.func139,Tryz.ntmps139
 go_wp2_with (go_at_call 171; refine (gX _ _ _ (by omega) (by omega) (by omega) (by omega)).mono ?_; rintro e w' ⟨rfl,hb⟩)
 go_ret2
 exact ⟨rfl,hb⟩
theorem a63 (y m d : Int) (w : World) (h : Cal.ok y m d) :
 Calls Tryz.prog 139 #[.int .i64 y,.int .i64 m,.int .i64 d] w fun e w' => e=.returned (.tuple #[.int .i64 (Cal.num y m d),.int .i64 0])∧Below w.heap.size w w':=by
 obtain ⟨h1,h2,h3,h4,h5,h6⟩:=h
 have ml:=Cal.mlen_bd y m
 go_enter Tryz.func139,Tryz.ntmps139
 go_wp2_with (go_at_call 171; refine (gX _ _ _ (by omega) (by omega) (by omega) (by omega)).mono ?_; rintro e w' ⟨rfl,hb⟩)
 go_loop [8,9] (fun n t => ∃ z : Int,1900≤z∧z≤y∧t=.int .i64 z∧n=.int .i64 (Cal.ahead z)) (fun _ t => (2100 - intOf t).toNat)
 case atStart => exact ⟨1900,by omega,h1,rfl,rfl⟩
 case round =>
  obtain ⟨z,hz1,hz2,rfl,rfl⟩:=hrel
  have hb1:=Cal.ahead_bd hz1 (by omega)
  have hs:=hid (Cal.ahead_succ z)
  by_cases hlt : z<y
  ·cases hl : Cal.lp z
   all_goals
    go_wp2_with (go_at_call 172; refine (lS _ _ (by omega) (by omega)).mono ?_; rintro e w' ⟨rfl,rfl⟩)
    go_round
    case rel => exact ⟨z + 1,by omega,by omega,by go_num,by rw [hs.out]; simp [Cal.lpI,hl]⟩
    case measure => simp [intOf]; omega
  ·obtain rfl : z=y:=by omega
   clear hs hlt
   have cb:=Cal.cum_bd z h3 (by omega)
   go_wp2
   go_loopw [8,11] (fun n k wr => ∃ j : Int,1≤j∧j≤m∧k=.int .i64 j∧n=.int .i64 (Cal.ahead z + Cal.cum z j)∧Below w.heap.size w wr) (fun _ k _ => (13 - intOf k).toNat)
   case atStart => exact ⟨1,by omega,h3,rfl,by rw [Cal.cum_1]; go_num,hb⟩
   case round =>
    obtain ⟨j,hj1,hj2,rfl,rfl,hb2⟩:=hrel
    clear hb
    have hB:=hid hb2
    clear hb2
    have cj:=Cal.cum_bd z hj1 (by omega)
    have mj:=Cal.mlen_bd z j
    have hs:=hid (Cal.cum_succ z hj1 (by omega))
    by_cases hlt : j<m
    ·go_wp2_with (go_at_call 171; refine (gX _ _ _ (by omega) (by omega) (by omega) (by omega)).mono ?_; rintro e w' ⟨rfl,hb⟩)
     go_roundw
     case rel => exact ⟨j + 1,by omega,by omega,by go_num,by rw [hs.out]; go_num,hB.out.trans (hb.mono hB.out.size)⟩
     case measure => simp [intOf]; omega
    ·obtain rfl : j=m:=by omega
     go_wp2
     go_ret2
     exact ⟨by simp [Cal.num],hB⟩
end
end Go.Proofs.YtibiccacafjjfaaGreatDoor
