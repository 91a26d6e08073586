/-
  Laws that the proof rests on.
-/
import Derived.Test.YtibiccacafjjfaaGreatDoorR02
import Derived.Test.YtibiccacafjjfaaGreatDoorR01
import Derived.WalkKit
import Derived.WalkSpells
import Derived.WalkLawsBesides
import Derived.IntWalk
import Derived.Lib.Hide
import Derived.Lib.Strings
import Derived.Test.YtibiccacafjjfaaGreatDoorRows
namespace Go.Proofs.YtibiccacafjjfaaGreatDoor
set_option maxRecDepth 100000
set_option maxHeartbeats 16000000
def a1S (k : Int) : Prop:=(5≤k∧k≤11)∨k=15
theorem F5 {t : Nd} {d : Int} (h : e7 t d=true) : r5 t.kind t.kids.length=true∧L7 t.kind t.text.data.toList=true∧Y7 t.kind t.n=true∧m8 t.kids (d + 1)=true:=by
 cases t
 rw [e7] at h
 simp only [Bool.and_eq_true] at h
 exact ⟨h.1.1.1.2,h.1.1.2,h.1.2,h.2⟩
theorem uE {k : Int} {n : Nat} (h : r5 k n=true) : 5≤k∧k≤15:=by
 unfold r5 at h
 split at h
 ·omega
 split at h
 ·omega
 split at h
 ·omega
 split at h
 ·omega
 split at h
 ·omega
 ·cases h
theorem a1K {k : Int} {n : Nat} (h : r5 k n=true) (h' : ¬ J0 k=true) : a1S k:=by
 have:=uE h
 unfold J0 at h'
 simp only [Bool.or_eq_true,decide_eq_true_eq] at h'
 unfold a1S
 omega
theorem wO (t : Nd) : d9 t=wC t.kind t.n t.text.data.toList (s6 t.kids):=by cases t; rw [d9]; rfl
theorem wY (s : ByteArray) (n p : Int) (k u : Nd) : d9 (.mk 13 s n [k,u] p)=aI k.kind (d9 k) ++ 32 :: (s.data.toList ++ 32 :: aI u.kind (d9 u)):=by
 rw [d9,s6,s6,s6]
 show aI k.kind (d9 k) ++ [32] ++ s.data.toList ++ [32] ++ aI u.kind (d9 u)=_
 simp
theorem zR (s : ByteArray) (n p : Int) (k : Nd) : d9 (.mk 12 s n [k] p)=(if s.data.toList=[45] then [45] else [110,111,116,32]) ++ aI k.kind (d9 k):=by
 rw [d9,s6,s6]; rfl
theorem a1J (s : ByteArray) (n p : Int) (k u v : Nd) : d9 (.mk 14 s n [k,u,v] p)=105 :: 102 :: 32 :: (d9 k ++ 32 :: ([116,104,101,110] ++ 32 :: (d9 u ++ 32 :: ([101,108,115,101] ++ 32 :: d9 v)))):=by
 rw [d9,s6,s6,s6,s6]
 show [105,102,32] ++ d9 k ++ [32,116,104,101,110,32] ++ d9 u ++ [32,101,108,115,101,32] ++ d9 v=_
 simp
theorem fV {t : Nd} {d : Int} (h : e7 t d=true) (hk : 5≤t.kind∧t.kind≤10) : t.kids=[]:=by
 have:=(F5 h).1
 unfold r5 at this
 rw [if_pos hk,decide_eq_true_eq] at this
 exact List.eq_nil_of_length_eq_zero this
def hw (t : Nd) : List UInt8:=if t.kind=9 then [102,101,101,100] else if t.kind=15 then [112,105,99,107] else if t.kind=11 then t.text.data.toList else d9 t
theorem a3t (l : List (List UInt8)) : ∃ x,bI l=40 :: x:=by
 cases l <;> exact ⟨_,rfl⟩
theorem rD {k : Int} (h : a1S k) : k=5∨k=6∨k=7∨k=8∨k=9∨k=10∨k=11∨k=15:=by unfold a1S at h; omega
theorem a60 {c : UInt8} (h : dgC c=true) : c≠45:=by rintro rfl; exact absurd h (by decide)
theorem rX {t : Nd} {d : Int} (h : e7 t d=true) (hk : t.kind=11∨t.kind=15) : t.kids≠[]:=by
 have:=(F5 h).1
 intro e
 rw [e] at this
 rcases hk with hk | hk <;> (rw [hk] at this; exact absurd this (by decide))
theorem dO {k n : Int} (h : Y7 k n=true) (hk : k≠5∧k≠6∧k≠8) : n=0:=by
 unfold Y7 at h
 rw [if_neg hk.1,if_neg hk.2.1,if_neg hk.2.2,decide_eq_true_eq] at h
 exact h
theorem a7A {α : Type} {l : List α} (h : l.length=1) : ∃ a,l=[a]:=by
 match l,h with
 | [a],_ => exact ⟨a,rfl⟩
theorem a7p {α : Type} {l : List α} (h : l.length=2) : ∃ a b,l=[a,b]:=by
 match l,h with
 | [a,b],_ => exact ⟨a,b,rfl⟩
theorem a6h {α : Type} {l : List α} (h : l.length=3) : ∃ a b c,l=[a,b,c]:=by
 match l,h with
 | [a,b,c],_ => exact ⟨a,b,c,rfl⟩
theorem tF {t : Nd} {d : Int} (h : e7 t d=true) (hk : t.kind=12) : ∃ s k p,t=.mk 12 s 0 [k] p∧(s.data.toList=[45]∨s.data.toList=[110,111,116])∧e7 k (d + 1)=true:=by
 obtain ⟨q,ht,hn,hr⟩:=F5 h
 cases t with
 | mk kind s n ks p =>
 obtain rfl : kind=12:=hk
 obtain ⟨k,rfl⟩:=a7A (show ks.length=1 by have q' : r5 12 ks.length=true:=q; simpa [r5] using q')
 obtain rfl : n=0:=dO (k:=12) hn (by decide)
 have ht' : s.data.toList=[45]∨s.data.toList=[110,111,116]:=by
  have : (s.data.toList == [45] || s.data.toList == [110,111,116])=true:=ht
  simpa using this
 rw [Nd.kids,m8,Bool.and_eq_true] at hr
 exact ⟨s,k,p,rfl,ht',hr.1⟩
theorem tC {t : Nd} {d : Int} (h : e7 t d=true) (hk : t.kind=13) : ∃ s k u p,t=.mk 13 s 0 [k,u] p∧dL s.data.toList=true∧e7 k (d + 1)=true∧e7 u (d + 1)=true:=by
 obtain ⟨q,ht,hn,hr⟩:=F5 h
 cases t with
 | mk kind s n ks p =>
 obtain rfl : kind=13:=hk
 obtain ⟨k,u,rfl⟩:=a7p (show ks.length=2 by have q' : r5 13 ks.length=true:=q; simpa [r5] using q')
 obtain rfl : n=0:=dO (k:=13) hn (by decide)
 rw [Nd.kids,m8,m8,Bool.and_eq_true,Bool.and_eq_true] at hr
 exact ⟨s,k,u,p,rfl,ht,hr.1,hr.2.1⟩
theorem zE {t : Nd} {d : Int} (h : e7 t d=true) (hk : t.kind=14) : ∃ s k u v p,t=.mk 14 s 0 [k,u,v] p∧s.data.toList=[]∧e7 k (d + 1)=true∧e7 u (d + 1)=true∧e7 v (d + 1)=true:=by
 obtain ⟨q,ht,hn,hr⟩:=F5 h
 cases t with
 | mk kind s n ks p =>
 obtain rfl : kind=14:=hk
 obtain ⟨k,u,v,rfl⟩:=a6h (show ks.length=3 by have q' : r5 14 ks.length=true:=q; simpa [r5] using q')
 obtain rfl : n=0:=dO (k:=14) hn (by decide)
 rw [Nd.kids,m8,m8,m8,Bool.and_eq_true,Bool.and_eq_true,Bool.and_eq_true] at hr
 exact ⟨s,k,u,v,p,rfl,List.isEmpty_iff.1 ht,hr.1,hr.2.1,hr.2.2.1⟩
theorem zH {t k : Nd} {N : Nat} (h : SizeOf.sizeOf t<N + 1) (hk : k∈t.kids) : SizeOf.sizeOf k<N:=by
 cases t with
 | mk kind s n ks p =>
 have:=List.sizeOf_lt_of_mem (show k∈ks from hk)
 simp only [Nd.mk.sizeOf_spec] at h
 omega
mutual
theorem tB : ∀ (a b : Nd),bH a b=true→d9 a=d9 b
 | .mk k s n ks p,b,h => by
   rw [kI] at h
   simp only [Bool.and_eq_true,beq_iff_eq,Nd.kind,Nd.text,Nd.n,Nd.kids] at h
   obtain ⟨⟨⟨h1,h2⟩,h3⟩,h4⟩:=h
   cases b with
   | mk k' s' n' ks' p' =>
   have h2' : s.data.toList=s'.data.toList:=by rw [Lib.toList_data,Lib.toList_data] at h2; exact h2
   rw [d9,d9,rK ks ks' h4]
   simp only at h1 h3
   rw [h1,h3,h2']
theorem rK : ∀ (a b : List Nd),D7 a b=true→s6 a=s6 b
 | [],b,h => by
   rw [D7,List.isEmpty_iff] at h
   rw [h]
 | a :: r,[],h => by rw [D7] at h; cases h
 | a :: r,b :: l,h => by
   rw [D7,Bool.and_eq_true] at h
   have e : a.kind=b.kind:=by
    have:=h.1
    rw [kI] at this
    simp only [Bool.and_eq_true,beq_iff_eq] at this
    exact this.1.1.1
   rw [s6,s6,tB a b h.1,rK r l h.2,e]
end
def y8 (t : Nd) : Bool:=decide (5≤t.kind∧t.kind≤10) && (L7 t.kind t.text.data.toList && Y7 t.kind t.n) && t.kids.isEmpty
def jJ (t : Nd) : Bool :=
 if t.kind=11 then eH t.text.data.toList
 else if t.kind=15 then p8 t.text.data.toList && decide (t.kids.length=3)
 else if t.kind=14 then t.text.data.toList.isEmpty && decide (t.kids.length=3)
 else if t.kind=12 then (t.text.data.toList == [45] || t.text.data.toList == [110,111,116]) && decide (t.kids.length=1)
 else if t.kind=13 then dL t.text.data.toList && decide (t.kids.length=2)
 else false
theorem yZ (t : Nd) (d : Int) : e7 t d=(decide (d≤100) && (y8 t || (decide (t.n=0) && (decide (1≤t.kids.length) && decide (t.kids.length≤8)) && m8 t.kids (d + 1) && jJ t))):=by
 cases t with
 | mk kind s n ks p =>
 rw [e7]
 show (decide (d≤100) && r5 kind ks.length && L7 kind s.data.toList && Y7 kind n && m8 ks (d + 1))=(decide (d≤100) && ((decide (5≤kind∧kind≤10) && (L7 kind s.data.toList && Y7 kind n) && ks.isEmpty) ||
  (decide (n=0) && (decide (1≤ks.length) && decide (ks.length≤8)) && m8 ks (d + 1) && (if kind=11 then eH s.data.toList
    else if kind=15 then p8 s.data.toList && decide (ks.length=3)
    else if kind=14 then s.data.toList.isEmpty && decide (ks.length=3)
    else if kind=12 then (s.data.toList == [45] || s.data.toList == [110,111,116]) && decide (ks.length=1)
    else if kind=13 then dL s.data.toList && decide (ks.length=2)
    else false))))
 cases decide (d≤100)
 ·simp
 simp only [Bool.true_and]
 by_cases h1 : 5≤kind∧kind≤10
 ·rw [decide_eq_true h1,if_neg (by omega),if_neg (by omega),if_neg (by omega),if_neg (by omega),if_neg (by omega),Bool.and_false,Bool.or_false,Bool.true_and]
  unfold r5
  rw [if_pos h1]
  cases ks with
  | nil => rw [m8]; simp
  | cons k ks => simp
 ·rw [decide_eq_false h1,Bool.false_and,Bool.false_and,Bool.false_or]
  have hk : kind=11∨kind=15∨kind=14∨kind=12∨kind=13∨(kind≠11∧kind≠15∧kind≠14∧kind≠12∧kind≠13):=by omega
  rcases hk with hk | hk | hk | hk | hk | hk
  ·subst hk
   have e1 : r5 11 ks.length=(decide (1≤ks.length) && decide (ks.length≤8)):=rfl
   have e2 : L7 11 s.data.toList=eH s.data.toList:=rfl
   have e3 : Y7 11 n=decide (n=0):=rfl
   rw [e1,e2,e3,if_pos rfl]
   cases decide (1≤ks.length) <;> cases decide (ks.length≤8) <;> cases decide (n=0) <;> cases eH s.data.toList <;> cases m8 ks (d + 1) <;> rfl
  ·subst hk
   have e1 : r5 15 ks.length=decide (ks.length=3):=rfl
   have e2 : L7 15 s.data.toList=p8 s.data.toList:=rfl
   have e3 : Y7 15 n=decide (n=0):=rfl
   rw [e1,e2,e3,if_neg (by decide),if_pos rfl]
   by_cases hl : ks.length=3
   ·rw [decide_eq_true hl,decide_eq_true (show 1≤ks.length by omega),decide_eq_true (show ks.length≤8 by omega)]
    cases decide (n=0) <;> cases p8 s.data.toList <;> cases m8 ks (d + 1) <;> rfl
   ·rw [decide_eq_false hl]; simp
  ·subst hk
   have e1 : r5 14 ks.length=decide (ks.length=3):=rfl
   have e2 : L7 14 s.data.toList=s.data.toList.isEmpty:=rfl
   have e3 : Y7 14 n=decide (n=0):=rfl
   rw [e1,e2,e3,if_neg (by decide),if_neg (by decide),if_pos rfl]
   by_cases hl : ks.length=3
   ·rw [decide_eq_true hl,decide_eq_true (show 1≤ks.length by omega),decide_eq_true (show ks.length≤8 by omega)]
    cases decide (n=0) <;> cases s.data.toList.isEmpty <;> cases m8 ks (d + 1) <;> rfl
   ·rw [decide_eq_false hl]; simp
  ·subst hk
   have e1 : r5 12 ks.length=decide (ks.length=1):=rfl
   have e2 : L7 12 s.data.toList=(s.data.toList == [45] || s.data.toList == [110,111,116]):=rfl
   have e3 : Y7 12 n=decide (n=0):=rfl
   rw [e1,e2,e3,if_neg (by decide),if_neg (by decide),if_neg (by decide),if_pos rfl]
   by_cases hl : ks.length=1
   ·rw [decide_eq_true hl,decide_eq_true (show 1≤ks.length by omega),decide_eq_true (show ks.length≤8 by omega)]
    cases decide (n=0) <;> cases (s.data.toList == [45] || s.data.toList == [110,111,116]) <;> cases m8 ks (d + 1) <;> rfl
   ·rw [decide_eq_false hl]; simp
  ·subst hk
   have e1 : r5 13 ks.length=decide (ks.length=2):=rfl
   have e2 : L7 13 s.data.toList=dL s.data.toList:=rfl
   have e3 : Y7 13 n=decide (n=0):=rfl
   rw [e1,e2,e3,if_neg (by decide),if_neg (by decide),if_neg (by decide),if_neg (by decide),if_pos rfl]
   by_cases hl : ks.length=2
   ·rw [decide_eq_true hl,decide_eq_true (show 1≤ks.length by omega),decide_eq_true (show ks.length≤8 by omega)]
    cases decide (n=0) <;> cases dL s.data.toList <;> cases m8 ks (d + 1) <;> rfl
   ·rw [decide_eq_false hl]; simp
  ·have e1 : r5 kind ks.length=false:=by
    unfold r5
    rw [if_neg h1,if_neg hk.1,if_neg hk.2.2.2.1,if_neg hk.2.2.2.2,if_neg (by omega)]
   rw [e1,if_neg hk.1,if_neg hk.2.1,if_neg hk.2.2.1,if_neg hk.2.2.2.1,if_neg hk.2.2.2.2]
   simp
theorem wK (ks : List Nd) (d : Int) : ∀ n,(∀ j (hj : j<ks.length),j<n→e7 ks[j] d=true)→m8 (ks.take n) d=true:=by
 intro n h
 rw [eW,List.all_eq_true]
 intro k hk
 obtain ⟨i,hi,rfl⟩:=List.getElem_of_mem hk
 rw [List.length_take] at hi
 rw [List.getElem_take]
 exact h i (by omega) (by omega)
theorem nM {ks : List Nd} {d : Int} {j : Nat} (hj : j<ks.length) (h : e7 ks[j] d=false) : m8 ks d=false:=by
 rw [eW,Bool.eq_false_iff]
 intro e
 rw [List.all_eq_true] at e
 rw [e _ (List.getElem_mem hj)] at h
 cases h
def m6 (kind : Int) (t : Nd) : Bool:=t.kind == kind && p7 t.text.data.toList && t.n == 0 && t.kids.isEmpty
def T3 (t : Nd) : Nd:=t.kids.getLastD (.mk 0 ByteArray.empty 0 [] 0)
def O9 (t : Nd) : Bool:=t.kind == 3 && p7 t.text.data.toList && t.n == 0 && decide (1≤t.kids.length) && decide (t.kids.length≤9) && (t.kids.dropLast.all (m6 4) && e7 (T3 t) 1)
def eM (t : Nd) : List UInt8:=[108,101,116,32] ++ t.text.data.toList
def dR (t : Nd) : List UInt8:=eM t ++ (if t.kids.length=1 then [] else bI (t.kids.dropLast.map fun p => p.text.data.toList)) ++ [32,61,32] ++ d9 (T3 t) ++ [59,10]
def eK (t : Nd) : List UInt8:=[105,109,112,111,114,116,32] ++ t.text.data.toList ++ [59,10]
def U5 (t : Nd) : List UInt8:=[109,111,100,117,108,101,32] ++ t.text.data.toList ++ [59,10]
def v8 (ks : List Nd) : Nat:=(ks.takeWhile (m6 2)).length
def I9 (t : Nd) : Bool:=t.kind == 1 && p7 t.text.data.toList && t.n == 0 && z6 t && (decide (v8 t.kids≤100) && decide (t.kids.length - v8 t.kids≤200) && (t.kids.drop (v8 t.kids)).all O9)
def dG (t : Nd) : List UInt8:=U5 t ++ (t.kids.take (v8 t.kids)).flatMap eK ++ (t.kids.drop (v8 t.kids)).flatMap dR
theorem yQ (ks : List Nd) : v8 ks≤ks.length:=(List.takeWhile_sublist (l:=ks) (m6 2)).length_le
theorem uY : ∀ (ks : List Nd) (k : Nd),k∈ks→p9 k≤l7 ks
 | a :: r,k,h => by
   rw [l7]
   rcases List.mem_cons.1 h with rfl | h
   ·omega
   ·have:=uY r k h; omega
 | [],_,h => by cases h
theorem pS (t : Nd) : p9 t=l7 t.kids + 1:=by cases t; rw [p9]; rfl
theorem fP {t k : Nd} (h : z6 t=true) (hk : k∈t.kids) : z6 k=true:=by
 rw [fJ,decide_eq_true_eq] at h ⊢
 have:=uY t.kids k hk
 have:=pS t
 omega
theorem zU {t : Nd} (h : 1≤t.kids.length) : t.kids[t.kids.length - 1]'(by omega)=T3 t:=by
 unfold T3
 rw [List.getLastD_eq_getLast?,List.getLast?_eq_getElem?,List.getElem?_eq_getElem (by omega)]
 rfl
theorem qQ {t : Nd} (h : 1≤t.kids.length) : T3 t∈t.kids:=by
 rw [← zU h]
 exact List.getElem_mem _
theorem a7C {l : List Nat} {b : Nat} (h : ∀ x∈l,x≤b) : l.sum≤l.length * b:=by
 induction l with
 | nil => simp
 | cons a l ih =>
   have h1:=h a (List.mem_cons_self ..)
   have h2:=ih fun x hx => h x (List.mem_cons_of_mem _ hx)
   rw [List.sum_cons,List.length_cons,Nat.succ_mul]
   omega
theorem kB {t : Nd} (h : z6 t=true) {d : Int} (hr : e7 t d=true) : (d9 t).length≤1048576:=by
 rw [fJ,decide_eq_true_eq] at h
 have:=lP t d hr
 omega
theorem L9 {k : Int} {t : Nd} (h : m6 k t=true) : p7 t.text.data.toList=true∧t.kind=k∧t.n=0∧t.kids=[]:=by
 unfold m6 at h
 simp only [Bool.and_eq_true,beq_iff_eq,List.isEmpty_iff] at h
 exact ⟨h.1.1.2,h.1.1.1,h.1.2,h.2⟩
theorem pJ {t : Nd} (h : O9 t=true) : (bI (t.kids.dropLast.map fun p => p.text.data.toList)).length≤300:=by
 unfold O9 at h
 simp only [Bool.and_eq_true,decide_eq_true_eq,List.all_eq_true] at h
 have h1:=sN (t.kids.dropLast.map fun p => p.text.data.toList)
 have h2:=a7C (l:=(t.kids.dropLast.map fun p => p.text.data.toList).map fun f => f.length + 2) (b:=26) (by
  intro x hx
  rw [List.map_map,List.mem_map] at hx
  obtain ⟨p,hp,rfl⟩:=hx
  have:=I4 (L9 (h.2.1 p hp)).1
  show p.text.data.toList.length + 2≤26
  omega)
 simp only [List.length_map,List.length_dropLast] at h2
 omega
theorem zT {t : Nd} (h : O9 t=true) (hs : z6 (T3 t)=true) : (dR t).length≤1100000:=by
 have h1:=pJ h
 unfold O9 at h
 simp only [Bool.and_eq_true,decide_eq_true_eq,List.all_eq_true] at h
 have h2:=I4 h.1.1.1.1.2
 have h3:=kB hs h.2.2
 unfold dR eM
 simp only [List.length_append,List.length_cons,List.length_nil]
 split <;> (try simp only [List.length_nil]) <;> omega
theorem kZ {t : Nd} (h : m6 2 t=true) : (eK t).length≤40:=by
 have:=I4 (L9 h).1
 unfold eK
 simp only [List.length_append,List.length_cons,List.length_nil]
 omega
theorem qA {f : Nd→List UInt8} {b : Nat} : ∀ (l : List Nd),(∀ x∈l,(f x).length≤b)→(l.flatMap f).length≤l.length * b
 | [],_ => by simp
 | a :: l,h => by
   have h1:=h a (List.mem_cons_self ..)
   have h2:=qA l fun x hx => h x (List.mem_cons_of_mem _ hx)
   rw [List.flatMap_cons,List.length_append,List.length_cons,Nat.succ_mul]
   omega
theorem lM {f : Nd→List UInt8} (l : List Nd) (k : Nat) (h : k<l.length) : (l.take (k + 1)).flatMap f=(l.take k).flatMap f ++ f l[k]:=by
 rw [List.take_succ_eq_append_getElem h,List.flatMap_append]
 simp
theorem dX {ks : List Nd} {k : Nat} (h : k<v8 ks) (hk : k<ks.length) : m6 2 ks[k]=true:=by
 unfold v8 at h
 have h1 : (ks.takeWhile (m6 2))[k]=ks[k]:=(List.takeWhile_prefix (m6 2)).getElem h
 rw [← h1]
 exact List.all_eq_true.1 (List.all_takeWhile (l:=ks) (p:=m6 2)) _ (List.getElem_mem _)
def mL (k : Nd) : List UInt8:=if k.kind=2 then eK k else dR k
theorem kV {t : Nd} (h : O9 t=true) : t.kind=3:=by
 unfold O9 at h
 simp only [Bool.and_eq_true,beq_iff_eq] at h
 exact h.1.1.1.1.1
theorem nX {t : Nd} (h : I9 t=true) : dG t=U5 t ++ t.kids.flatMap mL:=by
 unfold I9 at h
 simp only [Bool.and_eq_true,List.all_eq_true] at h
 have e1 : (t.kids.take (v8 t.kids)).flatMap eK=(t.kids.take (v8 t.kids)).flatMap mL:=by
  rw [List.flatMap_def,List.flatMap_def]
  congr 1
  refine List.map_congr_left fun k hk => ?_
  obtain ⟨i,hi,rfl⟩:=List.getElem_of_mem hk
  rw [List.length_take] at hi
  rw [List.getElem_take]
  have:=dX (ks:=t.kids) (k:=i) (by omega) (by omega)
  rw [mL,if_pos (L9 this).2.1]
 have e2 : (t.kids.drop (v8 t.kids)).flatMap dR=(t.kids.drop (v8 t.kids)).flatMap mL:=by
  rw [List.flatMap_def,List.flatMap_def]
  congr 1
  refine List.map_congr_left fun k hk => ?_
  rw [mL,if_neg (by rw [kV (h.2.2 k hk)]; decide)]
 unfold dG
 rw [e1,e2,List.append_assoc,← List.flatMap_append,List.take_append_drop]
theorem R8 {α : Type} (p : α→Bool) : ∀ (l : List α) (k : Nat),k≤l.length→(∀ j (hj : j<l.length),j<k→p l[j]=true)→(∀ (hk : k<l.length),p l[k]=false)→(l.takeWhile p).length=k
 | [],k,hk,_,_ => by simp at hk; simp [hk]
 | a :: r,0,_,_,h => by
   have:=h (by simp)
   rw [List.takeWhile_cons,if_neg (by rw [show (a :: r)[0]=a from rfl] at this; rw [this]; decide)]
   rfl
 | a :: r,k + 1,hk,h,h' => by
   have:=h 0 (by simp) (by omega)
   rw [List.takeWhile_cons,if_pos (by rw [show (a :: r)[0]=a from rfl] at this; exact this),List.length_cons]
   rw [R8 p r k (by simpa using hk) (fun j hj hjk => by have:=h (j + 1) (by simpa using hj) (by omega); simpa using this) (fun hk' => by have:=h' (by simpa using hk'); simpa using this)]
theorem aW {α : Type} {p : α→Bool} {l : List α} {n : Nat} (h : ∀ j (hj : j<l.length),j<n→p l[j]=true) : (l.take n).all p=true:=by
 rw [List.all_eq_true]
 intro a ha
 obtain ⟨i,hi,rfl⟩:=List.getElem_of_mem ha
 rw [List.length_take] at hi
 rw [List.getElem_take]
 exact h i (by omega) (by omega)
theorem a5I {α : Type} {p : α→Bool} {l : List α} {n : Nat} (h : ∀ j (hj : j<l.length),n≤j→p l[j]=true) : (l.drop n).all p=true:=by
 rw [List.all_eq_true]
 intro a ha
 obtain ⟨i,hi,rfl⟩:=List.getElem_of_mem ha
 rw [List.length_drop] at hi
 rw [List.getElem_drop]
 exact h _ (by omega) (by omega)
theorem a6K {α : Type} {p : α→Bool} {l : List α} {a : α} (ha : a∈l) (h : p a=false) : l.all p=false:=by
 rw [Bool.eq_false_iff]
 intro e
 rw [List.all_eq_true] at e
 rw [e a ha] at h; cases h
theorem rH {α : Type} {l : List α} {j n : Nat} (hj : j<l.length) (h : n≤j) : l[j]∈l.drop n:=by
 have : (l.drop n)[j - n]'(by rw [List.length_drop]; omega)=l[j]:=by rw [List.getElem_drop]; congr 1; omega
 rw [← this]; exact List.getElem_mem _
theorem iV (t : Nd) : O9 t=(t.kind == 3 && p7 t.text.data.toList && t.n == 0 && decide (1≤t.kids.length) && decide (t.kids.length≤9) && (t.kids.dropLast.all (m6 4) && e7 (T3 t) 1)):=rfl
theorem kL (kind : Int) (t : Nd) : m6 kind t=(t.kind == kind && p7 t.text.data.toList && t.n == 0 && decide ((t.kids.length : Int)=0)):=by
 unfold m6
 cases t.kids with
 | nil => rfl
 | cons a l =>
   have : decide ((((a :: l).length : Nat) : Int)=0)=false:=decide_eq_false (by simp; omega)
   rw [this]; rfl
theorem vI {ks : List Nd} {j : Nat} (hj : j<ks.length - 1) (hj' : j<ks.length) : ks[j]∈ks.dropLast:=by
 have : (ks.dropLast)[j]'(by rw [List.length_dropLast]; exact hj)=ks[j]:=List.getElem_dropLast ..
 rw [← this]; exact List.getElem_mem _
theorem fE {t : Nd} (h : I9 t=true) : z6 t=true∧p7 t.text.data.toList=true∧t.kids.length≤300:=by
 unfold I9 at h
 simp only [Bool.and_eq_true,decide_eq_true_eq] at h
 exact ⟨h.1.2,h.1.1.1.2,by omega⟩
theorem a1I {t : Nd} (h : I9 t=true) (j : Nat) (hj : j<t.kids.length) : (t.kids[j].kind=2∧m6 2 t.kids[j]=true)∨(t.kids[j].kind≠2∧O9 t.kids[j]=true):=by
 unfold I9 at h
 simp only [Bool.and_eq_true] at h
 rcases Nat.lt_or_ge j (v8 t.kids) with g | g
 ·have:=dX g hj
  exact .inl ⟨(L9 this).2.1,this⟩
 ·have:=List.all_eq_true.1 h.2.2 _ (rH hj g)
  exact .inr ⟨by rw [kV this]; decide,this⟩
theorem zM {k : Nd} (h : k.kind=2) : mL k=eK k:=if_pos h
theorem zZ {k : Nd} (h : ¬ k.kind=2) : mL k=dR k:=if_neg h
theorem dV {t : Nd} (h : O9 t=true) : p7 t.text.data.toList=true∧1≤t.kids.length∧t.kids.length≤9∧(∀ p∈t.kids.dropLast,m6 4 p=true)∧e7 (T3 t) 1=true:=by
 unfold O9 at h
 simp only [Bool.and_eq_true,decide_eq_true_eq,List.all_eq_true] at h
 exact ⟨h.1.1.1.1.2,h.1.1.2,h.1.2,h.2.1,h.2.2⟩
theorem a6T {t : Nd} (h : I9 t=true) (k : Nat) : (U5 t ++ (t.kids.take k).flatMap mL).length≤400000000:=by
 have hp:=fE h
 have h1 : ((t.kids.take k).flatMap mL).length≤(t.kids.take k).length * 1100000:=qA _ fun x hx => by
  have hx':=List.mem_of_mem_take hx
  obtain ⟨j,hj,rfl⟩:=List.getElem_of_mem hx'
  rcases a1I h j hj with ⟨a,b⟩ | ⟨a,b⟩
  ·rw [zM a]; have:=kZ b; omega
  ·rw [zZ a]
   have hsk:=fP hp.1 hx'
   exact zT b (fP hsk (qQ (dV b).2.1))
 have h2 : (t.kids.take k).length≤300:=by rw [List.length_take]; omega
 have h3:=I4 hp.2.1
 have h4 : (t.kids.take k).length * 1100000≤300 * 1100000:=Nat.mul_le_mul_right _ h2
 unfold U5
 simp only [List.length_append,List.length_cons,List.length_nil]
 omega
theorem qG (ks : List Nd) : (s6 ks).map (·.2)=ks.map d9:=by rw [jU,List.map_map]; rfl
section
open Go.RowKit
theorem c6 (w : World) (o : Obj) : Below w.heap.size w (w.alloc o):=(Below.refl _ _).alloc (Nat.le_refl _) _
theorem uG {k : IntKind} {a b : Int} (h : a=b) : Ending.returned (.int k a)=.returned (.int k b):=by rw [h]
theorem x8 {a b : Bool} (h : a=b) : Ending.returned (.bool a)=.returned (.bool b):=by rw [h]
theorem a7N (w : World) (x0 x1 x2 x3 x4 : Value) : (w.alloc (.cells #[x0,x1,x2,x3,x4] 24)).cell? ⟨w.heap.size,0,none⟩=some x0∧(w.alloc (.cells #[x0,x1,x2,x3,x4] 24)).cell? ⟨w.heap.size,1,none⟩=some x1 ∧
 (w.alloc (.cells #[x0,x1,x2,x3,x4] 24)).cell? ⟨w.heap.size,2,none⟩=some x2∧(w.alloc (.cells #[x0,x1,x2,x3,x4] 24)).cell? ⟨w.heap.size,3,none⟩=some x3∧(w.alloc (.cells #[x0,x1,x2,x3,x4] 24)).cell? ⟨w.heap.size,4,none⟩=some x4:=by
 refine ⟨?_,?_,?_,?_,?_⟩ <;> simp
end
section
open Go.RowKit
theorem a4Q {s s' : ByteArray} (h : s.toList=s'.toList) : s=s':=by
 rw [Lib.toList_data,Lib.toList_data] at h
 cases s
 cases s'
 simp only [ByteArray.mk.injEq]
 exact Array.toList_inj.1 h
end
section
open Go.RowKit
theorem hY (w : World) (o : Obj) : Below w.heap.size w (w.alloc o):=(Below.refl _ _).alloc (Nat.le_refl _) _
theorem a7a (w : World) (o o' : Obj) : Below w.heap.size w ((w.alloc o).alloc o'):=(hY w o).alloc (by simp) _
theorem wA {k : IntKind} {a b : Int} (h : a=b) : Ending.returned (.int k a)=.returned (.int k b):=by rw [h]
theorem vH {k : IntKind} {a b : Int} (h : a=b) : Value.int k a=Value.int k b:=by rw [h]
theorem a0a (y : Int) (w : World) (h0 : 0≤y) (h1 : y≤100000) :
 Calls Tryz.prog 188 #[.int .i64 y] w fun e w' => e=.returned (.bool (Cal.lp y))∧w=w':=by
 go_enter Tryz.func188,Tryz.ntmps188
 go_wp2
 all_goals go_ret
 all_goals exact ⟨by simp [Cal.lp, *],rfl⟩
theorem lL (y : Int) (w : World) (h0 : 0≤y) (h1 : y≤100000) :
 Calls Tryz.prog 172 #[.int .i64 y] w fun e w' => e=.returned (.bool (Cal.lp y))∧w=w':=by
 go_enter Tryz.func172,Tryz.ntmps172
 go_wp2
 all_goals go_ret
 all_goals exact ⟨by simp [Cal.lp, *],rfl⟩
theorem yY (y : Int) (w : World) (h0 : 0≤y) (h1 : y≤100000) :
 Calls Tryz.prog 165 #[.int .i64 y] w fun e w' => e=.returned (.int .i64 (365 + Cal.lpI y))∧w=w':=by
 cases hl : Cal.lp y
 all_goals
  go_enter Tryz.func165,Tryz.ntmps165
  go_wp2_with (go_at_call 188; refine (a0a _ _ (by omega) (by omega)).mono ?_; rintro e w' ⟨rfl,rfl⟩)
  go_ret
  exact ⟨by simp [Cal.lpI,hl],rfl⟩
theorem lN (y : Int) (w : World) (h0 : 1≤y) (h1 : y≤100000) :
 Calls Tryz.prog 164 #[.int .i64 y] w fun e w' => e=.returned (.int .i64 (Cal.ahead y))∧w=w':=by
 go_enter Tryz.func164,Tryz.ntmps164
 go_wp2
 go_ret
 exact ⟨rfl,rfl⟩
theorem eQ (y : Int) (w : World) (h0 : 0≤y) (h1 : y≤100000) :
 Calls Tryz.prog 166 #[.int .i64 y] w fun e w' => e=.returned (.agg #[.int .i64 31,.int .i64 (28 + Cal.lpI y),.int .i64 31,.int .i64 30,.int .i64 31,.int .i64 30,.int .i64 31,.int .i64 31,.int .i64 30,.int .i64 31,.int .i64 30,.int .i64 31])∧Below w.heap.size w w':=by
 cases hl : Cal.lp y
 all_goals
  go_enter Tryz.func166,Tryz.ntmps166
  go_wp2_with (go_at_call 188; refine (a0a _ _ (by omega) (by omega)).mono ?_; rintro e w' ⟨rfl,rfl⟩)
  refine bodyPost_ret (v:=.agg #[.int .i64 31,.int .i64 (28 + Cal.lpI y),.int .i64 31,.int .i64 30,.int .i64 31,.int .i64 30,.int .i64 31,.int .i64 31,.int .i64 30,.int .i64 31,.int .i64 30,.int .i64 31]) ?_ rfl ⟨rfl,a7a _ _ _⟩
  simp [results,Tryz.results166,go_sem,Cal.lpI,hl]
theorem a7R (y : Int) {m : Int} (h2 : 1≤m) (h3 : m≤12) (hm : ¬ m=2) : [Value.int IntKind.i64 31,Value.int IntKind.i64 28,Value.int IntKind.i64 31,Value.int IntKind.i64 30,Value.int IntKind.i64 31,Value.int IntKind.i64 30,Value.int IntKind.i64 31,Value.int IntKind.i64 31,Value.int IntKind.i64 30,Value.int IntKind.i64 31,Value.int IntKind.i64 30,Value.int IntKind.i64 31][m.toNat - 1]?=some (.int .i64 (Cal.mlen y m)):=by
 rcases Cal.months_cases h2 h3 with e | e | e | e | e | e | e | e | e | e | e | e <;> subst e <;> first | rfl | omega
theorem a7n (y : Int) {k : Nat} (h3 : k<12) : [Value.int IntKind.i64 31,Value.int IntKind.i64 (28 + Cal.lpI y),Value.int IntKind.i64 31,Value.int IntKind.i64 30,Value.int IntKind.i64 31,Value.int IntKind.i64 30,Value.int IntKind.i64 31,Value.int IntKind.i64 31,Value.int IntKind.i64 30,Value.int IntKind.i64 31,Value.int IntKind.i64 30,Value.int IntKind.i64 31][k]?=some (.int .i64 (Cal.mlen y ((k : Int) + 1))):=by
 have c : k=0∨k=1∨k=2∨k=3∨k=4∨k=5∨k=6∨k=7∨k=8∨k=9∨k=10∨k=11:=by omega
 rcases c with e | e | e | e | e | e | e | e | e | e | e | e <;> subst e <;> rfl
theorem iC (y m : Int) (w : World) (h0 : 0≤y) (h1 : y≤100000) (h2 : 1≤m) (h3 : m≤12) :
 Calls Tryz.prog 171 #[.int .i64 y,.int .i64 m] w fun e w' => e=.returned (.int .i64 (Cal.mlen y m))∧Below w.heap.size w w':=by
 by_cases hm : m=2
 ·subst hm
  cases hl : Cal.lp y
  all_goals
   go_enter Tryz.func171,Tryz.ntmps171
   go_wp2_with (go_at_call 172; refine (lL _ _ (by omega) (by omega)).mono ?_; rintro e w' ⟨rfl,rfl⟩)
   go_ret
   exact ⟨by simp [Cal.mlen,Cal.lpI,hl],hY _ _⟩
 ·have hg:=a7R y h2 h3 hm
  go_enter Tryz.func171,Tryz.ntmps171
  go_wp2_with (go_at_call 172; refine (lL _ _ (by omega) (by omega)).mono ?_; rintro e w' ⟨rfl,rfl⟩)
  go_ret
  exact ⟨rfl,hY _ _⟩
end
section
open Lib (hid)
open Go.RowKit
theorem a6x (y m d : Int) (w : World) (h : ¬ Cal.ok y m d) :
 Calls Tryz.prog 139 #[.int .i64 y,.int .i64 m,.int .i64 d] w fun e w' => e=.returned (.tuple #[.int .i64 0,.int .i64 30])∧Below w.heap.size w w':=by
 by_cases h1 : y<1900
 ·clear h
  go_enter Tryz.func139,Tryz.ntmps139
  go_wp2
  go_ret2
  exact ⟨rfl,Below.refl _ _⟩
 by_cases h2 : 2099<y
 ·clear h
  go_enter Tryz.func139,Tryz.ntmps139
  go_wp2
  go_ret2
  exact ⟨rfl,Below.refl _ _⟩
 by_cases h3 : m<1
 ·clear h
  go_enter Tryz.func139,Tryz.ntmps139
  go_wp2
  go_ret2
  exact ⟨rfl,Below.refl _ _⟩
 by_cases h4 : 12<m
 ·clear h
  go_enter Tryz.func139,Tryz.ntmps139
  go_wp2
  go_ret2
  exact ⟨rfl,Below.refl _ _⟩
 by_cases h5 : d<1
 ·clear h
  go_enter Tryz.func139,Tryz.ntmps139
  go_wp2
  go_ret2
  exact ⟨rfl,Below.refl _ _⟩
 have h6 : Cal.mlen y m<d:=by unfold Cal.ok at h; omega
 clear h
 go_enter Tryz.func139,Tryz.ntmps139
 go_wp2_with (go_at_call 171; refine (iC _ _ _ (by omega) (by omega) (by omega) (by omega)).mono ?_; rintro e w' ⟨rfl,hb⟩)
 go_ret2
 exact ⟨rfl,hb⟩
theorem a69 (y m d : Int) (w : World) (h : Cal.ok y m d) :
 Calls Tryz.prog 139 #[.int .i64 y,.int .i64 m,.int .i64 d] w fun e w' => e=.returned (.tuple #[.int .i64 (Cal.num y m d),.int .i64 0])∧Below w.heap.size w w':=by
 obtain ⟨h1,h2,h3,h4,h5,h6⟩:=h
 have ml:=Cal.mlen_bd y m
 go_enter Tryz.func139,Tryz.ntmps139
 go_wp2_with (go_at_call 171; refine (iC _ _ _ (by omega) (by omega) (by omega) (by omega)).mono ?_; rintro e w' ⟨rfl,hb⟩)
 go_loop [8,9] (fun n t => ∃ z : Int,1900≤z∧z≤y∧t=.int .i64 z∧n=.int .i64 (Cal.ahead z)) (fun _ t => (2100 - intOf t).toNat)
 case atStart => exact ⟨1900,by omega,h1,rfl,rfl⟩
 case round =>
  obtain ⟨z,hz1,hz2,rfl,rfl⟩:=hrel
  have hb1:=Cal.ahead_bd hz1 (by omega)
  have hs:=hid (Cal.ahead_succ z)
  by_cases hlt : z<y
  ·cases hl : Cal.lp z
   all_goals
    go_wp2_with (go_at_call 172; refine (lL _ _ (by omega) (by omega)).mono ?_; rintro e w' ⟨rfl,rfl⟩)
    go_round
    case rel => exact ⟨z + 1,by omega,by omega,by go_num,by rw [hs.out]; simp [Cal.lpI,hl]⟩
    case measure => simp [intOf]; omega
  ·obtain rfl : z=y:=by omega
   clear hs hlt
   have cb:=Cal.cum_bd z h3 (by omega)
   go_wp2
   go_loopw [8,11] (fun n k wr => ∃ j : Int,1≤j∧j≤m∧k=.int .i64 j∧n=.int .i64 (Cal.ahead z + Cal.cum z j)∧Below w.heap.size w wr) (fun _ k _ => (13 - intOf k).toNat)
   case atStart => exact ⟨1,by omega,h3,rfl,by rw [Cal.cum_1]; go_num,hb⟩
   case round =>
    obtain ⟨j,hj1,hj2,rfl,rfl,hb2⟩:=hrel
    clear hb
    have hB:=hid hb2
    clear hb2
    have cj:=Cal.cum_bd z hj1 (by omega)
    have mj:=Cal.mlen_bd z j
    have hs:=hid (Cal.cum_succ z hj1 (by omega))
    by_cases hlt : j<m
    ·go_wp2_with (go_at_call 171; refine (iC _ _ _ (by omega) (by omega) (by omega) (by omega)).mono ?_; rintro e w' ⟨rfl,hb⟩)
     go_roundw
     case rel => exact ⟨j + 1,by omega,by omega,by go_num,by rw [hs.out]; go_num,hB.out.trans (hb.mono hB.out.size)⟩
     case measure => simp [intOf]; omega
    ·obtain rfl : j=m:=by omega
     go_wp2
     go_ret2
     exact ⟨by simp [Cal.num],hB⟩
end
section
open Lib (hid)
open Go.RowKit
theorem a7j (y m d : Int) (w : World) (h : ¬ Cal.ok y m d) :
 Calls Tryz.prog 175 #[.int .i64 y,.int .i64 m,.int .i64 d] w fun e w' => e=.returned (.tuple #[.int .i64 0,.int .i64 30])∧Below w.heap.size w w':=by
 by_cases h1 : y<1900
 ·clear h
  go_enter Tryz.func175,Tryz.ntmps175
  go_wp2
  go_ret2
  exact ⟨rfl,Below.refl _ _⟩
 by_cases h2 : 2099<y
 ·clear h
  go_enter Tryz.func175,Tryz.ntmps175
  go_wp2
  go_ret2
  exact ⟨rfl,Below.refl _ _⟩
 by_cases h3 : m<1
 ·clear h
  go_enter Tryz.func175,Tryz.ntmps175
  go_wp2
  go_ret2
  exact ⟨rfl,Below.refl _ _⟩
 by_cases h4 : 12<m
 ·clear h
  go_enter Tryz.func175,Tryz.ntmps175
  go_wp2
  go_ret2
  exact ⟨rfl,Below.refl _ _⟩
 have hg:=a7n y (k:=(m - 1).toNat) (by omega)
 rw [show (((m - 1).toNat : Nat) : Int) + 1=m by omega,show (m - 1).toNat=m.toNat - 1 by omega] at hg
 by_cases h5 : d<1
 ·clear h
  go_enter Tryz.func175,Tryz.ntmps175
  go_wp2_with (go_at_call 166; refine (eQ _ _ (by omega) (by omega)).mono ?_; rintro e w' ⟨rfl,hb⟩)
  go_ret2
  exact ⟨rfl,hb.trans ((hY _ _).mono hb.size)⟩
 have h6 : Cal.mlen y m<d:=by unfold Cal.ok at h; omega
 clear h
 go_enter Tryz.func175,Tryz.ntmps175
 go_wp2_with (go_at_call 166; refine (eQ _ _ (by omega) (by omega)).mono ?_; rintro e w' ⟨rfl,hb⟩)
 go_ret2
 exact ⟨rfl,hb.trans ((hY _ _).mono hb.size)⟩
theorem a6L (y : Int) {k : Nat} (h3 : k<12) (w : World) : (Instr.index 169 (.agg #[.int .i64 31,.int .i64 (28 + Cal.lpI y),.int .i64 31,.int .i64 30,.int .i64 31,.int .i64 30,.int .i64 31,.int .i64 31,.int .i64 30,.int .i64 31,.int .i64 30,.int .i64 31]) (.int .i64 k)).run Tryz.prog w=.ok (.int .i64 (Cal.mlen y ((k : Int) + 1))) w:=by
 have c : k=0∨k=1∨k=2∨k=3∨k=4∨k=5∨k=6∨k=7∨k=8∨k=9∨k=10∨k=11:=by omega
 rcases c with e | e | e | e | e | e | e | e | e | e | e | e <;> subst e <;> (show _=_) <;> kernel_rfl
theorem a5Z (h : Int) (h0 : 0≤h) (h1 : h≤12) (w : World) (a : Addr) : (Instr.sliceAt 169 (.pointer (some a)) none (some (.int .i64 h)) none).run Tryz.prog w=.ok (.slice (some a) h.toNat 12) w:=by
 rw [run_sliceAt_array_h w 169 a (by kernel_rfl) .i64 h h0 (by rw [show Tryz.prog.arrayLen 169=12 from by kernel_rfl]; omega)]
 rw [show Tryz.prog.arrayLen 169=12 from by kernel_rfl,show Tryz.prog.elem 169=3 from by kernel_rfl]
 rw [show (sizeOf 3).run Tryz.prog w=.ok 1 w from by kernel_rfl]
 simp [Result.andThen,slicedAt,Addr.add]
theorem a5a {a b c : Int} (h : a=b) : Ending.returned (.tuple #[.int .i64 a,.int .i64 c])=.returned (.tuple #[.int .i64 b,.int .i64 c]):=by rw [h]
theorem of_ok (y m d : Int) (w : World) (h : Cal.ok y m d) :
 Calls Tryz.prog 175 #[.int .i64 y,.int .i64 m,.int .i64 d] w fun e w' => e=.returned (.tuple #[.int .i64 (Cal.num y m d),.int .i64 0])∧Below w.heap.size w w':=by
 obtain ⟨h1,h2,h3,h4,h5,h6⟩:=h
 have ml:=Cal.mlen_bd y m
 have ab:=Cal.ahead_bd h1 (by omega)
 have hg:=a7n y (k:=(m - 1).toNat) (by omega)
 rw [show (((m - 1).toNat : Nat) : Int) + 1=m by omega,show (m - 1).toNat=m.toNat - 1 by omega] at hg
 have hsl:=a5Z (m - 1) (by omega) (by omega)
 rw [show (m - 1).toNat=m.toNat - 1 by omega] at hsl
 go_enter Tryz.func175,Tryz.ntmps175
 go_wp2_with (first | (go_at_call 166; refine (eQ _ _ (by omega) (by omega)).mono ?_; rintro e w' ⟨rfl,hb⟩) | (go_at_call 164; refine (lN _ _ (by omega) (by omega)).mono ?_; rintro e w' ⟨rfl,rfl⟩))
 clear hg
 go_loop [9,47] (fun n i => ∃ k : Nat,(k : Int)≤m - 1∧i=.int .i64 k∧n=.int .i64 (Cal.ahead y + d - 1 + Cal.cum y (k + 1))) (fun _ i => (13 - intOf i).toNat)
 case atStart => exact ⟨0,by omega,rfl,by rw [show ((0 : Nat) : Int) + 1=1 from rfl,Cal.cum_1]; go_num⟩
 case round =>
  obtain ⟨k,hk,rfl,rfl⟩:=hrel
  have hs:=hid (Cal.cum_succ y (m:=(k : Int) + 1) (by omega) (by omega))
  have hc:=Cal.cum_bd y (m:=(k : Int) + 1) (by omega) (by omega)
  have hm:=Cal.mlen_bd y ((k : Int) + 1)
  by_cases hlt : (k : Int)<m - 1
  ·have hg:=a7n y (k:=k) (by omega)
   go_wp2
   go_round
   case rel => exact ⟨k + 1,by omega,by go_num,vH (by rw [show (((k + 1 : Nat) : Int) + 1)=(k : Int) + 1 + 1 by omega,hs.out]; omega)⟩
   case measure => simp [intOf]; omega
  ·obtain rfl : m=k + 1:=by omega
   go_wp2
   go_ret2
   exact ⟨a5a (by unfold Cal.num; omega),hb.trans ((hY _ _).mono hb.size)⟩
theorem a4U (y m d k : Int) (w : World) (h : Cal.ok y m d) (hk : Cal.num y m d=k) :
 Calls Tryz.prog 134 #[.int .i64 k] w fun e w' => e=.returned (.tuple #[.int .i64 y,.int .i64 m,.int .i64 d,.int .i64 0])∧Below w.heap.size w w':=by
 have nb:=Cal.num_bd h
 have ny:=Cal.num_lt_year h
 have ml:=Cal.mlen_bd y m
 have H:=hid h
 obtain ⟨h1,h2,h3,h4,h5,h6⟩:=h
 subst hk
 have g1 : Cal.ahead (1900 + Cal.num y m d / 366)≤Cal.num y m d:=by unfold Cal.ahead; omega
 have g2:=Cal.year_le g1 ny.2
 go_enter Tryz.func134,Tryz.ntmps134
 go_wp2
 have G : Hid (Cal.ahead y≤Cal.num y m d∧Cal.num y m d<Cal.ahead (y + 1)):=ny
 clear ny g1
 go_loop [8] (fun t => ∃ z : Int,1900≤z∧z≤y∧t=.int .i64 z) (fun t => (2100 - intOf t).toNat)
 case atStart => exact ⟨_,by omega,g2,rfl⟩
 case round =>
  obtain ⟨z,hz1,hz2,rfl⟩:=hrel
  have ab:=Cal.ahead_bd hz1 (by omega)
  have lb:=Cal.lpI_b z
  have hs:=hid (Cal.ahead_succ z)
  clear g2
  by_cases e : z<y
  ·have hle : 365 + Cal.lpI z≤Cal.num y m d - Cal.ahead z:=by have:=Cal.ahead_mono (show z + 1≤y by omega); have:=hs.out; have:=G.out; omega
   go_wp2_with (first | (go_at_call 164; refine (lN _ _ (by omega) (by omega)).mono ?_; rintro e w' ⟨rfl,rfl⟩) | (go_at_call 165; refine (yY _ _ (by omega) (by omega)).mono ?_; rintro e w' ⟨rfl,rfl⟩))
   go_round
   case rel => exact ⟨z + 1,by omega,by omega,rfl⟩
   case measure => simp [intOf]; omega
  ·obtain rfl : z=y:=by omega
   have hlt : Cal.num z m d - Cal.ahead z<365 + Cal.lpI z:=by have:=hs.out; have:=G.out; omega
   have hn:=hid (show Cal.num z m d - Cal.ahead z=Cal.cum z m + d - 1 by unfold Cal.num; omega)
   clear hs e
   have cb:=Cal.cum_bd z h3 (by omega)
   go_wp2_with (first | (go_at_call 164; refine (lN _ _ (by omega) (by omega)).mono ?_; rintro e w' ⟨rfl,rfl⟩) | (go_at_call 165; refine (yY _ _ (by omega) (by omega)).mono ?_; rintro e w' ⟨rfl,rfl⟩) | (go_at_call 166; refine (eQ _ _ (by omega) (by omega)).mono ?_; rintro e w' ⟨rfl,hb⟩))
   go_loop [0,38] (fun r i => ∃ k : Nat,(k : Int)≤m - 1∧i=.int .i64 k∧r=.int .i64 (Cal.cum z m + d - 1 - Cal.cum z (k + 1))) (fun _ i => (13 - intOf i).toNat)
   case atStart => exact ⟨0,by omega,rfl,vH (by rw [show ((0 : Nat) : Int) + 1=1 from rfl,Cal.cum_1,hn.out]; omega)⟩
   case round =>
    obtain ⟨k,hk,rfl,rfl⟩:=hrel
    have hs:=hid (Cal.cum_succ z (m:=(k : Int) + 1) (by omega) (by omega))
    have hc:=Cal.cum_bd z (m:=(k : Int) + 1) (by omega) (by omega)
    have hm:=Cal.mlen_bd z ((k : Int) + 1)
    have hg:=a6L z (k:=k) (by omega)
    by_cases hlt2 : (k : Int)<m - 1
    ·have hle : Cal.mlen z ((k : Int) + 1)≤Cal.cum z m + d - 1 - Cal.cum z (k + 1):=by
      have:=Cal.cum_mono z (show 1≤(k : Int) + 1 + 1 by omega) (show (k : Int) + 1 + 1≤m by omega) (by omega)
      have:=hs.out
      omega
     go_wp2
     go_round
     case rel => exact ⟨k + 1,by omega,by go_num,vH (by rw [show (((k + 1 : Nat) : Int) + 1)=(k : Int) + 1 + 1 by omega,hs.out]; omega)⟩
     case measure => simp [intOf]; omega
    ·obtain rfl : m=k + 1:=by omega
     go_wp2
     refine bodyPost_ret (v:=.tuple #[.int .i64 z,.int .i64 (k + 1),.int .i64 d,.int .i64 0]) ?_ rfl ⟨rfl,hb⟩
     simp [results,Tryz.results134,go_sem]
     omega
end
end Go.Proofs.YtibiccacafjjfaaGreatDoor
