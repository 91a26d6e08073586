/-
  Laws that the proof rests on.
-/
import Derived.Test.YteefedkmgnepmaaGreatDoorE02
namespace Go.Proofs.YteefedkmgnepmaaGreatDoor
set_option maxRecDepth 100000
set_option maxHeartbeats 16000000
def a1B (k : Int) : Prop:=(5≤k∧k≤11)∨k=15
theorem y9 {t : Nd} {d : Int} (h : d5 t d=true) : o2 t.kind t.kids.length=true∧x9 t.kind t.text.data.toList=true∧aZ t.kind t.n=true∧m7 t.kids (d + 1)=true:=by
 cases t
 rw [d5] at h
 simp only [Bool.and_eq_true] at h
 exact ⟨h.1.1.1.2,h.1.1.2,h.1.2,h.2⟩
theorem tN {k : Int} {n : Nat} (h : o2 k n=true) : 5≤k∧k≤15:=by
 unfold o2 at h
 split at h
 ·omega
 split at h
 ·omega
 split at h
 ·omega
 split at h
 ·omega
 split at h
 ·omega
 ·cases h
theorem a1p {k : Int} {n : Nat} (h : o2 k n=true) (h' : ¬ J0 k=true) : a1B k:=by
 have:=tN h
 unfold J0 at h'
 simp only [Bool.or_eq_true,decide_eq_true_eq] at h'
 unfold a1B
 omega
theorem uH (t : Nd) : d7 t=uT t.kind t.n t.text.data.toList (p8 t.kids):=by cases t; rw [d7]; rfl
theorem xN (s : ByteArray) (n p : Int) (k u : Nd) : d7 (.mk 13 s n [k,u] p)=U7 k.kind (d7 k) ++ 32 :: (s.data.toList ++ 32 :: U7 u.kind (d7 u)):=by
 rw [d7,p8,p8,p8]
 show U7 k.kind (d7 k) ++ [32] ++ s.data.toList ++ [32] ++ U7 u.kind (d7 u)=_
 simp
theorem wR (s : ByteArray) (n p : Int) (k : Nd) : d7 (.mk 12 s n [k] p)=(if s.data.toList=[45] then [45] else [110,111,116,32]) ++ U7 k.kind (d7 k):=by
 rw [d7,p8,p8]; rfl
theorem a1J (s : ByteArray) (n p : Int) (k u v : Nd) : d7 (.mk 14 s n [k,u,v] p)=105 :: 102 :: 32 :: (d7 k ++ 32 :: ([116,104,101,110] ++ 32 :: (d7 u ++ 32 :: ([101,108,115,101] ++ 32 :: d7 v)))):=by
 rw [d7,p8,p8,p8,p8]
 show [105,102,32] ++ d7 k ++ [32,116,104,101,110,32] ++ d7 u ++ [32,101,108,115,101,32] ++ d7 v=_
 simp
theorem fH {t : Nd} {d : Int} (h : d5 t d=true) (hk : 5≤t.kind∧t.kind≤10) : t.kids=[]:=by
 have:=(y9 h).1
 unfold o2 at this
 rw [if_pos hk,decide_eq_true_eq] at this
 exact List.eq_nil_of_length_eq_zero this
def hw (t : Nd) : List UInt8:=if t.kind=9 then [102,101,101,100] else if t.kind=15 then [112,105,99,107] else if t.kind=11 then t.text.data.toList else d7 t
theorem a2H (l : List (List UInt8)) : ∃ x,U4 l=40 :: x:=by
 cases l <;> exact ⟨_,rfl⟩
theorem nN {k : Int} (h : a1B k) : k=5∨k=6∨k=7∨k=8∨k=9∨k=10∨k=11∨k=15:=by unfold a1B at h; omega
theorem a8u {c : UInt8} (h : dgC c=true) : c≠45:=by rintro rfl; exact absurd h (by decide)
theorem pF {t : Nd} {d : Int} (h : d5 t d=true) (hk : t.kind=11∨t.kind=15) : t.kids≠[]:=by
 have:=(y9 h).1
 intro e
 rw [e] at this
 rcases hk with hk | hk <;> (rw [hk] at this; exact absurd this (by decide))
theorem cI {k n : Int} (h : aZ k n=true) (hk : k≠5∧k≠6∧k≠8) : n=0:=by
 unfold aZ at h
 rw [if_neg hk.1,if_neg hk.2.1,if_neg hk.2.2,decide_eq_true_eq] at h
 exact h
theorem a8a {α : Type} {l : List α} (h : l.length=1) : ∃ a,l=[a]:=by
 match l,h with
 | [a],_ => exact ⟨a,rfl⟩
theorem a7Z {α : Type} {l : List α} (h : l.length=2) : ∃ a b,l=[a,b]:=by
 match l,h with
 | [a,b],_ => exact ⟨a,b,rfl⟩
theorem a6q {α : Type} {l : List α} (h : l.length=3) : ∃ a b c,l=[a,b,c]:=by
 match l,h with
 | [a,b,c],_ => exact ⟨a,b,c,rfl⟩
theorem tA {t : Nd} {d : Int} (h : d5 t d=true) (hk : t.kind=12) : ∃ s k p,t=.mk 12 s 0 [k] p∧(s.data.toList=[45]∨s.data.toList=[110,111,116])∧d5 k (d + 1)=true:=by
 obtain ⟨q,ht,hn,hr⟩:=y9 h
 cases t with
 | mk kind s n ks p =>
 obtain rfl : kind=12:=hk
 obtain ⟨k,rfl⟩:=a8a (show ks.length=1 by have q' : o2 12 ks.length=true:=q; simpa [o2] using q')
 obtain rfl : n=0:=cI (k:=12) hn (by decide)
 have ht' : s.data.toList=[45]∨s.data.toList=[110,111,116]:=by
  have : (s.data.toList == [45] || s.data.toList == [110,111,116])=true:=ht
  simpa using this
 rw [Nd.kids,m7,Bool.and_eq_true] at hr
 exact ⟨s,k,p,rfl,ht',hr.1⟩
theorem tF {t : Nd} {d : Int} (h : d5 t d=true) (hk : t.kind=13) : ∃ s k u p,t=.mk 13 s 0 [k,u] p∧eW s.data.toList=true∧d5 k (d + 1)=true∧d5 u (d + 1)=true:=by
 obtain ⟨q,ht,hn,hr⟩:=y9 h
 cases t with
 | mk kind s n ks p =>
 obtain rfl : kind=13:=hk
 obtain ⟨k,u,rfl⟩:=a7Z (show ks.length=2 by have q' : o2 13 ks.length=true:=q; simpa [o2] using q')
 obtain rfl : n=0:=cI (k:=13) hn (by decide)
 rw [Nd.kids,m7,m7,Bool.and_eq_true,Bool.and_eq_true] at hr
 exact ⟨s,k,u,p,rfl,ht,hr.1,hr.2.1⟩
theorem yV {t : Nd} {d : Int} (h : d5 t d=true) (hk : t.kind=14) : ∃ s k u v p,t=.mk 14 s 0 [k,u,v] p∧s.data.toList=[]∧d5 k (d + 1)=true∧d5 u (d + 1)=true∧d5 v (d + 1)=true:=by
 obtain ⟨q,ht,hn,hr⟩:=y9 h
 cases t with
 | mk kind s n ks p =>
 obtain rfl : kind=14:=hk
 obtain ⟨k,u,v,rfl⟩:=a6q (show ks.length=3 by have q' : o2 14 ks.length=true:=q; simpa [o2] using q')
 obtain rfl : n=0:=cI (k:=14) hn (by decide)
 rw [Nd.kids,m7,m7,m7,Bool.and_eq_true,Bool.and_eq_true,Bool.and_eq_true] at hr
 exact ⟨s,k,u,v,p,rfl,List.isEmpty_iff.1 ht,hr.1,hr.2.1,hr.2.2.1⟩
theorem zJ {t k : Nd} {N : Nat} (h : SizeOf.sizeOf t<N + 1) (hk : k∈t.kids) : SizeOf.sizeOf k<N:=by
 cases t with
 | mk kind s n ks p =>
 have:=List.sizeOf_lt_of_mem (show k∈ks from hk)
 simp only [Nd.mk.sizeOf_spec] at h
 omega
def t8 (t : Nd) : Bool:=decide (5≤t.kind∧t.kind≤10) && (x9 t.kind t.text.data.toList && aZ t.kind t.n) && t.kids.isEmpty
def iK (t : Nd) : Bool :=
 if t.kind=11 then eX t.text.data.toList
 else if t.kind=15 then p6 t.text.data.toList && decide (t.kids.length=3)
 else if t.kind=14 then t.text.data.toList.isEmpty && decide (t.kids.length=3)
 else if t.kind=12 then (t.text.data.toList == [45] || t.text.data.toList == [110,111,116]) && decide (t.kids.length=1)
 else if t.kind=13 then eW t.text.data.toList && decide (t.kids.length=2)
 else false
theorem yU (t : Nd) (d : Int) : d5 t d=(decide (d≤100) && (t8 t || (decide (t.n=0) && (decide (1≤t.kids.length) && decide (t.kids.length≤8)) && m7 t.kids (d + 1) && iK t))):=by
 cases t with
 | mk kind s n ks p =>
 rw [d5]
 show (decide (d≤100) && o2 kind ks.length && x9 kind s.data.toList && aZ kind n && m7 ks (d + 1))=(decide (d≤100) && ((decide (5≤kind∧kind≤10) && (x9 kind s.data.toList && aZ kind n) && ks.isEmpty) ||
  (decide (n=0) && (decide (1≤ks.length) && decide (ks.length≤8)) && m7 ks (d + 1) && (if kind=11 then eX s.data.toList
    else if kind=15 then p6 s.data.toList && decide (ks.length=3)
    else if kind=14 then s.data.toList.isEmpty && decide (ks.length=3)
    else if kind=12 then (s.data.toList == [45] || s.data.toList == [110,111,116]) && decide (ks.length=1)
    else if kind=13 then eW s.data.toList && decide (ks.length=2)
    else false))))
 cases decide (d≤100)
 ·simp
 simp only [Bool.true_and]
 by_cases h1 : 5≤kind∧kind≤10
 ·rw [decide_eq_true h1,if_neg (by omega),if_neg (by omega),if_neg (by omega),if_neg (by omega),if_neg (by omega),Bool.and_false,Bool.or_false,Bool.true_and]
  unfold o2
  rw [if_pos h1]
  cases ks with
  | nil => rw [m7]; simp
  | cons k ks => simp
 ·rw [decide_eq_false h1,Bool.false_and,Bool.false_and,Bool.false_or]
  have hk : kind=11∨kind=15∨kind=14∨kind=12∨kind=13∨(kind≠11∧kind≠15∧kind≠14∧kind≠12∧kind≠13):=by omega
  rcases hk with hk | hk | hk | hk | hk | hk
  ·subst hk
   have e1 : o2 11 ks.length=(decide (1≤ks.length) && decide (ks.length≤8)):=rfl
   have e2 : x9 11 s.data.toList=eX s.data.toList:=rfl
   have e3 : aZ 11 n=decide (n=0):=rfl
   rw [e1,e2,e3,if_pos rfl]
   cases decide (1≤ks.length) <;> cases decide (ks.length≤8) <;> cases decide (n=0) <;> cases eX s.data.toList <;> cases m7 ks (d + 1) <;> rfl
  ·subst hk
   have e1 : o2 15 ks.length=decide (ks.length=3):=rfl
   have e2 : x9 15 s.data.toList=p6 s.data.toList:=rfl
   have e3 : aZ 15 n=decide (n=0):=rfl
   rw [e1,e2,e3,if_neg (by decide),if_pos rfl]
   by_cases hl : ks.length=3
   ·rw [decide_eq_true hl,decide_eq_true (show 1≤ks.length by omega),decide_eq_true (show ks.length≤8 by omega)]
    cases decide (n=0) <;> cases p6 s.data.toList <;> cases m7 ks (d + 1) <;> rfl
   ·rw [decide_eq_false hl]; simp
  ·subst hk
   have e1 : o2 14 ks.length=decide (ks.length=3):=rfl
   have e2 : x9 14 s.data.toList=s.data.toList.isEmpty:=rfl
   have e3 : aZ 14 n=decide (n=0):=rfl
   rw [e1,e2,e3,if_neg (by decide),if_neg (by decide),if_pos rfl]
   by_cases hl : ks.length=3
   ·rw [decide_eq_true hl,decide_eq_true (show 1≤ks.length by omega),decide_eq_true (show ks.length≤8 by omega)]
    cases decide (n=0) <;> cases s.data.toList.isEmpty <;> cases m7 ks (d + 1) <;> rfl
   ·rw [decide_eq_false hl]; simp
  ·subst hk
   have e1 : o2 12 ks.length=decide (ks.length=1):=rfl
   have e2 : x9 12 s.data.toList=(s.data.toList == [45] || s.data.toList == [110,111,116]):=rfl
   have e3 : aZ 12 n=decide (n=0):=rfl
   rw [e1,e2,e3,if_neg (by decide),if_neg (by decide),if_neg (by decide),if_pos rfl]
   by_cases hl : ks.length=1
   ·rw [decide_eq_true hl,decide_eq_true (show 1≤ks.length by omega),decide_eq_true (show ks.length≤8 by omega)]
    cases decide (n=0) <;> cases (s.data.toList == [45] || s.data.toList == [110,111,116]) <;> cases m7 ks (d + 1) <;> rfl
   ·rw [decide_eq_false hl]; simp
  ·subst hk
   have e1 : o2 13 ks.length=decide (ks.length=2):=rfl
   have e2 : x9 13 s.data.toList=eW s.data.toList:=rfl
   have e3 : aZ 13 n=decide (n=0):=rfl
   rw [e1,e2,e3,if_neg (by decide),if_neg (by decide),if_neg (by decide),if_neg (by decide),if_pos rfl]
   by_cases hl : ks.length=2
   ·rw [decide_eq_true hl,decide_eq_true (show 1≤ks.length by omega),decide_eq_true (show ks.length≤8 by omega)]
    cases decide (n=0) <;> cases eW s.data.toList <;> cases m7 ks (d + 1) <;> rfl
   ·rw [decide_eq_false hl]; simp
  ·have e1 : o2 kind ks.length=false:=by
    unfold o2
    rw [if_neg h1,if_neg hk.1,if_neg hk.2.2.2.1,if_neg hk.2.2.2.2,if_neg (by omega)]
   rw [e1,if_neg hk.1,if_neg hk.2.1,if_neg hk.2.2.1,if_neg hk.2.2.2.1,if_neg hk.2.2.2.2]
   simp
theorem uJ (ks : List Nd) (d : Int) : ∀ n,(∀ j (hj : j<ks.length),j<n→d5 ks[j] d=true)→m7 (ks.take n) d=true:=by
 intro n h
 rw [Z3,List.all_eq_true]
 intro k hk
 obtain ⟨i,hi,rfl⟩:=List.getElem_of_mem hk
 rw [List.length_take] at hi
 rw [List.getElem_take]
 exact h i (by omega) (by omega)
theorem lW {ks : List Nd} {d : Int} {j : Nat} (hj : j<ks.length) (h : d5 ks[j] d=false) : m7 ks d=false:=by
 rw [Z3,Bool.eq_false_iff]
 intro e
 rw [List.all_eq_true] at e
 rw [e _ (List.getElem_mem hj)] at h
 cases h
def o4 (kind : Int) (t : Nd) : Bool:=t.kind == kind && l9 t.text.data.toList && t.n == 0 && t.kids.isEmpty
def I5 (t : Nd) : Nd:=t.kids.getLastD (.mk 0 ByteArray.empty 0 [] 0)
def Q9 (t : Nd) : Bool:=t.kind == 3 && l9 t.text.data.toList && t.n == 0 && decide (1≤t.kids.length) && decide (t.kids.length≤9) && (t.kids.dropLast.all (o4 4) && d5 (I5 t) 1)
def gV (t : Nd) : List UInt8:=[108,101,116,32] ++ t.text.data.toList
def iB (t : Nd) : List UInt8:=gV t ++ (if t.kids.length=1 then [] else U4 (t.kids.dropLast.map fun p => p.text.data.toList)) ++ [32,61,32] ++ d7 (I5 t) ++ [59,10]
def iD (t : Nd) : List UInt8:=[105,109,112,111,114,116,32] ++ t.text.data.toList ++ [59,10]
def aJ (t : Nd) : List UInt8:=[109,111,100,117,108,101,32] ++ t.text.data.toList ++ [59,10]
def s9 (ks : List Nd) : Nat:=(ks.takeWhile (o4 2)).length
def L4 (t : Nd) : Bool:=t.kind == 1 && l9 t.text.data.toList && t.n == 0 && O4 t && (decide (s9 t.kids≤100) && decide (t.kids.length - s9 t.kids≤200) && (t.kids.drop (s9 t.kids)).all Q9)
def a74 (t : Nd) : List UInt8:=aJ t ++ (t.kids.take (s9 t.kids)).flatMap iD ++ (t.kids.drop (s9 t.kids)).flatMap iB
theorem yX (ks : List Nd) : s9 ks≤ks.length:=(List.takeWhile_sublist (l:=ks) (o4 2)).length_le
theorem gZ : ∀ (ks : List Nd) (k : Nd),k∈ks→j3 k≤l5 ks
 | a :: r,k,h => by
   rw [l5]
   rcases List.mem_cons.1 h with rfl | h
   ·omega
   ·have:=gZ r k h; omega
 | [],_,h => by cases h
theorem v8 (t : Nd) : j3 t=l5 t.kids + 1:=by cases t; rw [j3]; rfl
theorem kU {t k : Nd} (h : O4 t=true) (hk : k∈t.kids) : O4 k=true:=by
 rw [cU,decide_eq_true_eq] at h ⊢
 have:=gZ t.kids k hk
 have:=v8 t
 omega
theorem xP {t : Nd} (h : 1≤t.kids.length) : t.kids[t.kids.length - 1]'(by omega)=I5 t:=by
 unfold I5
 rw [List.getLastD_eq_getLast?,List.getLast?_eq_getElem?,List.getElem?_eq_getElem (by omega)]
 rfl
theorem yC {t : Nd} (h : 1≤t.kids.length) : I5 t∈t.kids:=by
 rw [← xP h]
 exact List.getElem_mem _
theorem a7Y {l : List Nat} {b : Nat} (h : ∀ x∈l,x≤b) : l.sum≤l.length * b:=by
 induction l with
 | nil => simp
 | cons a l ih =>
   have h1:=h a (List.mem_cons_self ..)
   have h2:=ih fun x hx => h x (List.mem_cons_of_mem _ hx)
   rw [List.sum_cons,List.length_cons,Nat.succ_mul]
   omega
theorem oM {t : Nd} (h : O4 t=true) {d : Int} (hr : d5 t d=true) : (d7 t).length≤1048576:=by
 rw [cU,decide_eq_true_eq] at h
 have:=kO t d hr
 omega
theorem V1 {k : Int} {t : Nd} (h : o4 k t=true) : l9 t.text.data.toList=true∧t.kind=k∧t.n=0∧t.kids=[]:=by
 unfold o4 at h
 simp only [Bool.and_eq_true,beq_iff_eq,List.isEmpty_iff] at h
 exact ⟨h.1.1.2,h.1.1.1,h.1.2,h.2⟩
theorem oD {t : Nd} (h : Q9 t=true) : (U4 (t.kids.dropLast.map fun p => p.text.data.toList)).length≤300:=by
 unfold Q9 at h
 simp only [Bool.and_eq_true,decide_eq_true_eq,List.all_eq_true] at h
 have h1:=rO (t.kids.dropLast.map fun p => p.text.data.toList)
 have h2:=a7Y (l:=(t.kids.dropLast.map fun p => p.text.data.toList).map fun f => f.length + 2) (b:=26) (by
  intro x hx
  rw [List.map_map,List.mem_map] at hx
  obtain ⟨p,hp,rfl⟩:=hx
  have:=s5 (V1 (h.2.1 p hp)).1
  show p.text.data.toList.length + 2≤26
  omega)
 simp only [List.length_map,List.length_dropLast] at h2
 omega
theorem a5P {t : Nd} (h : Q9 t=true) (hs : O4 (I5 t)=true) : (iB t).length≤1100000:=by
 have h1:=oD h
 unfold Q9 at h
 simp only [Bool.and_eq_true,decide_eq_true_eq,List.all_eq_true] at h
 have h2:=s5 h.1.1.1.1.2
 have h3:=oM hs h.2.2
 unfold iB gV
 simp only [List.length_append,List.length_cons,List.length_nil]
 split <;> (try simp only [List.length_nil]) <;> omega
theorem pZ {t : Nd} (h : o4 2 t=true) : (iD t).length≤40:=by
 have:=s5 (V1 h).1
 unfold iD
 simp only [List.length_append,List.length_cons,List.length_nil]
 omega
theorem yL {f : Nd→List UInt8} {b : Nat} : ∀ (l : List Nd),(∀ x∈l,(f x).length≤b)→(l.flatMap f).length≤l.length * b
 | [],_ => by simp
 | a :: l,h => by
   have h1:=h a (List.mem_cons_self ..)
   have h2:=yL l fun x hx => h x (List.mem_cons_of_mem _ hx)
   rw [List.flatMap_cons,List.length_append,List.length_cons,Nat.succ_mul]
   omega
theorem lE {f : Nd→List UInt8} (l : List Nd) (k : Nat) (h : k<l.length) : (l.take (k + 1)).flatMap f=(l.take k).flatMap f ++ f l[k]:=by
 rw [List.take_succ_eq_append_getElem h,List.flatMap_append]
 simp
theorem hG {ks : List Nd} {k : Nat} (h : k<s9 ks) (hk : k<ks.length) : o4 2 ks[k]=true:=by
 unfold s9 at h
 have h1 : (ks.takeWhile (o4 2))[k]=ks[k]:=(List.takeWhile_prefix (o4 2)).getElem h
 rw [← h1]
 exact List.all_eq_true.1 (List.all_takeWhile (l:=ks) (p:=o4 2)) _ (List.getElem_mem _)
theorem a55 {t : Nd} (h : Q9 t=true) : t.kind=3:=by
 unfold Q9 at h
 simp only [Bool.and_eq_true,beq_iff_eq] at h
 exact h.1.1.1.1.1
theorem I4 {α : Type} (p : α→Bool) : ∀ (l : List α) (k : Nat),k≤l.length→(∀ j (hj : j<l.length),j<k→p l[j]=true)→(∀ (hk : k<l.length),p l[k]=false)→(l.takeWhile p).length=k
 | [],k,hk,_,_ => by simp at hk; simp [hk]
 | a :: r,0,_,_,h => by
   have:=h (by simp)
   rw [List.takeWhile_cons,if_neg (by rw [show (a :: r)[0]=a from rfl] at this; rw [this]; decide)]
   rfl
 | a :: r,k + 1,hk,h,h' => by
   have:=h 0 (by simp) (by omega)
   rw [List.takeWhile_cons,if_pos (by rw [show (a :: r)[0]=a from rfl] at this; exact this),List.length_cons]
   rw [I4 p r k (by simpa using hk) (fun j hj hjk => by have:=h (j + 1) (by simpa using hj) (by omega); simpa using this) (fun hk' => by have:=h' (by simpa using hk'); simpa using this)]
theorem V8 {α : Type} {p : α→Bool} {l : List α} {n : Nat} (h : ∀ j (hj : j<l.length),j<n→p l[j]=true) : (l.take n).all p=true:=by
 rw [List.all_eq_true]
 intro a ha
 obtain ⟨i,hi,rfl⟩:=List.getElem_of_mem ha
 rw [List.length_take] at hi
 rw [List.getElem_take]
 exact h i (by omega) (by omega)
theorem a4q {α : Type} {p : α→Bool} {l : List α} {n : Nat} (h : ∀ j (hj : j<l.length),n≤j→p l[j]=true) : (l.drop n).all p=true:=by
 rw [List.all_eq_true]
 intro a ha
 obtain ⟨i,hi,rfl⟩:=List.getElem_of_mem ha
 rw [List.length_drop] at hi
 rw [List.getElem_drop]
 exact h _ (by omega) (by omega)
theorem a1A {α : Type} {p : α→Bool} {l : List α} {a : α} (ha : a∈l) (h : p a=false) : l.all p=false:=by
 rw [Bool.eq_false_iff]
 intro e
 rw [List.all_eq_true] at e
 rw [e a ha] at h; cases h
theorem qL {α : Type} {l : List α} {j n : Nat} (hj : j<l.length) (h : n≤j) : l[j]∈l.drop n:=by
 have : (l.drop n)[j - n]'(by rw [List.length_drop]; omega)=l[j]:=by rw [List.getElem_drop]; congr 1; omega
 rw [← this]; exact List.getElem_mem _
theorem cO (t : Nd) : Q9 t=(t.kind == 3 && l9 t.text.data.toList && t.n == 0 && decide (1≤t.kids.length) && decide (t.kids.length≤9) && (t.kids.dropLast.all (o4 4) && d5 (I5 t) 1)):=rfl
theorem yB (kind : Int) (t : Nd) : o4 kind t=(t.kind == kind && l9 t.text.data.toList && t.n == 0 && decide ((t.kids.length : Int)=0)):=by
 unfold o4
 cases t.kids with
 | nil => rfl
 | cons a l =>
   have : decide ((((a :: l).length : Nat) : Int)=0)=false:=decide_eq_false (by simp; omega)
   rw [this]; rfl
theorem uM {ks : List Nd} {j : Nat} (hj : j<ks.length - 1) (hj' : j<ks.length) : ks[j]∈ks.dropLast:=by
 have : (ks.dropLast)[j]'(by rw [List.length_dropLast]; exact hj)=ks[j]:=List.getElem_dropLast ..
 rw [← this]; exact List.getElem_mem _
theorem eT {t : Nd} (h : L4 t=true) : O4 t=true∧l9 t.text.data.toList=true∧t.kids.length≤300:=by
 unfold L4 at h
 simp only [Bool.and_eq_true,decide_eq_true_eq] at h
 exact ⟨h.1.2,h.1.1.1.2,by omega⟩
theorem tZ {t : Nd} (h : L4 t=true) (j : Nat) (hj : j<t.kids.length) : (t.kids[j].kind=2∧o4 2 t.kids[j]=true)∨(t.kids[j].kind≠2∧Q9 t.kids[j]=true):=by
 unfold L4 at h
 simp only [Bool.and_eq_true] at h
 rcases Nat.lt_or_ge j (s9 t.kids) with g | g
 ·have:=hG g hj
  exact .inl ⟨(V1 this).2.1,this⟩
 ·have:=List.all_eq_true.1 h.2.2 _ (qL hj g)
  exact .inr ⟨by rw [a55 this]; decide,this⟩
theorem lJ {t : Nd} (h : Q9 t=true) : l9 t.text.data.toList=true∧1≤t.kids.length∧t.kids.length≤9∧(∀ p∈t.kids.dropLast,o4 4 p=true)∧d5 (I5 t) 1=true:=by
 unfold Q9 at h
 simp only [Bool.and_eq_true,decide_eq_true_eq,List.all_eq_true] at h
 exact ⟨h.1.1.1.1.2,h.1.1.2,h.1.2,h.2.1,h.2.2⟩
structure Sch where
 name : List UInt8
 params : List Int
 result : Int
structure Sht where
 name : List UInt8
 defs : List Sch
def vN : List UInt8:=[110,111,119]
def jU : List UInt8:=[122,101,114,111]
def a8y : List UInt8:=[111,110,101]
def a8m : List UInt8:=[103,105,118,101]
def a7P : List UInt8:=[115,99,97,108,101]
def a8p : List UInt8:=[98,111,116,104]
def bAt : List UInt8:=[97,116]
def a8g : List UInt8:=[119,104,101,110]
def a8C : List UInt8:=[97,103,111]
def a8t : List UInt8:=[112,108,117,115]
def a6v : List UInt8:=[109,111,110,116,104,115]
def a7B : List UInt8:=[121,101,97,114,115]
def a4l : List UInt8:=[121,101,97,114,115,51,48]
def a6M : List UInt8:=[98,101,102,111,114,101]
def m5 : List Sch:=[⟨vN,[],2⟩,⟨jU,[],4⟩,⟨a8y,[3],4⟩,⟨a8m,[4],4⟩,⟨a7P,[0,4],4⟩,⟨a8p,[4,4],4⟩,⟨bAt,[2,4],4⟩,⟨a8g,[2,1,4],4⟩,⟨a8C,[0,5],5⟩,⟨a8t,[2,0],2⟩,⟨a6v,[2,0],2⟩,⟨a7B,[2,2],0⟩,⟨a4l,[2,2],0⟩,⟨a6M,[2,2],1⟩]
def i8 (l : List Sch) (name : List UInt8) : Option Sch:=l.find? fun s => s.name == name
def D8 (l : List Sht) (name : List UInt8) : Option Sht:=l.find? fun s => s.name == name
def p9 (t : Int) : Bool:=decide (0≤t) && decide (t≤20)
def O8 (d : Sch) : Bool:=l9 d.name && p9 d.result && decide (d.params.length≤8) && d.params.all p9
def O0 (s : Sht) : Bool:=l9 s.name && decide (s.defs.length≤200) && s.defs.all O8
def j6 (S : List Int) (t : Int) : Int:=if t<5 then t else S.getD (t - 5).toNat 0
def mU (S : List Int) (a b : Int) : List Int:=S.map fun t => if t=a then b else t
def aT (S : List Int) (a b : Int) : Option (List Int) :=
 if j6 S a=j6 S b then some S else if 5≤j6 S a then some (mU S (j6 S a) (j6 S b)) else if 5≤j6 S b then some (mU S (j6 S b) (j6 S a)) else none
def frT (S : List Int) : List Int:=S ++ [5 + (S.length : Int)]
structure Env7 where
 sheets : List Sht
 defs : List Sch
 params : List (List UInt8)
def y5 (E : Env7) (name : List UInt8) : Option Sch :=
 if (Lib.cut name [46]).2.2=true then (D8 E.sheets (Lib.cut name [46]).1).bind fun s => i8 s.defs (Lib.cut name [46]).2.1
 else (i8 E.defs name).or (i8 m5 name)
def aM (E : Env7) (name : List UInt8) : Option Int:=(E.params.findIdx? fun p => p == name).map fun i => 5 + (i : Int)
def p5 : List Int→List (Int × Int)→List Int→List Int × List Int
 | [],_,S => ([],S)
 | t :: ts,m,S =>
   if t<5 then ((t :: (p5 ts m S).1),(p5 ts m S).2)
   else match m.lookup t with
    | some x => ((x :: (p5 ts m S).1),(p5 ts m S).2)
    | none => ((5 + (S.length : Int)) :: (p5 ts ((t,5 + (S.length : Int)) :: m) (frT S)).1,(p5 ts ((t,5 + (S.length : Int)) :: m) (frT S)).2)
abbrev Ty (α : Type):=Except (Int × Int) (α × List Int)
def Ty.then {α β : Type} (x : Ty α) (f : α→List Int→Ty β) : Ty β:=match x with
 | .error e => .error e
 | .ok (t,S) => f t S
def R7 (E : Env7) (kind : Int) (s : List UInt8) (k : Nat) (p : Int) (S : List Int) : Ty (List Int × Int) :=
 if kind=5∨kind=9 then .ok (([],0),S)
 else if kind=8 then .ok (([],1),S)
 else if kind=6 then .ok (([],2),S)
 else if kind=7 then .ok (([],3),S)
 else if kind=12 then (if s=[45] then .ok (([0],0),S) else .ok (([1],1),S))
 else if kind=14 then .ok (([1,5 + (S.length : Int),5 + (S.length : Int)],5 + (S.length : Int)),frT S)
 else if kind=15 then .ok (([2,4,4],4),S)
 else if kind=13 then (if s=[111,114]∨s=[97,110,100] then .ok (([1,1],1),S) else if s=[60]∨s=[60,61]∨s=[61] then .ok (([0,0],1),S) else .ok (([0,0],0),S))
 else match aM E s with
  | some t => if k=0 then .ok (([],t),S) else .error (114,p)
  | none => match y5 E s with
    | none => .error (113,p)
    | some d => if d.params.length=k then .ok (((p5 (d.params ++ [d.result]) [] S).1.dropLast,(p5 (d.params ++ [d.result]) [] S).1.getLastD 0),(p5 (d.params ++ [d.result]) [] S).2) else .error (114,p)
mutual
def g9 (E : Env7) : Nd→List Int→Ty Int
 | .mk kind s _ ks p,S => (R7 E kind s.data.toList ks.length p S).then fun l S => (l8 E ks l.1 S).then fun _ S => .ok (l.2,S)
def l8 (E : Env7) : List Nd→List Int→List Int→Ty Unit
 | [],_,S => .ok ((),S)
 | k :: ks,l,S => (g9 E k S).then fun t S => match aT S t (l.headD 0) with
   | none => .error (115,k.place)
   | some S => l8 E ks l.tail S
end
def D9 : List Int→List Int→List Int
 | [],_ => []
 | t :: ts,seen => if t < 5 then t :: D9 ts seen else if t ∈ seen then (5 + (seen.idxOf t : Int)) :: D9 ts seen else (5 + (seen.length : Int)) :: D9 ts (seen ++ [t])
def Q3 : List Nd→List (List UInt8)→Except (Int × Int) (List (List UInt8))
 | [],l => .ok l
 | p :: ps,l => if l.contains p.text.data.toList then .error (111,p.place) else Q3 ps (l ++ [p.text.data.toList])
def l7 (k : Nat) : List Int:=(List.range k).map fun (i : Nat) => 5 + (i : Int)
def cH (sheets : List Sht) (defs : List Sch) (t : Nd) : Except (Int × Int) Sch :=
 if (i8 m5 t.text.data.toList).isSome || (i8 defs t.text.data.toList).isSome then .error (111,t.place)
 else match Q3 t.kids.dropLast [] with
  | .error e => .error e
  | .ok ps => match g9 ⟨sheets,defs,ps⟩ (I5 t) (l7 ps.length) with
    | .error e => .error e
    | .ok (r,S) => .ok ⟨t.text.data.toList,(D9 ((l7 ps.length ++ [r]).map (j6 S)) []).dropLast,(D9 ((l7 ps.length ++ [r]).map (j6 S)) []).getLastD 0⟩
def Q8 (own : List UInt8) (all sheets : List Sht) (t : Nd) : Except (Int × Int) Sht :=
 if t.text.data.toList=own || (D8 sheets t.text.data.toList).isSome then .error (111,t.place)
 else match D8 all t.text.data.toList with
  | none => .error (112,t.place)
  | some s => .ok s
def r8 (own : List UInt8) (all : List Sht) : List Nd→List Sht→List Sch→Except (Int × Int) (List Sch)
 | [],_,defs => .ok defs
 | k :: ks,sheets,defs =>
   if k.kind=2 then match Q8 own all sheets k with
    | .error e => .error e
    | .ok s => r8 own all ks (sheets ++ [s]) defs
   else match cH sheets defs k with
    | .error e => .error e
    | .ok d => r8 own all ks sheets (defs ++ [d])
def y4 (t : Nd) (all : List Sht) : Except (Int × Int) Sht :=
 if L4 t=true∧all.all O0=true then match r8 t.text.data.toList all t.kids [] [] with
  | .error e => .error e
  | .ok ds => .ok ⟨t.text.data.toList,ds⟩
 else .error (110,0)
structure Uf (up : List Nat) (ro rk : Nat→Nat) : Prop where
 lt : ∀ i (h : i<up.length),up[i]<up.length
 fix : ∀ i (h : i<up.length),up[i]=i→ro i=i
 step : ∀ i (h : i<up.length),ro up[i]=ro i
 rank : ∀ i (h : i<up.length),up[i]≠i→rk up[i]<rk i
theorem Uf.root {up : List Nat} {ro rk : Nat→Nat} (u : Uf up ro rk) : ∀ (n i : Nat),rk i<n→(h : i<up.length)→∃ (h' : ro i<up.length),up[ro i]=ro i∧ro (ro i)=ro i
 | 0,i,hn,_ => by omega
 | n + 1,i,hn,h => by
   by_cases e : up[i]=i
   ·have:=u.fix i h e
    exact ⟨by rw [this]; exact h,by simp only [this]; exact e,by rw [this]; exact this⟩
   ·obtain ⟨h1,h2,h3⟩:=u.root n up[i] (by have:=u.rank i h e; omega) (u.lt i h)
    have:=u.step i h
    exact ⟨by rw [← this]; exact h1,by simp only [← this]; exact h2,by rw [← this]; exact h3⟩
theorem Uf.root_lt {up : List Nat} {ro rk : Nat→Nat} (u : Uf up ro rk) {i : Nat} (h : i<up.length) : ro i<up.length:=(u.root _ i (Nat.lt_succ_self _) h).1
theorem Uf.root_root {up : List Nat} {ro rk : Nat→Nat} (u : Uf up ro rk) {i : Nat} (h : i<up.length) : ro (ro i)=ro i:=(u.root _ i (Nat.lt_succ_self _) h).2.2
theorem Uf.halve {up : List Nat} {ro rk : Nat→Nat} (u : Uf up ro rk) {i : Nat} (h : i<up.length) (hne : up[i]≠i) : Uf (up.set i (up[up[i]]'(u.lt i h))) ro rk:=by
 have h1:=u.lt i h
 have h2:=u.lt _ h1
 have r1:=u.rank i h hne
 have r2 : rk (up[up[i]]'h1)≤rk up[i]:=by
  by_cases e : up[up[i]]'h1=up[i]
  ·rw [e]; exact Nat.le_refl _
  ·exact Nat.le_of_lt (u.rank _ h1 e)
 refine ⟨fun j hj => ?_,fun j hj => ?_,fun j hj => ?_,fun j hj => ?_⟩ <;> (have hj':=hj; rw [List.length_set] at hj'; by_cases e : i=j)
 ·subst e; rw [List.getElem_set_self,List.length_set]; exact h2
 ·rw [List.getElem_set_ne e,List.length_set]; exact u.lt j hj'
 ·subst e; rw [List.getElem_set_self]; intro e; rw [e] at r2; omega
 ·rw [List.getElem_set_ne e]; exact u.fix j hj'
 ·subst e; rw [List.getElem_set_self,u.step _ h1]; exact u.step _ h
 ·rw [List.getElem_set_ne e]; exact u.step j hj'
 ·subst e; rw [List.getElem_set_self]; intro _; omega
 ·rw [List.getElem_set_ne e]; exact u.rank j hj'
theorem Uf.link {up : List Nat} {ro rk : Nat→Nat} (u : Uf up ro rk) {c p : Nat} (hp : p<up.length) (rc : ro c=c) (rp : ro p=p) (hne : c≠p) :
 Uf (up.set c p) (fun z => if ro z=c then p else ro z) (fun z => if ro z=c then rk z + rk p + 1 else rk z):=by
 have hpc : ¬ ro p=c:=by rw [rp]; exact fun e => hne e.symm
 refine ⟨fun j hj => ?_,fun j hj => ?_,fun j hj => ?_,fun j hj => ?_⟩ <;> (have hj':=hj; rw [List.length_set] at hj'; by_cases e : c=j)
 ·subst e; rw [List.getElem_set_self,List.length_set]; exact hp
 ·rw [List.getElem_set_ne e,List.length_set]; exact u.lt j hj'
 ·subst e; rw [List.getElem_set_self]; intro e; exact absurd e.symm hne
 ·rw [List.getElem_set_ne e]
  intro h
  have:=u.fix j hj' h
  simp only [this]
  rw [if_neg (fun e' => e e'.symm)]
 ·subst e; rw [List.getElem_set_self]; simp only [rc,if_true,rp]; split <;> rfl
 ·rw [List.getElem_set_ne e]; simp only [u.step j hj']
 ·subst e; rw [List.getElem_set_self]
  intro _
  simp only [rc,if_true,hpc,if_false]
  omega
 ·rw [List.getElem_set_ne e]
  intro h
  have:=u.rank j hj' h
  simp only [u.step j hj']
  split <;> omega
theorem Uf.add {up : List Nat} {ro rk : Nat→Nat} (u : Uf up ro rk) : Uf (up ++ [up.length]) (fun z => if z<up.length then ro z else z) rk:=by
 refine ⟨fun j hj => ?_,fun j hj => ?_,fun j hj => ?_,fun j hj => ?_⟩ <;> (have hj':=hj; rw [List.length_append,List.length_singleton] at hj'; by_cases h : j<up.length)
 ·rw [List.getElem_append_left h,List.length_append]; have:=u.lt j h; omega
 ·obtain rfl : j=up.length:=by omega
  rw [List.getElem_concat_length rfl,List.length_append]; simp
 ·rw [List.getElem_append_left h]; intro e; rw [if_pos h]; exact u.fix j h e
 ·intro _; rw [if_neg h]
 ·have hl:=u.lt j h
  rw [List.getElem_append_left h]; simp only [h,hl,if_true]; exact u.step j h
 ·obtain rfl : j=up.length:=by omega
  rw [List.getElem_concat_length rfl]
 ·rw [List.getElem_append_left h]; exact u.rank j h
 ·obtain rfl : j=up.length:=by omega
  rw [List.getElem_concat_length rfl]; intro e; exact absurd rfl e
def V7 (S : List Int) : Prop:=∀ j,j<S.length→(0≤S.getD j 0∧S.getD j 0<5)∨∃ i,i<S.length∧S.getD j 0=5 + (i : Int)∧S.getD i 0=S.getD j 0
def bI (S : List Int) (t : Int) : Prop:=0≤t∧t<5 + (S.length : Int)
theorem dW {l : List Int} {i : Nat} (h : i<l.length) : l.getD i 0=l[i]:=by rw [List.getD_eq_getElem?_getD,List.getElem?_eq_getElem h]; rfl
theorem pH {l r : List Int} {i : Nat} (h : i<l.length) : (l ++ r).getD i 0=l.getD i 0:=by
 rw [dW h,dW (by rw [List.length_append]; omega),List.getElem_append_left h]
theorem jQ {S : List Int} {a b : Int} {j : Nat} (h : j<S.length) : (mU S a b).getD j 0=if S.getD j 0=a then b else S.getD j 0:=by
 unfold mU
 rw [dW (by rw [List.length_map]; exact h),List.getElem_map,dW h]
theorem kG (S : List Int) (a b : Int) : (mU S a b).length=S.length:=List.length_map ..
theorem cF (S : List Int) : (frT S).length=S.length + 1:=by unfold frT; simp
theorem vP (S : List Int) : (frT S).getD S.length 0=5 + (S.length : Int):=by
 unfold frT
 rw [dW (by simp),List.getElem_concat_length rfl]
theorem kH {S : List Int} (hS : V7 S) {t : Int} (h : bI S t) : bI S (j6 S t):=by
 unfold j6
 split
 ·exact h
 ·rcases hS (t - 5).toNat (by have:=h.2; omega) with g | ⟨i,hi,e,-⟩
  ·exact ⟨g.1,by omega⟩
  ·exact ⟨by omega,by omega⟩
theorem xH {S : List Int} (hS : V7 S) {t : Int} (h : bI S t) : j6 S (j6 S t)=j6 S t:=by
 by_cases ht : t<5
 ·rw [show j6 S t=t from if_pos ht]; exact if_pos ht
 ·have e : j6 S t=S.getD (t - 5).toNat 0:=if_neg ht
  rw [e]
  rcases hS (t - 5).toNat (by have:=h.2; omega) with g | ⟨i,hi,e1,e2⟩
  ·exact if_pos g.2
  ·rw [e1]
   unfold j6
   rw [if_neg (by omega),show (5 + (i : Int) - 5).toNat=i by omega,e2,e1]
theorem oS {S : List Int} {a b t : Int} (ha : 5≤a) (h : bI S t) : j6 (mU S a b) t=if j6 S t=a then b else j6 S t:=by
 unfold j6
 by_cases ht : t<5
 ·rw [if_pos ht,if_pos ht,if_neg (by omega)]
 ·rw [if_neg ht,if_neg ht,jQ (by have:=h.2; omega)]
theorem rU {S : List Int} (hS : V7 S) {a b : Int} (hb : bI S b) (hrb : j6 S b=b) (hab : a≠b) : V7 (mU S a b):=by
 intro j hj
 rw [kG] at hj ⊢
 rw [jQ hj]
 have key : (0≤b∧b<5)∨∃ i,i<S.length∧b=5 + (i : Int)∧S.getD i 0=b:=by
  by_cases h5 : b<5
  ·exact .inl ⟨hb.1,h5⟩
  ·refine .inr ⟨(b - 5).toNat,by have:=hb.2; omega,by omega,?_⟩
   unfold j6 at hrb
   rwa [if_neg h5] at hrb
 split
 ·rcases key with g | ⟨i,hi,e1,e2⟩
  ·exact .inl g
  ·exact .inr ⟨i,hi,e1,by rw [jQ hi,e2,if_neg (fun e => hab e.symm)]⟩
 ·rename_i hne
  rcases hS j hj with g | ⟨i,hi,e1,e2⟩
  ·exact .inl g
  ·exact .inr ⟨i,hi,e1,by rw [jQ hi,e2,if_neg hne]⟩
theorem pJ {S : List Int} (hS : V7 S) : V7 (frT S):=by
 intro j hj
 rw [cF] at hj ⊢
 by_cases h : j<S.length
 ·rw [show (frT S).getD j 0=S.getD j 0 from pH h]
  rcases hS j h with g | ⟨i,hi,e1,e2⟩
  ·exact .inl g
  ·exact .inr ⟨i,by omega,e1,(show (frT S).getD i 0=S.getD i 0 from pH hi).trans e2⟩
 ·obtain rfl : j=S.length:=by omega
  rw [vP]
  exact .inr ⟨S.length,by omega,rfl,vP S⟩
theorem a61 {S : List Int} {t : Int} (h : bI S t) : j6 (frT S) t=j6 S t:=by
 unfold j6
 split
 ·rfl
 ·exact pH (by have:=h.2; omega)
theorem a4V (S : List Int) : j6 (frT S) (5 + (S.length : Int))=5 + (S.length : Int):=by
 unfold j6
 rw [if_neg (by omega),show (5 + (S.length : Int) - 5).toNat=S.length by omega,vP]
theorem a5V {S S' : List Int} {a b : Int} (h : aT S a b=some S') : S'.length=S.length:=by
 unfold aT at h
 split at h
 ·cases h; rfl
 split at h
 ·cases h; exact List.length_map ..
 split at h
 ·cases h; exact List.length_map ..
 ·cases h
theorem kX {S S' : List Int} (hS : V7 S) {a b : Int} (ha : bI S a) (hb : bI S b) (h : aT S a b=some S') : V7 S':=by
 unfold aT at h
 split at h
 ·cases h; exact hS
 rename_i hne
 split at h
 ·rename_i h5
  cases h; exact rU hS (kH hS hb) (xH hS hb) hne
 split at h
 ·rename_i h5
  cases h; exact rU hS (kH hS ha) (xH hS ha) (fun e => hne e.symm)
 ·cases h
structure Sim (n : Nat) (kn : List (Option Int)) (ro : Nat→Nat) (S φ : List Int) : Prop where
 len : kn.length=n∧φ.length=n
 ro_lt : ∀ x,x<n→ro x<n
 val : ∀ x (h : x<φ.length),bI S φ[x]
 known : ∀ x (h : x<φ.length) c,kn[ro x]?=some (some c)→j6 S φ[x]=c∧0≤c∧c<5
 free : ∀ x (h : x<φ.length),kn[ro x]?=some none→5≤j6 S φ[x]
 same : ∀ x y (hx : x<φ.length) (hy : y<φ.length),kn[ro x]?=some none→kn[ro y]?=some none→(ro x=ro y↔j6 S φ[x]=j6 S φ[y])
theorem Sim.look {n : Nat} {kn : List (Option Int)} {ro : Nat→Nat} {S φ : List Int} (s : Sim n kn ro S φ) {x : Nat} (h : x<n) : kn[ro x]?=some none∨∃ c,kn[ro x]?=some (some c):=by
 have hl : ro x<kn.length:=by rw [s.len.1]; exact s.ro_lt x h
 rw [List.getElem?_eq_getElem hl]
 cases kn[ro x] with
 | none => exact .inl rfl
 | some c => exact .inr ⟨c,rfl⟩
theorem Sim.link {n : Nat} {kn : List (Option Int)} {ro : Nat→Nat} {S S' φ : List Int} (s : Sim n kn ro S φ) {c p : Nat} (hp : p<n)
 (hS : S'.length=S.length) (hcp : ∀ k,kn[p]?=some (some k)→∀ x (h : x<φ.length),ro x=c→j6 S' φ[x]=k∧0≤k∧k<5)
 (hk : ∀ x (h : x<φ.length),ro x≠c→j6 S' φ[x]=j6 S φ[x])
 (hf : kn[p]?=some none→∃ r,5≤r∧(∀ x (h : x<φ.length),ro x=c→j6 S' φ[x]=r)∧∀ x (h : x<φ.length),ro x=p→j6 S φ[x]=r) (hpx : ∃ x,∃ (_ : x<φ.length),ro x=p) :
 Sim n kn (fun z => if ro z=c then p else ro z) S' φ:=by
 refine ⟨s.len,fun x hx => ?_,fun x hx => ?_,fun x hx k hh => ?_,fun x hx hh => ?_,fun x y hx hy h1 h2 => ?_⟩
 ·split
  ·exact hp
  ·exact s.ro_lt x hx
 ·have:=s.val x hx; unfold bI at this ⊢; rw [hS]; exact this
 ·split at hh
  ·rename_i e; exact hcp k hh x hx e
  ·rename_i e; rw [hk x hx e]; exact s.known x hx k hh
 ·split at hh
  ·rename_i e
   obtain ⟨r,h5,hr,-⟩:=hf hh
   rw [hr x hx e]; exact h5
  ·rename_i e; rw [hk x hx e]; exact s.free x hx hh
 ·by_cases ex : ro x=c
  ·rw [if_pos ex] at h1 ⊢
   obtain ⟨r,h5,hr,hrp⟩:=hf h1
   rw [hr x hx ex]
   by_cases ey : ro y=c
   ·rw [if_pos ey,hr y hy ey]; exact ⟨fun _ => rfl,fun _ => rfl⟩
   ·rw [if_neg ey] at h2 ⊢
    rw [hk y hy ey]
    obtain ⟨z,hz,ez⟩:=hpx
    have:=s.same z y hz hy (by rw [ez]; exact h1) h2
    rw [ez,hrp z hz ez] at this
    exact this
  ·rw [if_neg ex] at h1 ⊢
   rw [hk x hx ex]
   by_cases ey : ro y=c
   ·rw [if_pos ey] at h2 ⊢
    obtain ⟨r,h5,hr,hrp⟩:=hf h2
    rw [hr y hy ey]
    obtain ⟨z,hz,ez⟩:=hpx
    have:=s.same x z hx hz h1 (by rw [ez]; exact h2)
    rw [ez,hrp z hz ez] at this
    exact this
   ·rw [if_neg ey] at h2 ⊢
    rw [hk y hy ey]
    exact s.same x y hx hy h1 h2
theorem Sim.res {n : Nat} {kn : List (Option Int)} {ro : Nat→Nat} {S φ : List Int} (s : Sim n kn ro S φ) {x y : Nat} (hx : x<φ.length) (hy : y<φ.length) (h : ro x=ro y) : j6 S φ[x]=j6 S φ[y]:=by
 rcases s.look (x:=x) (by have:=s.len.2; omega) with e | ⟨c,e⟩
 ·exact (s.same x y hx hy e (h ▸ e)).1 h
 ·rw [(s.known x hx c e).1,(s.known y hy c (h ▸ e)).1]
theorem Sim.one {n : Nat} {kn : List (Option Int)} {ro : Nat→Nat} {S φ : List Int} (s : Sim n kn ro S φ) {x y : Nat} (hx : x<φ.length) (hy : y<φ.length) (h : ro x=ro y) : aT S φ[x] φ[y]=some S:=if_pos (s.res hx hy h)
theorem Sim.two {n : Nat} {kn : List (Option Int)} {ro : Nat→Nat} {S φ : List Int} (s : Sim n kn ro S φ) {x y : Nat} (hx : x<φ.length) (hy : y<φ.length) (h : ro x≠ro y) (e : kn[ro x]?=some none) :
 ∃ S',aT S φ[x] φ[y]=some S'∧Sim n kn (fun z => if ro z=ro x then ro y else ro z) S' φ:=by
 have h5:=s.free x hx e
 have hne : j6 S φ[x]≠j6 S φ[y]:=fun g => by
  rcases s.look (x:=y) (by have:=s.len.2; omega) with e2 | ⟨c,e2⟩
  ·exact h ((s.same x y hx hy e e2).2 g)
  ·have:=s.known y hy c e2; omega
 refine ⟨mU S (j6 S φ[x]) (j6 S φ[y]),by unfold aT; rw [if_neg hne,if_pos h5],?_⟩
 have hput : ∀ z (hz : z<φ.length),j6 (mU S (j6 S φ[x]) (j6 S φ[y])) φ[z]=if j6 S φ[z]=j6 S φ[x] then j6 S φ[y] else j6 S φ[z]:=fun z hz => oS h5 (s.val z hz)
 have hcls : ∀ z (hz : z<φ.length),ro z≠ro x→j6 S φ[z]≠j6 S φ[x]:=fun z hz hr g => by
  rcases s.look (x:=z) (by have:=s.len.2; omega) with e2 | ⟨c,e2⟩
  ·exact hr ((s.same z x hz hx e2 e).2 g)
  ·have:=s.known z hz c e2; omega
 refine s.link (s.ro_lt y (by have:=s.len.2; omega)) (kG ..) (fun k hk z hz hr => ?_) (fun z hz hr => ?_) (fun hf => ?_) ⟨y,hy,rfl⟩
 ·rw [hput z hz,if_pos (s.res hz hx hr)]; exact s.known y hy k hk
 ·rw [hput z hz,if_neg (hcls z hz hr)]
 ·exact ⟨j6 S φ[y],s.free y hy hf,fun z hz hr => by rw [hput z hz,if_pos (s.res hz hx hr)],fun z hz hr => s.res hz hy hr⟩
theorem Sim.three {n : Nat} {kn : List (Option Int)} {ro : Nat→Nat} {S φ : List Int} (s : Sim n kn ro S φ) {x y : Nat} (hx : x<φ.length) (hy : y<φ.length) {c : Int} (e : kn[ro x]?=some (some c)) (e2 : kn[ro y]?=some none) :
 ∃ S',aT S φ[x] φ[y]=some S'∧Sim n kn (fun z => if ro z=ro y then ro x else ro z) S' φ:=by
 have h5:=s.free y hy e2
 obtain ⟨k1,k2,k3⟩:=s.known x hx c e
 refine ⟨mU S (j6 S φ[y]) (j6 S φ[x]),by unfold aT; rw [if_neg (by omega),if_neg (by omega),if_pos h5],?_⟩
 have hput : ∀ z (hz : z<φ.length),j6 (mU S (j6 S φ[y]) (j6 S φ[x])) φ[z]=if j6 S φ[z]=j6 S φ[y] then j6 S φ[x] else j6 S φ[z]:=fun z hz => oS h5 (s.val z hz)
 have hcls : ∀ z (hz : z<φ.length),ro z≠ro y→j6 S φ[z]≠j6 S φ[y]:=fun z hz hr g => by
  rcases s.look (x:=z) (by have:=s.len.2; omega) with e3 | ⟨d,e3⟩
  ·exact hr ((s.same z y hz hy e3 e2).2 g)
  ·have:=s.known z hz d e3; omega
 refine s.link (s.ro_lt x (by have:=s.len.2; omega)) (kG ..) (fun k hk z hz hr => ?_) (fun z hz hr => ?_) (fun hf => ?_) ⟨x,hx,rfl⟩
 ·rw [hput z hz,if_pos (s.res hz hy hr)]; exact s.known x hx k hk
 ·rw [hput z hz,if_neg (hcls z hz hr)]
 ·rw [e] at hf; cases hf
theorem Sim.no {n : Nat} {kn : List (Option Int)} {ro : Nat→Nat} {S φ : List Int} (s : Sim n kn ro S φ) {x y : Nat} (hx : x<φ.length) (hy : y<φ.length) {c d : Int} (e : kn[ro x]?=some (some c)) (e2 : kn[ro y]?=some (some d)) (h : c≠d) : aT S φ[x] φ[y]=none:=by
 have k1:=s.known x hx c e
 have k2:=s.known y hy d e2
 unfold aT
 rw [if_neg (by omega),if_neg (by omega),if_neg (by omega)]
theorem Sim.like {n : Nat} {kn : List (Option Int)} {ro : Nat→Nat} {S φ : List Int} (s : Sim n kn ro S φ) {x y : Nat} (hx : x<φ.length) (hy : y<φ.length) {c : Int} (e : kn[ro x]?=some (some c)) (e2 : kn[ro y]?=some (some c)) :
 aT S φ[x] φ[y]=some S∧Sim n kn (fun z => if ro z=ro y then ro x else ro z) S φ:=by
 refine ⟨if_pos (by rw [(s.known x hx c e).1,(s.known y hy c e2).1]),?_⟩
 refine s.link (s.ro_lt x (by have:=s.len.2; omega)) rfl (fun k hk z hz hr => ?_) (fun _ _ _ => rfl) (fun hf => ?_) ⟨x,hx,rfl⟩
 ·rw [e] at hk
  cases hk
  exact s.known z hz c (by rw [hr]; exact e2)
 ·rw [e] at hf; cases hf
theorem Sim.addK {n : Nat} {kn : List (Option Int)} {ro : Nat→Nat} {S φ : List Int} (s : Sim n kn ro S φ) {c : Int} (h : 0≤c∧c<5) : Sim (n + 1) (kn ++ [some c]) (fun z => if z<n then ro z else z) S (φ ++ [c]):=by
 obtain ⟨l1,l2⟩:=s.len
 have hro : ∀ x,x<n→ro x<kn.length:=fun x hx => by have:=s.ro_lt x hx; omega
 have lk : ∀ x,x<n→(kn ++ [some c])[ro x]?=kn[ro x]?:=fun x hx => List.getElem?_append_left (hro x hx)
 have ln : (kn ++ [some c])[n]?=some (some c):=by rw [← l1]; simp
 have ph : ∀ x (h : x<(φ ++ [c]).length) (h' : x<n),(φ ++ [c])[x]=φ[x]'(by omega):=fun x h h' => List.getElem_append_left _
 have pn : ∀ (h : n<(φ ++ [c]).length),(φ ++ [c])[n]=c:=fun h => List.getElem_concat_length l2.symm _
 have hc5 : j6 S c=c:=if_pos h.2
 have cs : ∀ x,x<(φ ++ [c]).length→x<n∨x=n:=fun x hx => by rw [List.length_append,List.length_singleton] at hx; omega
 refine ⟨by simp [l1,l2],fun x hx => ?_,fun x hx => ?_,fun x hx k hh => ?_,fun x hx hh => ?_,fun x y hx hy h1 h2 => ?_⟩
 ·split
  ·rename_i g; have:=s.ro_lt x g; omega
  ·exact hx
 ·rcases cs x hx with g | rfl
  ·rw [ph x hx g]; exact s.val x (by omega)
  ·rw [pn]; exact ⟨h.1,by omega⟩
 ·rcases cs x hx with g | rfl
  ·rw [if_pos g,lk x g] at hh; rw [ph x hx g]; exact s.known x (by omega) k hh
  ·rw [if_neg (Nat.lt_irrefl _),ln] at hh
   cases hh
   rw [pn,hc5]; exact ⟨rfl,h⟩
 ·rcases cs x hx with g | rfl
  ·rw [if_pos g,lk x g] at hh; rw [ph x hx g]; exact s.free x (by omega) hh
  ·rw [if_neg (Nat.lt_irrefl _),ln] at hh; cases hh
 ·rcases cs x hx with g | rfl
  ·rcases cs y hy with g' | rfl
   ·rw [if_pos g,lk x g] at h1
    rw [if_pos g',lk y g'] at h2
    rw [if_pos g,if_pos g',ph x hx g,ph y hy g']
    exact s.same x y (by omega) (by omega) h1 h2
   ·rw [if_neg (Nat.lt_irrefl _),ln] at h2; cases h2
  ·rw [if_neg (Nat.lt_irrefl _),ln] at h1; cases h1
theorem Sim.addN {n : Nat} {kn : List (Option Int)} {ro : Nat→Nat} {S φ : List Int} (s : Sim n kn ro S φ) (hS : V7 S) : Sim (n + 1) (kn ++ [none]) (fun z => if z<n then ro z else z) (frT S) (φ ++ [5 + (S.length : Int)]):=by
 obtain ⟨l1,l2⟩:=s.len
 have hro : ∀ x,x<n→ro x<kn.length:=fun x hx => by have:=s.ro_lt x hx; omega
 have lk : ∀ x,x<n→(kn ++ [none])[ro x]?=kn[ro x]?:=fun x hx => List.getElem?_append_left (hro x hx)
 have ln : (kn ++ [none])[n]?=some none:=by rw [← l1]; simp
 have ph : ∀ x (h : x<(φ ++ [5 + (S.length : Int)]).length) (h' : x<n),(φ ++ [5 + (S.length : Int)])[x]=φ[x]'(by omega):=fun x h h' => List.getElem_append_left _
 have pn : ∀ (h : n<(φ ++ [5 + (S.length : Int)]).length),(φ ++ [5 + (S.length : Int)])[n]=5 + (S.length : Int):=fun h => List.getElem_concat_length l2.symm _
 have cs : ∀ x,x<(φ ++ [5 + (S.length : Int)]).length→x<n∨x=n:=fun x hx => by rw [List.length_append,List.length_singleton] at hx; omega
 have old : ∀ x (h : x<(φ ++ [5 + (S.length : Int)]).length) (h' : x<n),j6 (frT S) (φ ++ [5 + (S.length : Int)])[x]=j6 S (φ[x]'(by omega)):=fun x h h' => by rw [ph x h h']; exact a61 (s.val x (by omega))
 have new : ∀ (h : n<(φ ++ [5 + (S.length : Int)]).length),j6 (frT S) (φ ++ [5 + (S.length : Int)])[n]=5 + (S.length : Int):=fun h => by rw [pn]; exact a4V S
 have less : ∀ x (h : x<φ.length),j6 S φ[x]≠5 + (S.length : Int):=fun x h e => by have:=(kH hS (s.val x h)).2; omega
 refine ⟨by simp [l1,l2],fun x hx => ?_,fun x hx => ?_,fun x hx k hh => ?_,fun x hx hh => ?_,fun x y hx hy h1 h2 => ?_⟩
 ·split
  ·rename_i g; have:=s.ro_lt x g; omega
  ·exact hx
 ·rcases cs x hx with g | rfl
  ·rw [ph x hx g]; have:=s.val x (by omega); unfold bI at this ⊢; rw [cF]; omega
  ·rw [pn]; unfold bI; rw [cF]; omega
 ·rcases cs x hx with g | rfl
  ·rw [if_pos g,lk x g] at hh; rw [old x hx g]; exact s.known x (by omega) k hh
  ·rw [if_neg (Nat.lt_irrefl _),ln] at hh; cases hh
 ·rcases cs x hx with g | rfl
  ·rw [if_pos g,lk x g] at hh; rw [old x hx g]; exact s.free x (by omega) hh
  ·rw [new]; omega
 ·rcases cs x hx with g | rfl
  ·rw [if_pos g,lk x g] at h1
   rw [if_pos g,old x hx g]
   rcases cs y hy with g' | rfl
   ·rw [if_pos g',lk y g'] at h2
    rw [if_pos g',old y hy g']
    exact s.same x y (by omega) (by omega) h1 h2
   ·rw [if_neg (Nat.lt_irrefl _),new]
    exact ⟨fun e => by have:=s.ro_lt x g; omega,fun e => absurd e (less x (by omega))⟩
  ·rw [if_neg (Nat.lt_irrefl _),new]
   rcases cs y hy with g' | rfl
   ·rw [if_pos g',lk y g'] at h2
    rw [if_pos g',old y hy g']
    exact ⟨fun e => by have:=s.ro_lt y g'; omega,fun e => absurd e.symm (less y (by omega))⟩
   ·rw [if_neg (Nat.lt_irrefl _),new]; exact ⟨fun _ => rfl,fun _ => rfl⟩
end Go.Proofs.YteefedkmgnepmaaGreatDoor
