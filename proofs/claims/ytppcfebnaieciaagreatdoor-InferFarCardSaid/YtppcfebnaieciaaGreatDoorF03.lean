/-
  Laws that the proof rests on.
-/
import Derived.Test.YtppcfebnaieciaaGreatDoorF02
namespace Go.Proofs.YtppcfebnaieciaaGreatDoor
set_option maxRecDepth 100000
set_option maxHeartbeats 16000000
def m5 (kind : Int) (t : Nd) : Bool:=t.kind == kind && l3 t.text.data.toList && t.n == 0 && t.kids.isEmpty
def D6 (t : Nd) : Nd:=t.kids.getLastD (.mk 0 ByteArray.empty 0 [] 0)
def H6 (t : Nd) : Bool:=t.kind == 3 && l3 t.text.data.toList && t.n == 0 && decide (1≤t.kids.length) && decide (t.kids.length≤9) && (t.kids.dropLast.all (m5 4) && d9 (D6 t) 1)
def eF (t : Nd) : List UInt8:=[108,101,116,32] ++ t.text.data.toList
def eT (t : Nd) : List UInt8:=eF t ++ (if t.kids.length=1 then [] else cO (t.kids.dropLast.map fun p => p.text.data.toList)) ++ [32,61,32] ++ i6 (D6 t) ++ [59,10]
def eS (t : Nd) : List UInt8:=[105,109,112,111,114,116,32] ++ t.text.data.toList ++ [59,10]
def U9 (t : Nd) : List UInt8:=[109,111,100,117,108,101,32] ++ t.text.data.toList ++ [59,10]
def q9 (ks : List Nd) : Nat:=(ks.takeWhile (m5 2)).length
def J4 (t : Nd) : Bool:=t.kind == 1 && l3 t.text.data.toList && t.n == 0 && O5 t && (decide (q9 t.kids≤100) && decide (t.kids.length - q9 t.kids≤200) && (t.kids.drop (q9 t.kids)).all H6)
def a5c (t : Nd) : List UInt8:=U9 t ++ (t.kids.take (q9 t.kids)).flatMap eS ++ (t.kids.drop (q9 t.kids)).flatMap eT
theorem rS (ks : List Nd) : q9 ks≤ks.length:=(List.takeWhile_sublist (l:=ks) (m5 2)).length_le
theorem eP : ∀ (ks : List Nd) (k : Nd),k∈ks→i7 k≤j7 ks
 | a :: r,k,h => by
   rw [j7]
   rcases List.mem_cons.1 h with rfl | h
   ·omega
   ·have:=eP r k h; omega
 | [],_,h => by cases h
theorem t8 (t : Nd) : i7 t=j7 t.kids + 1:=by cases t; rw [i7]; rfl
theorem hZ {t k : Nd} (h : O5 t=true) (hk : k∈t.kids) : O5 k=true:=by
 rw [cP,decide_eq_true_eq] at h ⊢
 have:=eP t.kids k hk
 have:=t8 t
 omega
theorem uM {t : Nd} (h : 1≤t.kids.length) : t.kids[t.kids.length - 1]'(by omega)=D6 t:=by
 unfold D6
 rw [List.getLastD_eq_getLast?,List.getLast?_eq_getElem?,List.getElem?_eq_getElem (by omega)]
 rfl
theorem tT {t : Nd} (h : 1≤t.kids.length) : D6 t∈t.kids:=by
 rw [← uM h]
 exact List.getElem_mem _
theorem a4V {l : List Nat} {b : Nat} (h : ∀ x∈l,x≤b) : l.sum≤l.length * b:=by
 induction l with
 | nil => simp
 | cons a l ih =>
   have h1:=h a (List.mem_cons_self ..)
   have h2:=ih fun x hx => h x (List.mem_cons_of_mem _ hx)
   rw [List.sum_cons,List.length_cons,Nat.succ_mul]
   omega
theorem kS {t : Nd} (h : O5 t=true) {d : Int} (hr : d9 t d=true) : (i6 t).length≤1048576:=by
 rw [cP,decide_eq_true_eq] at h
 have:=iH t d hr
 omega
theorem E0 {k : Int} {t : Nd} (h : m5 k t=true) : l3 t.text.data.toList=true∧t.kind=k∧t.n=0∧t.kids=[]:=by
 unfold m5 at h
 simp only [Bool.and_eq_true,beq_iff_eq,List.isEmpty_iff] at h
 exact ⟨h.1.1.2,h.1.1.1,h.1.2,h.2⟩
theorem lJ {t : Nd} (h : H6 t=true) : (cO (t.kids.dropLast.map fun p => p.text.data.toList)).length≤300:=by
 unfold H6 at h
 simp only [Bool.and_eq_true,decide_eq_true_eq,List.all_eq_true] at h
 have h1:=oF (t.kids.dropLast.map fun p => p.text.data.toList)
 have h2:=a4V (l:=(t.kids.dropLast.map fun p => p.text.data.toList).map fun f => f.length + 2) (b:=26) (by
  intro x hx
  rw [List.map_map,List.mem_map] at hx
  obtain ⟨p,hp,rfl⟩:=hx
  have:=o0 (E0 (h.2.1 p hp)).1
  show p.text.data.toList.length + 2≤26
  omega)
 simp only [List.length_map,List.length_dropLast] at h2
 omega
theorem a2O {t : Nd} (h : H6 t=true) (hs : O5 (D6 t)=true) : (eT t).length≤1100000:=by
 have h1:=lJ h
 unfold H6 at h
 simp only [Bool.and_eq_true,decide_eq_true_eq,List.all_eq_true] at h
 have h2:=o0 h.1.1.1.1.2
 have h3:=kS hs h.2.2
 unfold eT eF
 simp only [List.length_append,List.length_cons,List.length_nil]
 split <;> (try simp only [List.length_nil]) <;> omega
theorem mP {t : Nd} (h : m5 2 t=true) : (eS t).length≤40:=by
 have:=o0 (E0 h).1
 unfold eS
 simp only [List.length_append,List.length_cons,List.length_nil]
 omega
theorem rM {f : Nd→List UInt8} {b : Nat} : ∀ (l : List Nd),(∀ x∈l,(f x).length≤b)→(l.flatMap f).length≤l.length * b
 | [],_ => by simp
 | a :: l,h => by
   have h1:=h a (List.mem_cons_self ..)
   have h2:=rM l fun x hx => h x (List.mem_cons_of_mem _ hx)
   rw [List.flatMap_cons,List.length_append,List.length_cons,Nat.succ_mul]
   omega
theorem iA {f : Nd→List UInt8} (l : List Nd) (k : Nat) (h : k<l.length) : (l.take (k + 1)).flatMap f=(l.take k).flatMap f ++ f l[k]:=by
 rw [List.take_succ_eq_append_getElem h,List.flatMap_append]
 simp
theorem eR {ks : List Nd} {k : Nat} (h : k<q9 ks) (hk : k<ks.length) : m5 2 ks[k]=true:=by
 unfold q9 at h
 have h1 : (ks.takeWhile (m5 2))[k]=ks[k]:=(List.takeWhile_prefix (m5 2)).getElem h
 rw [← h1]
 exact List.all_eq_true.1 (List.all_takeWhile (l:=ks) (p:=m5 2)) _ (List.getElem_mem _)
theorem a3f {t : Nd} (h : H6 t=true) : t.kind=3:=by
 unfold H6 at h
 simp only [Bool.and_eq_true,beq_iff_eq] at h
 exact h.1.1.1.1.1
theorem D8 {α : Type} (p : α→Bool) : ∀ (l : List α) (k : Nat),k≤l.length→(∀ j (hj : j<l.length),j<k→p l[j]=true)→(∀ (hk : k<l.length),p l[k]=false)→(l.takeWhile p).length=k
 | [],k,hk,_,_ => by simp at hk; simp [hk]
 | a :: r,0,_,_,h => by
   have:=h (by simp)
   rw [List.takeWhile_cons,if_neg (by rw [show (a :: r)[0]=a from rfl] at this; rw [this]; decide)]
   rfl
 | a :: r,k + 1,hk,h,h' => by
   have:=h 0 (by simp) (by omega)
   rw [List.takeWhile_cons,if_pos (by rw [show (a :: r)[0]=a from rfl] at this; exact this),List.length_cons]
   rw [D8 p r k (by simpa using hk) (fun j hj hjk => by have:=h (j + 1) (by simpa using hj) (by omega); simpa using this) (fun hk' => by have:=h' (by simpa using hk'); simpa using this)]
theorem O7 {α : Type} {p : α→Bool} {l : List α} {n : Nat} (h : ∀ j (hj : j<l.length),j<n→p l[j]=true) : (l.take n).all p=true:=by
 rw [List.all_eq_true]
 intro a ha
 obtain ⟨i,hi,rfl⟩:=List.getElem_of_mem ha
 rw [List.length_take] at hi
 rw [List.getElem_take]
 exact h i (by omega) (by omega)
theorem a2E {α : Type} {p : α→Bool} {l : List α} {n : Nat} (h : ∀ j (hj : j<l.length),n≤j→p l[j]=true) : (l.drop n).all p=true:=by
 rw [List.all_eq_true]
 intro a ha
 obtain ⟨i,hi,rfl⟩:=List.getElem_of_mem ha
 rw [List.length_drop] at hi
 rw [List.getElem_drop]
 exact h _ (by omega) (by omega)
theorem yB {α : Type} {p : α→Bool} {l : List α} {a : α} (ha : a∈l) (h : p a=false) : l.all p=false:=by
 rw [Bool.eq_false_iff]
 intro e
 rw [List.all_eq_true] at e
 rw [e a ha] at h; cases h
theorem kX {α : Type} {l : List α} {j n : Nat} (hj : j<l.length) (h : n≤j) : l[j]∈l.drop n:=by
 have : (l.drop n)[j - n]'(by rw [List.length_drop]; omega)=l[j]:=by rw [List.getElem_drop]; congr 1; omega
 rw [← this]; exact List.getElem_mem _
theorem aR (t : Nd) : H6 t=(t.kind == 3 && l3 t.text.data.toList && t.n == 0 && decide (1≤t.kids.length) && decide (t.kids.length≤9) && (t.kids.dropLast.all (m5 4) && d9 (D6 t) 1)):=rfl
theorem sU (kind : Int) (t : Nd) : m5 kind t=(t.kind == kind && l3 t.text.data.toList && t.n == 0 && decide ((t.kids.length : Int)=0)):=by
 unfold m5
 cases t.kids with
 | nil => rfl
 | cons a l =>
   have : decide ((((a :: l).length : Nat) : Int)=0)=false:=decide_eq_false (by simp; omega)
   rw [this]; rfl
theorem qV {ks : List Nd} {j : Nat} (hj : j<ks.length - 1) (hj' : j<ks.length) : ks[j]∈ks.dropLast:=by
 have : (ks.dropLast)[j]'(by rw [List.length_dropLast]; exact hj)=ks[j]:=List.getElem_dropLast ..
 rw [← this]; exact List.getElem_mem _
theorem cR {t : Nd} (h : J4 t=true) : O5 t=true∧l3 t.text.data.toList=true∧t.kids.length≤300:=by
 unfold J4 at h
 simp only [Bool.and_eq_true,decide_eq_true_eq] at h
 exact ⟨h.1.2,h.1.1.1.2,by omega⟩
theorem yT {t : Nd} (h : J4 t=true) (j : Nat) (hj : j<t.kids.length) : (t.kids[j].kind=2∧m5 2 t.kids[j]=true)∨(t.kids[j].kind≠2∧H6 t.kids[j]=true):=by
 unfold J4 at h
 simp only [Bool.and_eq_true] at h
 rcases Nat.lt_or_ge j (q9 t.kids) with g | g
 ·have:=eR g hj
  exact .inl ⟨(E0 this).2.1,this⟩
 ·have:=List.all_eq_true.1 h.2.2 _ (kX hj g)
  exact .inr ⟨by rw [a3f this]; decide,this⟩
theorem hJ {t : Nd} (h : H6 t=true) : l3 t.text.data.toList=true∧1≤t.kids.length∧t.kids.length≤9∧(∀ p∈t.kids.dropLast,m5 4 p=true)∧d9 (D6 t) 1=true:=by
 unfold H6 at h
 simp only [Bool.and_eq_true,decide_eq_true_eq,List.all_eq_true] at h
 exact ⟨h.1.1.1.1.2,h.1.1.2,h.1.2,h.2.1,h.2.2⟩
structure Sch where
 name : List UInt8
 params : List Int
 result : Int
structure Sht where
 name : List UInt8
 defs : List Sch
def a5K : List UInt8:=[110,111,119]
def a5C : List UInt8:=[122,101,114,111]
def a5E : List UInt8:=[111,110,101]
def a5y : List UInt8:=[103,105,118,101]
def a4R : List UInt8:=[115,99,97,108,101]
def a5v : List UInt8:=[98,111,116,104]
def bAt : List UInt8:=[97,116]
def a5l : List UInt8:=[119,104,101,110]
def a5D : List UInt8:=[97,103,111]
def a5w : List UInt8:=[112,108,117,115]
def a3g : List UInt8:=[109,111,110,116,104,115]
def a4Q : List UInt8:=[121,101,97,114,115]
def a1P : List UInt8:=[121,101,97,114,115,51,48]
def a3t : List UInt8:=[98,101,102,111,114,101]
def l6 : List Sch:=[⟨a5K,[],2⟩,⟨a5C,[],4⟩,⟨a5E,[3],4⟩,⟨a5y,[4],4⟩,⟨a4R,[0,4],4⟩,⟨a5v,[4,4],4⟩,⟨bAt,[2,4],4⟩,⟨a5l,[2,1,4],4⟩,⟨a5D,[0,5],5⟩,⟨a5w,[2,0],2⟩,⟨a3g,[2,0],2⟩,⟨a4Q,[2,2],0⟩,⟨a1P,[2,2],0⟩,⟨a3t,[2,2],1⟩]
def j4 (l : List Sch) (name : List UInt8) : Option Sch:=l.find? fun s => s.name == name
def j8 (l : List Sht) (name : List UInt8) : Option Sht:=l.find? fun s => s.name == name
def p9 (t : Int) : Bool:=decide (0≤t) && decide (t≤20)
def aK (d : Sch) : Bool:=l3 d.name && p9 d.result && decide (d.params.length≤8) && d.params.all p9
def o7 (s : Sht) : Bool:=l3 s.name && decide (s.defs.length≤200) && s.defs.all aK
def j3 (S : List Int) (t : Int) : Int:=if t<5 then t else S.getD (t - 5).toNat 0
def lK (S : List Int) (a b : Int) : List Int:=S.map fun t => if t=a then b else t
def cE (S : List Int) (a b : Int) : Option (List Int) :=
 if j3 S a=j3 S b then some S else if 5≤j3 S a then some (lK S (j3 S a) (j3 S b)) else if 5≤j3 S b then some (lK S (j3 S b) (j3 S a)) else none
def frT (S : List Int) : List Int:=S ++ [5 + (S.length : Int)]
structure Env7 where
 sheets : List Sht
 defs : List Sch
 params : List (List UInt8)
def E8 (E : Env7) (name : List UInt8) : Option Sch :=
 if (Lib.cut name [46]).2.2=true then (j8 E.sheets (Lib.cut name [46]).1).bind fun s => j4 s.defs (Lib.cut name [46]).2.1
 else (j4 E.defs name).or (j4 l6 name)
def cG (E : Env7) (name : List UInt8) : Option Int:=(E.params.findIdx? fun p => p == name).map fun i => 5 + (i : Int)
def o5 : List Int→List (Int × Int)→List Int→List Int × List Int
 | [],_,S => ([],S)
 | t :: ts,m,S =>
   if t<5 then ((t :: (o5 ts m S).1),(o5 ts m S).2)
   else match m.lookup t with
    | some x => ((x :: (o5 ts m S).1),(o5 ts m S).2)
    | none => ((5 + (S.length : Int)) :: (o5 ts ((t,5 + (S.length : Int)) :: m) (frT S)).1,(o5 ts ((t,5 + (S.length : Int)) :: m) (frT S)).2)
abbrev Ty (α : Type):=Except (Int × Int) (α × List Int)
def Ty.then {α β : Type} (x : Ty α) (f : α→List Int→Ty β) : Ty β:=match x with
 | .error e => .error e
 | .ok (t,S) => f t S
def bX (E : Env7) (kind : Int) (s : List UInt8) (k : Nat) (p : Int) (S : List Int) : Ty (List Int × Int) :=
 if kind=5∨kind=9 then .ok (([],0),S)
 else if kind=8 then .ok (([],1),S)
 else if kind=6 then .ok (([],2),S)
 else if kind=7 then .ok (([],3),S)
 else if kind=12 then (if s=[45] then .ok (([0],0),S) else .ok (([1],1),S))
 else if kind=14 then .ok (([1,5 + (S.length : Int),5 + (S.length : Int)],5 + (S.length : Int)),frT S)
 else if kind=15 then .ok (([2,4,4],4),S)
 else if kind=13 then (if s=[111,114]∨s=[97,110,100] then .ok (([1,1],1),S) else if s=[60]∨s=[60,61]∨s=[61] then .ok (([0,0],1),S) else .ok (([0,0],0),S))
 else match cG E s with
  | some t => if k=0 then .ok (([],t),S) else .error (114,p)
  | none => match E8 E s with
    | none => .error (113,p)
    | some d => if d.params.length=k then .ok (((o5 (d.params ++ [d.result]) [] S).1.dropLast,(o5 (d.params ++ [d.result]) [] S).1.getLastD 0),(o5 (d.params ++ [d.result]) [] S).2) else .error (114,p)
mutual
def g9 (E : Env7) : Nd→List Int→Ty Int
 | .mk kind s _ ks p,S => (bX E kind s.data.toList ks.length p S).then fun l S => (o4 E ks l.1 S).then fun _ S => .ok (l.2,S)
def o4 (E : Env7) : List Nd→List Int→List Int→Ty Unit
 | [],_,S => .ok ((),S)
 | k :: ks,l,S => (g9 E k S).then fun t S => match cE S t (l.headD 0) with
   | none => .error (115,k.place)
   | some S => o4 E ks l.tail S
end
def r7 : List Int→List Int→List Int
 | [],_ => []
 | t :: ts,seen => if t < 5 then t :: r7 ts seen else if t ∈ seen then (5 + (seen.idxOf t : Int)) :: r7 ts seen else (5 + (seen.length : Int)) :: r7 ts (seen ++ [t])
def F7 : List Nd→List (List UInt8)→Except (Int × Int) (List (List UInt8))
 | [],l => .ok l
 | p :: ps,l => if l.contains p.text.data.toList then .error (111,p.place) else F7 ps (l ++ [p.text.data.toList])
def l5 (k : Nat) : List Int:=(List.range k).map fun (i : Nat) => 5 + (i : Int)
def Y1 (sheets : List Sht) (defs : List Sch) (t : Nd) : Except (Int × Int) Sch :=
 if (j4 l6 t.text.data.toList).isSome || (j4 defs t.text.data.toList).isSome then .error (111,t.place)
 else match F7 t.kids.dropLast [] with
  | .error e => .error e
  | .ok ps => match g9 ⟨sheets,defs,ps⟩ (D6 t) (l5 ps.length) with
    | .error e => .error e
    | .ok (r,S) => .ok ⟨t.text.data.toList,(r7 ((l5 ps.length ++ [r]).map (j3 S)) []).dropLast,(r7 ((l5 ps.length ++ [r]).map (j3 S)) []).getLastD 0⟩
def p8 (own : List UInt8) (all sheets : List Sht) (t : Nd) : Except (Int × Int) Sht :=
 if t.text.data.toList=own || (j8 sheets t.text.data.toList).isSome then .error (111,t.place)
 else match j8 all t.text.data.toList with
  | none => .error (112,t.place)
  | some s => .ok s
def n6 (own : List UInt8) (all : List Sht) : List Nd→List Sht→List Sch→Except (Int × Int) (List Sch)
 | [],_,defs => .ok defs
 | k :: ks,sheets,defs =>
   if k.kind=2 then match p8 own all sheets k with
    | .error e => .error e
    | .ok s => n6 own all ks (sheets ++ [s]) defs
   else match Y1 sheets defs k with
    | .error e => .error e
    | .ok d => n6 own all ks sheets (defs ++ [d])
def r9 (t : Nd) (all : List Sht) : Except (Int × Int) Sht :=
 if J4 t=true∧all.all o7=true then match n6 t.text.data.toList all t.kids [] [] with
  | .error e => .error e
  | .ok ds => .ok ⟨t.text.data.toList,ds⟩
 else .error (110,0)
structure Uf (up : List Nat) (ro rk : Nat→Nat) : Prop where
 lt : ∀ i (h : i<up.length),up[i]<up.length
 fix : ∀ i (h : i<up.length),up[i]=i→ro i=i
 step : ∀ i (h : i<up.length),ro up[i]=ro i
 rank : ∀ i (h : i<up.length),up[i]≠i→rk up[i]<rk i
theorem Uf.root {up : List Nat} {ro rk : Nat→Nat} (u : Uf up ro rk) : ∀ (n i : Nat),rk i<n→(h : i<up.length)→∃ (h' : ro i<up.length),up[ro i]=ro i∧ro (ro i)=ro i
 | 0,i,hn,_ => by omega
 | n + 1,i,hn,h => by
   by_cases e : up[i]=i
   ·have:=u.fix i h e
    exact ⟨by rw [this]; exact h,by simp only [this]; exact e,by rw [this]; exact this⟩
   ·obtain ⟨h1,h2,h3⟩:=u.root n up[i] (by have:=u.rank i h e; omega) (u.lt i h)
    have:=u.step i h
    exact ⟨by rw [← this]; exact h1,by simp only [← this]; exact h2,by rw [← this]; exact h3⟩
theorem Uf.root_lt {up : List Nat} {ro rk : Nat→Nat} (u : Uf up ro rk) {i : Nat} (h : i<up.length) : ro i<up.length:=(u.root _ i (Nat.lt_succ_self _) h).1
theorem Uf.root_root {up : List Nat} {ro rk : Nat→Nat} (u : Uf up ro rk) {i : Nat} (h : i<up.length) : ro (ro i)=ro i:=(u.root _ i (Nat.lt_succ_self _) h).2.2
theorem Uf.halve {up : List Nat} {ro rk : Nat→Nat} (u : Uf up ro rk) {i : Nat} (h : i<up.length) (hne : up[i]≠i) : Uf (up.set i (up[up[i]]'(u.lt i h))) ro rk:=by
 have h1:=u.lt i h
 have h2:=u.lt _ h1
 have r1:=u.rank i h hne
 have r2 : rk (up[up[i]]'h1)≤rk up[i]:=by
  by_cases e : up[up[i]]'h1=up[i]
  ·rw [e]; exact Nat.le_refl _
  ·exact Nat.le_of_lt (u.rank _ h1 e)
 refine ⟨fun j hj => ?_,fun j hj => ?_,fun j hj => ?_,fun j hj => ?_⟩ <;> (have hj':=hj; rw [List.length_set] at hj'; by_cases e : i=j)
 ·subst e; rw [List.getElem_set_self,List.length_set]; exact h2
 ·rw [List.getElem_set_ne e,List.length_set]; exact u.lt j hj'
 ·subst e; rw [List.getElem_set_self]; intro e; rw [e] at r2; omega
 ·rw [List.getElem_set_ne e]; exact u.fix j hj'
 ·subst e; rw [List.getElem_set_self,u.step _ h1]; exact u.step _ h
 ·rw [List.getElem_set_ne e]; exact u.step j hj'
 ·subst e; rw [List.getElem_set_self]; intro _; omega
 ·rw [List.getElem_set_ne e]; exact u.rank j hj'
theorem Uf.link {up : List Nat} {ro rk : Nat→Nat} (u : Uf up ro rk) {c p : Nat} (hp : p<up.length) (rc : ro c=c) (rp : ro p=p) (hne : c≠p) :
 Uf (up.set c p) (fun z => if ro z=c then p else ro z) (fun z => if ro z=c then rk z + rk p + 1 else rk z):=by
 have hpc : ¬ ro p=c:=by rw [rp]; exact fun e => hne e.symm
 refine ⟨fun j hj => ?_,fun j hj => ?_,fun j hj => ?_,fun j hj => ?_⟩ <;> (have hj':=hj; rw [List.length_set] at hj'; by_cases e : c=j)
 ·subst e; rw [List.getElem_set_self,List.length_set]; exact hp
 ·rw [List.getElem_set_ne e,List.length_set]; exact u.lt j hj'
 ·subst e; rw [List.getElem_set_self]; intro e; exact absurd e.symm hne
 ·rw [List.getElem_set_ne e]
  intro h
  have:=u.fix j hj' h
  simp only [this]
  rw [if_neg (fun e' => e e'.symm)]
 ·subst e; rw [List.getElem_set_self]; simp only [rc,if_true,rp]; split <;> rfl
 ·rw [List.getElem_set_ne e]; simp only [u.step j hj']
 ·subst e; rw [List.getElem_set_self]
  intro _
  simp only [rc,if_true,hpc,if_false]
  omega
 ·rw [List.getElem_set_ne e]
  intro h
  have:=u.rank j hj' h
  simp only [u.step j hj']
  split <;> omega
theorem Uf.add {up : List Nat} {ro rk : Nat→Nat} (u : Uf up ro rk) : Uf (up ++ [up.length]) (fun z => if z<up.length then ro z else z) rk:=by
 refine ⟨fun j hj => ?_,fun j hj => ?_,fun j hj => ?_,fun j hj => ?_⟩ <;> (have hj':=hj; rw [List.length_append,List.length_singleton] at hj'; by_cases h : j<up.length)
 ·rw [List.getElem_append_left h,List.length_append]; have:=u.lt j h; omega
 ·obtain rfl : j=up.length:=by omega
  rw [List.getElem_concat_length rfl,List.length_append]; simp
 ·rw [List.getElem_append_left h]; intro e; rw [if_pos h]; exact u.fix j h e
 ·intro _; rw [if_neg h]
 ·have hl:=u.lt j h
  rw [List.getElem_append_left h]; simp only [h,hl,if_true]; exact u.step j h
 ·obtain rfl : j=up.length:=by omega
  rw [List.getElem_concat_length rfl]
 ·rw [List.getElem_append_left h]; exact u.rank j h
 ·obtain rfl : j=up.length:=by omega
  rw [List.getElem_concat_length rfl]; intro e; exact absurd rfl e
def Q3 (S : List Int) : Prop:=∀ j,j<S.length→(0≤S.getD j 0∧S.getD j 0<5)∨∃ i,i<S.length∧S.getD j 0=5 + (i : Int)∧S.getD i 0=S.getD j 0
def aC (S : List Int) (t : Int) : Prop:=0≤t∧t<5 + (S.length : Int)
theorem dD {l : List Int} {i : Nat} (h : i<l.length) : l.getD i 0=l[i]:=by rw [List.getD_eq_getElem?_getD,List.getElem?_eq_getElem h]; rfl
theorem kF {l r : List Int} {i : Nat} (h : i<l.length) : (l ++ r).getD i 0=l.getD i 0:=by
 rw [dD h,dD (by rw [List.length_append]; omega),List.getElem_append_left h]
theorem gN {S : List Int} {a b : Int} {j : Nat} (h : j<S.length) : (lK S a b).getD j 0=if S.getD j 0=a then b else S.getD j 0:=by
 unfold lK
 rw [dD (by rw [List.length_map]; exact h),List.getElem_map,dD h]
theorem kR (S : List Int) (a b : Int) : (lK S a b).length=S.length:=List.length_map ..
theorem aM (S : List Int) : (frT S).length=S.length + 1:=by unfold frT; simp
theorem qQ (S : List Int) : (frT S).getD S.length 0=5 + (S.length : Int):=by
 unfold frT
 rw [dD (by simp),List.getElem_concat_length rfl]
theorem gH {S : List Int} (hS : Q3 S) {t : Int} (h : aC S t) : aC S (j3 S t):=by
 unfold j3
 split
 ·exact h
 ·rcases hS (t - 5).toNat (by have:=h.2; omega) with g | ⟨i,hi,e,-⟩
  ·exact ⟨g.1,by omega⟩
  ·exact ⟨by omega,by omega⟩
theorem rK {S : List Int} (hS : Q3 S) {t : Int} (h : aC S t) : j3 S (j3 S t)=j3 S t:=by
 by_cases ht : t<5
 ·rw [show j3 S t=t from if_pos ht]; exact if_pos ht
 ·have e : j3 S t=S.getD (t - 5).toNat 0:=if_neg ht
  rw [e]
  rcases hS (t - 5).toNat (by have:=h.2; omega) with g | ⟨i,hi,e1,e2⟩
  ·exact if_pos g.2
  ·rw [e1]
   unfold j3
   rw [if_neg (by omega),show (5 + (i : Int) - 5).toNat=i by omega,e2,e1]
theorem tI {S : List Int} {a b t : Int} (ha : 5≤a) (h : aC S t) : j3 (lK S a b) t=if j3 S t=a then b else j3 S t:=by
 unfold j3
 by_cases ht : t<5
 ·rw [if_pos ht,if_pos ht,if_neg (by omega)]
 ·rw [if_neg ht,if_neg ht,gN (by have:=h.2; omega)]
theorem oR {S : List Int} (hS : Q3 S) {a b : Int} (hb : aC S b) (hrb : j3 S b=b) (hab : a≠b) : Q3 (lK S a b):=by
 intro j hj
 rw [kR] at hj ⊢
 rw [gN hj]
 have key : (0≤b∧b<5)∨∃ i,i<S.length∧b=5 + (i : Int)∧S.getD i 0=b:=by
  by_cases h5 : b<5
  ·exact .inl ⟨hb.1,h5⟩
  ·refine .inr ⟨(b - 5).toNat,by have:=hb.2; omega,by omega,?_⟩
   unfold j3 at hrb
   rwa [if_neg h5] at hrb
 split
 ·rcases key with g | ⟨i,hi,e1,e2⟩
  ·exact .inl g
  ·exact .inr ⟨i,hi,e1,by rw [gN hi,e2,if_neg (fun e => hab e.symm)]⟩
 ·rename_i hne
  rcases hS j hj with g | ⟨i,hi,e1,e2⟩
  ·exact .inl g
  ·exact .inr ⟨i,hi,e1,by rw [gN hi,e2,if_neg hne]⟩
theorem mT {S : List Int} (hS : Q3 S) : Q3 (frT S):=by
 intro j hj
 rw [aM] at hj ⊢
 by_cases h : j<S.length
 ·rw [show (frT S).getD j 0=S.getD j 0 from kF h]
  rcases hS j h with g | ⟨i,hi,e1,e2⟩
  ·exact .inl g
  ·exact .inr ⟨i,by omega,e1,(show (frT S).getD i 0=S.getD i 0 from kF hi).trans e2⟩
 ·obtain rfl : j=S.length:=by omega
  rw [qQ]
  exact .inr ⟨S.length,by omega,rfl,qQ S⟩
theorem a4b {S : List Int} {t : Int} (h : aC S t) : j3 (frT S) t=j3 S t:=by
 unfold j3
 split
 ·rfl
 ·exact kF (by have:=h.2; omega)
theorem a2d (S : List Int) : j3 (frT S) (5 + (S.length : Int))=5 + (S.length : Int):=by
 unfold j3
 rw [if_neg (by omega),show (5 + (S.length : Int) - 5).toNat=S.length by omega,qQ]
theorem a25 {S S' : List Int} {a b : Int} (h : cE S a b=some S') : S'.length=S.length:=by
 unfold cE at h
 split at h
 ·cases h; rfl
 split at h
 ·cases h; exact List.length_map ..
 split at h
 ·cases h; exact List.length_map ..
 ·cases h
theorem iU {S S' : List Int} (hS : Q3 S) {a b : Int} (ha : aC S a) (hb : aC S b) (h : cE S a b=some S') : Q3 S':=by
 unfold cE at h
 split at h
 ·cases h; exact hS
 rename_i hne
 split at h
 ·rename_i h5
  cases h; exact oR hS (gH hS hb) (rK hS hb) hne
 split at h
 ·rename_i h5
  cases h; exact oR hS (gH hS ha) (rK hS ha) (fun e => hne e.symm)
 ·cases h
structure Sim (n : Nat) (kn : List (Option Int)) (ro : Nat→Nat) (S φ : List Int) : Prop where
 len : kn.length=n∧φ.length=n
 ro_lt : ∀ x,x<n→ro x<n
 val : ∀ x (h : x<φ.length),aC S φ[x]
 known : ∀ x (h : x<φ.length) c,kn[ro x]?=some (some c)→j3 S φ[x]=c∧0≤c∧c<5
 free : ∀ x (h : x<φ.length),kn[ro x]?=some none→5≤j3 S φ[x]
 same : ∀ x y (hx : x<φ.length) (hy : y<φ.length),kn[ro x]?=some none→kn[ro y]?=some none→(ro x=ro y↔j3 S φ[x]=j3 S φ[y])
theorem Sim.look {n : Nat} {kn : List (Option Int)} {ro : Nat→Nat} {S φ : List Int} (s : Sim n kn ro S φ) {x : Nat} (h : x<n) : kn[ro x]?=some none∨∃ c,kn[ro x]?=some (some c):=by
 have hl : ro x<kn.length:=by rw [s.len.1]; exact s.ro_lt x h
 rw [List.getElem?_eq_getElem hl]
 cases kn[ro x] with
 | none => exact .inl rfl
 | some c => exact .inr ⟨c,rfl⟩
theorem Sim.link {n : Nat} {kn : List (Option Int)} {ro : Nat→Nat} {S S' φ : List Int} (s : Sim n kn ro S φ) {c p : Nat} (hp : p<n)
 (hS : S'.length=S.length) (hcp : ∀ k,kn[p]?=some (some k)→∀ x (h : x<φ.length),ro x=c→j3 S' φ[x]=k∧0≤k∧k<5)
 (hk : ∀ x (h : x<φ.length),ro x≠c→j3 S' φ[x]=j3 S φ[x])
 (hf : kn[p]?=some none→∃ r,5≤r∧(∀ x (h : x<φ.length),ro x=c→j3 S' φ[x]=r)∧∀ x (h : x<φ.length),ro x=p→j3 S φ[x]=r) (hpx : ∃ x,∃ (_ : x<φ.length),ro x=p) :
 Sim n kn (fun z => if ro z=c then p else ro z) S' φ:=by
 refine ⟨s.len,fun x hx => ?_,fun x hx => ?_,fun x hx k hh => ?_,fun x hx hh => ?_,fun x y hx hy h1 h2 => ?_⟩
 ·split
  ·exact hp
  ·exact s.ro_lt x hx
 ·have:=s.val x hx; unfold aC at this ⊢; rw [hS]; exact this
 ·split at hh
  ·rename_i e; exact hcp k hh x hx e
  ·rename_i e; rw [hk x hx e]; exact s.known x hx k hh
 ·split at hh
  ·rename_i e
   obtain ⟨r,h5,hr,-⟩:=hf hh
   rw [hr x hx e]; exact h5
  ·rename_i e; rw [hk x hx e]; exact s.free x hx hh
 ·by_cases ex : ro x=c
  ·rw [if_pos ex] at h1 ⊢
   obtain ⟨r,h5,hr,hrp⟩:=hf h1
   rw [hr x hx ex]
   by_cases ey : ro y=c
   ·rw [if_pos ey,hr y hy ey]; exact ⟨fun _ => rfl,fun _ => rfl⟩
   ·rw [if_neg ey] at h2 ⊢
    rw [hk y hy ey]
    obtain ⟨z,hz,ez⟩:=hpx
    have:=s.same z y hz hy (by rw [ez]; exact h1) h2
    rw [ez,hrp z hz ez] at this
    exact this
  ·rw [if_neg ex] at h1 ⊢
   rw [hk x hx ex]
   by_cases ey : ro y=c
   ·rw [if_pos ey] at h2 ⊢
    obtain ⟨r,h5,hr,hrp⟩:=hf h2
    rw [hr y hy ey]
    obtain ⟨z,hz,ez⟩:=hpx
    have:=s.same x z hx hz h1 (by rw [ez]; exact h2)
    rw [ez,hrp z hz ez] at this
    exact this
   ·rw [if_neg ey] at h2 ⊢
    rw [hk y hy ey]
    exact s.same x y hx hy h1 h2
theorem Sim.res {n : Nat} {kn : List (Option Int)} {ro : Nat→Nat} {S φ : List Int} (s : Sim n kn ro S φ) {x y : Nat} (hx : x<φ.length) (hy : y<φ.length) (h : ro x=ro y) : j3 S φ[x]=j3 S φ[y]:=by
 rcases s.look (x:=x) (by have:=s.len.2; omega) with e | ⟨c,e⟩
 ·exact (s.same x y hx hy e (h ▸ e)).1 h
 ·rw [(s.known x hx c e).1,(s.known y hy c (h ▸ e)).1]
theorem Sim.one {n : Nat} {kn : List (Option Int)} {ro : Nat→Nat} {S φ : List Int} (s : Sim n kn ro S φ) {x y : Nat} (hx : x<φ.length) (hy : y<φ.length) (h : ro x=ro y) : cE S φ[x] φ[y]=some S:=if_pos (s.res hx hy h)
theorem Sim.two {n : Nat} {kn : List (Option Int)} {ro : Nat→Nat} {S φ : List Int} (s : Sim n kn ro S φ) {x y : Nat} (hx : x<φ.length) (hy : y<φ.length) (h : ro x≠ro y) (e : kn[ro x]?=some none) :
 ∃ S',cE S φ[x] φ[y]=some S'∧Sim n kn (fun z => if ro z=ro x then ro y else ro z) S' φ:=by
 have h5:=s.free x hx e
 have hne : j3 S φ[x]≠j3 S φ[y]:=fun g => by
  rcases s.look (x:=y) (by have:=s.len.2; omega) with e2 | ⟨c,e2⟩
  ·exact h ((s.same x y hx hy e e2).2 g)
  ·have:=s.known y hy c e2; omega
 refine ⟨lK S (j3 S φ[x]) (j3 S φ[y]),by unfold cE; rw [if_neg hne,if_pos h5],?_⟩
 have hput : ∀ z (hz : z<φ.length),j3 (lK S (j3 S φ[x]) (j3 S φ[y])) φ[z]=if j3 S φ[z]=j3 S φ[x] then j3 S φ[y] else j3 S φ[z]:=fun z hz => tI h5 (s.val z hz)
 have hcls : ∀ z (hz : z<φ.length),ro z≠ro x→j3 S φ[z]≠j3 S φ[x]:=fun z hz hr g => by
  rcases s.look (x:=z) (by have:=s.len.2; omega) with e2 | ⟨c,e2⟩
  ·exact hr ((s.same z x hz hx e2 e).2 g)
  ·have:=s.known z hz c e2; omega
 refine s.link (s.ro_lt y (by have:=s.len.2; omega)) (kR ..) (fun k hk z hz hr => ?_) (fun z hz hr => ?_) (fun hf => ?_) ⟨y,hy,rfl⟩
 ·rw [hput z hz,if_pos (s.res hz hx hr)]; exact s.known y hy k hk
 ·rw [hput z hz,if_neg (hcls z hz hr)]
 ·exact ⟨j3 S φ[y],s.free y hy hf,fun z hz hr => by rw [hput z hz,if_pos (s.res hz hx hr)],fun z hz hr => s.res hz hy hr⟩
theorem Sim.three {n : Nat} {kn : List (Option Int)} {ro : Nat→Nat} {S φ : List Int} (s : Sim n kn ro S φ) {x y : Nat} (hx : x<φ.length) (hy : y<φ.length) {c : Int} (e : kn[ro x]?=some (some c)) (e2 : kn[ro y]?=some none) :
 ∃ S',cE S φ[x] φ[y]=some S'∧Sim n kn (fun z => if ro z=ro y then ro x else ro z) S' φ:=by
 have h5:=s.free y hy e2
 obtain ⟨k1,k2,k3⟩:=s.known x hx c e
 refine ⟨lK S (j3 S φ[y]) (j3 S φ[x]),by unfold cE; rw [if_neg (by omega),if_neg (by omega),if_pos h5],?_⟩
 have hput : ∀ z (hz : z<φ.length),j3 (lK S (j3 S φ[y]) (j3 S φ[x])) φ[z]=if j3 S φ[z]=j3 S φ[y] then j3 S φ[x] else j3 S φ[z]:=fun z hz => tI h5 (s.val z hz)
 have hcls : ∀ z (hz : z<φ.length),ro z≠ro y→j3 S φ[z]≠j3 S φ[y]:=fun z hz hr g => by
  rcases s.look (x:=z) (by have:=s.len.2; omega) with e3 | ⟨d,e3⟩
  ·exact hr ((s.same z y hz hy e3 e2).2 g)
  ·have:=s.known z hz d e3; omega
 refine s.link (s.ro_lt x (by have:=s.len.2; omega)) (kR ..) (fun k hk z hz hr => ?_) (fun z hz hr => ?_) (fun hf => ?_) ⟨x,hx,rfl⟩
 ·rw [hput z hz,if_pos (s.res hz hy hr)]; exact s.known x hx k hk
 ·rw [hput z hz,if_neg (hcls z hz hr)]
 ·rw [e] at hf; cases hf
theorem Sim.no {n : Nat} {kn : List (Option Int)} {ro : Nat→Nat} {S φ : List Int} (s : Sim n kn ro S φ) {x y : Nat} (hx : x<φ.length) (hy : y<φ.length) {c d : Int} (e : kn[ro x]?=some (some c)) (e2 : kn[ro y]?=some (some d)) (h : c≠d) : cE S φ[x] φ[y]=none:=by
 have k1:=s.known x hx c e
 have k2:=s.known y hy d e2
 unfold cE
 rw [if_neg (by omega),if_neg (by omega),if_neg (by omega)]
theorem Sim.like {n : Nat} {kn : List (Option Int)} {ro : Nat→Nat} {S φ : List Int} (s : Sim n kn ro S φ) {x y : Nat} (hx : x<φ.length) (hy : y<φ.length) {c : Int} (e : kn[ro x]?=some (some c)) (e2 : kn[ro y]?=some (some c)) :
 cE S φ[x] φ[y]=some S∧Sim n kn (fun z => if ro z=ro y then ro x else ro z) S φ:=by
 refine ⟨if_pos (by rw [(s.known x hx c e).1,(s.known y hy c e2).1]),?_⟩
 refine s.link (s.ro_lt x (by have:=s.len.2; omega)) rfl (fun k hk z hz hr => ?_) (fun _ _ _ => rfl) (fun hf => ?_) ⟨x,hx,rfl⟩
 ·rw [e] at hk
  cases hk
  exact s.known z hz c (by rw [hr]; exact e2)
 ·rw [e] at hf; cases hf
theorem Sim.addK {n : Nat} {kn : List (Option Int)} {ro : Nat→Nat} {S φ : List Int} (s : Sim n kn ro S φ) {c : Int} (h : 0≤c∧c<5) : Sim (n + 1) (kn ++ [some c]) (fun z => if z<n then ro z else z) S (φ ++ [c]):=by
 obtain ⟨l1,l2⟩:=s.len
 have hro : ∀ x,x<n→ro x<kn.length:=fun x hx => by have:=s.ro_lt x hx; omega
 have lk : ∀ x,x<n→(kn ++ [some c])[ro x]?=kn[ro x]?:=fun x hx => List.getElem?_append_left (hro x hx)
 have ln : (kn ++ [some c])[n]?=some (some c):=by rw [← l1]; simp
 have ph : ∀ x (h : x<(φ ++ [c]).length) (h' : x<n),(φ ++ [c])[x]=φ[x]'(by omega):=fun x h h' => List.getElem_append_left _
 have pn : ∀ (h : n<(φ ++ [c]).length),(φ ++ [c])[n]=c:=fun h => List.getElem_concat_length l2.symm _
 have hc5 : j3 S c=c:=if_pos h.2
 have cs : ∀ x,x<(φ ++ [c]).length→x<n∨x=n:=fun x hx => by rw [List.length_append,List.length_singleton] at hx; omega
 refine ⟨by simp [l1,l2],fun x hx => ?_,fun x hx => ?_,fun x hx k hh => ?_,fun x hx hh => ?_,fun x y hx hy h1 h2 => ?_⟩
 ·split
  ·rename_i g; have:=s.ro_lt x g; omega
  ·exact hx
 ·rcases cs x hx with g | rfl
  ·rw [ph x hx g]; exact s.val x (by omega)
  ·rw [pn]; exact ⟨h.1,by omega⟩
 ·rcases cs x hx with g | rfl
  ·rw [if_pos g,lk x g] at hh; rw [ph x hx g]; exact s.known x (by omega) k hh
  ·rw [if_neg (Nat.lt_irrefl _),ln] at hh
   cases hh
   rw [pn,hc5]; exact ⟨rfl,h⟩
 ·rcases cs x hx with g | rfl
  ·rw [if_pos g,lk x g] at hh; rw [ph x hx g]; exact s.free x (by omega) hh
  ·rw [if_neg (Nat.lt_irrefl _),ln] at hh; cases hh
 ·rcases cs x hx with g | rfl
  ·rcases cs y hy with g' | rfl
   ·rw [if_pos g,lk x g] at h1
    rw [if_pos g',lk y g'] at h2
    rw [if_pos g,if_pos g',ph x hx g,ph y hy g']
    exact s.same x y (by omega) (by omega) h1 h2
   ·rw [if_neg (Nat.lt_irrefl _),ln] at h2; cases h2
  ·rw [if_neg (Nat.lt_irrefl _),ln] at h1; cases h1
theorem Sim.addN {n : Nat} {kn : List (Option Int)} {ro : Nat→Nat} {S φ : List Int} (s : Sim n kn ro S φ) (hS : Q3 S) : Sim (n + 1) (kn ++ [none]) (fun z => if z<n then ro z else z) (frT S) (φ ++ [5 + (S.length : Int)]):=by
 obtain ⟨l1,l2⟩:=s.len
 have hro : ∀ x,x<n→ro x<kn.length:=fun x hx => by have:=s.ro_lt x hx; omega
 have lk : ∀ x,x<n→(kn ++ [none])[ro x]?=kn[ro x]?:=fun x hx => List.getElem?_append_left (hro x hx)
 have ln : (kn ++ [none])[n]?=some none:=by rw [← l1]; simp
 have ph : ∀ x (h : x<(φ ++ [5 + (S.length : Int)]).length) (h' : x<n),(φ ++ [5 + (S.length : Int)])[x]=φ[x]'(by omega):=fun x h h' => List.getElem_append_left _
 have pn : ∀ (h : n<(φ ++ [5 + (S.length : Int)]).length),(φ ++ [5 + (S.length : Int)])[n]=5 + (S.length : Int):=fun h => List.getElem_concat_length l2.symm _
 have cs : ∀ x,x<(φ ++ [5 + (S.length : Int)]).length→x<n∨x=n:=fun x hx => by rw [List.length_append,List.length_singleton] at hx; omega
 have old : ∀ x (h : x<(φ ++ [5 + (S.length : Int)]).length) (h' : x<n),j3 (frT S) (φ ++ [5 + (S.length : Int)])[x]=j3 S (φ[x]'(by omega)):=fun x h h' => by rw [ph x h h']; exact a4b (s.val x (by omega))
 have new : ∀ (h : n<(φ ++ [5 + (S.length : Int)]).length),j3 (frT S) (φ ++ [5 + (S.length : Int)])[n]=5 + (S.length : Int):=fun h => by rw [pn]; exact a2d S
 have less : ∀ x (h : x<φ.length),j3 S φ[x]≠5 + (S.length : Int):=fun x h e => by have:=(gH hS (s.val x h)).2; omega
 refine ⟨by simp [l1,l2],fun x hx => ?_,fun x hx => ?_,fun x hx k hh => ?_,fun x hx hh => ?_,fun x y hx hy h1 h2 => ?_⟩
 ·split
  ·rename_i g; have:=s.ro_lt x g; omega
  ·exact hx
 ·rcases cs x hx with g | rfl
  ·rw [ph x hx g]; have:=s.val x (by omega); unfold aC at this ⊢; rw [aM]; omega
  ·rw [pn]; unfold aC; rw [aM]; omega
 ·rcases cs x hx with g | rfl
  ·rw [if_pos g,lk x g] at hh; rw [old x hx g]; exact s.known x (by omega) k hh
  ·rw [if_neg (Nat.lt_irrefl _),ln] at hh; cases hh
 ·rcases cs x hx with g | rfl
  ·rw [if_pos g,lk x g] at hh; rw [old x hx g]; exact s.free x (by omega) hh
  ·rw [new]; omega
 ·rcases cs x hx with g | rfl
  ·rw [if_pos g,lk x g] at h1
   rw [if_pos g,old x hx g]
   rcases cs y hy with g' | rfl
   ·rw [if_pos g',lk y g'] at h2
    rw [if_pos g',old y hy g']
    exact s.same x y (by omega) (by omega) h1 h2
   ·rw [if_neg (Nat.lt_irrefl _),new]
    exact ⟨fun e => by have:=s.ro_lt x g; omega,fun e => absurd e (less x (by omega))⟩
  ·rw [if_neg (Nat.lt_irrefl _),new]
   rcases cs y hy with g' | rfl
   ·rw [if_pos g',lk y g'] at h2
    rw [if_pos g',old y hy g']
    exact ⟨fun e => by have:=s.ro_lt y g'; omega,fun e => absurd e.symm (less y (by omega))⟩
   ·rw [if_neg (Nat.lt_irrefl _),new]; exact ⟨fun _ => rfl,fun _ => rfl⟩
end Go.Proofs.YtppcfebnaieciaaGreatDoor
