/-
  Laws that the proof rests on.
-/
import Derived.Test.YteefedkmgnepmaaGreatDoorE06
import Derived.Test.YteefedkmgnepmaaGreatDoorE03
namespace Go.Proofs.YteefedkmgnepmaaGreatDoor
set_option maxRecDepth 100000
set_option maxHeartbeats 16000000
mutual
def F5 (b : Bool) : Nd→Nd
 | .mk k s n ks p => .mk k s n (y8 b ks) (if b=true then p else 0)
def y8 (b : Bool) : List Nd→List Nd
 | [] => []
 | k :: ks => F5 b k :: y8 b ks
end
def a7C (b : Bool) (t : Tk) : Tk:=⟨t.kind,t.text,t.n,if b=true then t.pos else 0⟩
theorem kN (b : Bool) : ∀ ks,y8 b ks=ks.map (F5 b)
 | [] => by rw [y8]; rfl
 | k :: ks => by rw [y8,kN b ks]; rfl
mutual
theorem a2D : ∀ t,F5 true t=t
 | .mk k s n ks p => by rw [F5,oU ks]; rfl
theorem oU : ∀ ks,y8 true ks=ks
 | [] => by rw [y8]
 | k :: ks => by rw [y8,a2D k,oU ks]
end
mutual
theorem lB (b : Bool) : ∀ t,d9 (F5 b t)=d9 t
 | .mk k s n ks p => by rw [F5,d9,d9,oK b ks]
theorem oK (b : Bool) : ∀ ks,j7 (y8 b ks)=j7 ks
 | [] => by rw [y8]
 | k :: ks => by rw [y8,j7,j7,lB b k,oK b ks]
end
mutual
theorem jN : ∀ (t u : Nd),fW t u=true↔F5 false t=F5 false u
 | .mk k s n ks p,u => by
   rw [a5C]
   cases u with
   | mk k' s' n' ks' p' =>
   rw [F5,F5]
   simp only [Nd.kind,Nd.text,Nd.n,Nd.kids,Bool.and_eq_true,beq_iff_eq,Nd.mk.injEq,and_true,Bool.false_eq_true,if_false]
   rw [rR ks ks',Lib.toList_data,Lib.toList_data]
   constructor
   ·rintro ⟨⟨⟨h1,h2⟩,h3⟩,h4⟩; exact ⟨h1,yA h2,h3,h4⟩
   ·rintro ⟨h1,h2,h3,h4⟩; exact ⟨⟨⟨h1,by rw [h2]⟩,h3⟩,h4⟩
theorem rR : ∀ (l r : List Nd),Y3 l r=true↔y8 false l=y8 false r
 | [],r => by
   rw [Y3,y8]
   cases r with
   | nil => rw [y8]; simp
   | cons a r => rw [y8]; simp
 | a :: l,[] => by rw [Y3,y8,y8]; simp
 | a :: l,c :: r => by rw [Y3,y8,y8,Bool.and_eq_true,jN a c,rR l r,List.cons.injEq]
end
section
variable {b : Bool} {d : Nat} {x x' : List Tk}
end
theorem zH (c : UInt8) : dgC c=Cal.isDig c:=by
 have:=R8 (p:=fun c => dgC c == Cal.isDig c) (by decide +kernel) c
 exact eq_of_beq this
theorem dQ (c : UInt8) : dgC c=dgI c.toNat:=by
 have:=R8 (p:=fun c => dgC c == dgI c.toNat) (by decide +kernel) c
 exact eq_of_beq this
theorem a14 (l : List UInt8) : l.all dgC=l.all Cal.isDig:=by rw [show dgC=Cal.isDig from funext zH]
theorem vB {d : List UInt8} {k : Nat} (hk : k≤d.length) (h : ∀ j (hj : j<d.length),j<k→dgC d[j]=true) (h' : ∀ (hk : k<d.length),dgC d[k]=false) : bY d=k:=I4 dgC d k hk h h'
theorem oV {α : Type} (p : α→Bool) (l : List α) : l.takeWhile p=l.take (l.takeWhile p).length:=(List.prefix_iff_eq_take.1 (List.takeWhile_prefix p))
theorem a6D {d : List UInt8} {k : Nat} (h : bY d=k) : aU d=if 1≤k∧k≤10∧(k=1∨d.headD 0≠48)∧eA (d.drop k)=true then some (Cal.val (d.take k ++ d.drop (k + 1) ++ List.replicate (6 - (d.drop (k + 1)).length) 48)) else none:=by
 unfold bY at h
 unfold aU
 simp only
 rw [h,List.tail_drop,oV,h]
def aF (d : List UInt8) (k : Nat) : List UInt8:=d.drop (k + 1) ++ List.replicate (6 - (d.drop (k + 1)).length) 48
theorem vU {d : List UInt8} {k : Nat} (h : d.length - (k + 1)≤6) : (aF d k).length=6:=by
 unfold aF
 rw [List.length_append,List.length_replicate,List.length_drop]; omega
theorem a1H {d : List UInt8} {k i : Nat} (h : k + 1 + i<d.length) (hi : i<(aF d k).length) : (aF d k)[i]=d[k + 1 + i]:=by
 unfold aF at hi ⊢
 rw [List.getElem_append_left (by rw [List.length_drop]; omega),List.getElem_drop]
theorem a52 {d : List UInt8} {k i : Nat} (h : ¬ k + 1 + i<d.length) (hi : i<(aF d k).length) : (aF d k)[i]=48:=by
 unfold aF at hi ⊢
 rw [List.getElem_append_right (by rw [List.length_drop]; omega),List.getElem_replicate]
theorem wY {l q : List UInt8} {i : Nat} (hi : i<q.length) : Cal.val (l ++ q.take (i + 1))=10 * Cal.val (l ++ q.take i) + ((q[i].toNat : Int) - 48):=by
 rw [List.take_succ_eq_append_getElem hi,← List.append_assoc,Cal.val_snoc]
theorem sY {d : List UInt8} {i : Nat} (hi : i<d.length) : Cal.val (d.take (i + 1))=10 * Cal.val (d.take i) + ((d[i].toNat : Int) - 48):=by
 rw [List.take_succ_eq_append_getElem hi,Cal.val_snoc]
theorem jE {l : List UInt8} {n : Nat} (h : l.all dgC=true) (hn : l.length≤n) : 0≤Cal.val l∧Cal.val l<10 ^ n:=by
 have:=Cal.val_bd (l:=l) (by rw [← a14]; exact h)
 exact ⟨this.1,Int.lt_of_lt_of_le this.2 (by exact_mod_cast Nat.pow_le_pow_right (by decide) hn)⟩
theorem eV {c : UInt8} (h : dgC c=true) : 48≤(c.toNat : Int)∧(c.toNat : Int)≤57:=by
 unfold dgC at h
 simp only [Bool.and_eq_true,decide_eq_true_eq] at h
 omega
def rE (l : List UInt8) : Int:=(jO l).getD 0
def rG (l : List UInt8) : Bool:=(jO l).isSome
theorem jS {d : List UInt8} (h : d.headD 0≠45) : jO d=match aU d with | some n => if 1000000000000000<n then none else some n | none => none:=if_neg h
theorem Z8 {d : List UInt8} (h : d.headD 0≠45) (hu : aU d=none) : rE d=0∧rG d=false:=by
 unfold rE rG
 rw [jS h,hu]
 exact ⟨rfl,rfl⟩
theorem tR {d : List UInt8} {n : Int} (h : d.headD 0≠45) (hu : aU d=some n) (hn : ¬ 1000000000000000<n) : rE d=n∧rG d=true:=by
 unfold rE rG
 rw [jS h,hu]
 simp only [if_neg hn]
 exact ⟨rfl,rfl⟩
theorem zM {d : List UInt8} {n : Int} (h : d.headD 0≠45) (hu : aU d=some n) (hn : 1000000000000000<n) : rE d=0∧rG d=false:=by
 unfold rE rG
 rw [jS h,hu]
 simp only [if_pos hn]
 exact ⟨rfl,rfl⟩
theorem wU {l : List UInt8} (h : l.headD 0≠0) : 0<l.length:=by
 cases l with
 | nil => exact absurd rfl h
 | cons a l => simp
theorem vH {l : List UInt8} {n : Nat} (h : (l.drop n).headD 0≠0) : n<l.length:=by
 have:=wU h
 rw [List.length_drop] at this; omega
theorem cK {α : Type} (p : α→Bool) (l : List α) : (l.takeWhile p).length≤l.length:=(List.takeWhile_sublist (l:=l) p).length_le
theorem a0x {l : List UInt8} {pos : Int} {t : Tk} {n : Nat} (h : bH l pos=.ok (t,n)) (h1 : 1≤x7 l) : 1≤n∧n≤l.length:=by
 have hs:=jW l
 unfold bH at h
 simp only at h
 split at h
 ·rename_i hd
  have hd':=vH (l:=l) (n:=x7 l) (by rw [hd]; decide)
  have hs2:=jW (l.drop (x7 l + 1))
  rw [List.length_drop] at hs2
  split at h
  ·cases h
  ·simp only [Except.ok.injEq,Prod.mk.injEq] at h
   omega
 ·split at h
  ·cases h
  ·simp only [Except.ok.injEq,Prod.mk.injEq] at h
   omega
theorem a4G {c : UInt8} {r : List UInt8} (h : dgC c=true) : 1≤bY (c :: r):=by
 unfold bY
 rw [List.takeWhile_cons,if_pos h]; simp
theorem a4X {l : List UInt8} (h : 1≤bY l) : 1≤dH l∧dH l≤l.length:=by
 have h1 : bY l≤l.length:=cK dgC l
 unfold dH
 split
 ·rename_i hd
  have hd':=vH (l:=l) (n:=bY l) (by rw [hd.1]; decide)
  have h2 : bY (l.drop (bY l + 1))≤(l.drop (bY l + 1)).length:=cK dgC _
  rw [List.length_drop] at h2
  omega
 ·omega
theorem a5t {l : List UInt8} {pos : Int} {t : Tk} {n : Nat} (h : aA l pos=.ok (t,n)) (h1 : 1≤bY l) : 1≤n∧n≤l.length:=by
 unfold aA at h
 split at h
 ·rename_i hd
  unfold U3 at hd
  rw [Bool.and_eq_true,decide_eq_true_eq] at hd
  split at h
  ·cases h
  ·split at h
   ·simp only [Except.ok.injEq,Prod.mk.injEq] at h; omega
   ·cases h
 ·have:=a4X h1
  split at h
  ·cases h
  ·split at h
   ·simp only [Except.ok.injEq,Prod.mk.injEq] at h; omega
   ·cases h
theorem a3d {r : List UInt8} {pos : Int} {t : Tk} {n : Nat} (h : dO r pos=.ok (t,n)) : 1≤n∧n≤r.length + 1:=by
 unfold dO at h
 split at h
 ·cases h
 ·rename_i hd
  have:=vH (l:=r) (n:=mT r) (by rw [Decidable.not_not.1 hd]; decide)
  split at h
  ·simp only [Except.ok.injEq,Prod.mk.injEq] at h; omega
  ·cases h
theorem a1Y {c : UInt8} {r : List UInt8} {pos : Int} {t : Tk} {n : Nat} (h : X6 c r pos=.ok (t,n)) : 1≤n∧n≤r.length + 1:=by
 unfold X6 at h
 split at h
 ·rename_i hs
  exact a0x h (by show 1≤(if smC c=true then 1 + (r.takeWhile inC).length else 0); rw [if_pos hs]; omega)
 split at h
 ·rename_i hd
  exact a5t h (a4G hd)
 split at h
 ·exact a3d h
 split at h
 ·unfold a3p at h
  split at h
  ·rename_i h3
   have : a3D (c :: r)≤(c :: r).length:=cK grC _
   simp only [Except.ok.injEq,Prod.mk.injEq] at h
   rw [List.length_cons] at this
   omega
  ·cases h
 ·unfold iJ at h
  split at h
  ·rename_i h2
   have:=wU (l:=r) (by rw [h2.2]; decide)
   simp only [Except.ok.injEq,Prod.mk.injEq] at h; omega
  ·split at h
   ·simp only [Except.ok.injEq,Prod.mk.injEq] at h; omega
   ·cases h
theorem kZ : ∀ (l : List UInt8) (pos : Int) (k n : Nat),n≤l.length→q7 l pos k n=q7 (l.drop n) (pos + n) k 0
 | l,pos,k,0,_ => by rw [List.drop_zero]; congr 1; omega
 | [],_,_,n + 1,h => by simp at h
 | c :: r,pos,k,n + 1,h => by
   rw [q7,kZ r (pos + 1) k n (by simpa using h),List.drop_succ_cons]
   congr 1; omega
def ahead (ts : List Tk) (x : Except (Int × Int) (List Tk)) : Except (Int × Int) (List Tk):=match x with
 | .error e => .error e
 | .ok r => .ok (ts ++ r)
theorem a27 (x : Except (Int × Int) (List Tk)) : ahead [] x=x:=by cases x <;> rfl
theorem a3q (a b : List Tk) (x : Except (Int × Int) (List Tk)) : ahead a (ahead b x)=ahead (a ++ b) x:=by
 cases x with
 | error e => rfl
 | ok r => simp [ahead]
theorem jF {c : UInt8} {r : List UInt8} {pos : Int} {k : Nat} (h : c.toNat≤32) : q7 (c :: r) pos k 0=q7 r (pos + 1) k 0:=by
 rw [q7,if_pos h]
theorem a48 {c : UInt8} {r : List UInt8} {pos : Int} {k : Nat} (h : c=35) : q7 (c :: r) pos k 0=q7 (r.drop (xV r)) (pos + 1 + xV r) k 0:=by
 rw [q7,if_neg (by rw [h]; decide),if_pos h]
 exact kZ _ _ _ _ (cK _ r)
theorem xC {c : UInt8} {r : List UInt8} {pos : Int} {k : Nat} {e : Int} (h : ¬ c.toNat≤32) (h' : c≠35) (ht : X6 c r pos=.error e) : q7 (c :: r) pos k 0=.error (e,pos):=by
 rw [q7,if_neg h,if_neg h',ht]
theorem tB {c : UInt8} {r : List UInt8} {pos : Int} {k : Nat} {t : Tk} {n : Nat} (h : ¬ c.toNat≤32) (h' : c≠35) (ht : X6 c r pos=.ok (t,n)) (hk : k=8192) : q7 (c :: r) pos k 0=.error (76,pos):=by
 rw [q7,if_neg h,if_neg h',ht]
 simp only
 rw [if_pos hk]
theorem nU {c : UInt8} {r : List UInt8} {pos : Int} {k : Nat} {t : Tk} {n : Nat} (h : ¬ c.toNat≤32) (h' : c≠35) (ht : X6 c r pos=.ok (t,n)) (hk : k≠8192) : q7 (c :: r) pos k 0=ahead [t] (q7 ((c :: r).drop n) (pos + n) (k + 1) 0):=by
 have hl:=a1Y ht
 obtain ⟨m,rfl⟩ : ∃ m,n=m + 1:=⟨n - 1,by omega⟩
 rw [q7,if_neg h,if_neg h',ht]
 simp only
 rw [if_neg hk,Nat.add_sub_cancel,kZ r _ _ m (by omega),List.drop_succ_cons,show pos + 1 + (m : Int)=pos + ((m + 1 : Nat) : Int) by omega]
 cases q7 (r.drop m) (pos + ((m + 1 : Nat) : Int)) (k + 1) 0 <;> rfl
def tW (w : List UInt8) : Tk:=⟨2,w,0,0⟩
def tS (w : List UInt8) : Tk:=⟨8,w,0,0⟩
def a3j (s : List UInt8) : Tk:=if s=[111,114]∨s=[97,110,100] then tW s else tS s
def dE (s : List UInt8) : Tk:=⟨if (Lib.cut s [46]).2.2=true then 3 else 1,s,0,0⟩
def fP : List (List Tk)→List Tk
 | [] => []
 | f :: r => tS q6 :: (f ++ fP r)
def a1I : List (List Tk)→List Tk
 | [] => [tS y7]
 | f :: r => f ++ (fP r ++ [tS y7])
def wL (l : List (List Tk)) : List Tk:=tS x6 :: a1I l
def bT (kind : Int) (f : List Tk) : List Tk:=if J0 kind=true then tS x6 :: (f ++ [tS y7]) else f
def vM (kind n : Int) (s : List UInt8) (l : List (Int × List Tk)) : List Tk :=
 if kind=5 then [⟨6,[],n,0⟩]
 else if kind=6 then [⟨5,[],n,0⟩]
 else if kind=7 then [⟨4,s,0,0⟩]
 else if kind=8 then [tW (if n=1 then fU else bX)]
 else if kind=9 then [tW fT,⟨7,s,0,0⟩]
 else if kind=10 then [dE s]
 else if kind=11 then dE s :: wL (l.map (·.2))
 else if kind=15 then tW eF :: ⟨7,s,0,0⟩ :: wL (l.map (·.2))
 else if kind=12 then match l with
  | [a] => (if s=[45] then tS eD else tW iR) :: bT a.1 a.2
  | _ => []
 else if kind=13 then match l with
  | [a,b] => bT a.1 a.2 ++ a3j s :: bT b.1 b.2
  | _ => []
 else match l with
  | [a,b,c] => tW tIf :: (a.2 ++ tW qE :: (b.2 ++ tW oQ :: c.2))
  | _ => []
mutual
def n9 : Nd→List Tk
 | .mk kind s n ks _ => vM kind n s.data.toList (fA ks)
def fA : List Nd→List (Int × List Tk)
 | [] => []
 | k :: ks => (k.kind,n9 k) :: fA ks
end
theorem uG (t : Nd) : n9 t=vM t.kind t.n t.text.data.toList (fA t.kids):=by cases t; rw [n9]; rfl
theorem dC : ∀ ks,fA ks=ks.map fun k => (k.kind,n9 k)
 | [] => by rw [fA]; rfl
 | k :: ks => by rw [fA,dC ks]; rfl
theorem fL (ks : List Nd) : (fA ks).map (·.2)=ks.map n9:=by rw [dC,List.map_map]; rfl
mutual
theorem dL : ∀ (t : Nd) (d : Int),d5 t d=true→d + d9 t≤101
 | .mk k s n ks p,d,h => by
   rw [d5] at h
   simp only [Bool.and_eq_true,decide_eq_true_eq] at h
   have:=jT ks (d + 1) h.2 (by omega)
   rw [d9]
   omega
theorem jT : ∀ (ks : List Nd) (d : Int),m7 ks d=true→d≤101→d + j7 ks≤101
 | [],d,_,hd => by rw [j7]; omega
 | k :: ks,d,h,hd => by
   rw [m7,Bool.and_eq_true] at h
   have h1:=dL k d h.1
   have h2:=jT ks d h.2 hd
   rw [j7]
   omega
end
theorem E0 : ∀ (ks : List Nd) (k : Nd),k∈ks→d9 k≤j7 ks
 | a :: r,k,h => by
   rw [j7]
   rcases List.mem_cons.1 h with rfl | h
   ·omega
   ·have:=E0 r k h; omega
 | [],_,h => by cases h
theorem pT (t : Nd) : d9 t=j7 t.kids + 1:=by cases t; rw [d9]; rfl
def Sp (T l x : List Tk) : Prop:=∃ t,l=t ++ x∧t.map (a7C false)=T
theorem Sp.nil {l x : List Tk} (h : Sp [] l x) : l=x:=by
 obtain ⟨t,rfl,h⟩:=h
 rw [List.map_eq_nil_iff] at h
 rw [h]; rfl
theorem Sp.head {a : Tk} {T l x : List Tk} (h : Sp (a :: T) l x) : (hd l).kind=a.kind∧(hd l).text=a.text∧(hd l).n=a.n∧(a.kind≠0→Sp T (b8 l) x):=by
 obtain ⟨t,rfl,h⟩:=h
 cases t with
 | nil => cases h
 | cons c t =>
   rw [List.map_cons,List.cons.injEq] at h
   obtain ⟨rfl,h⟩:=h
   refine ⟨rfl,rfl,rfl,fun k => ⟨t,?_,h⟩⟩
   show (if c.kind=0 then _ else _)=_
   rw [if_neg (show ¬ c.kind=0 from k)]; rfl
theorem Sp.app {T U l x : List Tk} (h : Sp (T ++ U) l x) : ∃ y,Sp T l y∧Sp U y x:=by
 obtain ⟨t,rfl,h⟩:=h
 obtain ⟨a,c,rfl,ha,hc⟩:=List.map_eq_append_iff.1 h
 exact ⟨c ++ x,⟨a,by rw [List.append_assoc],ha⟩,⟨c,rfl,hc⟩⟩
theorem Sp.word {w : List UInt8} {T l x : List Tk} (h : Sp (tW w :: T) l x) (v : List UInt8) : isT v l=(w == v):=by
 obtain ⟨h1,h2,-⟩:=h.head
 unfold isT
 rw [h1,h2]; rfl
theorem Sp.sign {w : List UInt8} {T l x : List Tk} (h : Sp (tS w :: T) l x) (v : List UInt8) : isT v l=(w == v):=by
 obtain ⟨h1,h2,-⟩:=h.head
 unfold isT
 rw [h1,h2]; rfl
theorem Sp.none {a : Tk} {T l x : List Tk} (h : Sp (a :: T) l x) (h2 : a.kind≠2) (h8 : a.kind≠8) (v : List UInt8) : isT v l=false:=by
 obtain ⟨h1,-⟩:=h.head
 unfold isT
 rw [h1,beq_eq_false_iff_ne.2 h2,beq_eq_false_iff_ne.2 h8]; rfl
theorem Sp.wordStep {w : List UInt8} {T l x : List Tk} (h : Sp (tW w :: T) l x) : Sp T (b8 l) x:=h.head.2.2.2 (show (2 : Int)≠0 by decide)
theorem Sp.signStep {w : List UInt8} {T l x : List Tk} (h : Sp (tS w :: T) l x) : Sp T (b8 l) x:=h.head.2.2.2 (show (8 : Int)≠0 by decide)
theorem a1O {k : Int} {l : List Tk} {f : Tk→List Tk→Rd} (h : (hd l).kind=k) : V9 k l f=f (hd l) (b8 l):=if_pos h
theorem cS {w : List UInt8} {T l x : List Tk} {f : List Tk→Rd} (h : Sp (tS w :: T) l x) : o8 w l f=f (b8 l):=by
 unfold o8
 rw [if_pos (by rw [h.sign]; exact beq_self_eq_true w)]
theorem rZ {w : List UInt8} {T l x : List Tk} {f : List Tk→Rd} (h : Sp (tW w :: T) l x) : o8 w l f=f (b8 l):=by
 unfold o8
 rw [if_pos (by rw [h.word]; exact beq_self_eq_true w)]
theorem y6 (t : Nd) (r : List Tk) (f : Nd→List Tk→Rd) : Rd.then (.ok (t,r)) f=f t r:=rfl
theorem fM {t : Nd} {r : List Tk} (h : d9 t≤100) : made t r=.ok (t,r):=if_neg (by omega)
def m6 (m : Md) (nest : Nat) (l x : List Tk) (u : Nd) : Prop:=∃ t,rd m nest l=.ok (t,x)∧F5 false t=F5 false u
theorem Y2 {t u : Nd} (h : F5 false t=F5 false u) : d9 t=d9 u:=by rw [← lB false t,h,lB]
section
variable {nest : Nat} {l x : List Tk} {u : Nd}
theorem m6.unary (h : m6 .atom nest l x u) (hl : isT eD l=false) : m6 .unary nest l x u:=by
 obtain ⟨t,ht,hs⟩:=h
 exact ⟨t,by rw [A9]; show (if _ then _ else _)=_; rw [hl,if_neg (by decide)]; exact ht,hs⟩
theorem m6.chain {lv : Nat} (h : m6 (X4 lv) nest l x u) (hx : bF (D6 lv) x=false) : m6 (.chain lv) nest l x u:=by
 obtain ⟨t,ht,hs⟩:=h
 refine ⟨t,?_,hs⟩
 rw [A9]
 show (rd (X4 lv) nest l).then _=_
 rw [ht,y6,A9]
 show (if _ then _ else _)=_
 rw [hx,if_neg (by decide)]
theorem m6.not (h : m6 (.chain 2) nest l x u) (hl : isT iR l=false) (hx : bF zI x=false) : m6 .not nest l x u:=by
 obtain ⟨t,ht,hs⟩:=h
 refine ⟨t,?_,hs⟩
 rw [A9]
 show (if _ then _ else _)=_
 rw [hl,if_neg (by decide),ht,y6,hx,if_neg (by decide)]
theorem nH {n : Nat} (h : n + 1≤300) (l : List Tk) (r : Rd) : eG n l r=r:=if_neg (by omega)
theorem m6.expr (h : m6 (.chain 0) (nest + 1) l x u) (hl : isT tIf l=false) (hn : nest + 1≤300) : m6 .expr nest l x u:=by
 obtain ⟨t,ht,hs⟩:=h
 refine ⟨t,?_,hs⟩
 rw [A9]
 show eG nest l _=_
 rw [nH hn,hl,if_neg (by decide),ht]
end
def a5Z : List (List UInt8):=[[111,114],[97,110,100],[43],[45],[42],[47],[60],[60,61],[61],x6]
def fR (x : List Tk) : Prop:=∀ w∈a5Z,isT w x=false
theorem fR.any {x : List Tk} (h : fR x) {ws : List (List UInt8)} (hw : ∀ w∈ws,w∈a5Z) : bF ws x=false:=by
 unfold bF
 rw [List.any_eq_false]
 exact fun w h1 => by rw [h w (hw w h1)]; decide
theorem o6 (lv : Nat) : ∀ w∈D6 lv,w∈a5Z:=by
 unfold D6
 split
 ·decide
 split
 ·decide
 split <;> decide
theorem m6.climb {nest : Nat} {l x : List Tk} {u : Nd} (h : m6 .atom (nest + 1) l x u) (h1 : isT eD l=false) (h2 : isT iR l=false) (h3 : isT tIf l=false) (hx : fR x) (hn : nest + 1≤300) : m6 .expr nest l x u :=
 (m6.chain (lv:=0) (m6.chain (lv:=1) (m6.not (m6.chain (lv:=2) (m6.chain (lv:=3) (h.unary h1) (hx.any (o6 3))) (hx.any (o6 2))) h2 (hx.any (by decide))) (hx.any (o6 1))) (hx.any (o6 0))).expr h3 hn
def RE (u : Nd) : Prop:=∀ (nest : Nat) (l x : List Tk),Sp (n9 u) l x→fR x→nest + 2 * d9 u≤300→m6 .expr nest l x u
def RA (u : Nd) : Prop:=¬ J0 u.kind=true→∀ (nest : Nat) (l x : List Tk),Sp (n9 u) l x→isT x6 x=false→nest + 2 * d9 u≤301→m6 .atom nest l x u
theorem cQ {w : List UInt8} (h : w ∉ a5Z) {T l x : List Tk} (hl : Sp (tS w :: T) l x) : fR l:=fun v hv => by
 rw [hl.sign,beq_eq_false_iff_ne]
 rintro rfl; exact h hv
theorem pD {w : List UInt8} (h : w ∉ a5Z) {T l x : List Tk} (hl : Sp (tW w :: T) l x) : fR l:=fun v hv => by
 rw [hl.word,beq_eq_false_iff_ne]
 rintro rfl; exact h hv
theorem fG {u : Nd} (he : RE u) (ha : RA u) {nest : Nat} {l x : List Tk} (h : Sp (bT u.kind (n9 u)) l x) (hx : isT x6 x=false) (hn : nest + 2 * d9 u≤300) : m6 .atom nest l x u:=by
 unfold bT at h
 by_cases hw : J0 u.kind=true
 ·rw [if_pos hw] at h
  have hk:=h.head.1
  obtain ⟨y,h1,h2⟩:=h.signStep.app
  obtain ⟨t,ht,hs⟩:=he nest _ _ h1 (cQ (by decide) h2) hn
  refine ⟨t,?_,hs⟩
  have hkk : (hd l).kind=8:=hk
  rw [A9]
  show (if _ then _ else _)=_
  rw [if_neg (by rw [hkk]; decide),if_neg (by rw [hkk]; decide),if_neg (by rw [hkk]; decide),if_neg (by rw [hkk]; decide),if_neg (by rw [h.sign]; decide),if_neg (by rw [h.sign]; decide),if_neg (by rw [h.sign]; decide),if_neg (by rw [h.sign]; decide),if_pos (by rw [h.sign]; decide),ht,y6,cS h2,h2.signStep.nil]
 ·rw [if_neg hw] at h
  exact ha hw nest l x h hx (by omega)
theorem nL : ∀ (ks acc : List Nd),(∀ k∈ks,RE k)→ks≠[]→acc.length + ks.length≤8→∀ (nest : Nat) (l x : List Tk),Sp (a1I (ks.map n9)) l x→nest + 2 * j7 ks≤300 →
 ∃ ts,rd (.args acc) nest l=.ok (mkN 0 [] 0 (acc ++ ts) 0,x)∧ts.map (F5 false)=ks.map (F5 false)
 | [],_,_,h,_,_,_,_,_,_ => absurd rfl h
 | [k],acc,ih,_,hlen,nest,l,x,h,hn => by
   obtain ⟨y,h1,h2⟩:=Sp.app h
   have hd1:=E0 [k] k (List.mem_cons_self ..)
   obtain ⟨t,ht,hs⟩:=ih k (List.mem_cons_self ..) nest l y h1 (cQ (by decide) h2) (by omega)
   refine ⟨[t],?_,by rw [List.map_cons,List.map_cons,hs]⟩
   rw [A9]
   show (if _ then _ else _)=_
   rw [if_neg (by simp at hlen; omega),ht,y6,if_neg (by rw [Sp.sign h2]; decide),cS h2,Sp.nil (Sp.signStep h2)]
 | k :: k' :: r,acc,ih,_,hlen,nest,l,x,h,hn => by
   obtain ⟨y,h1,h2⟩:=Sp.app h
   have hd1:=E0 (k :: k' :: r) k (List.mem_cons_self ..)
   have hd2 : j7 (k' :: r)≤j7 (k :: k' :: r):=by rw [j7]; exact Nat.le_max_right _ _
   have h2' : Sp (tS q6 :: a1I ((k' :: r).map n9)) y x:=by
    have e : fP ((k' :: r).map n9) ++ [tS y7]=tS q6 :: a1I ((k' :: r).map n9):=by
     rw [List.map_cons,fP,List.cons_append,List.append_assoc]; rfl
    rw [← e]; exact h2
   obtain ⟨t,ht,hs⟩:=ih k (List.mem_cons_self ..) nest l y h1 (cQ (by decide) h2') (by omega)
   obtain ⟨ts,hts,hss⟩:=nL (k' :: r) (acc ++ [t]) (fun u hu => ih u (List.mem_cons_of_mem _ hu)) (by simp) (by simp at hlen ⊢; omega) nest (b8 y) x h2'.signStep (by omega)
   refine ⟨t :: ts,?_,by rw [List.map_cons,List.map_cons,hs,hss]⟩
   rw [A9]
   show (if _ then _ else _)=_
   rw [if_neg (by simp at hlen; omega),ht,y6,if_pos (by rw [h2'.sign]; decide),hts,List.append_assoc]; rfl
theorem O5 {u : Nd} {k n p : Int} {s : List UInt8} {ts : List Nd} (hk : u.kind=k) (hs : u.text.data.toList=s) (hn : u.n=n) (ht : ts.map (F5 false)=u.kids.map (F5 false)) : F5 false (mkN k s n ts p)=F5 false u:=by
 cases u with
 | mk k' s' n' ks' p' =>
 obtain rfl : k'=k:=hk
 obtain rfl : n'=n:=hn
 unfold mkN
 rw [F5,F5,kN,kN,ht]
 rw [show (⟨s.toArray⟩ : ByteArray)=s' from yA (by rw [← hs]; simp [Nd.text])]
 rfl
theorem a1e {u : Nd} {d : Int} (h : d5 u d=true) (hd0 : 1≤d) (ih : ∀ k∈u.kids,RE k) : RA u:=by
 intro hw nest l x hl hx hn
 obtain ⟨h1,h2,h3,h4⟩:=y9 h
 have ha:=a1p h1 hw
 have hdep:=dL u d h
 have hkd:=pT u
 rw [uG] at hl
 unfold vM at hl
 rcases nN ha with e | e | e | e | e | e | e | e
 ·rw [if_pos e] at hl
  obtain ⟨k1,k2,k3,k4⟩:=hl.head
  have hk0:=fH h (by omega)
  refine ⟨_,by rw [A9]; show (if _ then _ else _)=_; rw [if_pos (by rw [k1]),(k4 (by decide : (6 : Int)≠0)).nil],O5 e ?_ k3.symm (by rw [hk0])⟩
  unfold x9 at h2
  rw [e] at h2
  simpa using h2
 ·rw [if_neg (by omega),if_pos e] at hl
  obtain ⟨k1,k2,k3,k4⟩:=hl.head
  have hk0:=fH h (by omega)
  refine ⟨_,by rw [A9]; show (if _ then _ else _)=_; rw [if_neg (by rw [show (hd l).kind=5 from k1]; decide),if_pos (by rw [k1]),(k4 (by decide : (5 : Int)≠0)).nil],O5 e ?_ k3.symm (by rw [hk0])⟩
  unfold x9 at h2
  rw [e] at h2
  simpa using h2
 ·rw [if_neg (by omega),if_neg (by omega),if_pos e] at hl
  obtain ⟨k1,k2,k3,k4⟩:=hl.head
  have hk0:=fH h (by omega)
  exact ⟨_,by rw [A9]; show (if _ then _ else _)=_; rw [if_neg (by rw [show (hd l).kind=4 from k1]; decide),if_neg (by rw [show (hd l).kind=4 from k1]; decide),if_pos (by rw [k1]),(k4 (by decide : (4 : Int)≠0)).nil],O5 e k2.symm (cI h3 (by omega)) (by rw [hk0])⟩
 ·rw [if_neg (by omega),if_neg (by omega),if_neg (by omega),if_pos e] at hl
  have hk0:=fH h (by omega)
  have hk : (hd l).kind=2:=hl.head.1
  have ht : u.text.data.toList=[]:=by
   unfold x9 at h2
   rw [e] at h2
   simpa using h2
  have hnn : u.n=0∨u.n=1:=by
   unfold aZ at h3
   rw [e] at h3
   simpa using h3
  rcases hnn with hnn | hnn
  ·rw [hnn] at hl
   exact ⟨_,by rw [A9]; show (if _ then _ else _)=_; rw [if_neg (by rw [hk]; decide),if_neg (by rw [hk]; decide),if_neg (by rw [hk]; decide),if_neg (by rw [hk]; decide),if_neg (by rw [hl.word]; decide),if_pos (by rw [hl.word]; decide),hl.wordStep.nil],O5 e ht hnn (by rw [hk0])⟩
  ·rw [hnn] at hl
   exact ⟨_,by rw [A9]; show (if _ then _ else _)=_; rw [if_neg (by rw [hk]; decide),if_neg (by rw [hk]; decide),if_neg (by rw [hk]; decide),if_neg (by rw [hk]; decide),if_pos (by rw [hl.word]; decide),hl.wordStep.nil],O5 e ht hnn (by rw [hk0])⟩
 ·rw [if_neg (by omega),if_neg (by omega),if_neg (by omega),if_neg (by omega),if_pos e] at hl
  have hk0:=fH h (by omega)
  have hk : (hd l).kind=2:=hl.head.1
  have hl2:=hl.wordStep
  obtain ⟨k1,k2,k3,k4⟩:=hl2.head
  refine ⟨mkN 9 u.text.data.toList 0 [] (hd l).pos,?_,O5 e rfl (cI h3 (by omega)) (by rw [hk0])⟩
  rw [A9]; show (if _ then _ else _)=_
  rw [if_neg (by rw [hk]; decide),if_neg (by rw [hk]; decide),if_neg (by rw [hk]; decide),if_neg (by rw [hk]; decide),if_neg (by rw [hl.word]; decide),if_neg (by rw [hl.word]; decide),if_pos (by rw [hl.word]; decide)]
  rw [a1O k1,(k4 (by decide : (7 : Int)≠0)).nil]
  show Except.ok (mkN 9 (hd (b8 l)).text 0 [] (hd l).pos,x)=_
  rw [k2]
 ·rw [if_neg (by omega),if_neg (by omega),if_neg (by omega),if_neg (by omega),if_neg (by omega),if_pos e] at hl
  have hk0:=fH h (by omega)
  obtain ⟨k1,k2,k3,k4⟩:=hl.head
  have k5 : (hd l).kind=1∨(hd l).kind=3:=by rw [k1]; unfold dE; simp only; split <;> simp
  have hs:=(k4 (by rw [← k1]; omega)).nil
  refine ⟨mkN 10 (hd l).text 0 [] (hd l).pos,?_,O5 e k2.symm (cI h3 (by omega)) (by rw [hk0])⟩
  rw [A9]; show (if _ then _ else _)=_
  rw [if_neg (by omega),if_neg (by omega),if_neg (by omega),if_pos k5,if_neg (by rw [hs,hx]; decide),hs]
 ·rw [if_neg (by omega),if_neg (by omega),if_neg (by omega),if_neg (by omega),if_neg (by omega),if_neg (by omega),if_pos e,fL] at hl
  obtain ⟨k1,k2,k3,k4⟩:=hl.head
  have k5 : (hd l).kind=1∨(hd l).kind=3:=by rw [k1]; unfold dE; simp only; split <;> simp
  have hs:=k4 (by rw [← k1]; omega)
  have hlen : u.kids.length≤8:=by
   rw [e] at h1
   unfold o2 at h1
   have h1' : (decide (1≤u.kids.length) && decide (u.kids.length≤8))=true:=h1
   simp only [Bool.and_eq_true,decide_eq_true_eq] at h1'
   exact h1'.2
  obtain ⟨ts,hts,hss⟩:=nL u.kids [] ih (pF h (.inl e)) (by simpa using hlen) nest _ x hs.signStep (by omega)
  refine ⟨mkN 11 (hd l).text 0 ts (hd l).pos,?_,O5 e k2.symm (cI h3 (by omega)) hss⟩
  have hsm : F5 false (mkN 11 (hd l).text 0 ts (hd l).pos)=F5 false u:=O5 e k2.symm (cI h3 (by omega)) hss
  rw [A9]; show (if _ then _ else _)=_
  rw [if_neg (by omega),if_neg (by omega),if_neg (by omega),if_pos k5,if_pos (by rw [hs.sign]; decide),hts,y6]
  exact fM (by have:=Y2 hsm; show d9 (mkN 11 (hd l).text 0 ts (hd l).pos)≤100; omega)
 ·rw [if_neg (by omega),if_neg (by omega),if_neg (by omega),if_neg (by omega),if_neg (by omega),if_neg (by omega),if_neg (by omega),if_pos e,fL] at hl
  have hk : (hd l).kind=2:=hl.head.1
  have hl2:=hl.wordStep
  obtain ⟨k1,k2,k3,k4⟩:=hl2.head
  have hl3:=k4 (by decide : (7 : Int)≠0)
  have h3k : u.kids.length=3:=by
   rw [e] at h1
   unfold o2 at h1
   simpa using h1
  obtain ⟨a,b,c,hkk⟩:=a6q h3k
  rw [hkk] at hl3 ih hkd
  have d1:=E0 [a,b,c] a (by simp)
  have d2:=E0 [a,b,c] b (by simp)
  have d3:=E0 [a,b,c] c (by simp)
  have hl4:=hl3.signStep
  obtain ⟨y,g1,g2⟩:=Sp.app hl4
  have g2' : Sp (tS q6 :: (n9 b ++ tS q6 :: (n9 c ++ [tS y7]))) y x:=by
   have e' : fP ([b,c].map n9) ++ [tS y7]=tS q6 :: (n9 b ++ tS q6 :: (n9 c ++ [tS y7])):=by simp [fP]
   rw [← e']; exact g2
  obtain ⟨ta,ra,sa⟩:=ih a (by simp) nest _ _ g1 (cQ (by decide) g2') (by omega)
  obtain ⟨z,g3,g4⟩:=Sp.app g2'.signStep
  obtain ⟨tb,rb,sb⟩:=ih b (by simp) nest _ _ g3 (cQ (by decide) g4) (by omega)
  obtain ⟨v,g5,g6⟩:=Sp.app g4.signStep
  obtain ⟨tc,rc,sc⟩:=ih c (by simp) nest _ _ g5 (cQ (by decide) g6) (by omega)
  have hsm : F5 false (mkN 15 (hd (b8 l)).text 0 [ta,tb,tc] (hd l).pos)=F5 false u:=O5 e k2.symm (cI h3 (by omega)) (by rw [hkk,List.map_cons,List.map_cons,List.map_cons,sa,sb,sc]; rfl)
  refine ⟨mkN 15 (hd (b8 l)).text 0 [ta,tb,tc] (hd l).pos,?_,hsm⟩
  rw [A9]; show (if _ then _ else _)=_
  rw [if_neg (by rw [hk]; decide),if_neg (by rw [hk]; decide),if_neg (by rw [hk]; decide),if_neg (by rw [hk]; decide),if_neg (by rw [hl.word]; decide),if_neg (by rw [hl.word]; decide),if_neg (by rw [hl.word]; decide),if_pos (by rw [hl.word]; decide)]
  rw [a1O k1]
  show o8 x6 _ _=_
  rw [cS hl3,ra,y6,cS g2',rb,y6,cS g4,rc,y6,cS g6,g6.signStep.nil]
  exact fM (by have:=Y2 hsm; omega)
theorem eU {u : Nd} {d : Int} (h : d5 u d=true) {l x : List Tk} (hl : Sp (bT u.kind (n9 u)) l x) : isT eD l=false∧isT iR l=false∧isT tIf l=false:=by
 unfold bT at hl
 by_cases hw : J0 u.kind=true
 ·rw [if_pos hw] at hl
  rw [hl.sign,hl.sign,hl.sign]
  decide
 rw [if_neg hw,uG] at hl
 unfold vM at hl
 have hnm : ∀ s,(dE s).kind≠2∧(dE s).kind≠8:=fun s => by unfold dE; simp only; split <;> decide
 rcases nN (a1p (y9 h).1 hw) with e | e | e | e | e | e | e | e
 ·rw [if_pos e] at hl
  exact ⟨hl.none (show (6 : Int)≠2 by decide) (show (6 : Int)≠8 by decide) _,hl.none (show (6 : Int)≠2 by decide) (show (6 : Int)≠8 by decide) _,hl.none (show (6 : Int)≠2 by decide) (show (6 : Int)≠8 by decide) _⟩
 ·rw [if_neg (by omega),if_pos e] at hl
  exact ⟨hl.none (show (5 : Int)≠2 by decide) (show (5 : Int)≠8 by decide) _,hl.none (show (5 : Int)≠2 by decide) (show (5 : Int)≠8 by decide) _,hl.none (show (5 : Int)≠2 by decide) (show (5 : Int)≠8 by decide) _⟩
 ·rw [if_neg (by omega),if_neg (by omega),if_pos e] at hl
  exact ⟨hl.none (by show (4 : Int)≠2; decide) (by show (4 : Int)≠8; decide) _,hl.none (by show (4 : Int)≠2; decide) (by show (4 : Int)≠8; decide) _,hl.none (by show (4 : Int)≠2; decide) (by show (4 : Int)≠8; decide) _⟩
 ·rw [if_neg (by omega),if_neg (by omega),if_neg (by omega),if_pos e] at hl
  rw [hl.word,hl.word,hl.word]
  split <;> decide
 ·rw [if_neg (by omega),if_neg (by omega),if_neg (by omega),if_neg (by omega),if_pos e] at hl
  rw [hl.word,hl.word,hl.word]
  decide
 ·rw [if_neg (by omega),if_neg (by omega),if_neg (by omega),if_neg (by omega),if_neg (by omega),if_pos e] at hl
  exact ⟨hl.none (hnm _).1 (hnm _).2 _,hl.none (hnm _).1 (hnm _).2 _,hl.none (hnm _).1 (hnm _).2 _⟩
 ·rw [if_neg (by omega),if_neg (by omega),if_neg (by omega),if_neg (by omega),if_neg (by omega),if_neg (by omega),if_pos e] at hl
  exact ⟨hl.none (hnm _).1 (hnm _).2 _,hl.none (hnm _).1 (hnm _).2 _,hl.none (hnm _).1 (hnm _).2 _⟩
 ·rw [if_neg (by omega),if_neg (by omega),if_neg (by omega),if_neg (by omega),if_neg (by omega),if_neg (by omega),if_neg (by omega),if_pos e] at hl
  rw [hl.word,hl.word,hl.word]
  decide
section
variable {nest : Nat} {l x : List Tk} {u : Nd}
theorem m6.climb1 (h : m6 (.chain 1) (nest + 1) l x u) (h3 : isT tIf l=false) (hx : fR x) (hn : nest + 1≤300) : m6 .expr nest l x u:=(m6.chain (lv:=0) h (hx.any (o6 0))).expr h3 hn
theorem m6.climbN (h : m6 .not (nest + 1) l x u) (h3 : isT tIf l=false) (hx : fR x) (hn : nest + 1≤300) : m6 .expr nest l x u:=(m6.chain (lv:=1) h (hx.any (o6 1))).climb1 h3 hx hn
theorem m6.climb2 (h : m6 (.chain 2) (nest + 1) l x u) (h2 : isT iR l=false) (h3 : isT tIf l=false) (hx : fR x) (hn : nest + 1≤300) : m6 .expr nest l x u:=(h.not h2 (hx.any (by decide))).climbN h3 hx hn
theorem m6.climb3 (h : m6 (.chain 3) (nest + 1) l x u) (h2 : isT iR l=false) (h3 : isT tIf l=false) (hx : fR x) (hn : nest + 1≤300) : m6 .expr nest l x u:=(m6.chain (lv:=2) h (hx.any (o6 2))).climb2 h2 h3 hx hn
theorem m6.climbU (h : m6 .unary (nest + 1) l x u) (h2 : isT iR l=false) (h3 : isT tIf l=false) (hx : fR x) (hn : nest + 1≤300) : m6 .expr nest l x u:=(m6.chain (lv:=3) h (hx.any (o6 3))).climb3 h2 h3 hx hn
end
theorem a8j {s : List UInt8} {T l x : List Tk} (h : Sp (a3j s :: T) l x) : (∀ v,isT v l=(s == v))∧Sp T (b8 l) x∧(hd l).text=s:=by
 unfold a3j at h
 split at h
 ·exact ⟨h.word,h.wordStep,h.head.2.1⟩
 ·exact ⟨h.sign,h.signStep,h.head.2.1⟩
theorem cV {lv n : Nat} {l y x : List Tk} {k w u : Nd} {s : List UInt8} (hk : m6 (X4 lv) n l y k) (hy : bF (D6 lv) y=true) (hs : (hd y).text=s) (hw : m6 (X4 lv) n (b8 y) x w) (hx : bF (D6 lv) x=false)
 (hu : u.kind=13∧u.text.data.toList=s∧u.n=0∧u.kids=[k,w]) (hd : d9 u≤100) : m6 (.chain lv) n l x u:=by
 obtain ⟨tk,rk,sk⟩:=hk
 obtain ⟨tw,rw',sw⟩:=hw
 have hsm : F5 false (mkN 13 (Proofs.YteefedkmgnepmaaGreatDoor.hd y).text 0 [tk,tw] (Proofs.YteefedkmgnepmaaGreatDoor.hd y).pos)=F5 false u:=O5 hu.1 (hu.2.1.trans hs.symm) hu.2.2.1 (by rw [hu.2.2.2,List.map_cons,List.map_cons,sk,sw]; rfl)
 refine ⟨_,?_,hsm⟩
 rw [A9]
 show (rd (X4 lv) n l).then _=_
 rw [rk,y6,A9]
 show (if _ then _ else _)=_
 rw [if_pos hy,rw',y6,fM (by have:=Y2 hsm; omega),y6,A9]
 show (if _ then _ else _)=_
 rw [hx,if_neg (by decide)]
theorem lS {n : Nat} {l y x : List Tk} {k w u : Nd} {s : List UInt8} (hl : isT iR l=false) (hk : m6 (.chain 2) n l y k) (hy : bF zI y=true) (hs : (hd y).text=s) (hw : m6 (.chain 2) n (b8 y) x w)
 (hu : u.kind=13∧u.text.data.toList=s∧u.n=0∧u.kids=[k,w]) (hd : d9 u≤100) : m6 .not n l x u:=by
 obtain ⟨tk,rk,sk⟩:=hk
 obtain ⟨tw,rw',sw⟩:=hw
 have hsm : F5 false (mkN 13 (Proofs.YteefedkmgnepmaaGreatDoor.hd y).text 0 [tk,tw] (Proofs.YteefedkmgnepmaaGreatDoor.hd y).pos)=F5 false u:=O5 hu.1 (hu.2.1.trans hs.symm) hu.2.2.1 (by rw [hu.2.2.2,List.map_cons,List.map_cons,sk,sw]; rfl)
 refine ⟨_,?_,hsm⟩
 rw [A9]
 show (if _ then _ else _)=_
 rw [hl,if_neg (by decide),rk,y6,if_pos hy,rw',y6,fM (by have:=Y2 hsm; omega)]
theorem nM {s : List UInt8} (h : eW s=true) : s=[111,114]∨s=[97,110,100]∨s=[60]∨s=[60,61]∨s=[61]∨s=[43]∨s=[45]∨s=[42]∨s=[47]:=by
 have:=List.contains_iff_mem.1 h
 simpa [aP] using this
theorem a1a (N : Nat) : ∀ (u : Nd) (d : Int),SizeOf.sizeOf u<N→d5 u d=true→1≤d→RE u∧RA u:=by
 induction N with
 | zero => intro u d h; omega
 | succ N ih =>
 intro u d hsz h hd0
 have hkk : ∀ k∈u.kids,SizeOf.sizeOf k<N:=fun k hk => zJ hsz hk
 have hdep:=dL u d h
 have hkr : ∀ k∈u.kids,d5 k (d + 1)=true:=by
  have h4:=(y9 h).2.2.2
  intro k hk
  obtain ⟨i,hi,rfl⟩:=List.getElem_of_mem hk
  rcases hc : d5 u.kids[i] (d + 1) with _ | _
  ·rw [lW hi hc] at h4; cases h4
  ·rfl
 have ihk : ∀ k∈u.kids,RE k∧RA k:=fun k hk => ih k (d + 1) (hkk k hk) (hkr k hk) (by omega)
 have hA : RA u:=a1e h hd0 fun k hk => (ihk k hk).1
 refine ⟨?_,hA⟩
 intro nest l x hl hx hn
 have hxo:=hx x6 (by decide)
 have hdk:=pT u
 by_cases hw : J0 u.kind=true
 case neg =>
  have hp : Sp (bT u.kind (n9 u)) l x:=by unfold bT; rw [if_neg hw]; exact hl
  obtain ⟨h1,h2,h3⟩:=eU h hp
  exact (hA hw (nest + 1) l x hl hxo (by omega)).climb h1 h2 h3 hx (by omega)
 have hk3 : u.kind=12∨u.kind=13∨u.kind=14:=by
  unfold J0 at hw
  simpa [or_assoc] using hw
 rcases hk3 with e | e | e
 ·obtain ⟨s,k,p,rfl,hs,hrk⟩:=tA h e
  have hke:=ihk k (List.mem_cons_self ..)
  have d1:=E0 [k] k (List.mem_cons_self ..)
  replace hdk : d9 (.mk 12 s 0 [k] p)=j7 [k] + 1:=hdk
  have hl' : Sp ((if s.data.toList=[45] then tS eD else tW iR) :: bT k.kind (n9 k)) l x:=by
   rw [n9,dC] at hl; exact hl
  rcases hs with hs | hs
  ·rw [if_pos hs] at hl'
   have hp:=hl'.signStep
   obtain ⟨h1,h2,h3⟩:=eU hrk hp
   obtain ⟨t,rt,st⟩:=(fG hke.1 hke.2 (nest:=nest + 1 + 1) hp hxo (by omega)).unary h1
   have hsm : F5 false (mkN 12 (hd l).text 0 [t] (hd l).pos)=F5 false (.mk 12 s 0 [k] p):=O5 rfl (by rw [hl'.head.2.1]; exact hs) rfl (by rw [List.map_cons,st]; rfl)
   have hR : m6 .unary (nest + 1) l x (.mk 12 s 0 [k] p):=by
    refine ⟨_,?_,hsm⟩
    rw [A9]
    show (if _ then _ else _)=_
    rw [if_pos (by rw [hl'.sign]; decide),nH (by omega),rt,y6]
    exact fM (by have:=Y2 hsm; omega)
   exact hR.climbU (by rw [hl'.sign]; decide) (by rw [hl'.sign]; decide) hx (by omega)
  ·rw [if_neg (by rw [hs]; decide)] at hl'
   have hp:=hl'.wordStep
   obtain ⟨h1,h2,h3⟩:=eU hrk hp
   obtain ⟨t,rt,st⟩:=m6.not (m6.chain (lv:=2) (m6.chain (lv:=3) ((fG hke.1 hke.2 (nest:=nest + 1 + 1) hp hxo (by omega)).unary h1) (hx.any (o6 3))) (hx.any (o6 2))) h2 (hx.any (by decide))
   have hsm : F5 false (mkN 12 (hd l).text 0 [t] (hd l).pos)=F5 false (.mk 12 s 0 [k] p):=O5 rfl (by rw [hl'.head.2.1]; exact hs) rfl (by rw [List.map_cons,st]; rfl)
   have hR : m6 .not (nest + 1) l x (.mk 12 s 0 [k] p):=by
    refine ⟨_,?_,hsm⟩
    rw [A9]
    show (if _ then _ else _)=_
    rw [if_pos (by rw [hl'.word]; decide),nH (by omega),rt,y6]
    exact fM (by have:=Y2 hsm; omega)
   exact hR.climbN (by rw [hl'.word]; decide) hx (by omega)
 ·obtain ⟨s,k,w,p,rfl,hs,hrk,hrw⟩:=tF h e
  have hke:=ihk k (by simp [Nd.kids])
  have hwe:=ihk w (by simp [Nd.kids])
  have d1:=E0 [k,w] k (by simp)
  have d2:=E0 [k,w] w (by simp)
  replace hdk : d9 (.mk 13 s 0 [k,w] p)=j7 [k,w] + 1:=hdk
  have hl' : Sp (bT k.kind (n9 k) ++ a3j s.data.toList :: bT w.kind (n9 w)) l x:=by
   rw [n9,dC] at hl; exact hl
  obtain ⟨y,g1,g2⟩:=hl'.app
  obtain ⟨hy,g3,hyt⟩:=a8j g2
  obtain ⟨h1,h2,h3⟩:=eU hrk g1
  obtain ⟨i1,i2,i3⟩:=eU hrw g3
  have hyo : isT x6 y=false:=by
   rw [hy,beq_eq_false_iff_ne]
   rintro e
   rw [e] at hs; exact absurd hs (by decide)
  have ra:=(fG hke.1 hke.2 (nest:=nest + 1) g1 hyo (by omega)).unary h1
  have rb:=(fG hwe.1 hwe.2 (nest:=nest + 1) g3 hxo (by omega)).unary i1
  have hu : (Nd.mk 13 s 0 [k,w] p).kind=13∧(Nd.mk 13 s 0 [k,w] p).text.data.toList=s.data.toList∧(Nd.mk 13 s 0 [k,w] p).n=0∧(Nd.mk 13 s 0 [k,w] p).kids=[k,w]:=⟨rfl,rfl,rfl,rfl⟩
  have hd100 : d9 (.mk 13 s 0 [k,w] p)≤100:=by omega
  have an : ∀ {ws : List (List UInt8)},(ws.any fun v => s.data.toList == v)=true→bF ws y=true:=fun {ws} h => by
   unfold bF
   rw [show (fun w => isT w y)=fun v => s.data.toList == v from funext hy]
   exact h
  have no : ∀ {ws : List (List UInt8)},(ws.any fun v => s.data.toList == v)=false→bF ws y=false:=fun {ws} h => by
   unfold bF
   rw [show (fun w => isT w y)=fun v => s.data.toList == v from funext hy]
   exact h
  have a3 : bF (D6 3) y=false→m6 (.chain 3) (nest + 1) l y k:=fun g => m6.chain (lv:=3) ra g
  have a2 : bF (D6 3) y=false→bF (D6 2) y=false→m6 (.chain 2) (nest + 1) l y k:=fun g g' => m6.chain (lv:=2) (a3 g) g'
  have b3:=m6.chain (lv:=3) rb (hx.any (o6 3))
  have b2:=m6.chain (lv:=2) b3 (hx.any (o6 2))
  have bN:=b2.not i2 (hx.any (by decide))
  have b1:=m6.chain (lv:=1) bN (hx.any (o6 1))
  rcases nM hs with e | e | e | e | e | e | e | e | e
  ·have aN:=(a2 (no (by rw [e]; decide)) (no (by rw [e]; decide))).not h2 (no (by rw [e]; decide))
   have a1:=m6.chain (lv:=1) aN (no (by rw [e]; decide))
   exact (cV (lv:=0) a1 (an (by rw [e]; decide)) hyt b1 (hx.any (o6 0)) hu hd100).expr h3 (by omega)
  ·have aN:=(a2 (no (by rw [e]; decide)) (no (by rw [e]; decide))).not h2 (no (by rw [e]; decide))
   exact (cV (lv:=1) aN (an (by rw [e]; decide)) hyt bN (hx.any (o6 1)) hu hd100).climb1 h3 hx (by omega)
  ·exact (lS h2 (a2 (no (by rw [e]; decide)) (no (by rw [e]; decide))) (an (by rw [e]; decide)) hyt b2 hu hd100).climbN h3 hx (by omega)
  ·exact (lS h2 (a2 (no (by rw [e]; decide)) (no (by rw [e]; decide))) (an (by rw [e]; decide)) hyt b2 hu hd100).climbN h3 hx (by omega)
  ·exact (lS h2 (a2 (no (by rw [e]; decide)) (no (by rw [e]; decide))) (an (by rw [e]; decide)) hyt b2 hu hd100).climbN h3 hx (by omega)
  ·exact (cV (lv:=2) (a3 (no (by rw [e]; decide))) (an (by rw [e]; decide)) hyt b3 (hx.any (o6 2)) hu hd100).climb2 h2 h3 hx (by omega)
  ·exact (cV (lv:=2) (a3 (no (by rw [e]; decide))) (an (by rw [e]; decide)) hyt b3 (hx.any (o6 2)) hu hd100).climb2 h2 h3 hx (by omega)
  ·exact (cV (lv:=3) ra (an (by rw [e]; decide)) hyt rb (hx.any (o6 3)) hu hd100).climb3 h2 h3 hx (by omega)
  ·exact (cV (lv:=3) ra (an (by rw [e]; decide)) hyt rb (hx.any (o6 3)) hu hd100).climb3 h2 h3 hx (by omega)
 ·obtain ⟨s,k,v,w,p,rfl,hs,hrk,hrv,hrw⟩:=yV h e
  have hke:=ihk k (by simp [Nd.kids])
  have hve:=ihk v (by simp [Nd.kids])
  have hwe:=ihk w (by simp [Nd.kids])
  have d1:=E0 [k,v,w] k (by simp)
  have d2:=E0 [k,v,w] v (by simp)
  have d3:=E0 [k,v,w] w (by simp)
  replace hdk : d9 (.mk 14 s 0 [k,v,w] p)=j7 [k,v,w] + 1:=hdk
  have hl' : Sp (tW tIf :: (n9 k ++ tW qE :: (n9 v ++ tW oQ :: n9 w))) l x:=by
   rw [n9,dC] at hl; exact hl
  obtain ⟨y,g1,g2⟩:=hl'.wordStep.app
  obtain ⟨z,g3,g4⟩:=g2.wordStep.app
  obtain ⟨ta,ra,sa⟩:=hke.1 (nest + 1) _ _ g1 (pD (by decide) g2) (by omega)
  obtain ⟨tb,rb,sb⟩:=hve.1 (nest + 1) _ _ g3 (pD (by decide) g4) (by omega)
  obtain ⟨tc,rc,sc⟩:=hwe.1 (nest + 1) _ _ g4.wordStep hx (by omega)
  have hsm : F5 false (mkN 14 [] 0 [ta,tb,tc] (hd l).pos)=F5 false (.mk 14 s 0 [k,v,w] p):=O5 rfl hs rfl (by rw [List.map_cons,List.map_cons,List.map_cons,sa,sb,sc]; rfl)
  refine ⟨_,?_,hsm⟩
  rw [A9]
  show eG nest l _=_
  rw [nH (by omega),if_pos (by rw [hl'.word]; decide),ra,y6,rZ g2,rb,y6,rZ g4,rc,y6]
  exact fM (by have:=Y2 hsm; omega)
theorem a1i {u : Nd} (h : d5 u 1=true) {l x : List Tk} (hl : Sp (n9 u) l x) (hx : fR x) : m6 .expr 0 l x u :=
 (a1a _ u 1 (Nat.lt_succ_self _) h (by decide)).1 0 l x hl hx (by have:=dL u 1 h; omega)
end Go.Proofs.YteefedkmgnepmaaGreatDoor
