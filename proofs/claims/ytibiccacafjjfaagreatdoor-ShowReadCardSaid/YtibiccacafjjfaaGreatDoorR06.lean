/-
  Laws that the proof rests on.
-/
import Derived.Test.YtibiccacafjjfaaGreatDoorR05
import Derived.Test.YtibiccacafjjfaaGreatDoorR03
import Derived.Test.YtibiccacafjjfaaGreatDoorR01
namespace Go.Proofs.YtibiccacafjjfaaGreatDoor
set_option maxRecDepth 100000
set_option maxHeartbeats 16000000
mutual
def o4 (b : Bool) : Nd→Nd
 | .mk k s n ks p => .mk k s n (y7 b ks) (if b=true then p else 0)
def y7 (b : Bool) : List Nd→List Nd
 | [] => []
 | k :: ks => o4 b k :: y7 b ks
end
def a7d (b : Bool) (t : Tk) : Tk:=⟨t.kind,t.text,t.n,if b=true then t.pos else 0⟩
theorem iU (b : Bool) : ∀ ks,y7 b ks=ks.map (o4 b)
 | [] => by rw [y7]; rfl
 | k :: ks => by rw [y7,iU b ks]; rfl
mutual
theorem sV : ∀ t,o4 true t=t
 | .mk k s n ks p => by rw [o4,pI ks]; rfl
theorem pI : ∀ ks,y7 true ks=ks
 | [] => by rw [y7]
 | k :: ks => by rw [y7,sV k,pI ks]
end
mutual
theorem mD (b : Bool) : ∀ t,c8 (o4 b t)=c8 t
 | .mk k s n ks p => by rw [o4,c8,c8,pV b ks]
theorem pV (b : Bool) : ∀ ks,i7 (y7 b ks)=i7 ks
 | [] => by rw [y7]
 | k :: ks => by rw [y7,i7,i7,mD b k,pV b ks]
end
mutual
theorem iK : ∀ (t u : Nd),bH t u=true↔o4 false t=o4 false u
 | .mk k s n ks p,u => by
   rw [kI]
   cases u with
   | mk k' s' n' ks' p' =>
   rw [o4,o4]
   simp only [Nd.kind,Nd.text,Nd.n,Nd.kids,Bool.and_eq_true,beq_iff_eq,Nd.mk.injEq,and_true,Bool.false_eq_true,if_false]
   rw [uM ks ks',Lib.toList_data,Lib.toList_data]
   constructor
   ·rintro ⟨⟨⟨h1,h2⟩,h3⟩,h4⟩; exact ⟨h1,yG h2,h3,h4⟩
   ·rintro ⟨h1,h2,h3,h4⟩; exact ⟨⟨⟨h1,by rw [h2]⟩,h3⟩,h4⟩
theorem uM : ∀ (l r : List Nd),D7 l r=true↔y7 false l=y7 false r
 | [],r => by
   rw [D7,y7]
   cases r with
   | nil => rw [y7]; simp
   | cons a r => rw [y7]; simp
 | a :: l,[] => by rw [D7,y7,y7]; simp
 | a :: l,c :: r => by rw [D7,y7,y7,Bool.and_eq_true,iK a c,uM l r,List.cons.injEq]
end
section
variable {b : Bool} {d : Nat} {x x' : List Tk}
end
def tW (w : List UInt8) : Tk:=⟨2,w,0,0⟩
def tS (w : List UInt8) : Tk:=⟨8,w,0,0⟩
def a3G (s : List UInt8) : Tk:=if s=[111,114]∨s=[97,110,100] then tW s else tS s
def eD (s : List UInt8) : Tk:=⟨if (Lib.cut s [46]).2.2=true then 3 else 1,s,0,0⟩
def bE : List (List Tk)→List Tk
 | [] => []
 | f :: r => tS l0 :: (f ++ bE r)
def qY : List (List Tk)→List Tk
 | [] => [tS m7]
 | f :: r => f ++ (bE r ++ [tS m7])
def rW (l : List (List Tk)) : List Tk:=tS o7 :: qY l
def cY (kind : Int) (f : List Tk) : List Tk:=if J0 kind=true then tS o7 :: (f ++ [tS m7]) else f
def vG (kind n : Int) (s : List UInt8) (l : List (Int × List Tk)) : List Tk :=
 if kind=5 then [⟨6,[],n,0⟩]
 else if kind=6 then [⟨5,[],n,0⟩]
 else if kind=7 then [⟨4,s,0,0⟩]
 else if kind=8 then [tW (if n=1 then bO else X4)]
 else if kind=9 then [tW cE,⟨7,s,0,0⟩]
 else if kind=10 then [eD s]
 else if kind=11 then eD s :: rW (l.map (·.2))
 else if kind=15 then tW cD :: ⟨7,s,0,0⟩ :: rW (l.map (·.2))
 else if kind=12 then match l with
  | [a] => (if s=[45] then tS cP else tW fX) :: cY a.1 a.2
  | _ => []
 else if kind=13 then match l with
  | [a,b] => cY a.1 a.2 ++ a3G s :: cY b.1 b.2
  | _ => []
 else match l with
  | [a,b,c] => tW tIf :: (a.2 ++ tW fF :: (b.2 ++ tW eY :: c.2))
  | _ => []
mutual
def o0 : Nd→List Tk
 | .mk kind s n ks _ => vG kind n s.data.toList (gM ks)
def gM : List Nd→List (Int × List Tk)
 | [] => []
 | k :: ks => (k.kind,o0 k) :: gM ks
end
theorem wH (t : Nd) : o0 t=vG t.kind t.n t.text.data.toList (gM t.kids):=by cases t; rw [o0]; rfl
theorem eJ : ∀ ks,gM ks=ks.map fun k => (k.kind,o0 k)
 | [] => by rw [gM]; rfl
 | k :: ks => by rw [gM,eJ ks]; rfl
theorem gB (ks : List Nd) : (gM ks).map (·.2)=ks.map o0:=by rw [eJ,List.map_map]; rfl
mutual
theorem eU : ∀ (t : Nd) (d : Int),e7 t d=true→d + c8 t≤101
 | .mk k s n ks p,d,h => by
   rw [e7] at h
   simp only [Bool.and_eq_true,decide_eq_true_eq] at h
   have:=kQ ks (d + 1) h.2 (by omega)
   rw [c8]
   omega
theorem kQ : ∀ (ks : List Nd) (d : Int),m8 ks d=true→d≤101→d + i7 ks≤101
 | [],d,_,hd => by rw [i7]; omega
 | k :: ks,d,h,hd => by
   rw [m8,Bool.and_eq_true] at h
   have h1:=eU k d h.1
   have h2:=kQ ks d h.2 hd
   rw [i7]
   omega
end
theorem L8 : ∀ (ks : List Nd) (k : Nd),k∈ks→c8 k≤i7 ks
 | a :: r,k,h => by
   rw [i7]
   rcases List.mem_cons.1 h with rfl | h
   ·omega
   ·have:=L8 r k h; omega
 | [],_,h => by cases h
theorem pD (t : Nd) : c8 t=i7 t.kids + 1:=by cases t; rw [c8]; rfl
def Sp (T l x : List Tk) : Prop:=∃ t,l=t ++ x∧t.map (a7d false)=T
theorem Sp.nil {l x : List Tk} (h : Sp [] l x) : l=x:=by
 obtain ⟨t,rfl,h⟩:=h
 rw [List.map_eq_nil_iff] at h
 rw [h]; rfl
theorem Sp.head {a : Tk} {T l x : List Tk} (h : Sp (a :: T) l x) : (hd l).kind=a.kind∧(hd l).text=a.text∧(hd l).n=a.n∧(a.kind≠0→Sp T (b9 l) x):=by
 obtain ⟨t,rfl,h⟩:=h
 cases t with
 | nil => cases h
 | cons c t =>
   rw [List.map_cons,List.cons.injEq] at h
   obtain ⟨rfl,h⟩:=h
   refine ⟨rfl,rfl,rfl,fun k => ⟨t,?_,h⟩⟩
   show (if c.kind=0 then _ else _)=_
   rw [if_neg (show ¬ c.kind=0 from k)]; rfl
theorem Sp.app {T U l x : List Tk} (h : Sp (T ++ U) l x) : ∃ y,Sp T l y∧Sp U y x:=by
 obtain ⟨t,rfl,h⟩:=h
 obtain ⟨a,c,rfl,ha,hc⟩:=List.map_eq_append_iff.1 h
 exact ⟨c ++ x,⟨a,by rw [List.append_assoc],ha⟩,⟨c,rfl,hc⟩⟩
theorem Sp.word {w : List UInt8} {T l x : List Tk} (h : Sp (tW w :: T) l x) (v : List UInt8) : isT v l=(w == v):=by
 obtain ⟨h1,h2,-⟩:=h.head
 unfold isT
 rw [h1,h2]; rfl
theorem Sp.sign {w : List UInt8} {T l x : List Tk} (h : Sp (tS w :: T) l x) (v : List UInt8) : isT v l=(w == v):=by
 obtain ⟨h1,h2,-⟩:=h.head
 unfold isT
 rw [h1,h2]; rfl
theorem Sp.none {a : Tk} {T l x : List Tk} (h : Sp (a :: T) l x) (h2 : a.kind≠2) (h8 : a.kind≠8) (v : List UInt8) : isT v l=false:=by
 obtain ⟨h1,-⟩:=h.head
 unfold isT
 rw [h1,beq_eq_false_iff_ne.2 h2,beq_eq_false_iff_ne.2 h8]; rfl
theorem Sp.wordStep {w : List UInt8} {T l x : List Tk} (h : Sp (tW w :: T) l x) : Sp T (b9 l) x:=h.head.2.2.2 (show (2 : Int)≠0 by decide)
theorem Sp.signStep {w : List UInt8} {T l x : List Tk} (h : Sp (tS w :: T) l x) : Sp T (b9 l) x:=h.head.2.2.2 (show (8 : Int)≠0 by decide)
theorem gP {k : Int} {l : List Tk} {f : Tk→List Tk→Rd} (h : (hd l).kind=k) : A7 k l f=f (hd l) (b9 l):=if_pos h
theorem U6 {w : List UInt8} {T l x : List Tk} {f : List Tk→Rd} (h : Sp (tS w :: T) l x) : d7 w l f=f (b9 l):=by
 unfold d7
 rw [if_pos (by rw [h.sign]; exact beq_self_eq_true w)]
theorem iN {w : List UInt8} {T l x : List Tk} {f : List Tk→Rd} (h : Sp (tW w :: T) l x) : d7 w l f=f (b9 l):=by
 unfold d7
 rw [if_pos (by rw [h.word]; exact beq_self_eq_true w)]
theorem s7 (t : Nd) (r : List Tk) (f : Nd→List Tk→Rd) : Rd.then (.ok (t,r)) f=f t r:=rfl
theorem cS {t : Nd} {r : List Tk} (h : c8 t≤100) : made t r=.ok (t,r):=if_neg (by omega)
def n6 (m : Md) (nest : Nat) (l x : List Tk) (u : Nd) : Prop:=∃ t,rd m nest l=.ok (t,x)∧o4 false t=o4 false u
theorem bF {t u : Nd} (h : o4 false t=o4 false u) : c8 t=c8 u:=by rw [← mD false t,h,mD]
section
variable {nest : Nat} {l x : List Tk} {u : Nd}
theorem n6.unary (h : n6 .atom nest l x u) (hl : isT cP l=false) : n6 .unary nest l x u:=by
 obtain ⟨t,ht,hs⟩:=h
 exact ⟨t,by rw [t7]; show (if _ then _ else _)=_; rw [hl,if_neg (by decide)]; exact ht,hs⟩
theorem n6.chain {lv : Nat} (h : n6 (D5 lv) nest l x u) (hx : U0 (r4 lv) x=false) : n6 (.chain lv) nest l x u:=by
 obtain ⟨t,ht,hs⟩:=h
 refine ⟨t,?_,hs⟩
 rw [t7]
 show (rd (D5 lv) nest l).then _=_
 rw [ht,s7,t7]
 show (if _ then _ else _)=_
 rw [hx,if_neg (by decide)]
theorem n6.not (h : n6 (.chain 2) nest l x u) (hl : isT fX l=false) (hx : U0 jA x=false) : n6 .not nest l x u:=by
 obtain ⟨t,ht,hs⟩:=h
 refine ⟨t,?_,hs⟩
 rw [t7]
 show (if _ then _ else _)=_
 rw [hl,if_neg (by decide),ht,s7,hx,if_neg (by decide)]
theorem oA {n : Nat} (h : n + 1≤300) (l : List Tk) (r : Rd) : S0 n l r=r:=if_neg (by omega)
theorem n6.expr (h : n6 (.chain 0) (nest + 1) l x u) (hl : isT tIf l=false) (hn : nest + 1≤300) : n6 .expr nest l x u:=by
 obtain ⟨t,ht,hs⟩:=h
 refine ⟨t,?_,hs⟩
 rw [t7]
 show S0 nest l _=_
 rw [oA hn,hl,if_neg (by decide),ht]
end
def a4p : List (List UInt8):=[[111,114],[97,110,100],[43],[45],[42],[47],[60],[60,61],[61],o7]
def gQ (x : List Tk) : Prop:=∀ w∈a4p,isT w x=false
theorem gQ.any {x : List Tk} (h : gQ x) {ws : List (List UInt8)} (hw : ∀ w∈ws,w∈a4p) : U0 ws x=false:=by
 unfold U0
 rw [List.any_eq_false]
 exact fun w h1 => by rw [h w (hw w h1)]; decide
theorem r7 (lv : Nat) : ∀ w∈r4 lv,w∈a4p:=by
 unfold r4
 split
 ·decide
 split
 ·decide
 split <;> decide
theorem n6.climb {nest : Nat} {l x : List Tk} {u : Nd} (h : n6 .atom (nest + 1) l x u) (h1 : isT cP l=false) (h2 : isT fX l=false) (h3 : isT tIf l=false) (hx : gQ x) (hn : nest + 1≤300) : n6 .expr nest l x u :=
 (n6.chain (lv:=0) (n6.chain (lv:=1) (n6.not (n6.chain (lv:=2) (n6.chain (lv:=3) (h.unary h1) (hx.any (r7 3))) (hx.any (r7 2))) h2 (hx.any (by decide))) (hx.any (r7 1))) (hx.any (r7 0))).expr h3 hn
def RE (u : Nd) : Prop:=∀ (nest : Nat) (l x : List Tk),Sp (o0 u) l x→gQ x→nest + 2 * c8 u≤300→n6 .expr nest l x u
def RA (u : Nd) : Prop:=¬ J0 u.kind=true→∀ (nest : Nat) (l x : List Tk),Sp (o0 u) l x→isT o7 x=false→nest + 2 * c8 u≤301→n6 .atom nest l x u
theorem cK {w : List UInt8} (h : w ∉ a4p) {T l x : List Tk} (hl : Sp (tS w :: T) l x) : gQ l:=fun v hv => by
 rw [hl.sign,beq_eq_false_iff_ne]
 rintro rfl; exact h hv
theorem pM {w : List UInt8} (h : w ∉ a4p) {T l x : List Tk} (hl : Sp (tW w :: T) l x) : gQ l:=fun v hv => by
 rw [hl.word,beq_eq_false_iff_ne]
 rintro rfl; exact h hv
theorem gF {u : Nd} (he : RE u) (ha : RA u) {nest : Nat} {l x : List Tk} (h : Sp (cY u.kind (o0 u)) l x) (hx : isT o7 x=false) (hn : nest + 2 * c8 u≤300) : n6 .atom nest l x u:=by
 unfold cY at h
 by_cases hw : J0 u.kind=true
 ·rw [if_pos hw] at h
  have hk:=h.head.1
  obtain ⟨y,h1,h2⟩:=h.signStep.app
  obtain ⟨t,ht,hs⟩:=he nest _ _ h1 (cK (by decide) h2) hn
  refine ⟨t,?_,hs⟩
  have hkk : (hd l).kind=8:=hk
  rw [t7]
  show (if _ then _ else _)=_
  rw [if_neg (by rw [hkk]; decide),if_neg (by rw [hkk]; decide),if_neg (by rw [hkk]; decide),if_neg (by rw [hkk]; decide),if_neg (by rw [h.sign]; decide),if_neg (by rw [h.sign]; decide),if_neg (by rw [h.sign]; decide),if_neg (by rw [h.sign]; decide),if_pos (by rw [h.sign]; decide),ht,s7,U6 h2,h2.signStep.nil]
 ·rw [if_neg hw] at h
  exact ha hw nest l x h hx (by omega)
theorem qU : ∀ (ks acc : List Nd),(∀ k∈ks,RE k)→ks≠[]→acc.length + ks.length≤8→∀ (nest : Nat) (l x : List Tk),Sp (qY (ks.map o0)) l x→nest + 2 * i7 ks≤300 →
 ∃ ts,rd (.args acc) nest l=.ok (mkN 0 [] 0 (acc ++ ts) 0,x)∧ts.map (o4 false)=ks.map (o4 false)
 | [],_,_,h,_,_,_,_,_,_ => absurd rfl h
 | [k],acc,ih,_,hlen,nest,l,x,h,hn => by
   obtain ⟨y,h1,h2⟩:=Sp.app h
   have hd1:=L8 [k] k (List.mem_cons_self ..)
   obtain ⟨t,ht,hs⟩:=ih k (List.mem_cons_self ..) nest l y h1 (cK (by decide) h2) (by omega)
   refine ⟨[t],?_,by rw [List.map_cons,List.map_cons,hs]⟩
   rw [t7]
   show (if _ then _ else _)=_
   rw [if_neg (by simp at hlen; omega),ht,s7,if_neg (by rw [Sp.sign h2]; decide),U6 h2,Sp.nil (Sp.signStep h2)]
 | k :: k' :: r,acc,ih,_,hlen,nest,l,x,h,hn => by
   obtain ⟨y,h1,h2⟩:=Sp.app h
   have hd1:=L8 (k :: k' :: r) k (List.mem_cons_self ..)
   have hd2 : i7 (k' :: r)≤i7 (k :: k' :: r):=by rw [i7]; exact Nat.le_max_right _ _
   have h2' : Sp (tS l0 :: qY ((k' :: r).map o0)) y x:=by
    have e : bE ((k' :: r).map o0) ++ [tS m7]=tS l0 :: qY ((k' :: r).map o0):=by
     rw [List.map_cons,bE,List.cons_append,List.append_assoc]; rfl
    rw [← e]; exact h2
   obtain ⟨t,ht,hs⟩:=ih k (List.mem_cons_self ..) nest l y h1 (cK (by decide) h2') (by omega)
   obtain ⟨ts,hts,hss⟩:=qU (k' :: r) (acc ++ [t]) (fun u hu => ih u (List.mem_cons_of_mem _ hu)) (by simp) (by simp at hlen ⊢; omega) nest (b9 y) x h2'.signStep (by omega)
   refine ⟨t :: ts,?_,by rw [List.map_cons,List.map_cons,hs,hss]⟩
   rw [t7]
   show (if _ then _ else _)=_
   rw [if_neg (by simp at hlen; omega),ht,s7,if_pos (by rw [h2'.sign]; decide),hts,List.append_assoc]; rfl
theorem I6 {u : Nd} {k n p : Int} {s : List UInt8} {ts : List Nd} (hk : u.kind=k) (hs : u.text.data.toList=s) (hn : u.n=n) (ht : ts.map (o4 false)=u.kids.map (o4 false)) : o4 false (mkN k s n ts p)=o4 false u:=by
 cases u with
 | mk k' s' n' ks' p' =>
 obtain rfl : k'=k:=hk
 obtain rfl : n'=n:=hn
 unfold mkN
 rw [o4,o4,iU,iU,ht]
 rw [show (⟨s.toArray⟩ : ByteArray)=s' from yG (by rw [← hs]; simp [Nd.text])]
 rfl
theorem a0t {u : Nd} {d : Int} (h : e7 u d=true) (hd0 : 1≤d) (ih : ∀ k∈u.kids,RE k) : RA u:=by
 intro hw nest l x hl hx hn
 obtain ⟨h1,h2,h3,h4⟩:=F5 h
 have ha:=a1K h1 hw
 have hdep:=eU u d h
 have hkd:=pD u
 rw [wH] at hl
 unfold vG at hl
 rcases rD ha with e | e | e | e | e | e | e | e
 ·rw [if_pos e] at hl
  obtain ⟨k1,k2,k3,k4⟩:=hl.head
  have hk0:=fV h (by omega)
  refine ⟨_,by rw [t7]; show (if _ then _ else _)=_; rw [if_pos (by rw [k1]),(k4 (by decide : (6 : Int)≠0)).nil],I6 e ?_ k3.symm (by rw [hk0])⟩
  unfold L7 at h2
  rw [e] at h2
  simpa using h2
 ·rw [if_neg (by omega),if_pos e] at hl
  obtain ⟨k1,k2,k3,k4⟩:=hl.head
  have hk0:=fV h (by omega)
  refine ⟨_,by rw [t7]; show (if _ then _ else _)=_; rw [if_neg (by rw [show (hd l).kind=5 from k1]; decide),if_pos (by rw [k1]),(k4 (by decide : (5 : Int)≠0)).nil],I6 e ?_ k3.symm (by rw [hk0])⟩
  unfold L7 at h2
  rw [e] at h2
  simpa using h2
 ·rw [if_neg (by omega),if_neg (by omega),if_pos e] at hl
  obtain ⟨k1,k2,k3,k4⟩:=hl.head
  have hk0:=fV h (by omega)
  exact ⟨_,by rw [t7]; show (if _ then _ else _)=_; rw [if_neg (by rw [show (hd l).kind=4 from k1]; decide),if_neg (by rw [show (hd l).kind=4 from k1]; decide),if_pos (by rw [k1]),(k4 (by decide : (4 : Int)≠0)).nil],I6 e k2.symm (dO h3 (by omega)) (by rw [hk0])⟩
 ·rw [if_neg (by omega),if_neg (by omega),if_neg (by omega),if_pos e] at hl
  have hk0:=fV h (by omega)
  have hk : (hd l).kind=2:=hl.head.1
  have ht : u.text.data.toList=[]:=by
   unfold L7 at h2
   rw [e] at h2
   simpa using h2
  have hnn : u.n=0∨u.n=1:=by
   unfold Y7 at h3
   rw [e] at h3
   simpa using h3
  rcases hnn with hnn | hnn
  ·rw [hnn] at hl
   exact ⟨_,by rw [t7]; show (if _ then _ else _)=_; rw [if_neg (by rw [hk]; decide),if_neg (by rw [hk]; decide),if_neg (by rw [hk]; decide),if_neg (by rw [hk]; decide),if_neg (by rw [hl.word]; decide),if_pos (by rw [hl.word]; decide),hl.wordStep.nil],I6 e ht hnn (by rw [hk0])⟩
  ·rw [hnn] at hl
   exact ⟨_,by rw [t7]; show (if _ then _ else _)=_; rw [if_neg (by rw [hk]; decide),if_neg (by rw [hk]; decide),if_neg (by rw [hk]; decide),if_neg (by rw [hk]; decide),if_pos (by rw [hl.word]; decide),hl.wordStep.nil],I6 e ht hnn (by rw [hk0])⟩
 ·rw [if_neg (by omega),if_neg (by omega),if_neg (by omega),if_neg (by omega),if_pos e] at hl
  have hk0:=fV h (by omega)
  have hk : (hd l).kind=2:=hl.head.1
  have hl2:=hl.wordStep
  obtain ⟨k1,k2,k3,k4⟩:=hl2.head
  refine ⟨mkN 9 u.text.data.toList 0 [] (hd l).pos,?_,I6 e rfl (dO h3 (by omega)) (by rw [hk0])⟩
  rw [t7]; show (if _ then _ else _)=_
  rw [if_neg (by rw [hk]; decide),if_neg (by rw [hk]; decide),if_neg (by rw [hk]; decide),if_neg (by rw [hk]; decide),if_neg (by rw [hl.word]; decide),if_neg (by rw [hl.word]; decide),if_pos (by rw [hl.word]; decide)]
  rw [gP k1,(k4 (by decide : (7 : Int)≠0)).nil]
  show Except.ok (mkN 9 (hd (b9 l)).text 0 [] (hd l).pos,x)=_
  rw [k2]
 ·rw [if_neg (by omega),if_neg (by omega),if_neg (by omega),if_neg (by omega),if_neg (by omega),if_pos e] at hl
  have hk0:=fV h (by omega)
  obtain ⟨k1,k2,k3,k4⟩:=hl.head
  have k5 : (hd l).kind=1∨(hd l).kind=3:=by rw [k1]; unfold eD; simp only; split <;> simp
  have hs:=(k4 (by rw [← k1]; omega)).nil
  refine ⟨mkN 10 (hd l).text 0 [] (hd l).pos,?_,I6 e k2.symm (dO h3 (by omega)) (by rw [hk0])⟩
  rw [t7]; show (if _ then _ else _)=_
  rw [if_neg (by omega),if_neg (by omega),if_neg (by omega),if_pos k5,if_neg (by rw [hs,hx]; decide),hs]
 ·rw [if_neg (by omega),if_neg (by omega),if_neg (by omega),if_neg (by omega),if_neg (by omega),if_neg (by omega),if_pos e,gB] at hl
  obtain ⟨k1,k2,k3,k4⟩:=hl.head
  have k5 : (hd l).kind=1∨(hd l).kind=3:=by rw [k1]; unfold eD; simp only; split <;> simp
  have hs:=k4 (by rw [← k1]; omega)
  have hlen : u.kids.length≤8:=by
   rw [e] at h1
   unfold r5 at h1
   have h1' : (decide (1≤u.kids.length) && decide (u.kids.length≤8))=true:=h1
   simp only [Bool.and_eq_true,decide_eq_true_eq] at h1'
   exact h1'.2
  obtain ⟨ts,hts,hss⟩:=qU u.kids [] ih (rX h (.inl e)) (by simpa using hlen) nest _ x hs.signStep (by omega)
  refine ⟨mkN 11 (hd l).text 0 ts (hd l).pos,?_,I6 e k2.symm (dO h3 (by omega)) hss⟩
  have hsm : o4 false (mkN 11 (hd l).text 0 ts (hd l).pos)=o4 false u:=I6 e k2.symm (dO h3 (by omega)) hss
  rw [t7]; show (if _ then _ else _)=_
  rw [if_neg (by omega),if_neg (by omega),if_neg (by omega),if_pos k5,if_pos (by rw [hs.sign]; decide),hts,s7]
  exact cS (by have:=bF hsm; show c8 (mkN 11 (hd l).text 0 ts (hd l).pos)≤100; omega)
 ·rw [if_neg (by omega),if_neg (by omega),if_neg (by omega),if_neg (by omega),if_neg (by omega),if_neg (by omega),if_neg (by omega),if_pos e,gB] at hl
  have hk : (hd l).kind=2:=hl.head.1
  have hl2:=hl.wordStep
  obtain ⟨k1,k2,k3,k4⟩:=hl2.head
  have hl3:=k4 (by decide : (7 : Int)≠0)
  have h3k : u.kids.length=3:=by
   rw [e] at h1
   unfold r5 at h1
   simpa using h1
  obtain ⟨a,b,c,hkk⟩:=a6h h3k
  rw [hkk] at hl3 ih hkd
  have d1:=L8 [a,b,c] a (by simp)
  have d2:=L8 [a,b,c] b (by simp)
  have d3:=L8 [a,b,c] c (by simp)
  have hl4:=hl3.signStep
  obtain ⟨y,g1,g2⟩:=Sp.app hl4
  have g2' : Sp (tS l0 :: (o0 b ++ tS l0 :: (o0 c ++ [tS m7]))) y x:=by
   have e' : bE ([b,c].map o0) ++ [tS m7]=tS l0 :: (o0 b ++ tS l0 :: (o0 c ++ [tS m7])):=by simp [bE]
   rw [← e']; exact g2
  obtain ⟨ta,ra,sa⟩:=ih a (by simp) nest _ _ g1 (cK (by decide) g2') (by omega)
  obtain ⟨z,g3,g4⟩:=Sp.app g2'.signStep
  obtain ⟨tb,rb,sb⟩:=ih b (by simp) nest _ _ g3 (cK (by decide) g4) (by omega)
  obtain ⟨v,g5,g6⟩:=Sp.app g4.signStep
  obtain ⟨tc,rc,sc⟩:=ih c (by simp) nest _ _ g5 (cK (by decide) g6) (by omega)
  have hsm : o4 false (mkN 15 (hd (b9 l)).text 0 [ta,tb,tc] (hd l).pos)=o4 false u:=I6 e k2.symm (dO h3 (by omega)) (by rw [hkk,List.map_cons,List.map_cons,List.map_cons,sa,sb,sc]; rfl)
  refine ⟨mkN 15 (hd (b9 l)).text 0 [ta,tb,tc] (hd l).pos,?_,hsm⟩
  rw [t7]; show (if _ then _ else _)=_
  rw [if_neg (by rw [hk]; decide),if_neg (by rw [hk]; decide),if_neg (by rw [hk]; decide),if_neg (by rw [hk]; decide),if_neg (by rw [hl.word]; decide),if_neg (by rw [hl.word]; decide),if_neg (by rw [hl.word]; decide),if_pos (by rw [hl.word]; decide)]
  rw [gP k1]
  show d7 o7 _ _=_
  rw [U6 hl3,ra,s7,U6 g2',rb,s7,U6 g4,rc,s7,U6 g6,g6.signStep.nil]
  exact cS (by have:=bF hsm; omega)
theorem fO {u : Nd} {d : Int} (h : e7 u d=true) {l x : List Tk} (hl : Sp (cY u.kind (o0 u)) l x) : isT cP l=false∧isT fX l=false∧isT tIf l=false:=by
 unfold cY at hl
 by_cases hw : J0 u.kind=true
 ·rw [if_pos hw] at hl
  rw [hl.sign,hl.sign,hl.sign]
  decide
 rw [if_neg hw,wH] at hl
 unfold vG at hl
 have hnm : ∀ s,(eD s).kind≠2∧(eD s).kind≠8:=fun s => by unfold eD; simp only; split <;> decide
 rcases rD (a1K (F5 h).1 hw) with e | e | e | e | e | e | e | e
 ·rw [if_pos e] at hl
  exact ⟨hl.none (show (6 : Int)≠2 by decide) (show (6 : Int)≠8 by decide) _,hl.none (show (6 : Int)≠2 by decide) (show (6 : Int)≠8 by decide) _,hl.none (show (6 : Int)≠2 by decide) (show (6 : Int)≠8 by decide) _⟩
 ·rw [if_neg (by omega),if_pos e] at hl
  exact ⟨hl.none (show (5 : Int)≠2 by decide) (show (5 : Int)≠8 by decide) _,hl.none (show (5 : Int)≠2 by decide) (show (5 : Int)≠8 by decide) _,hl.none (show (5 : Int)≠2 by decide) (show (5 : Int)≠8 by decide) _⟩
 ·rw [if_neg (by omega),if_neg (by omega),if_pos e] at hl
  exact ⟨hl.none (by show (4 : Int)≠2; decide) (by show (4 : Int)≠8; decide) _,hl.none (by show (4 : Int)≠2; decide) (by show (4 : Int)≠8; decide) _,hl.none (by show (4 : Int)≠2; decide) (by show (4 : Int)≠8; decide) _⟩
 ·rw [if_neg (by omega),if_neg (by omega),if_neg (by omega),if_pos e] at hl
  rw [hl.word,hl.word,hl.word]
  split <;> decide
 ·rw [if_neg (by omega),if_neg (by omega),if_neg (by omega),if_neg (by omega),if_pos e] at hl
  rw [hl.word,hl.word,hl.word]
  decide
 ·rw [if_neg (by omega),if_neg (by omega),if_neg (by omega),if_neg (by omega),if_neg (by omega),if_pos e] at hl
  exact ⟨hl.none (hnm _).1 (hnm _).2 _,hl.none (hnm _).1 (hnm _).2 _,hl.none (hnm _).1 (hnm _).2 _⟩
 ·rw [if_neg (by omega),if_neg (by omega),if_neg (by omega),if_neg (by omega),if_neg (by omega),if_neg (by omega),if_pos e] at hl
  exact ⟨hl.none (hnm _).1 (hnm _).2 _,hl.none (hnm _).1 (hnm _).2 _,hl.none (hnm _).1 (hnm _).2 _⟩
 ·rw [if_neg (by omega),if_neg (by omega),if_neg (by omega),if_neg (by omega),if_neg (by omega),if_neg (by omega),if_neg (by omega),if_pos e] at hl
  rw [hl.word,hl.word,hl.word]
  decide
section
open Lib (hid)
open Go.RowKit
theorem vJ (ks : List Nd) (k : Nat) (h : k<ks.length) : i7 (ks.drop k)=max (c8 ks[k]) (i7 (ks.drop (k + 1))):=by
 rw [List.drop_eq_getElem_cons h,i7]
theorem yE (ks : List Nd) (k : Nat) (h : ¬ k<ks.length) : i7 (ks.drop k)=0:=by
 rw [List.drop_eq_nil_of_le (by omega),i7]
theorem yB (N : Nat) : ∀ (t : Nd),SizeOf.sizeOf t<N→∀ (a : Option Addr) (cap n₀ : Nat) (w : World),t.hold n₀ w a cap→n₀≤w.heap.size→c8 t≤1000 →
 Calls Tryz.prog 130 #[.agg #[.int .i64 t.kind,.string t.text,.int .i64 t.n,.slice a t.kids.length cap,.int .i64 t.place]] w fun e w' => e=.returned (.int .i64 (c8 t))∧Below w.heap.size w w':=by
 induction N with
 | zero => intro t ht; omega
 | succ N ih =>
 intro t ht
 cases t with
 | mk kind s n ks p =>
 intro a cap n₀ w hh hn h0
 show Calls Tryz.prog 130 #[.agg #[.int .i64 kind,.string s,.int .i64 n,.slice a ks.length cap,.int .i64 p]] w _
 have hkl : ks.length≤cap∧cap≤maxLen:=⟨hh.2.2.2.2.1,hh.2.2.2.2.2.1⟩
 have hm:=hkl
 unfold maxLen at hm
 have HH:=hid hh
 have IH:=hid ih
 have HT:=hid ht
 clear hh ih ht
 have E:=hid (show c8 (.mk kind s n ks p)=i7 ks + 1 by rw [c8])
 have h9 : i7 ks≤999:=by rw [E.out] at h0; omega
 clear h0
 go_enter Tryz.func130,Tryz.ntmps130
 go_wp2
 obtain ⟨W1,hW1⟩ : ∃ W1,W1=w.alloc (.cells #[.int .i64 kind,.string s,.int .i64 n,.slice a ks.length cap,.int .i64 p] 24):=⟨_,rfl⟩
 have HB:=hid (show Below w.heap.size w W1 from hW1 ▸ c6 _ _)
 have hsz : W1.heap.size=w.heap.size + 1:=by rw [hW1]; simp
 have D3:=hid (show W1.cell? ⟨w.heap.size,3,none⟩=some (.slice a ks.length cap) from hW1 ▸ (a7N w _ _ _ _ _).2.2.2.1)
 rw [← hW1]
 clear hW1
 go_loopw [3,4] (fun x i wr => ∃ (k y : Nat),k≤ks.length∧i=.int .i64 k∧x=.int .i64 y∧y≤999∧Hid (max y (i7 (ks.drop k))=i7 ks)∧Hid (Below W1.heap.size W1 wr)) (fun _ i _ => (ks.length - (intOf i).toNat))
 case atStart => exact ⟨0,0,Nat.zero_le _,rfl,rfl,by omega,by show _=_; rw [Nat.zero_max]; rfl,Below.refl _ _⟩
 case round =>
  obtain ⟨k,y,hk,rfl,rfl,hy0,HI,HBr⟩:=hrel
  have d3:=(HBr.out.cell (p:=⟨w.heap.size,3,none⟩) (by show w.heap.size<W1.heap.size; omega)).trans D3
  have HW:=hid (HB.out.trans (HBr.out.mono HB.out.size))
  by_cases hlt : k<ks.length
  ·obtain ⟨b,off,a',cap',A⟩:=(HH.out.below (HW.out.mono hn)).kid k hlt
   obtain ⟨rfl,hb,c0,c1,c2,c3,c4,hk1⟩:=A
   have HK:=hid hk1
   clear hk1
   have S:=hid (vJ ks k hlt)
   have hd : c8 ks[k]≤999:=by
    have:=HI.out
    rw [S.out] at this
    omega
   go_wp2_with (go_at_call 130; refine (IH.out _ (iR hlt HT) a' cap' n₀ _ HK (Nat.le_trans hn HW.out.size) (by omega)).mono ?_; rintro e w' ⟨rfl,hb⟩)
   go_roundw
   case rel => exact ⟨k + 1,max y (c8 ks[k]),by omega,by go_num,by go_num,by omega,by show _=_; rw [← HI.out,S.out,Nat.max_assoc],HBr.out.trans (hb.mono HBr.out.size)⟩
   case measure => simp [intOf]; omega
  ·have S:=hid (yE ks k hlt)
   go_wp2
   go_ret
   exact ⟨uG (by rw [E.out,← HI.out,S.out]; omega),HW⟩
theorem a1h (t : Nd) (a : Option Addr) (cap n₀ : Nat) (w : World) (hh : t.hold n₀ w a cap) (hn : n₀≤w.heap.size) (hd : c8 t≤1000) :
 Calls Tryz.prog 130 #[.agg #[.int .i64 t.kind,.string t.text,.int .i64 t.n,.slice a t.kids.length cap,.int .i64 t.place]] w fun e w' => e=.returned (.int .i64 (c8 t))∧Below w.heap.size w w' :=
 yB _ t (Nat.lt_succ_self _) a cap n₀ w hh hn hd
end
section
variable {nest : Nat} {l x : List Tk} {u : Nd}
theorem n6.climb1 (h : n6 (.chain 1) (nest + 1) l x u) (h3 : isT tIf l=false) (hx : gQ x) (hn : nest + 1≤300) : n6 .expr nest l x u:=(n6.chain (lv:=0) h (hx.any (r7 0))).expr h3 hn
theorem n6.climbN (h : n6 .not (nest + 1) l x u) (h3 : isT tIf l=false) (hx : gQ x) (hn : nest + 1≤300) : n6 .expr nest l x u:=(n6.chain (lv:=1) h (hx.any (r7 1))).climb1 h3 hx hn
theorem n6.climb2 (h : n6 (.chain 2) (nest + 1) l x u) (h2 : isT fX l=false) (h3 : isT tIf l=false) (hx : gQ x) (hn : nest + 1≤300) : n6 .expr nest l x u:=(h.not h2 (hx.any (by decide))).climbN h3 hx hn
theorem n6.climb3 (h : n6 (.chain 3) (nest + 1) l x u) (h2 : isT fX l=false) (h3 : isT tIf l=false) (hx : gQ x) (hn : nest + 1≤300) : n6 .expr nest l x u:=(n6.chain (lv:=2) h (hx.any (r7 2))).climb2 h2 h3 hx hn
theorem n6.climbU (h : n6 .unary (nest + 1) l x u) (h2 : isT fX l=false) (h3 : isT tIf l=false) (hx : gQ x) (hn : nest + 1≤300) : n6 .expr nest l x u:=(n6.chain (lv:=3) h (hx.any (r7 3))).climb3 h2 h3 hx hn
end
theorem a7Y {s : List UInt8} {T l x : List Tk} (h : Sp (a3G s :: T) l x) : (∀ v,isT v l=(s == v))∧Sp T (b9 l) x∧(hd l).text=s:=by
 unfold a3G at h
 split at h
 ·exact ⟨h.word,h.wordStep,h.head.2.1⟩
 ·exact ⟨h.sign,h.signStep,h.head.2.1⟩
theorem dY {lv n : Nat} {l y x : List Tk} {k w u : Nd} {s : List UInt8} (hk : n6 (D5 lv) n l y k) (hy : U0 (r4 lv) y=true) (hs : (hd y).text=s) (hw : n6 (D5 lv) n (b9 y) x w) (hx : U0 (r4 lv) x=false)
 (hu : u.kind=13∧u.text.data.toList=s∧u.n=0∧u.kids=[k,w]) (hd : c8 u≤100) : n6 (.chain lv) n l x u:=by
 obtain ⟨tk,rk,sk⟩:=hk
 obtain ⟨tw,rw',sw⟩:=hw
 have hsm : o4 false (mkN 13 (Proofs.YtibiccacafjjfaaGreatDoor.hd y).text 0 [tk,tw] (Proofs.YtibiccacafjjfaaGreatDoor.hd y).pos)=o4 false u:=I6 hu.1 (hu.2.1.trans hs.symm) hu.2.2.1 (by rw [hu.2.2.2,List.map_cons,List.map_cons,sk,sw]; rfl)
 refine ⟨_,?_,hsm⟩
 rw [t7]
 show (rd (D5 lv) n l).then _=_
 rw [rk,s7,t7]
 show (if _ then _ else _)=_
 rw [if_pos hy,rw',s7,cS (by have:=bF hsm; omega),s7,t7]
 show (if _ then _ else _)=_
 rw [hx,if_neg (by decide)]
theorem lJ {n : Nat} {l y x : List Tk} {k w u : Nd} {s : List UInt8} (hl : isT fX l=false) (hk : n6 (.chain 2) n l y k) (hy : U0 jA y=true) (hs : (hd y).text=s) (hw : n6 (.chain 2) n (b9 y) x w)
 (hu : u.kind=13∧u.text.data.toList=s∧u.n=0∧u.kids=[k,w]) (hd : c8 u≤100) : n6 .not n l x u:=by
 obtain ⟨tk,rk,sk⟩:=hk
 obtain ⟨tw,rw',sw⟩:=hw
 have hsm : o4 false (mkN 13 (Proofs.YtibiccacafjjfaaGreatDoor.hd y).text 0 [tk,tw] (Proofs.YtibiccacafjjfaaGreatDoor.hd y).pos)=o4 false u:=I6 hu.1 (hu.2.1.trans hs.symm) hu.2.2.1 (by rw [hu.2.2.2,List.map_cons,List.map_cons,sk,sw]; rfl)
 refine ⟨_,?_,hsm⟩
 rw [t7]
 show (if _ then _ else _)=_
 rw [hl,if_neg (by decide),rk,s7,if_pos hy,rw',s7,cS (by have:=bF hsm; omega)]
theorem rC {s : List UInt8} (h : dL s=true) : s=[111,114]∨s=[97,110,100]∨s=[60]∨s=[60,61]∨s=[61]∨s=[43]∨s=[45]∨s=[42]∨s=[47]:=by
 have:=List.contains_iff_mem.1 h
 simpa [dS] using this
theorem a1k (N : Nat) : ∀ (u : Nd) (d : Int),SizeOf.sizeOf u<N→e7 u d=true→1≤d→RE u∧RA u:=by
 induction N with
 | zero => intro u d h; omega
 | succ N ih =>
 intro u d hsz h hd0
 have hkk : ∀ k∈u.kids,SizeOf.sizeOf k<N:=fun k hk => zH hsz hk
 have hdep:=eU u d h
 have hkr : ∀ k∈u.kids,e7 k (d + 1)=true:=by
  have h4:=(F5 h).2.2.2
  intro k hk
  obtain ⟨i,hi,rfl⟩:=List.getElem_of_mem hk
  rcases hc : e7 u.kids[i] (d + 1) with _ | _
  ·rw [nM hi hc] at h4; cases h4
  ·rfl
 have ihk : ∀ k∈u.kids,RE k∧RA k:=fun k hk => ih k (d + 1) (hkk k hk) (hkr k hk) (by omega)
 have hA : RA u:=a0t h hd0 fun k hk => (ihk k hk).1
 refine ⟨?_,hA⟩
 intro nest l x hl hx hn
 have hxo:=hx o7 (by decide)
 have hdk:=pD u
 by_cases hw : J0 u.kind=true
 case neg =>
  have hp : Sp (cY u.kind (o0 u)) l x:=by unfold cY; rw [if_neg hw]; exact hl
  obtain ⟨h1,h2,h3⟩:=fO h hp
  exact (hA hw (nest + 1) l x hl hxo (by omega)).climb h1 h2 h3 hx (by omega)
 have hk3 : u.kind=12∨u.kind=13∨u.kind=14:=by
  unfold J0 at hw
  simpa [or_assoc] using hw
 rcases hk3 with e | e | e
 ·obtain ⟨s,k,p,rfl,hs,hrk⟩:=tF h e
  have hke:=ihk k (List.mem_cons_self ..)
  have d1:=L8 [k] k (List.mem_cons_self ..)
  replace hdk : c8 (.mk 12 s 0 [k] p)=i7 [k] + 1:=hdk
  have hl' : Sp ((if s.data.toList=[45] then tS cP else tW fX) :: cY k.kind (o0 k)) l x:=by
   rw [o0,eJ] at hl; exact hl
  rcases hs with hs | hs
  ·rw [if_pos hs] at hl'
   have hp:=hl'.signStep
   obtain ⟨h1,h2,h3⟩:=fO hrk hp
   obtain ⟨t,rt,st⟩:=(gF hke.1 hke.2 (nest:=nest + 1 + 1) hp hxo (by omega)).unary h1
   have hsm : o4 false (mkN 12 (hd l).text 0 [t] (hd l).pos)=o4 false (.mk 12 s 0 [k] p):=I6 rfl (by rw [hl'.head.2.1]; exact hs) rfl (by rw [List.map_cons,st]; rfl)
   have hR : n6 .unary (nest + 1) l x (.mk 12 s 0 [k] p):=by
    refine ⟨_,?_,hsm⟩
    rw [t7]
    show (if _ then _ else _)=_
    rw [if_pos (by rw [hl'.sign]; decide),oA (by omega),rt,s7]
    exact cS (by have:=bF hsm; omega)
   exact hR.climbU (by rw [hl'.sign]; decide) (by rw [hl'.sign]; decide) hx (by omega)
  ·rw [if_neg (by rw [hs]; decide)] at hl'
   have hp:=hl'.wordStep
   obtain ⟨h1,h2,h3⟩:=fO hrk hp
   obtain ⟨t,rt,st⟩:=n6.not (n6.chain (lv:=2) (n6.chain (lv:=3) ((gF hke.1 hke.2 (nest:=nest + 1 + 1) hp hxo (by omega)).unary h1) (hx.any (r7 3))) (hx.any (r7 2))) h2 (hx.any (by decide))
   have hsm : o4 false (mkN 12 (hd l).text 0 [t] (hd l).pos)=o4 false (.mk 12 s 0 [k] p):=I6 rfl (by rw [hl'.head.2.1]; exact hs) rfl (by rw [List.map_cons,st]; rfl)
   have hR : n6 .not (nest + 1) l x (.mk 12 s 0 [k] p):=by
    refine ⟨_,?_,hsm⟩
    rw [t7]
    show (if _ then _ else _)=_
    rw [if_pos (by rw [hl'.word]; decide),oA (by omega),rt,s7]
    exact cS (by have:=bF hsm; omega)
   exact hR.climbN (by rw [hl'.word]; decide) hx (by omega)
 ·obtain ⟨s,k,w,p,rfl,hs,hrk,hrw⟩:=tC h e
  have hke:=ihk k (by simp [Nd.kids])
  have hwe:=ihk w (by simp [Nd.kids])
  have d1:=L8 [k,w] k (by simp)
  have d2:=L8 [k,w] w (by simp)
  replace hdk : c8 (.mk 13 s 0 [k,w] p)=i7 [k,w] + 1:=hdk
  have hl' : Sp (cY k.kind (o0 k) ++ a3G s.data.toList :: cY w.kind (o0 w)) l x:=by
   rw [o0,eJ] at hl; exact hl
  obtain ⟨y,g1,g2⟩:=hl'.app
  obtain ⟨hy,g3,hyt⟩:=a7Y g2
  obtain ⟨h1,h2,h3⟩:=fO hrk g1
  obtain ⟨i1,i2,i3⟩:=fO hrw g3
  have hyo : isT o7 y=false:=by
   rw [hy,beq_eq_false_iff_ne]
   rintro e
   rw [e] at hs; exact absurd hs (by decide)
  have ra:=(gF hke.1 hke.2 (nest:=nest + 1) g1 hyo (by omega)).unary h1
  have rb:=(gF hwe.1 hwe.2 (nest:=nest + 1) g3 hxo (by omega)).unary i1
  have hu : (Nd.mk 13 s 0 [k,w] p).kind=13∧(Nd.mk 13 s 0 [k,w] p).text.data.toList=s.data.toList∧(Nd.mk 13 s 0 [k,w] p).n=0∧(Nd.mk 13 s 0 [k,w] p).kids=[k,w]:=⟨rfl,rfl,rfl,rfl⟩
  have hd100 : c8 (.mk 13 s 0 [k,w] p)≤100:=by omega
  have an : ∀ {ws : List (List UInt8)},(ws.any fun v => s.data.toList == v)=true→U0 ws y=true:=fun {ws} h => by
   unfold U0
   rw [show (fun w => isT w y)=fun v => s.data.toList == v from funext hy]
   exact h
  have no : ∀ {ws : List (List UInt8)},(ws.any fun v => s.data.toList == v)=false→U0 ws y=false:=fun {ws} h => by
   unfold U0
   rw [show (fun w => isT w y)=fun v => s.data.toList == v from funext hy]
   exact h
  have a3 : U0 (r4 3) y=false→n6 (.chain 3) (nest + 1) l y k:=fun g => n6.chain (lv:=3) ra g
  have a2 : U0 (r4 3) y=false→U0 (r4 2) y=false→n6 (.chain 2) (nest + 1) l y k:=fun g g' => n6.chain (lv:=2) (a3 g) g'
  have b3:=n6.chain (lv:=3) rb (hx.any (r7 3))
  have b2:=n6.chain (lv:=2) b3 (hx.any (r7 2))
  have bN:=b2.not i2 (hx.any (by decide))
  have b1:=n6.chain (lv:=1) bN (hx.any (r7 1))
  rcases rC hs with e | e | e | e | e | e | e | e | e
  ·have aN:=(a2 (no (by rw [e]; decide)) (no (by rw [e]; decide))).not h2 (no (by rw [e]; decide))
   have a1:=n6.chain (lv:=1) aN (no (by rw [e]; decide))
   exact (dY (lv:=0) a1 (an (by rw [e]; decide)) hyt b1 (hx.any (r7 0)) hu hd100).expr h3 (by omega)
  ·have aN:=(a2 (no (by rw [e]; decide)) (no (by rw [e]; decide))).not h2 (no (by rw [e]; decide))
   exact (dY (lv:=1) aN (an (by rw [e]; decide)) hyt bN (hx.any (r7 1)) hu hd100).climb1 h3 hx (by omega)
  ·exact (lJ h2 (a2 (no (by rw [e]; decide)) (no (by rw [e]; decide))) (an (by rw [e]; decide)) hyt b2 hu hd100).climbN h3 hx (by omega)
  ·exact (lJ h2 (a2 (no (by rw [e]; decide)) (no (by rw [e]; decide))) (an (by rw [e]; decide)) hyt b2 hu hd100).climbN h3 hx (by omega)
  ·exact (lJ h2 (a2 (no (by rw [e]; decide)) (no (by rw [e]; decide))) (an (by rw [e]; decide)) hyt b2 hu hd100).climbN h3 hx (by omega)
  ·exact (dY (lv:=2) (a3 (no (by rw [e]; decide))) (an (by rw [e]; decide)) hyt b3 (hx.any (r7 2)) hu hd100).climb2 h2 h3 hx (by omega)
  ·exact (dY (lv:=2) (a3 (no (by rw [e]; decide))) (an (by rw [e]; decide)) hyt b3 (hx.any (r7 2)) hu hd100).climb2 h2 h3 hx (by omega)
  ·exact (dY (lv:=3) ra (an (by rw [e]; decide)) hyt rb (hx.any (r7 3)) hu hd100).climb3 h2 h3 hx (by omega)
  ·exact (dY (lv:=3) ra (an (by rw [e]; decide)) hyt rb (hx.any (r7 3)) hu hd100).climb3 h2 h3 hx (by omega)
 ·obtain ⟨s,k,v,w,p,rfl,hs,hrk,hrv,hrw⟩:=zE h e
  have hke:=ihk k (by simp [Nd.kids])
  have hve:=ihk v (by simp [Nd.kids])
  have hwe:=ihk w (by simp [Nd.kids])
  have d1:=L8 [k,v,w] k (by simp)
  have d2:=L8 [k,v,w] v (by simp)
  have d3:=L8 [k,v,w] w (by simp)
  replace hdk : c8 (.mk 14 s 0 [k,v,w] p)=i7 [k,v,w] + 1:=hdk
  have hl' : Sp (tW tIf :: (o0 k ++ tW fF :: (o0 v ++ tW eY :: o0 w))) l x:=by
   rw [o0,eJ] at hl; exact hl
  obtain ⟨y,g1,g2⟩:=hl'.wordStep.app
  obtain ⟨z,g3,g4⟩:=g2.wordStep.app
  obtain ⟨ta,ra,sa⟩:=hke.1 (nest + 1) _ _ g1 (pM (by decide) g2) (by omega)
  obtain ⟨tb,rb,sb⟩:=hve.1 (nest + 1) _ _ g3 (pM (by decide) g4) (by omega)
  obtain ⟨tc,rc,sc⟩:=hwe.1 (nest + 1) _ _ g4.wordStep hx (by omega)
  have hsm : o4 false (mkN 14 [] 0 [ta,tb,tc] (hd l).pos)=o4 false (.mk 14 s 0 [k,v,w] p):=I6 rfl hs rfl (by rw [List.map_cons,List.map_cons,List.map_cons,sa,sb,sc]; rfl)
  refine ⟨_,?_,hsm⟩
  rw [t7]
  show S0 nest l _=_
  rw [oA (by omega),if_pos (by rw [hl'.word]; decide),ra,s7,iN g2,rb,s7,iN g4,rc,s7]
  exact cS (by have:=bF hsm; omega)
theorem a0j {u : Nd} (h : e7 u 1=true) {l x : List Tk} (hl : Sp (o0 u) l x) (hx : gQ x) : n6 .expr 0 l x u :=
 (a1k _ u 1 (Nat.lt_succ_self _) h (by decide)).1 0 l x hl hx (by have:=eU u 1 h; omega)
def brk (r : List UInt8) : Prop:=∀ c l,r=c :: l→jH c=false
theorem o3 {c : UInt8} (h : jH c=false) (r : List UInt8) : brk (c :: r):=fun _ _ e => (List.cons.inj e).1 ▸ h
def Sc (bs : List UInt8) (T : List Tk) (rest : List UInt8) : Prop:=∀ (pos : Int) (k : Nat) (l : List Tk),r9 (bs ++ rest) pos k 0=.ok l→∃ ts l',l=ts ++ l'∧ts.map (a7d false)=T∧∃ pos' k',r9 rest pos' k' 0=.ok l'
theorem Sc.nil (r : List UInt8) : Sc [] [] r:=fun pos k l h => ⟨[],l,rfl,rfl,pos,k,h⟩
theorem Sc.app {a b r : List UInt8} {T U : List Tk} (h : Sc a T (b ++ r)) (h' : Sc b U r) : Sc (a ++ b) (T ++ U) r:=by
 intro pos k l hl
 rw [List.append_assoc] at hl
 obtain ⟨ts,l',rfl,e,p,k',h2⟩:=h pos k l hl
 obtain ⟨us,l'',rfl,e',p',k'',h3⟩:=h' p k' l' h2
 exact ⟨ts ++ us,l'',by rw [List.append_assoc],by rw [List.map_append,e,e'],p',k'',h3⟩
theorem Sc.cons {c : UInt8} {b r : List UInt8} {T U : List Tk} (h : Sc [c] T (b ++ r)) (h' : Sc b U r) : Sc (c :: b) (T ++ U) r:=Sc.app (a:=[c]) h h'
theorem Sc.blank {c : UInt8} (h : c.toNat≤32) (r : List UInt8) : Sc [c] [] r:=fun pos k l hl => ⟨[],l,rfl,rfl,pos + 1,k,by rw [← eC h]; exact hl⟩
theorem Sc.skip {c : UInt8} {b r : List UInt8} {T : List Tk} (hc : c.toNat≤32) (h : Sc b T r) : Sc (c :: b) T r:=Sc.cons (T:=[]) (Sc.blank hc _) h
theorem Sc.tok {c : UInt8} {r rest : List UInt8} {T : Tk} (hc : ¬ c.toNat≤32) (hc' : c≠35) (ht : ∀ pos t n,aB c (r ++ rest) pos=.ok (t,n)→a7d false t=T∧n=r.length + 1) : Sc (c :: r) [T] rest:=by
 intro pos k l hl
 rw [List.cons_append] at hl
 cases hx : aB c (r ++ rest) pos with
 | error e => rw [iM hc hc' hx] at hl; cases hl
 | ok p =>
   obtain ⟨t,n⟩:=p
   obtain ⟨e1,rfl⟩:=ht pos t n hx
   by_cases hk : k=8192
   ·rw [fD hc hc' hx hk] at hl; cases hl
   ·rw [iJ hc hc' hx hk] at hl
    have e : (c :: (r ++ rest)).drop (r.length + 1)=rest:=by simp
    rw [e] at hl
    cases hs : r9 rest (pos + ((r.length + 1 : Nat) : Int)) (k + 1) 0 with
    | error e => rw [hs] at hl; cases hl
    | ok l' =>
      rw [hs] at hl
      have : l=[t] ++ l':=(Except.ok.inj hl).symm
      subst this
      exact ⟨[t],l',rfl,by rw [List.map_singleton,e1],_,_,hs⟩
theorem a5C : ∀ c∈bS,(smC c=false∧dgC c=false)∧(c≠34∧grC c=false)∧¬ c.toNat≤32∧c≠35∧bS.contains c=true:=by decide
theorem O6 {c : UInt8} (hc : c∈bS) {rest : List UInt8} (h : c=60→rest.headD 0≠61) : Sc [c] [tS [c]] rest:=by
 obtain ⟨⟨h1,h2⟩,⟨h3,h4⟩,h5,h6,h7⟩:=a5C c hc
 refine Sc.tok h5 h6 fun pos t n ht => ?_
 rw [List.nil_append] at ht
 unfold aB iA at ht
 rw [if_neg (by rw [h1]; decide),if_neg (by rw [h2]; decide),if_neg h3,if_neg (by rw [h4]; decide),if_neg (fun e => h e.1 e.2),if_pos h7] at ht
 cases ht
 exact ⟨rfl,rfl⟩
theorem a3Y (rest : List UInt8) : Sc [60,61] [tS [60,61]] rest:=by
 refine Sc.tok (by decide) (by decide) fun pos t n ht => ?_
 unfold aB iA at ht
 rw [if_neg (by decide),if_neg (by decide),if_neg (by decide),if_neg (by decide),if_pos ⟨rfl,rfl⟩] at ht
 cases ht
 exact ⟨rfl,rfl⟩
theorem gD {l : List UInt8} (h : p8 l=true) : ∃ c r,l=c :: r∧smC c=true∧r.all inC=true∧l.length≤24:=by
 have hn:=h
 rw [← kX] at hn
 unfold gS at hn
 simp only [Bool.and_eq_true,decide_eq_true_eq] at hn
 cases l with
 | nil => exact absurd hn.1.1 (by decide)
 | cons c r =>
   have hs : (if smC c=true then 1 + (r.takeWhile inC).length else 0)=r.length + 1:=hn.2
   by_cases hc : smC c=true
   ·rw [if_pos hc] at hs
    exact ⟨c,r,rfl,hc,(fA inC r).1 (by omega),hn.1.2⟩
   ·rw [if_neg hc] at hs; omega
theorem fG (c : UInt8) (h : jH c=false) : inC c=false∧c≠46∧dgC c=false∧grC c=false:=by
 have:=bV (p:=fun c => jH c || (!inC c && (c != 46) && !dgC c && !grC c)) (by decide +kernel) c
 rw [h] at this
 simpa [and_assoc] using this
theorem Y4 {p : UInt8→Bool} {a r : List UInt8} (ha : a.all p=true) (hr : ∀ c l,r=c :: l→p c=false) : (a ++ r).takeWhile p=a:=by
 induction a with
 | nil =>
   cases r with
   | nil => rfl
   | cons c l => rw [List.nil_append,List.takeWhile_cons,if_neg (by rw [hr c l rfl]; decide)]
 | cons c a ih =>
   rw [List.all_cons,Bool.and_eq_true] at ha
   rw [List.cons_append,List.takeWhile_cons,if_pos ha.1,ih ha.2]
theorem rE {s r : List UInt8} (h : p8 s=true) (hr : ∀ c l,r=c :: l→inC c=false) : m5 (s ++ r)=s.length:=by
 obtain ⟨c,t,rfl,hc,ht,-⟩:=gD h
 show (if smC c then 1 + ((t ++ r).takeWhile inC).length else 0)=t.length + 1
 rw [if_pos hc,Y4 ht hr,Nat.add_comm]
theorem a48 {r : List UInt8} (h : brk r) : ∀ c l,r=c :: l→inC c=false:=fun c l e => (fG c (h c l e)).1
theorem zC {r : List UInt8} (h : brk r) : r.headD 0≠46:=by
 cases r with
 | nil => decide
 | cons c l => exact (fG c (h c l rfl)).2.1
theorem dE {a r : List UInt8} : (a ++ r).drop a.length=r:=List.drop_left
theorem fU (c : UInt8) (h : smC c=true) : ¬ c.toNat≤32∧c≠35:=by
 have:=bV (p:=fun c => !smC c || (!decide (c.toNat≤32) && (c != 35))) (by decide +kernel) c
 rw [h] at this
 simpa using this
theorem vF {s rest : List UInt8} (h : p8 s=true) (hr : brk rest) : Sc s [⟨if F0 s=true then 2 else 1,s,0,0⟩] rest:=by
 have hsp:=rE h (a48 hr)
 have h46:=zC hr
 obtain ⟨c,t,rfl,hc,ht,hl⟩:=gD h
 refine Sc.tok (fU c hc).1 (fU c hc).2 fun pos u n hu => ?_
 unfold aB at hu
 rw [if_pos hc] at hu
 unfold Y5 at hu
 rw [← List.cons_append,hsp] at hu
 simp only [dE,List.take_left'] at hu
 rw [if_neg h46,if_neg (by omega)] at hu
 cases hu
 exact ⟨rfl,rfl⟩
theorem cV {s rest : List UInt8} (h : p8 s=true) (hw : F0 s=true) (hr : brk rest) : Sc s [tW s] rest:=by
 have:=vF h hr
 rw [if_pos hw] at this
 exact this
theorem kE {s : List UInt8} (h : p7 s=true) : ¬ F0 s=true:=by
 unfold p7 at h
 rw [Bool.and_eq_true] at h
 simpa using h.2
theorem a16 {s rest : List UInt8} (h : eH s=true) (hr : brk rest) : Sc s [eD s] rest:=by
 unfold eD
 unfold eH at h
 rw [Bool.and_eq_true] at h
 cases hc : (Lib.cut s [46]).2.2 with
 | false =>
   have h1:=h.1
   rw [a0p hc] at h1
   have:=vF (fN h1) hr
   rw [if_neg (kE h1)] at this
   rw [if_neg (by decide)]
   exact this
 | true =>
   rw [hc] at h
   have h2 : p7 (Lib.cut s [46]).2.1=true:=by simpa using h.2
   have h1:=h.1
   have e:=a1X hc
   rw [if_pos rfl]
   generalize (Lib.cut s [46]).1=x at *
   generalize (Lib.cut s [46]).2.1=y at *
   subst e
   have s1:=rE (fN h1) (r:=46 :: (y ++ rest)) (fun c l e => by rw [← (List.cons.inj e).1]; rfl)
   have s2:=rE (fN h2) (a48 hr)
   have n1:=kE h1
   have n2:=kE h2
   obtain ⟨c,t,rfl,hc',ht,hl⟩:=gD (fN h1)
   refine Sc.tok (r:=t ++ 46 :: y) (fU c hc').1 (fU c hc').2 fun pos u n hu => ?_
   unfold aB at hu
   rw [if_pos hc'] at hu
   unfold Y5 at hu
   rw [show c :: (t ++ 46 :: y ++ rest)=(c :: t) ++ 46 :: (y ++ rest) by simp,s1] at hu
   have hdd : ((c :: t) ++ 46 :: (y ++ rest)).drop ((c :: t).length + 1)=y ++ rest:=by rw [← List.drop_drop,dE]; rfl
   simp only [hdd,dE,List.take_left' rfl] at hu
   rw [if_pos (show (46 :: (y ++ rest)).headD 0=(46 : UInt8) from rfl),s2] at hu
   simp only [List.take_left' rfl] at hu
   split at hu
   ·cases hu
   ·cases hu
    refine ⟨rfl,?_⟩
    simp only [List.length_append,List.length_cons]
    omega
theorem a2c (c : UInt8) (h : V8 c=true) : lG c=true:=by
 have:=bV (p:=fun c => !V8 c || lG c) (by decide +kernel) c
 rw [h] at this
 simpa using this
theorem a3Z {s : List UInt8} (h : p8 s=true) (rest : List UInt8) : Sc (34 :: (s ++ [34])) [⟨7,s,0,0⟩] rest:=by
 refine Sc.tok (by decide) (by decide) fun pos t n ht => ?_
 have hq : ((s ++ [34]) ++ rest).takeWhile lG=s:=by
  rw [List.append_assoc]
  exact Y4 (List.all_eq_true.2 fun c hc => a2c c (gI h c hc)) (fun c l e => by rw [← (List.cons.inj e).1]; rfl)
 unfold aB at ht
 rw [if_neg (by decide),if_neg (by decide),if_pos rfl] at ht
 unfold Y1 at ht
 have hr : dH ((s ++ [34]) ++ rest)=s.length:=by unfold dH; rw [hq]
 rw [hr,List.append_assoc] at ht
 simp only [dE,List.take_left' rfl] at ht
 rw [if_neg (fun hh => hh rfl),if_pos h] at ht
 cases ht
 exact ⟨rfl,by simp⟩
theorem wU (c : UInt8) : eP c=grC c:=a4c c
theorem a0m (c : UInt8) (h : eP c=true) : ¬ c.toNat≤32∧c≠35∧smC c=false∧dgC c=false∧c≠34∧grC c=true:=by
 have:=bV (p:=fun c => !eP c || (!decide (c.toNat≤32) && (c != 35) && !smC c && !dgC c && (c != 34) && grC c)) (by decide +kernel) c
 rw [h] at this
 simpa [and_assoc] using this
theorem a67 {s rest : List UInt8} (h : kG s=true) (hr : brk rest) : Sc s [⟨4,s,0,0⟩] rest:=by
 unfold kG at h
 simp only [Bool.and_eq_true,decide_eq_true_eq] at h
 obtain ⟨h3,hg⟩:=h
 cases s with
 | nil => exact absurd h3 (by decide)
 | cons c s =>
   have hc:=a0m c (List.all_eq_true.1 hg c (List.mem_cons_self ..))
   have hgr : (c :: s).all grC=true:=by rw [show grC=eP from funext fun c => (wU c).symm]; exact hg
   have hq : ((c :: s) ++ rest).takeWhile grC=c :: s:=Y4 hgr (fun c l e => (fG c (hr c l e)).2.2.2)
   refine Sc.tok hc.1 hc.2.1 fun pos t n ht => ?_
   unfold aB at ht
   rw [if_neg (by rw [hc.2.2.1]; decide),if_neg (by rw [hc.2.2.2.1]; decide),if_neg hc.2.2.2.2.1,if_pos hc.2.2.2.2.2] at ht
   unfold yF vP at ht
   rw [← List.cons_append,hq,if_pos h3] at ht
   cases ht
   refine ⟨?_,by rw [← h3]; rfl⟩
   show (⟨4,((c :: s) ++ rest).take 3,0,0⟩ : Tk)=_
   rw [← h3,List.take_left' rfl]
theorem a4W : ∀ (l : List UInt8) (a : Int),l.all dgC=true→l.foldl (fun n c => 10 * n + ((c.toNat : Int) - 48)) a=a * 10 ^ l.length + vR l
 | [],a,_ => by simp [vR]
 | c :: l,a,h => by
   rw [List.all_cons,Bool.and_eq_true] at h
   rw [List.foldl_cons,a4W l _ h.2,vR,List.length_cons,Int.pow_succ]
   have:=fL h.1
   have e1 : (((c.toNat - 48) * 10 ^ l.length + vR l : Nat) : Int)=((c.toNat : Int) - 48) * 10 ^ l.length + vR l:=by
    rw [Int.natCast_add,Int.natCast_mul,Int.natCast_pow,Int.natCast_sub (by omega)]; rfl
   rw [e1,Int.add_mul,Int.mul_comm 10 a,Int.mul_assoc,Int.mul_comm 10,Int.add_assoc]
theorem a0R : ∀ (a b : List UInt8),vR (a ++ b)=vR a * 10 ^ b.length + vR b
 | [],b => by simp [vR]
 | c :: a,b => by
   rw [List.cons_append,vR,a0R a b,vR,List.length_append,Nat.pow_add,Nat.add_mul,Nat.mul_assoc,Nat.add_assoc]
theorem a6d {k : Nat} (hk : k<10 ^ 20) : vR (gO k)=k:=by
 unfold gO
 rw [a5Q 20 _ _ (by omega)]
 show k / 10 * 10 ^ 1 + ((dig k).toNat - 48) * 10 ^ 0 + 0=k
 rw [oE]
 omega
theorem a36 : ∀ (k n : Nat),vR (aC k n [])=n % 10 ^ k
 | 0,n => by rw [aC,vR]; simp [Nat.mod_one]
 | k + 1,n => by
   rw [aC,iG k _ [dig n],a0R,a36 k]
   show n / 10 % 10 ^ k * 10 ^ 1 + ((dig n).toNat - 48) * 10 ^ 0 + 0=_
   rw [oE,show (10 : Nat) ^ (k + 1)=10 * 10 ^ k by rw [Nat.pow_succ,Nat.mul_comm],Nat.mod_mul]
   omega
theorem a3C {v : Int} {n : Nat} (hn : n<10 ^ 20) (h : V4 (U9 n)=some v) : v=n:=by
 have e : U9 n=gO (n / 1000000) ++ iB n:=rfl
 have hw : (U9 n).takeWhile dgC=gO (n / 1000000):=by
  rw [e]
  exact Y4 (List.all_eq_true.2 (oD _)) (rA n)
 unfold V4 at h
 rw [hw] at h
 have hdr : (U9 n).drop (gO (n / 1000000)).length=iB n:=by rw [e,dE]
 simp only [hdr] at h
 split at h
 ·have h:=Option.some.inj h
  rw [← h]
  obtain ⟨k,hk⟩:=sZ (aC 6 n [])
  have hlen:=congrArg List.length hk
  rw [dD,List.length_append,List.length_replicate] at hlen
  have ht : (iB n).tail=cG (aC 6 n []):=by
   unfold iB
   split
   ·rename_i c; rw [c]; rfl
   ·rfl
  rw [ht,show 6 - (cG (aC 6 n [])).length=k by have : ([] : List UInt8).length=0:=rfl; omega,List.append_assoc,← hk]
  unfold Cal.val
  rw [a4W _ _ (List.all_eq_true.2 fun c hc => by
   rcases List.mem_append.1 hc with hc | hc
   ·exact oD _ c hc
   ·exact oC 6 _ c hc),a0R,a6d (by omega),a36,dD]
  show (0 : Int) * _ + ((n / 1000000 * 1000000 + n % 1000000 : Nat) : Int)=n
  omega
 ·cases h
theorem a4f {a r : List UInt8} (h : a≠[]) : (a ++ r).headD 0=a.headD 0:=by
 cases a with
 | nil => exact absurd rfl h
 | cons c a => rfl
theorem a2y (n : Nat) {rest : List UInt8} (hr : brk rest) : cC (U9 n ++ rest)=(U9 n).length:=by
 have e : U9 n=gO (n / 1000000) ++ iB n:=rfl
 have hd : ∀ r,(∀ c l,r=c :: l→dgC c=false)→aJ (gO (n / 1000000) ++ r)=(gO (n / 1000000)).length:=fun r h => by
  unfold aJ
  rw [Y4 (List.all_eq_true.2 (oD _)) h]
 have hs : ∀ c l,iB n ++ rest=c :: l→dgC c=false:=fun c l h => by
  cases ht : iB n with
  | nil => rw [ht] at h; exact (fG c (hr c l h)).2.2.1
  | cons a b =>
    rw [ht] at h
    rw [← (List.cons.inj h).1]
    exact rA n a b ht
 unfold cC
 rw [e,List.append_assoc,hd _ hs,dE]
 cases ht : iB n with
 | nil =>
   rw [List.nil_append,if_neg (fun h => zC hr h.1),List.append_nil]
 | cons a b =>
   have hab : a=46∧b=cG (aC 6 n [])∧b≠[]:=by
    unfold iB at ht
    split at ht
    ·cases ht
    ·rename_i hne
     obtain ⟨rfl,rfl⟩:=List.cons.inj ht
     exact ⟨rfl,rfl,hne⟩
   obtain ⟨rfl,hb,hne⟩:=hab
   have hbd : b.all dgC=true:=List.all_eq_true.2 fun c hc => oC 6 n c (uO _ c (hb ▸ hc))
   have hdd : (gO (n / 1000000) ++ (46 :: b ++ rest)).drop ((gO (n / 1000000)).length + 1)=b ++ rest:=by
    rw [← List.drop_drop,dE]; rfl
   have hbh : dgC ((b ++ rest).headD 0)=true:=by
    rw [a4f hne]
    cases b with
    | nil => exact absurd rfl hne
    | cons c b => exact List.all_eq_true.1 hbd c (List.mem_cons_self ..)
   rw [hdd,if_pos ⟨rfl,hbh⟩]
   unfold aJ
   rw [Y4 hbd (fun c l e => (fG c (hr c l e)).2.2.1),List.length_append,List.length_cons]
   omega
theorem a6t {n : Nat} {rest : List UInt8} (h : (45 : UInt8) ∉ U9 n) (hr : brk rest) : r8 (U9 n ++ rest)=false:=by
 rw [Bool.eq_false_iff]
 intro hd
 unfold r8 at hd
 simp only [Bool.and_eq_true,decide_eq_true_eq] at hd
 obtain ⟨h10,hf,-⟩:=hd
 have hl : ((U9 n ++ rest).take 10).length=10:=by rw [List.length_take]; omega
 have at' : ∀ j (hj : j<10),Cal.fits j ((U9 n ++ rest)[j]'(by omega))=true:=fun j hj => by
  have:=hf j (by omega)
  rw [List.getElem_take] at this
  exact this
 rcases Nat.lt_or_ge 4 (U9 n).length with g | g
 ·have h4:=at' 4 (by omega)
  rw [Cal.fits_dash (.inl rfl),decide_eq_true_eq] at h4
  rw [List.getElem_append_left g] at h4
  have : (U9 n)[4]=45:=UInt8.toNat_inj.1 (Int.ofNat.inj h4)
  exact h (this ▸ List.getElem_mem g)
 ·have hm:=at' (U9 n).length (by omega)
  rw [List.getElem_append_right (Nat.le_refl _)] at hm
  simp only [Nat.sub_self] at hm
  cases hrest : rest with
  | nil => rw [hrest,List.append_nil] at h10; omega
  | cons c l =>
    have hw:=hr c l hrest
    subst hrest
    replace hm : Cal.fits (U9 n).length c=true:=hm
    rcases Nat.lt_or_ge (U9 n).length 4 with g' | g'
    ·rw [Cal.fits_dig (by omega) (by omega)] at hm
     have:=vZ c (qB c hm)
     rw [hw] at this; cases this
    ·rw [Cal.fits_dash (.inl (by omega)),decide_eq_true_eq] at hm
     have : c=45:=UInt8.toNat_inj.1 (Int.ofNat.inj hm)
     subst this
     cases hw
theorem iW (c : UInt8) (h : dgC c=true) : ¬ c.toNat≤32∧c≠35∧smC c=false:=by
 have:=bV (p:=fun c => !dgC c || (!decide (c.toNat≤32) && (c != 35) && !smC c)) (by decide +kernel) c
 rw [h] at this
 simpa [and_assoc] using this
theorem a7t {n : Int} {rest : List UInt8} (h : 0≤n) (h' : n≤1000000000000000) (hr : brk rest) : Sc (aS n) [⟨6,[],n,0⟩] rest:=by
 obtain ⟨hd,hne,hw,h45⟩:=a3d h h'
 rw [uU h h'] at hd hne hw h45 ⊢
 have hR:=a2y n.natAbs hr
 have hD:=a6t h45 hr
 have hv:=a3C (n:=n.natAbs) (v:=(V4 (U9 n.natAbs)).getD 0) (by omega)
 generalize U9 n.natAbs=s at *
 cases s with
 | nil => exact absurd rfl hne
 | cons c s =>
   replace hd : dgC c=true:=hd
   refine Sc.tok (iW c hd).1 (iW c hd).2.1 fun pos t k ht => ?_
   unfold aB at ht
   rw [if_neg (by rw [(iW c hd).2.2]; decide),if_pos hd] at ht
   unfold aP at ht
   rw [← List.cons_append,hD,if_neg (by decide),hR,List.take_left' rfl] at ht
   have hp : ∀ v,fM (c :: s)=some v→v=n:=fun v hv' => by
    rw [kJ (show (c :: s).headD 0≠45 from a60 hd)] at hv'
    cases hu : V4 (c :: s) with
    | none => rw [hu] at hv'; cases hv'
    | some u =>
      rw [hu] at hv' hv
      have hun:=hv rfl
      replace hun : u=(n.natAbs : Int):=hun
      replace hv' : (if 1000000000000000<u then none else some u)=some v:=hv'
      by_cases hu' : 1000000000000000<u
      ·rw [if_pos hu'] at hv'; cases hv'
      ·rw [if_neg hu'] at hv'
       have:=Option.some.inj hv'
       omega
   cases hn : fM (c :: s) with
   | none => rw [hn] at ht; cases ht
   | some v =>
     rw [hn] at ht
     have:=hp v hn
     subst this
     replace ht : (if X7 ((List.drop (c :: s).length ((c :: s) ++ rest)).headD 0)=true then Except.ok (⟨6,[],v,pos⟩,(c :: s).length) else .error 72 : Except Int (Tk × Nat))=Except.ok (t,k):=ht
     split at ht
     ·cases ht
      exact ⟨rfl,rfl⟩
     ·cases ht
theorem a54 {n : Int} {rest : List UInt8} (h : 0≤n) (h' : n≤73048) (hr : brk rest) : Sc (dC n) [⟨5,[],n,0⟩] rest:=by
 obtain ⟨hd,hne,hw,-⟩:=a3y h h'
 obtain ⟨y,m,d,ho,hnum,et⟩:=rT h h'
 have hlen : (dC n).length=10:=by rw [et]; exact Cal.text_len y m d
 have hf : ∀ j (hj : j<(dC n).length),Cal.fits j (dC n)[j]=true:=by rw [et]; exact Cal.text_form ho
 have hvals:=Cal.text_vals ho
 rw [← et] at hvals
 generalize dC n=s at *
 have hD : r8 (s ++ rest)=true:=by
  unfold r8
  rw [show (s ++ rest).take 10=s by rw [← hlen,List.take_left' rfl],show (s ++ rest).drop 10=rest by rw [← hlen,dE]]
  rw [decide_eq_true (show 10≤(s ++ rest).length by rw [List.length_append]; omega),decide_eq_true hf]
  have : dgC (rest.headD 0)=false:=by
   cases rest with
   | nil => rfl
   | cons c l => exact (fG c (hr c l rfl)).2.2.1
  rw [this]; rfl
 have hP : nR s=some n:=by
  unfold nR
  rw [hvals.1,hvals.2.1,hvals.2.2,if_pos ⟨hlen,hf,ho⟩,hnum]
 cases s with
 | nil => exact absurd rfl hne
 | cons c s =>
   replace hd : dgC c=true:=hd
   refine Sc.tok (iW c hd).1 (iW c hd).2.1 fun pos t k ht => ?_
   unfold aB at ht
   rw [if_neg (by rw [(iW c hd).2.2]; decide),if_pos hd] at ht
   unfold aP at ht
   rw [← List.cons_append,hD,if_pos rfl,show ((c :: s) ++ rest).take 10=c :: s by rw [← hlen,List.take_left' rfl],hP] at ht
   replace ht : (if X7 ((List.drop 10 ((c :: s) ++ rest)).headD 0)=true then Except.ok (⟨5,[],n,pos⟩,10) else .error 72 : Except Int (Tk × Nat))=Except.ok (t,k):=ht
   split at ht
   ·cases ht
    exact ⟨rfl,hlen.symm⟩
   ·cases ht
end Go.Proofs.YtibiccacafjjfaaGreatDoor
