/-
  Laws that the proof rests on.
-/
import Derived.Test.YtibiccacafjjfaaGreatDoorE05
import Derived.Test.YtibiccacafjjfaaGreatDoorE03
namespace Go.Proofs.YtibiccacafjjfaaGreatDoor
set_option maxRecDepth 100000
set_option maxHeartbeats 16000000
theorem a30 {l : List Tk} {k : Int} (h : (hd l).kind=k) (hk : k≠0) : l≠[]:=by
 rintro rfl; exact hk h.symm
theorem cM {l : List Tk} {k : Int} (h : (hd l).kind=k) (hk : k≠0) : (c6 l).length + 1=l.length:=by
 have hne:=a30 h hk
 unfold c6
 rw [if_neg (by rw [h]; exact hk)]
 cases l with
 | nil => exact absurd rfl hne
 | cons a l => rfl
theorem iV {w : List UInt8} {l : List Tk} (h : isT w l=true) : ((hd l).kind=2∨(hd l).kind=8)∧(hd l).text=w:=by
 unfold isT at h
 simpa using h
theorem n7 {w : List UInt8} {l : List Tk} (h : isT w l=true) : (c6 l).length + 1=l.length:=by
 rcases (iV h).1 with g | g
 ·exact cM g (by decide)
 ·exact cM g (by decide)
theorem iD {ws : List (List UInt8)} {l : List Tk} (h : J7 ws l=true) : (c6 l).length + 1=l.length:=by
 unfold J7 at h
 obtain ⟨w,-,hw⟩:=List.any_eq_true.1 h
 exact n7 hw
theorem aC (l : List Tk) : (c6 l).length≤l.length:=by
 unfold c6
 split
 ·exact Nat.le_refl _
 ·simp
def i6 (n : Nat) (x y : Rd) : Prop:=x=y∧∀ t r,x=.ok (t,r)→r.length≤n
theorem i6.error (n : Nat) (e : Int × Int) : i6 n (.error e) (.error e):=⟨rfl,fun _ _ h => by cases h⟩
theorem i6.ok {n : Nat} (t : Nd) {r : List Tk} (h : r.length≤n) : i6 n (.ok (t,r)) (.ok (t,r)):=⟨rfl,fun _ _ e => by cases e; exact h⟩
theorem i6.made {n : Nat} (t : Nd) {r : List Tk} (h : r.length≤n) : i6 n (made t r) (made t r):=by
 unfold Proofs.YtibiccacafjjfaaGreatDoor.made
 split
 ·exact i6.error n _
 ·exact i6.ok t h
theorem i6.then {n m : Nat} {x y : Rd} {f g : Nd→List Tk→Rd} (h : i6 n x y) (hf : ∀ t r,r.length≤n→i6 m (f t r) (g t r)) : i6 m (x.then f) (y.then g):=by
 obtain ⟨rfl,hl⟩:=h
 cases x with
 | error e => exact i6.error m e
 | ok p => obtain ⟨t,r⟩:=p; exact hf t r (hl t r rfl)
theorem i6.want {m : Nat} {w : List UInt8} {l : List Tk} {f g : List Tk→Rd} (h : (c6 l).length + 1=l.length→i6 m (f (c6 l)) (g (c6 l))) : i6 m (f7 w l f) (f7 w l g):=by
 unfold f7
 split
 ·rename_i c; exact h (n7 c)
 ·exact i6.error m _
theorem i6.kind {m : Nat} {k : Int} {l : List Tk} {f g : Tk→List Tk→Rd} (hk : k≠0) (h : (c6 l).length + 1=l.length→i6 m (f (hd l) (c6 l)) (g (hd l) (c6 l))) : i6 m (U4 k l f) (U4 k l g):=by
 unfold U4
 split
 ·rename_i c; exact h (cM c hk)
 ·exact i6.error m _
theorem i6.nest {m nest : Nat} {l : List Tk} {x y : Rd} (h : i6 m x y) : i6 m (I8 nest l x) (I8 nest l y):=by
 unfold I8
 split
 ·exact i6.error m _
 ·exact h
theorem i6.ite {m : Nat} {c : Prop} [Decidable c] {x x' y y' : Rd} (h : c→i6 m x x') (h' : ¬ c→i6 m y y') : i6 m (if c then x else y) (if c then x' else y'):=by
 split
 ·rename_i g; exact h g
 ·rename_i g; exact h' g
theorem i6.mono {n m : Nat} {x y : Rd} (h : i6 n x y) (hn : n≤m) : i6 m x y:=⟨h.1,fun t r e => Nat.le_trans (h.2 t r e) hn⟩
theorem xW (lv : Nat) : dB (D6 lv) + 1≤dB (.chain lv):=by
 unfold D6
 split
 ·rename_i h; subst h; decide
 split
 ·rename_i h; subst h; decide
 split
 ·rename_i h; subst h; decide
 ·rename_i h0 h1 h2
  show 3 + 1≤(if lv=0 then 8 else if lv=1 then 7 else if lv=2 then 5 else 4)
  rw [if_neg h0,if_neg h1,if_neg h2]
  exact Nat.le_refl _
theorem nF (lv : Nat) : dB (.chain lv)≤8∧4≤dB (.chain lv):=by
 show (if lv=0 then 8 else if lv=1 then 7 else if lv=2 then 5 else 4)≤8∧4≤(if lv=0 then 8 else if lv=1 then 7 else if lv=2 then 5 else 4)
 split
 ·omega
 split
 ·omega
 split <;> omega
theorem a4e (m : Md) : dB m≤10:=by
 cases m with
 | chain lv => have:=nF lv; omega
 | expr => exact (by decide : (9 : Nat)≤10)
 | loop lv t => exact (by decide : (1 : Nat)≤10)
 | not => exact (by decide : (6 : Nat)≤10)
 | unary => exact (by decide : (3 : Nat)≤10)
 | atom => exact (by decide : (2 : Nat)≤10)
 | args acc => exact Nat.le_refl 10
theorem nE {g h : Md→Nat→List Tk→Rd} (m : Md) (nest : Nat) (l : List Tk) (ih : ∀ m' nest' l',cF m' l'<cF m l→i6 l'.length (g m' nest' l') (h m' nest' l')) : i6 l.length (nR g m nest l) (nR h m nest l):=by
 have rk:=a4e
 unfold cF at ih
 cases m with
 | expr =>
   refine i6.nest (i6.ite (fun c => ?_) fun c => ?_)
   ·have:=n7 c
    have e : dB .expr=9:=rfl
    refine (ih _ _ _ (by rw [e]; omega)).then fun t r hr => i6.want fun h1 => (ih _ _ _ (by rw [e]; omega)).then fun t r hr => i6.want fun h1 => (ih _ _ _ (by rw [e]; omega)).then fun t r hr => i6.made _ (by omega)
   ·exact ih _ _ _ (by have : dB (.chain 0)=8:=rfl; have e : dB .expr=9:=rfl; omega)
 | chain lv =>
   have:=xW lv
   have h2:=nF lv
   refine (ih _ _ _ (by omega)).then fun t r hr => (ih _ _ _ ?_).mono hr
   show 11 * r.length + 1 + 1<_
   omega
 | loop lv t =>
   have e : dB (.loop lv t)=1:=rfl
   refine i6.ite (fun c => ?_) fun c => i6.ok _ (Nat.le_refl _)
   have:=iD c
   have:=rk (D6 lv)
   refine (ih _ _ _ (by rw [e]; omega)).then fun u r hr => (i6.made _ hr).then fun u r hr => (ih _ _ _ ?_).mono (by omega)
   show 11 * r.length + 1 + 1<11 * l.length + 1 + 1
   omega
 | not =>
   have e : dB .not=6:=rfl
   refine i6.ite (fun c => ?_) fun c => ?_
   ·have:=n7 c
    exact i6.nest ((ih _ _ _ (by omega)).then fun u r hr => i6.made _ (by omega))
   ·have e2 : dB (.chain 2)=5:=rfl
    refine (ih _ _ _ (by rw [e,e2]; omega)).then fun a r hr => i6.ite (fun c => ?_) fun c => i6.ok _ hr
    have:=iD c
    exact (ih _ _ _ (by rw [e,e2]; omega)).then fun u r hr => i6.made _ (by omega)
 | unary =>
   have e : dB .unary=3:=rfl
   refine i6.ite (fun c => ?_) fun c => ?_
   ·have:=n7 c
    exact i6.nest ((ih _ _ _ (by omega)).then fun u r hr => i6.made _ (by omega))
   ·have e2 : dB .atom=2:=rfl
    exact ih _ _ _ (by omega)
 | atom =>
   have e : dB .atom=2:=rfl
   have e2 : dB .expr=9:=rfl
   have hl:=aC l
   refine i6.ite (fun c => i6.ok _ hl) fun _ => i6.ite (fun c => i6.ok _ hl) fun _ => i6.ite (fun c => i6.ok _ hl) fun _ => i6.ite (fun c => ?_) fun _ => i6.ite (fun c => i6.ok _ hl) fun _ => i6.ite (fun c => i6.ok _ hl) fun _ =>
    i6.ite (fun c => i6.kind (by decide) fun h1 => i6.ok _ (by omega)) fun _ => i6.ite (fun c => ?_) fun _ => i6.ite (fun c => ?_) fun _ => i6.error _ _
   ·refine i6.ite (fun c' => ?_) fun c => i6.ok _ hl
    have h0 : (c6 l).length + 1=l.length:=by rcases c with c | c <;> exact cM c (by decide)
    have h1:=n7 c'
    have e3 : dB (.args [])=10:=rfl
    exact (ih _ _ _ (by rw [e,e3]; omega)).then fun a r hr => i6.made _ (by omega)
   ·have h0:=n7 c
    exact i6.kind (by decide) fun h1 => i6.want fun h2 => (ih _ _ _ (by rw [e,e2]; omega)).then fun t r hr => i6.want fun h3 => (ih _ _ _ (by rw [e,e2]; omega)).then fun t r hr => i6.want fun h3 => (ih _ _ _ (by rw [e,e2]; omega)).then fun t r hr => i6.want fun h3 => i6.made _ (by omega)
   ·have h0:=n7 c
    exact (ih _ _ _ (by rw [e,e2]; omega)).then fun t r hr => i6.want fun h3 => i6.ok _ (by omega)
 | args acc =>
   have e : dB (.args acc)=10:=rfl
   have e2 : dB .expr=9:=rfl
   refine i6.ite (fun c => i6.error _ _) fun c => ?_
   refine (ih _ _ _ (by rw [e,e2]; omega)).then fun t r hr => i6.ite (fun c => ?_) fun c => i6.want fun h1 => i6.ok _ (by omega)
   have:=n7 c
   exact (ih _ _ _ (by show 11 * (c6 r).length + 10 + 1<11 * l.length + 10 + 1; omega)).mono (by omega)
theorem lK : ∀ (n : Nat) (m : Md) (nest : Nat) (l : List Tk),cF m l≤n→∀ f,cF m l≤f→i6 l.length (a4K f m nest l) (rd m nest l)
 | 0,m,_,l,h,_,_ => by unfold cF at h; omega
 | n + 1,m,nest,l,h,f,hf => by
   unfold rd
   obtain ⟨f',rfl⟩ : ∃ f',f=f' + 1:=⟨f - 1,by unfold cF at hf; omega⟩
   obtain ⟨g,hg⟩ : ∃ g,cF m l=g + 1:=⟨11 * l.length + dB m,rfl⟩
   rw [hg]
   refine nE m nest l fun m' nest' l' hl => ?_
   have h1:=lK n m' nest' l' (by omega) f' (by omega)
   have h2:=lK n m' nest' l' (by omega) g (by omega)
   exact ⟨h1.1.trans h2.1.symm,h1.2⟩
theorem r5 (m : Md) (nest : Nat) (l : List Tk) : rd m nest l=nR rd m nest l:=by
 have h : rd m nest l=nR (a4K (11 * l.length + dB m)) m nest l:=rfl
 rw [h]
 refine (nE m nest l fun m' nest' l' hl => ?_).1
 exact lK _ m' nest' l' (Nat.le_refl _) _ (by unfold cF at hl; unfold cF; omega)
theorem V7 (m : Md) (nest : Nat) (l : List Tk) {t : Nd} {r : List Tk} (h : rd m nest l=.ok (t,r)) : r.length≤l.length:=(lK _ m nest l (Nat.le_refl _) _ (Nat.le_refl _)).2 t r h
mutual
def E0 (b : Bool) : Nd→Nd
 | .mk k s n ks p => .mk k s n (y9 b ks) (if b=true then p else 0)
def y9 (b : Bool) : List Nd→List Nd
 | [] => []
 | k :: ks => E0 b k :: y9 b ks
end
def a5j (b : Bool) (t : Tk) : Tk:=⟨t.kind,t.text,t.n,if b=true then t.pos else 0⟩
theorem iZ (b : Bool) : ∀ ks,y9 b ks=ks.map (E0 b)
 | [] => by rw [y9]; rfl
 | k :: ks => by rw [y9,iZ b ks]; rfl
mutual
theorem a08 : ∀ t,E0 true t=t
 | .mk k s n ks p => by rw [E0,mW ks]; rfl
theorem mW : ∀ ks,y9 true ks=ks
 | [] => by rw [y9]
 | k :: ks => by rw [y9,a08 k,mW ks]
end
mutual
theorem jO (b : Bool) : ∀ t,c8 (E0 b t)=c8 t
 | .mk k s n ks p => by rw [E0,c8,c8,nI b ks]
theorem nI (b : Bool) : ∀ ks,f8 (y9 b ks)=f8 ks
 | [] => by rw [y9]
 | k :: ks => by rw [y9,f8,f8,jO b k,nI b ks]
end
mutual
theorem fO : ∀ (t u : Nd),U0 t u=true↔E0 false t=E0 false u
 | .mk k s n ks p,u => by
   rw [iB]
   cases u with
   | mk k' s' n' ks' p' =>
   rw [E0,E0]
   simp only [Nd.kind,Nd.text,Nd.n,Nd.kids,Bool.and_eq_true,beq_iff_eq,Nd.mk.injEq,and_true,Bool.false_eq_true,if_false]
   rw [qH ks ks',Lib.toList_data,Lib.toList_data]
   constructor
   ·rintro ⟨⟨⟨h1,h2⟩,h3⟩,h4⟩; exact ⟨h1,uK h2,h3,h4⟩
   ·rintro ⟨h1,h2,h3,h4⟩; exact ⟨⟨⟨h1,by rw [h2]⟩,h3⟩,h4⟩
theorem qH : ∀ (l r : List Nd),v7 l r=true↔y9 false l=y9 false r
 | [],r => by
   rw [v7,y9]
   cases r with
   | nil => rw [y9]; simp
   | cons a r => rw [y9]; simp
 | a :: l,[] => by rw [v7,y9,y9]; simp
 | a :: l,c :: r => by rw [v7,y9,y9,Bool.and_eq_true,fO a c,qH l r,List.cons.injEq]
end
section
variable {b : Bool} {d : Nat} {x x' : List Tk}
end
def tW (w : List UInt8) : Tk:=⟨2,w,0,0⟩
def tS (w : List UInt8) : Tk:=⟨8,w,0,0⟩
def a0m (s : List UInt8) : Tk:=if s=[111,114]∨s=[97,110,100] then tW s else tS s
def cG (s : List UInt8) : Tk:=⟨if (Lib.cut s [46]).2.2=true then 3 else 1,s,0,0⟩
def dZ : List (List Tk)→List Tk
 | [] => []
 | f :: r => tS i8 :: (f ++ dZ r)
def zP : List (List Tk)→List Tk
 | [] => [tS m5]
 | f :: r => f ++ (dZ r ++ [tS m5])
def uH (l : List (List Tk)) : List Tk:=tS o3 :: zP l
def bG (kind : Int) (f : List Tk) : List Tk:=if D5 kind=true then tS o3 :: (f ++ [tS m5]) else f
def rG (kind n : Int) (s : List UInt8) (l : List (Int × List Tk)) : List Tk :=
 if kind=5 then [⟨6,[],n,0⟩]
 else if kind=6 then [⟨5,[],n,0⟩]
 else if kind=7 then [⟨4,s,0,0⟩]
 else if kind=8 then [tW (if n=1 then Y2 else J8)]
 else if kind=9 then [tW aI,⟨7,s,0,0⟩]
 else if kind=10 then [cG s]
 else if kind=11 then cG s :: uH (l.map (·.2))
 else if kind=15 then tW aG :: ⟨7,s,0,0⟩ :: uH (l.map (·.2))
 else if kind=12 then match l with
  | [a] => (if s=[45] then tS aQ else tW eE) :: bG a.1 a.2
  | _ => []
 else if kind=13 then match l with
  | [a,b] => bG a.1 a.2 ++ a0m s :: bG b.1 b.2
  | _ => []
 else match l with
  | [a,b,c] => tW tIf :: (a.2 ++ tW dQ :: (b.2 ++ tW cO :: c.2))
  | _ => []
mutual
def n5 : Nd→List Tk
 | .mk kind s n ks _ => rG kind n s.data.toList (eF ks)
def eF : List Nd→List (Int × List Tk)
 | [] => []
 | k :: ks => (k.kind,n5 k) :: eF ks
end
theorem rF (t : Nd) : n5 t=rG t.kind t.n t.text.data.toList (eF t.kids):=by cases t; rw [n5]; rfl
theorem cI : ∀ ks,eF ks=ks.map fun k => (k.kind,n5 k)
 | [] => by rw [eF]; rfl
 | k :: ks => by rw [eF,cI ks]; rfl
theorem eC (ks : List Nd) : (eF ks).map (·.2)=ks.map n5:=by rw [cI,List.map_map]; rfl
mutual
theorem cU : ∀ (t : Nd) (d : Int),d6 t d=true→d + c8 t≤101
 | .mk k s n ks p,d,h => by
   rw [d6] at h
   simp only [Bool.and_eq_true,decide_eq_true_eq] at h
   have:=iI ks (d + 1) h.2 (by omega)
   rw [c8]
   omega
theorem iI : ∀ (ks : List Nd) (d : Int),l9 ks d=true→d≤101→d + f8 ks≤101
 | [],d,_,hd => by rw [f8]; omega
 | k :: ks,d,h,hd => by
   rw [l9,Bool.and_eq_true] at h
   have h1:=cU k d h.1
   have h2:=iI ks d h.2 hd
   rw [f8]
   omega
end
theorem D8 : ∀ (ks : List Nd) (k : Nd),k∈ks→c8 k≤f8 ks
 | a :: r,k,h => by
   rw [f8]
   rcases List.mem_cons.1 h with rfl | h
   ·omega
   ·have:=D8 r k h; omega
 | [],_,h => by cases h
theorem lP (t : Nd) : c8 t=f8 t.kids + 1:=by cases t; rw [c8]; rfl
def Sp (T l x : List Tk) : Prop:=∃ t,l=t ++ x∧t.map (a5j false)=T
theorem Sp.nil {l x : List Tk} (h : Sp [] l x) : l=x:=by
 obtain ⟨t,rfl,h⟩:=h
 rw [List.map_eq_nil_iff] at h
 rw [h]; rfl
theorem Sp.head {a : Tk} {T l x : List Tk} (h : Sp (a :: T) l x) : (hd l).kind=a.kind∧(hd l).text=a.text∧(hd l).n=a.n∧(a.kind≠0→Sp T (c6 l) x):=by
 obtain ⟨t,rfl,h⟩:=h
 cases t with
 | nil => cases h
 | cons c t =>
   rw [List.map_cons,List.cons.injEq] at h
   obtain ⟨rfl,h⟩:=h
   refine ⟨rfl,rfl,rfl,fun k => ⟨t,?_,h⟩⟩
   show (if c.kind=0 then _ else _)=_
   rw [if_neg (show ¬ c.kind=0 from k)]; rfl
theorem Sp.app {T U l x : List Tk} (h : Sp (T ++ U) l x) : ∃ y,Sp T l y∧Sp U y x:=by
 obtain ⟨t,rfl,h⟩:=h
 obtain ⟨a,c,rfl,ha,hc⟩:=List.map_eq_append_iff.1 h
 exact ⟨c ++ x,⟨a,by rw [List.append_assoc],ha⟩,⟨c,rfl,hc⟩⟩
theorem Sp.word {w : List UInt8} {T l x : List Tk} (h : Sp (tW w :: T) l x) (v : List UInt8) : isT v l=(w == v):=by
 obtain ⟨h1,h2,-⟩:=h.head
 unfold isT
 rw [h1,h2]; rfl
theorem Sp.sign {w : List UInt8} {T l x : List Tk} (h : Sp (tS w :: T) l x) (v : List UInt8) : isT v l=(w == v):=by
 obtain ⟨h1,h2,-⟩:=h.head
 unfold isT
 rw [h1,h2]; rfl
theorem Sp.none {a : Tk} {T l x : List Tk} (h : Sp (a :: T) l x) (h2 : a.kind≠2) (h8 : a.kind≠8) (v : List UInt8) : isT v l=false:=by
 obtain ⟨h1,-⟩:=h.head
 unfold isT
 rw [h1,beq_eq_false_iff_ne.2 h2,beq_eq_false_iff_ne.2 h8]; rfl
theorem Sp.wordStep {w : List UInt8} {T l x : List Tk} (h : Sp (tW w :: T) l x) : Sp T (c6 l) x:=h.head.2.2.2 (show (2 : Int)≠0 by decide)
theorem Sp.signStep {w : List UInt8} {T l x : List Tk} (h : Sp (tS w :: T) l x) : Sp T (c6 l) x:=h.head.2.2.2 (show (8 : Int)≠0 by decide)
theorem zS {k : Int} {l : List Tk} {f : Tk→List Tk→Rd} (h : (hd l).kind=k) : U4 k l f=f (hd l) (c6 l):=if_pos h
theorem cC {w : List UInt8} {T l x : List Tk} {f : List Tk→Rd} (h : Sp (tS w :: T) l x) : f7 w l f=f (c6 l):=by
 unfold f7
 rw [if_pos (by rw [h.sign]; exact beq_self_eq_true w)]
theorem qO {w : List UInt8} {T l x : List Tk} {f : List Tk→Rd} (h : Sp (tW w :: T) l x) : f7 w l f=f (c6 l):=by
 unfold f7
 rw [if_pos (by rw [h.word]; exact beq_self_eq_true w)]
theorem x8 (t : Nd) (r : List Tk) (f : Nd→List Tk→Rd) : Rd.then (.ok (t,r)) f=f t r:=rfl
theorem aZ {t : Nd} {r : List Tk} (h : c8 t≤100) : made t r=.ok (t,r):=if_neg (by omega)
def l7 (m : Md) (nest : Nat) (l x : List Tk) (u : Nd) : Prop:=∃ t,rd m nest l=.ok (t,x)∧E0 false t=E0 false u
theorem V8 {t u : Nd} (h : E0 false t=E0 false u) : c8 t=c8 u:=by rw [← jO false t,h,jO]
section
variable {nest : Nat} {l x : List Tk} {u : Nd}
theorem l7.unary (h : l7 .atom nest l x u) (hl : isT aQ l=false) : l7 .unary nest l x u:=by
 obtain ⟨t,ht,hs⟩:=h
 exact ⟨t,by rw [r5]; show (if _ then _ else _)=_; rw [hl,if_neg (by decide)]; exact ht,hs⟩
theorem l7.chain {lv : Nat} (h : l7 (D6 lv) nest l x u) (hx : J7 (r4 lv) x=false) : l7 (.chain lv) nest l x u:=by
 obtain ⟨t,ht,hs⟩:=h
 refine ⟨t,?_,hs⟩
 rw [r5]
 show (rd (D6 lv) nest l).then _=_
 rw [ht,x8,r5]
 show (if _ then _ else _)=_
 rw [hx,if_neg (by decide)]
theorem l7.not (h : l7 (.chain 2) nest l x u) (hl : isT eE l=false) (hx : J7 iH x=false) : l7 .not nest l x u:=by
 obtain ⟨t,ht,hs⟩:=h
 refine ⟨t,?_,hs⟩
 rw [r5]
 show (if _ then _ else _)=_
 rw [hl,if_neg (by decide),ht,x8,hx,if_neg (by decide)]
theorem lG {n : Nat} (h : n + 1≤300) (l : List Tk) (r : Rd) : I8 n l r=r:=if_neg (by omega)
theorem l7.expr (h : l7 (.chain 0) (nest + 1) l x u) (hl : isT tIf l=false) (hn : nest + 1≤300) : l7 .expr nest l x u:=by
 obtain ⟨t,ht,hs⟩:=h
 refine ⟨t,?_,hs⟩
 rw [r5]
 show I8 nest l _=_
 rw [lG hn,hl,if_neg (by decide),ht]
end
def a2o : List (List UInt8):=[[111,114],[97,110,100],[43],[45],[42],[47],[60],[60,61],[61],o3]
def eQ (x : List Tk) : Prop:=∀ w∈a2o,isT w x=false
theorem eQ.any {x : List Tk} (h : eQ x) {ws : List (List UInt8)} (hw : ∀ w∈ws,w∈a2o) : J7 ws x=false:=by
 unfold J7
 rw [List.any_eq_false]
 exact fun w h1 => by rw [h w (hw w h1)]; decide
theorem o5 (lv : Nat) : ∀ w∈r4 lv,w∈a2o:=by
 unfold r4
 split
 ·decide
 split
 ·decide
 split <;> decide
theorem l7.climb {nest : Nat} {l x : List Tk} {u : Nd} (h : l7 .atom (nest + 1) l x u) (h1 : isT aQ l=false) (h2 : isT eE l=false) (h3 : isT tIf l=false) (hx : eQ x) (hn : nest + 1≤300) : l7 .expr nest l x u :=
 (l7.chain (lv:=0) (l7.chain (lv:=1) (l7.not (l7.chain (lv:=2) (l7.chain (lv:=3) (h.unary h1) (hx.any (o5 3))) (hx.any (o5 2))) h2 (hx.any (by decide))) (hx.any (o5 1))) (hx.any (o5 0))).expr h3 hn
def RE (u : Nd) : Prop:=∀ (nest : Nat) (l x : List Tk),Sp (n5 u) l x→eQ x→nest + 2 * c8 u≤300→l7 .expr nest l x u
def RA (u : Nd) : Prop:=¬ D5 u.kind=true→∀ (nest : Nat) (l x : List Tk),Sp (n5 u) l x→isT o3 x=false→nest + 2 * c8 u≤301→l7 .atom nest l x u
theorem cB {w : List UInt8} (h : w ∉ a2o) {T l x : List Tk} (hl : Sp (tS w :: T) l x) : eQ l:=fun v hv => by
 rw [hl.sign,beq_eq_false_iff_ne]
 rintro rfl; exact h hv
theorem nY {w : List UInt8} (h : w ∉ a2o) {T l x : List Tk} (hl : Sp (tW w :: T) l x) : eQ l:=fun v hv => by
 rw [hl.word,beq_eq_false_iff_ne]
 rintro rfl; exact h hv
theorem eI {u : Nd} (he : RE u) (ha : RA u) {nest : Nat} {l x : List Tk} (h : Sp (bG u.kind (n5 u)) l x) (hx : isT o3 x=false) (hn : nest + 2 * c8 u≤300) : l7 .atom nest l x u:=by
 unfold bG at h
 by_cases hw : D5 u.kind=true
 ·rw [if_pos hw] at h
  have hk:=h.head.1
  obtain ⟨y,h1,h2⟩:=h.signStep.app
  obtain ⟨t,ht,hs⟩:=he nest _ _ h1 (cB (by decide) h2) hn
  refine ⟨t,?_,hs⟩
  have hkk : (hd l).kind=8:=hk
  rw [r5]
  show (if _ then _ else _)=_
  rw [if_neg (by rw [hkk]; decide),if_neg (by rw [hkk]; decide),if_neg (by rw [hkk]; decide),if_neg (by rw [hkk]; decide),if_neg (by rw [h.sign]; decide),if_neg (by rw [h.sign]; decide),if_neg (by rw [h.sign]; decide),if_neg (by rw [h.sign]; decide),if_pos (by rw [h.sign]; decide),ht,x8,cC h2,h2.signStep.nil]
 ·rw [if_neg hw] at h
  exact ha hw nest l x h hx (by omega)
theorem nO : ∀ (ks acc : List Nd),(∀ k∈ks,RE k)→ks≠[]→acc.length + ks.length≤8→∀ (nest : Nat) (l x : List Tk),Sp (zP (ks.map n5)) l x→nest + 2 * f8 ks≤300 →
 ∃ ts,rd (.args acc) nest l=.ok (mkN 0 [] 0 (acc ++ ts) 0,x)∧ts.map (E0 false)=ks.map (E0 false)
 | [],_,_,h,_,_,_,_,_,_ => absurd rfl h
 | [k],acc,ih,_,hlen,nest,l,x,h,hn => by
   obtain ⟨y,h1,h2⟩:=Sp.app h
   have hd1:=D8 [k] k (List.mem_cons_self ..)
   obtain ⟨t,ht,hs⟩:=ih k (List.mem_cons_self ..) nest l y h1 (cB (by decide) h2) (by omega)
   refine ⟨[t],?_,by rw [List.map_cons,List.map_cons,hs]⟩
   rw [r5]
   show (if _ then _ else _)=_
   rw [if_neg (by simp at hlen; omega),ht,x8,if_neg (by rw [Sp.sign h2]; decide),cC h2,Sp.nil (Sp.signStep h2)]
 | k :: k' :: r,acc,ih,_,hlen,nest,l,x,h,hn => by
   obtain ⟨y,h1,h2⟩:=Sp.app h
   have hd1:=D8 (k :: k' :: r) k (List.mem_cons_self ..)
   have hd2 : f8 (k' :: r)≤f8 (k :: k' :: r):=by rw [f8]; exact Nat.le_max_right _ _
   have h2' : Sp (tS i8 :: zP ((k' :: r).map n5)) y x:=by
    have e : dZ ((k' :: r).map n5) ++ [tS m5]=tS i8 :: zP ((k' :: r).map n5):=by
     rw [List.map_cons,dZ,List.cons_append,List.append_assoc]; rfl
    rw [← e]; exact h2
   obtain ⟨t,ht,hs⟩:=ih k (List.mem_cons_self ..) nest l y h1 (cB (by decide) h2') (by omega)
   obtain ⟨ts,hts,hss⟩:=nO (k' :: r) (acc ++ [t]) (fun u hu => ih u (List.mem_cons_of_mem _ hu)) (by simp) (by simp at hlen ⊢; omega) nest (c6 y) x h2'.signStep (by omega)
   refine ⟨t :: ts,?_,by rw [List.map_cons,List.map_cons,hs,hss]⟩
   rw [r5]
   show (if _ then _ else _)=_
   rw [if_neg (by simp at hlen; omega),ht,x8,if_pos (by rw [h2'.sign]; decide),hts,List.append_assoc]; rfl
theorem J0 {u : Nd} {k n p : Int} {s : List UInt8} {ts : List Nd} (hk : u.kind=k) (hs : u.text.data.toList=s) (hn : u.n=n) (ht : ts.map (E0 false)=u.kids.map (E0 false)) : E0 false (mkN k s n ts p)=E0 false u:=by
 cases u with
 | mk k' s' n' ks' p' =>
 obtain rfl : k'=k:=hk
 obtain rfl : n'=n:=hn
 unfold mkN
 rw [E0,E0,iZ,iZ,ht]
 rw [show (⟨s.toArray⟩ : ByteArray)=s' from uK (by rw [← hs]; simp [Nd.text])]
 rfl
theorem yG {u : Nd} {d : Int} (h : d6 u d=true) (hd0 : 1≤d) (ih : ∀ k∈u.kids,RE k) : RA u:=by
 intro hw nest l x hl hx hn
 obtain ⟨h1,h2,h3,h4⟩:=y7 h
 have ha:=zW h1 hw
 have hdep:=cU u d h
 have hkd:=lP u
 rw [rF] at hl
 unfold rG at hl
 rcases mY ha with e | e | e | e | e | e | e | e
 ·rw [if_pos e] at hl
  obtain ⟨k1,k2,k3,k4⟩:=hl.head
  have hk0:=eG h (by omega)
  refine ⟨_,by rw [r5]; show (if _ then _ else _)=_; rw [if_pos (by rw [k1]),(k4 (by decide : (6 : Int)≠0)).nil],J0 e ?_ k3.symm (by rw [hk0])⟩
  unfold s6 at h2
  rw [e] at h2
  simpa using h2
 ·rw [if_neg (by omega),if_pos e] at hl
  obtain ⟨k1,k2,k3,k4⟩:=hl.head
  have hk0:=eG h (by omega)
  refine ⟨_,by rw [r5]; show (if _ then _ else _)=_; rw [if_neg (by rw [show (hd l).kind=5 from k1]; decide),if_pos (by rw [k1]),(k4 (by decide : (5 : Int)≠0)).nil],J0 e ?_ k3.symm (by rw [hk0])⟩
  unfold s6 at h2
  rw [e] at h2
  simpa using h2
 ·rw [if_neg (by omega),if_neg (by omega),if_pos e] at hl
  obtain ⟨k1,k2,k3,k4⟩:=hl.head
  have hk0:=eG h (by omega)
  exact ⟨_,by rw [r5]; show (if _ then _ else _)=_; rw [if_neg (by rw [show (hd l).kind=4 from k1]; decide),if_neg (by rw [show (hd l).kind=4 from k1]; decide),if_pos (by rw [k1]),(k4 (by decide : (4 : Int)≠0)).nil],J0 e k2.symm (bW h3 (by omega)) (by rw [hk0])⟩
 ·rw [if_neg (by omega),if_neg (by omega),if_neg (by omega),if_pos e] at hl
  have hk0:=eG h (by omega)
  have hk : (hd l).kind=2:=hl.head.1
  have ht : u.text.data.toList=[]:=by
   unfold s6 at h2
   rw [e] at h2
   simpa using h2
  have hnn : u.n=0∨u.n=1:=by
   unfold Y0 at h3
   rw [e] at h3
   simpa using h3
  rcases hnn with hnn | hnn
  ·rw [hnn] at hl
   exact ⟨_,by rw [r5]; show (if _ then _ else _)=_; rw [if_neg (by rw [hk]; decide),if_neg (by rw [hk]; decide),if_neg (by rw [hk]; decide),if_neg (by rw [hk]; decide),if_neg (by rw [hl.word]; decide),if_pos (by rw [hl.word]; decide),hl.wordStep.nil],J0 e ht hnn (by rw [hk0])⟩
  ·rw [hnn] at hl
   exact ⟨_,by rw [r5]; show (if _ then _ else _)=_; rw [if_neg (by rw [hk]; decide),if_neg (by rw [hk]; decide),if_neg (by rw [hk]; decide),if_neg (by rw [hk]; decide),if_pos (by rw [hl.word]; decide),hl.wordStep.nil],J0 e ht hnn (by rw [hk0])⟩
 ·rw [if_neg (by omega),if_neg (by omega),if_neg (by omega),if_neg (by omega),if_pos e] at hl
  have hk0:=eG h (by omega)
  have hk : (hd l).kind=2:=hl.head.1
  have hl2:=hl.wordStep
  obtain ⟨k1,k2,k3,k4⟩:=hl2.head
  refine ⟨mkN 9 u.text.data.toList 0 [] (hd l).pos,?_,J0 e rfl (bW h3 (by omega)) (by rw [hk0])⟩
  rw [r5]; show (if _ then _ else _)=_
  rw [if_neg (by rw [hk]; decide),if_neg (by rw [hk]; decide),if_neg (by rw [hk]; decide),if_neg (by rw [hk]; decide),if_neg (by rw [hl.word]; decide),if_neg (by rw [hl.word]; decide),if_pos (by rw [hl.word]; decide)]
  rw [zS k1,(k4 (by decide : (7 : Int)≠0)).nil]
  show Except.ok (mkN 9 (hd (c6 l)).text 0 [] (hd l).pos,x)=_
  rw [k2]
 ·rw [if_neg (by omega),if_neg (by omega),if_neg (by omega),if_neg (by omega),if_neg (by omega),if_pos e] at hl
  have hk0:=eG h (by omega)
  obtain ⟨k1,k2,k3,k4⟩:=hl.head
  have k5 : (hd l).kind=1∨(hd l).kind=3:=by rw [k1]; unfold cG; simp only; split <;> simp
  have hs:=(k4 (by rw [← k1]; omega)).nil
  refine ⟨mkN 10 (hd l).text 0 [] (hd l).pos,?_,J0 e k2.symm (bW h3 (by omega)) (by rw [hk0])⟩
  rw [r5]; show (if _ then _ else _)=_
  rw [if_neg (by omega),if_neg (by omega),if_neg (by omega),if_pos k5,if_neg (by rw [hs,hx]; decide),hs]
 ·rw [if_neg (by omega),if_neg (by omega),if_neg (by omega),if_neg (by omega),if_neg (by omega),if_neg (by omega),if_pos e,eC] at hl
  obtain ⟨k1,k2,k3,k4⟩:=hl.head
  have k5 : (hd l).kind=1∨(hd l).kind=3:=by rw [k1]; unfold cG; simp only; split <;> simp
  have hs:=k4 (by rw [← k1]; omega)
  have hlen : u.kids.length≤8:=by
   rw [e] at h1
   unfold t7 at h1
   have h1' : (decide (1≤u.kids.length) && decide (u.kids.length≤8))=true:=h1
   simp only [Bool.and_eq_true,decide_eq_true_eq] at h1'
   exact h1'.2
  obtain ⟨ts,hts,hss⟩:=nO u.kids [] ih (lY h (.inl e)) (by simpa using hlen) nest _ x hs.signStep (by omega)
  refine ⟨mkN 11 (hd l).text 0 ts (hd l).pos,?_,J0 e k2.symm (bW h3 (by omega)) hss⟩
  have hsm : E0 false (mkN 11 (hd l).text 0 ts (hd l).pos)=E0 false u:=J0 e k2.symm (bW h3 (by omega)) hss
  rw [r5]; show (if _ then _ else _)=_
  rw [if_neg (by omega),if_neg (by omega),if_neg (by omega),if_pos k5,if_pos (by rw [hs.sign]; decide),hts,x8]
  exact aZ (by have:=V8 hsm; show c8 (mkN 11 (hd l).text 0 ts (hd l).pos)≤100; omega)
 ·rw [if_neg (by omega),if_neg (by omega),if_neg (by omega),if_neg (by omega),if_neg (by omega),if_neg (by omega),if_neg (by omega),if_pos e,eC] at hl
  have hk : (hd l).kind=2:=hl.head.1
  have hl2:=hl.wordStep
  obtain ⟨k1,k2,k3,k4⟩:=hl2.head
  have hl3:=k4 (by decide : (7 : Int)≠0)
  have h3k : u.kids.length=3:=by
   rw [e] at h1
   unfold t7 at h1
   simpa using h1
  obtain ⟨a,b,c,hkk⟩:=a4n h3k
  rw [hkk] at hl3 ih hkd
  have d1:=D8 [a,b,c] a (by simp)
  have d2:=D8 [a,b,c] b (by simp)
  have d3:=D8 [a,b,c] c (by simp)
  have hl4:=hl3.signStep
  obtain ⟨y,g1,g2⟩:=Sp.app hl4
  have g2' : Sp (tS i8 :: (n5 b ++ tS i8 :: (n5 c ++ [tS m5]))) y x:=by
   have e' : dZ ([b,c].map n5) ++ [tS m5]=tS i8 :: (n5 b ++ tS i8 :: (n5 c ++ [tS m5])):=by simp [dZ]
   rw [← e']; exact g2
  obtain ⟨ta,ra,sa⟩:=ih a (by simp) nest _ _ g1 (cB (by decide) g2') (by omega)
  obtain ⟨z,g3,g4⟩:=Sp.app g2'.signStep
  obtain ⟨tb,rb,sb⟩:=ih b (by simp) nest _ _ g3 (cB (by decide) g4) (by omega)
  obtain ⟨v,g5,g6⟩:=Sp.app g4.signStep
  obtain ⟨tc,rc,sc⟩:=ih c (by simp) nest _ _ g5 (cB (by decide) g6) (by omega)
  have hsm : E0 false (mkN 15 (hd (c6 l)).text 0 [ta,tb,tc] (hd l).pos)=E0 false u:=J0 e k2.symm (bW h3 (by omega)) (by rw [hkk,List.map_cons,List.map_cons,List.map_cons,sa,sb,sc]; rfl)
  refine ⟨mkN 15 (hd (c6 l)).text 0 [ta,tb,tc] (hd l).pos,?_,hsm⟩
  rw [r5]; show (if _ then _ else _)=_
  rw [if_neg (by rw [hk]; decide),if_neg (by rw [hk]; decide),if_neg (by rw [hk]; decide),if_neg (by rw [hk]; decide),if_neg (by rw [hl.word]; decide),if_neg (by rw [hl.word]; decide),if_neg (by rw [hl.word]; decide),if_pos (by rw [hl.word]; decide)]
  rw [zS k1]
  show f7 o3 _ _=_
  rw [cC hl3,ra,x8,cC g2',rb,x8,cC g4,rc,x8,cC g6,g6.signStep.nil]
  exact aZ (by have:=V8 hsm; omega)
theorem dR {u : Nd} {d : Int} (h : d6 u d=true) {l x : List Tk} (hl : Sp (bG u.kind (n5 u)) l x) : isT aQ l=false∧isT eE l=false∧isT tIf l=false:=by
 unfold bG at hl
 by_cases hw : D5 u.kind=true
 ·rw [if_pos hw] at hl
  rw [hl.sign,hl.sign,hl.sign]
  decide
 rw [if_neg hw,rF] at hl
 unfold rG at hl
 have hnm : ∀ s,(cG s).kind≠2∧(cG s).kind≠8:=fun s => by unfold cG; simp only; split <;> decide
 rcases mY (zW (y7 h).1 hw) with e | e | e | e | e | e | e | e
 ·rw [if_pos e] at hl
  exact ⟨hl.none (show (6 : Int)≠2 by decide) (show (6 : Int)≠8 by decide) _,hl.none (show (6 : Int)≠2 by decide) (show (6 : Int)≠8 by decide) _,hl.none (show (6 : Int)≠2 by decide) (show (6 : Int)≠8 by decide) _⟩
 ·rw [if_neg (by omega),if_pos e] at hl
  exact ⟨hl.none (show (5 : Int)≠2 by decide) (show (5 : Int)≠8 by decide) _,hl.none (show (5 : Int)≠2 by decide) (show (5 : Int)≠8 by decide) _,hl.none (show (5 : Int)≠2 by decide) (show (5 : Int)≠8 by decide) _⟩
 ·rw [if_neg (by omega),if_neg (by omega),if_pos e] at hl
  exact ⟨hl.none (by show (4 : Int)≠2; decide) (by show (4 : Int)≠8; decide) _,hl.none (by show (4 : Int)≠2; decide) (by show (4 : Int)≠8; decide) _,hl.none (by show (4 : Int)≠2; decide) (by show (4 : Int)≠8; decide) _⟩
 ·rw [if_neg (by omega),if_neg (by omega),if_neg (by omega),if_pos e] at hl
  rw [hl.word,hl.word,hl.word]
  split <;> decide
 ·rw [if_neg (by omega),if_neg (by omega),if_neg (by omega),if_neg (by omega),if_pos e] at hl
  rw [hl.word,hl.word,hl.word]
  decide
 ·rw [if_neg (by omega),if_neg (by omega),if_neg (by omega),if_neg (by omega),if_neg (by omega),if_pos e] at hl
  exact ⟨hl.none (hnm _).1 (hnm _).2 _,hl.none (hnm _).1 (hnm _).2 _,hl.none (hnm _).1 (hnm _).2 _⟩
 ·rw [if_neg (by omega),if_neg (by omega),if_neg (by omega),if_neg (by omega),if_neg (by omega),if_neg (by omega),if_pos e] at hl
  exact ⟨hl.none (hnm _).1 (hnm _).2 _,hl.none (hnm _).1 (hnm _).2 _,hl.none (hnm _).1 (hnm _).2 _⟩
 ·rw [if_neg (by omega),if_neg (by omega),if_neg (by omega),if_neg (by omega),if_neg (by omega),if_neg (by omega),if_neg (by omega),if_pos e] at hl
  rw [hl.word,hl.word,hl.word]
  decide
section
open Lib (hid)
open Go.RowKit
theorem rL (ks : List Nd) (k : Nat) (h : k<ks.length) : f8 (ks.drop k)=max (c8 ks[k]) (f8 (ks.drop (k + 1))):=by
 rw [List.drop_eq_getElem_cons h,f8]
theorem uZ (ks : List Nd) (k : Nat) (h : ¬ k<ks.length) : f8 (ks.drop k)=0:=by
 rw [List.drop_eq_nil_of_le (by omega),f8]
theorem tP (N : Nat) : ∀ (t : Nd),SizeOf.sizeOf t<N→∀ (a : Option Addr) (cap n₀ : Nat) (w : World),t.hold n₀ w a cap→n₀≤w.heap.size→c8 t≤1000 →
 Calls Tryz.prog 130 #[.agg #[.int .i64 t.kind,.string t.text,.int .i64 t.n,.slice a t.kids.length cap,.int .i64 t.place]] w fun e w' => e=.returned (.int .i64 (c8 t))∧Below w.heap.size w w':=by
 induction N with
 | zero => intro t ht; omega
 | succ N ih =>
 intro t ht
 cases t with
 | mk kind s n ks p =>
 intro a cap n₀ w hh hn h0
 show Calls Tryz.prog 130 #[.agg #[.int .i64 kind,.string s,.int .i64 n,.slice a ks.length cap,.int .i64 p]] w _
 have hkl : ks.length≤cap∧cap≤maxLen:=⟨hh.2.2.2.2.1,hh.2.2.2.2.2.1⟩
 have hm:=hkl
 unfold maxLen at hm
 have HH:=hid hh
 have IH:=hid ih
 have HT:=hid ht
 clear hh ih ht
 have E:=hid (show c8 (.mk kind s n ks p)=f8 ks + 1 by rw [c8])
 have h9 : f8 ks≤999:=by rw [E.out] at h0; omega
 clear h0
 go_enter Tryz.func130,Tryz.ntmps130
 go_wp2
 obtain ⟨W1,hW1⟩ : ∃ W1,W1=w.alloc (.cells #[.int .i64 kind,.string s,.int .i64 n,.slice a ks.length cap,.int .i64 p] 24):=⟨_,rfl⟩
 have HB:=hid (show Below w.heap.size w W1 from hW1 ▸ b9 _ _)
 have hsz : W1.heap.size=w.heap.size + 1:=by rw [hW1]; simp
 have D3:=hid (show W1.cell? ⟨w.heap.size,3,none⟩=some (.slice a ks.length cap) from hW1 ▸ (a5p w _ _ _ _ _).2.2.2.1)
 rw [← hW1]
 clear hW1
 go_loopw [3,4] (fun x i wr => ∃ (k y : Nat),k≤ks.length∧i=.int .i64 k∧x=.int .i64 y∧y≤999∧Hid (max y (f8 (ks.drop k))=f8 ks)∧Hid (Below W1.heap.size W1 wr)) (fun _ i _ => (ks.length - (intOf i).toNat))
 case atStart => exact ⟨0,0,Nat.zero_le _,rfl,rfl,by omega,by show _=_; rw [Nat.zero_max]; rfl,Below.refl _ _⟩
 case round =>
  obtain ⟨k,y,hk,rfl,rfl,hy0,HI,HBr⟩:=hrel
  have d3:=(HBr.out.cell (p:=⟨w.heap.size,3,none⟩) (by show w.heap.size<W1.heap.size; omega)).trans D3
  have HW:=hid (HB.out.trans (HBr.out.mono HB.out.size))
  by_cases hlt : k<ks.length
  ·obtain ⟨b,off,a',cap',A⟩:=(HH.out.below (HW.out.mono hn)).kid k hlt
   obtain ⟨rfl,hb,c0,c1,c2,c3,c4,hk1⟩:=A
   have HK:=hid hk1
   clear hk1
   have S:=hid (rL ks k hlt)
   have hd : c8 ks[k]≤999:=by
    have:=HI.out
    rw [S.out] at this
    omega
   go_wp2_with (go_at_call 130; refine (IH.out _ (bZ hlt HT) a' cap' n₀ _ HK (Nat.le_trans hn HW.out.size) (by omega)).mono ?_; rintro e w' ⟨rfl,hb⟩)
   go_roundw
   case rel => exact ⟨k + 1,max y (c8 ks[k]),by omega,by go_num,by go_num,by omega,by show _=_; rw [← HI.out,S.out,Nat.max_assoc],HBr.out.trans (hb.mono HBr.out.size)⟩
   case measure => simp [intOf]; omega
  ·have S:=hid (uZ ks k hlt)
   go_wp2
   go_ret
   exact ⟨kR (by rw [E.out,← HI.out,S.out]; omega),HW⟩
theorem vV (t : Nd) (a : Option Addr) (cap n₀ : Nat) (w : World) (hh : t.hold n₀ w a cap) (hn : n₀≤w.heap.size) (hd : c8 t≤1000) :
 Calls Tryz.prog 130 #[.agg #[.int .i64 t.kind,.string t.text,.int .i64 t.n,.slice a t.kids.length cap,.int .i64 t.place]] w fun e w' => e=.returned (.int .i64 (c8 t))∧Below w.heap.size w w' :=
 tP _ t (Nat.lt_succ_self _) a cap n₀ w hh hn hd
end
section
variable {nest : Nat} {l x : List Tk} {u : Nd}
theorem l7.climb1 (h : l7 (.chain 1) (nest + 1) l x u) (h3 : isT tIf l=false) (hx : eQ x) (hn : nest + 1≤300) : l7 .expr nest l x u:=(l7.chain (lv:=0) h (hx.any (o5 0))).expr h3 hn
theorem l7.climbN (h : l7 .not (nest + 1) l x u) (h3 : isT tIf l=false) (hx : eQ x) (hn : nest + 1≤300) : l7 .expr nest l x u:=(l7.chain (lv:=1) h (hx.any (o5 1))).climb1 h3 hx hn
theorem l7.climb2 (h : l7 (.chain 2) (nest + 1) l x u) (h2 : isT eE l=false) (h3 : isT tIf l=false) (hx : eQ x) (hn : nest + 1≤300) : l7 .expr nest l x u:=(h.not h2 (hx.any (by decide))).climbN h3 hx hn
theorem l7.climb3 (h : l7 (.chain 3) (nest + 1) l x u) (h2 : isT eE l=false) (h3 : isT tIf l=false) (hx : eQ x) (hn : nest + 1≤300) : l7 .expr nest l x u:=(l7.chain (lv:=2) h (hx.any (o5 2))).climb2 h2 h3 hx hn
theorem l7.climbU (h : l7 .unary (nest + 1) l x u) (h2 : isT eE l=false) (h3 : isT tIf l=false) (hx : eQ x) (hn : nest + 1≤300) : l7 .expr nest l x u:=(l7.chain (lv:=3) h (hx.any (o5 3))).climb3 h2 h3 hx hn
end
theorem a5E {s : List UInt8} {T l x : List Tk} (h : Sp (a0m s :: T) l x) : (∀ v,isT v l=(s == v))∧Sp T (c6 l) x∧(hd l).text=s:=by
 unfold a0m at h
 split at h
 ·exact ⟨h.word,h.wordStep,h.head.2.1⟩
 ·exact ⟨h.sign,h.signStep,h.head.2.1⟩
theorem cD {lv n : Nat} {l y x : List Tk} {k w u : Nd} {s : List UInt8} (hk : l7 (D6 lv) n l y k) (hy : J7 (r4 lv) y=true) (hs : (hd y).text=s) (hw : l7 (D6 lv) n (c6 y) x w) (hx : J7 (r4 lv) x=false)
 (hu : u.kind=13∧u.text.data.toList=s∧u.n=0∧u.kids=[k,w]) (hd : c8 u≤100) : l7 (.chain lv) n l x u:=by
 obtain ⟨tk,rk,sk⟩:=hk
 obtain ⟨tw,rw',sw⟩:=hw
 have hsm : E0 false (mkN 13 (Proofs.YtibiccacafjjfaaGreatDoor.hd y).text 0 [tk,tw] (Proofs.YtibiccacafjjfaaGreatDoor.hd y).pos)=E0 false u:=J0 hu.1 (hu.2.1.trans hs.symm) hu.2.2.1 (by rw [hu.2.2.2,List.map_cons,List.map_cons,sk,sw]; rfl)
 refine ⟨_,?_,hsm⟩
 rw [r5]
 show (rd (D6 lv) n l).then _=_
 rw [rk,x8,r5]
 show (if _ then _ else _)=_
 rw [if_pos hy,rw',x8,aZ (by have:=V8 hsm; omega),x8,r5]
 show (if _ then _ else _)=_
 rw [hx,if_neg (by decide)]
theorem jH {n : Nat} {l y x : List Tk} {k w u : Nd} {s : List UInt8} (hl : isT eE l=false) (hk : l7 (.chain 2) n l y k) (hy : J7 iH y=true) (hs : (hd y).text=s) (hw : l7 (.chain 2) n (c6 y) x w)
 (hu : u.kind=13∧u.text.data.toList=s∧u.n=0∧u.kids=[k,w]) (hd : c8 u≤100) : l7 .not n l x u:=by
 obtain ⟨tk,rk,sk⟩:=hk
 obtain ⟨tw,rw',sw⟩:=hw
 have hsm : E0 false (mkN 13 (Proofs.YtibiccacafjjfaaGreatDoor.hd y).text 0 [tk,tw] (Proofs.YtibiccacafjjfaaGreatDoor.hd y).pos)=E0 false u:=J0 hu.1 (hu.2.1.trans hs.symm) hu.2.2.1 (by rw [hu.2.2.2,List.map_cons,List.map_cons,sk,sw]; rfl)
 refine ⟨_,?_,hsm⟩
 rw [r5]
 show (if _ then _ else _)=_
 rw [hl,if_neg (by decide),rk,x8,if_pos hy,rw',x8,aZ (by have:=V8 hsm; omega)]
theorem mH {s : List UInt8} (h : bP s=true) : s=[111,114]∨s=[97,110,100]∨s=[60]∨s=[60,61]∨s=[61]∨s=[43]∨s=[45]∨s=[42]∨s=[47]:=by
 have:=List.contains_iff_mem.1 h
 simpa [x7] using this
theorem wS (N : Nat) : ∀ (u : Nd) (d : Int),SizeOf.sizeOf u<N→d6 u d=true→1≤d→RE u∧RA u:=by
 induction N with
 | zero => intro u d h; omega
 | succ N ih =>
 intro u d hsz h hd0
 have hkk : ∀ k∈u.kids,SizeOf.sizeOf k<N:=fun k hk => sP hsz hk
 have hdep:=cU u d h
 have hkr : ∀ k∈u.kids,d6 k (d + 1)=true:=by
  have h4:=(y7 h).2.2.2
  intro k hk
  obtain ⟨i,hi,rfl⟩:=List.getElem_of_mem hk
  rcases hc : d6 u.kids[i] (d + 1) with _ | _
  ·rw [fA hi hc] at h4; cases h4
  ·rfl
 have ihk : ∀ k∈u.kids,RE k∧RA k:=fun k hk => ih k (d + 1) (hkk k hk) (hkr k hk) (by omega)
 have hA : RA u:=yG h hd0 fun k hk => (ihk k hk).1
 refine ⟨?_,hA⟩
 intro nest l x hl hx hn
 have hxo:=hx o3 (by decide)
 have hdk:=lP u
 by_cases hw : D5 u.kind=true
 case neg =>
  have hp : Sp (bG u.kind (n5 u)) l x:=by unfold bG; rw [if_neg hw]; exact hl
  obtain ⟨h1,h2,h3⟩:=dR h hp
  exact (hA hw (nest + 1) l x hl hxo (by omega)).climb h1 h2 h3 hx (by omega)
 have hk3 : u.kind=12∨u.kind=13∨u.kind=14:=by
  unfold D5 at hw
  simpa [or_assoc] using hw
 rcases hk3 with e | e | e
 ·obtain ⟨s,k,p,rfl,hs,hrk⟩:=pJ h e
  have hke:=ihk k (List.mem_cons_self ..)
  have d1:=D8 [k] k (List.mem_cons_self ..)
  replace hdk : c8 (.mk 12 s 0 [k] p)=f8 [k] + 1:=hdk
  have hl' : Sp ((if s.data.toList=[45] then tS aQ else tW eE) :: bG k.kind (n5 k)) l x:=by
   rw [n5,cI] at hl; exact hl
  rcases hs with hs | hs
  ·rw [if_pos hs] at hl'
   have hp:=hl'.signStep
   obtain ⟨h1,h2,h3⟩:=dR hrk hp
   obtain ⟨t,rt,st⟩:=(eI hke.1 hke.2 (nest:=nest + 1 + 1) hp hxo (by omega)).unary h1
   have hsm : E0 false (mkN 12 (hd l).text 0 [t] (hd l).pos)=E0 false (.mk 12 s 0 [k] p):=J0 rfl (by rw [hl'.head.2.1]; exact hs) rfl (by rw [List.map_cons,st]; rfl)
   have hR : l7 .unary (nest + 1) l x (.mk 12 s 0 [k] p):=by
    refine ⟨_,?_,hsm⟩
    rw [r5]
    show (if _ then _ else _)=_
    rw [if_pos (by rw [hl'.sign]; decide),lG (by omega),rt,x8]
    exact aZ (by have:=V8 hsm; omega)
   exact hR.climbU (by rw [hl'.sign]; decide) (by rw [hl'.sign]; decide) hx (by omega)
  ·rw [if_neg (by rw [hs]; decide)] at hl'
   have hp:=hl'.wordStep
   obtain ⟨h1,h2,h3⟩:=dR hrk hp
   obtain ⟨t,rt,st⟩:=l7.not (l7.chain (lv:=2) (l7.chain (lv:=3) ((eI hke.1 hke.2 (nest:=nest + 1 + 1) hp hxo (by omega)).unary h1) (hx.any (o5 3))) (hx.any (o5 2))) h2 (hx.any (by decide))
   have hsm : E0 false (mkN 12 (hd l).text 0 [t] (hd l).pos)=E0 false (.mk 12 s 0 [k] p):=J0 rfl (by rw [hl'.head.2.1]; exact hs) rfl (by rw [List.map_cons,st]; rfl)
   have hR : l7 .not (nest + 1) l x (.mk 12 s 0 [k] p):=by
    refine ⟨_,?_,hsm⟩
    rw [r5]
    show (if _ then _ else _)=_
    rw [if_pos (by rw [hl'.word]; decide),lG (by omega),rt,x8]
    exact aZ (by have:=V8 hsm; omega)
   exact hR.climbN (by rw [hl'.word]; decide) hx (by omega)
 ·obtain ⟨s,k,w,p,rfl,hs,hrk,hrw⟩:=pD h e
  have hke:=ihk k (by simp [Nd.kids])
  have hwe:=ihk w (by simp [Nd.kids])
  have d1:=D8 [k,w] k (by simp)
  have d2:=D8 [k,w] w (by simp)
  replace hdk : c8 (.mk 13 s 0 [k,w] p)=f8 [k,w] + 1:=hdk
  have hl' : Sp (bG k.kind (n5 k) ++ a0m s.data.toList :: bG w.kind (n5 w)) l x:=by
   rw [n5,cI] at hl; exact hl
  obtain ⟨y,g1,g2⟩:=hl'.app
  obtain ⟨hy,g3,hyt⟩:=a5E g2
  obtain ⟨h1,h2,h3⟩:=dR hrk g1
  obtain ⟨i1,i2,i3⟩:=dR hrw g3
  have hyo : isT o3 y=false:=by
   rw [hy,beq_eq_false_iff_ne]
   rintro e
   rw [e] at hs; exact absurd hs (by decide)
  have ra:=(eI hke.1 hke.2 (nest:=nest + 1) g1 hyo (by omega)).unary h1
  have rb:=(eI hwe.1 hwe.2 (nest:=nest + 1) g3 hxo (by omega)).unary i1
  have hu : (Nd.mk 13 s 0 [k,w] p).kind=13∧(Nd.mk 13 s 0 [k,w] p).text.data.toList=s.data.toList∧(Nd.mk 13 s 0 [k,w] p).n=0∧(Nd.mk 13 s 0 [k,w] p).kids=[k,w]:=⟨rfl,rfl,rfl,rfl⟩
  have hd100 : c8 (.mk 13 s 0 [k,w] p)≤100:=by omega
  have an : ∀ {ws : List (List UInt8)},(ws.any fun v => s.data.toList == v)=true→J7 ws y=true:=fun {ws} h => by
   unfold J7
   rw [show (fun w => isT w y)=fun v => s.data.toList == v from funext hy]
   exact h
  have no : ∀ {ws : List (List UInt8)},(ws.any fun v => s.data.toList == v)=false→J7 ws y=false:=fun {ws} h => by
   unfold J7
   rw [show (fun w => isT w y)=fun v => s.data.toList == v from funext hy]
   exact h
  have a3 : J7 (r4 3) y=false→l7 (.chain 3) (nest + 1) l y k:=fun g => l7.chain (lv:=3) ra g
  have a2 : J7 (r4 3) y=false→J7 (r4 2) y=false→l7 (.chain 2) (nest + 1) l y k:=fun g g' => l7.chain (lv:=2) (a3 g) g'
  have b3:=l7.chain (lv:=3) rb (hx.any (o5 3))
  have b2:=l7.chain (lv:=2) b3 (hx.any (o5 2))
  have bN:=b2.not i2 (hx.any (by decide))
  have b1:=l7.chain (lv:=1) bN (hx.any (o5 1))
  rcases mH hs with e | e | e | e | e | e | e | e | e
  ·have aN:=(a2 (no (by rw [e]; decide)) (no (by rw [e]; decide))).not h2 (no (by rw [e]; decide))
   have a1:=l7.chain (lv:=1) aN (no (by rw [e]; decide))
   exact (cD (lv:=0) a1 (an (by rw [e]; decide)) hyt b1 (hx.any (o5 0)) hu hd100).expr h3 (by omega)
  ·have aN:=(a2 (no (by rw [e]; decide)) (no (by rw [e]; decide))).not h2 (no (by rw [e]; decide))
   exact (cD (lv:=1) aN (an (by rw [e]; decide)) hyt bN (hx.any (o5 1)) hu hd100).climb1 h3 hx (by omega)
  ·exact (jH h2 (a2 (no (by rw [e]; decide)) (no (by rw [e]; decide))) (an (by rw [e]; decide)) hyt b2 hu hd100).climbN h3 hx (by omega)
  ·exact (jH h2 (a2 (no (by rw [e]; decide)) (no (by rw [e]; decide))) (an (by rw [e]; decide)) hyt b2 hu hd100).climbN h3 hx (by omega)
  ·exact (jH h2 (a2 (no (by rw [e]; decide)) (no (by rw [e]; decide))) (an (by rw [e]; decide)) hyt b2 hu hd100).climbN h3 hx (by omega)
  ·exact (cD (lv:=2) (a3 (no (by rw [e]; decide))) (an (by rw [e]; decide)) hyt b3 (hx.any (o5 2)) hu hd100).climb2 h2 h3 hx (by omega)
  ·exact (cD (lv:=2) (a3 (no (by rw [e]; decide))) (an (by rw [e]; decide)) hyt b3 (hx.any (o5 2)) hu hd100).climb2 h2 h3 hx (by omega)
  ·exact (cD (lv:=3) ra (an (by rw [e]; decide)) hyt rb (hx.any (o5 3)) hu hd100).climb3 h2 h3 hx (by omega)
  ·exact (cD (lv:=3) ra (an (by rw [e]; decide)) hyt rb (hx.any (o5 3)) hu hd100).climb3 h2 h3 hx (by omega)
 ·obtain ⟨s,k,v,w,p,rfl,hs,hrk,hrv,hrw⟩:=tV h e
  have hke:=ihk k (by simp [Nd.kids])
  have hve:=ihk v (by simp [Nd.kids])
  have hwe:=ihk w (by simp [Nd.kids])
  have d1:=D8 [k,v,w] k (by simp)
  have d2:=D8 [k,v,w] v (by simp)
  have d3:=D8 [k,v,w] w (by simp)
  replace hdk : c8 (.mk 14 s 0 [k,v,w] p)=f8 [k,v,w] + 1:=hdk
  have hl' : Sp (tW tIf :: (n5 k ++ tW dQ :: (n5 v ++ tW cO :: n5 w))) l x:=by
   rw [n5,cI] at hl; exact hl
  obtain ⟨y,g1,g2⟩:=hl'.wordStep.app
  obtain ⟨z,g3,g4⟩:=g2.wordStep.app
  obtain ⟨ta,ra,sa⟩:=hke.1 (nest + 1) _ _ g1 (nY (by decide) g2) (by omega)
  obtain ⟨tb,rb,sb⟩:=hve.1 (nest + 1) _ _ g3 (nY (by decide) g4) (by omega)
  obtain ⟨tc,rc,sc⟩:=hwe.1 (nest + 1) _ _ g4.wordStep hx (by omega)
  have hsm : E0 false (mkN 14 [] 0 [ta,tb,tc] (hd l).pos)=E0 false (.mk 14 s 0 [k,v,w] p):=J0 rfl hs rfl (by rw [List.map_cons,List.map_cons,List.map_cons,sa,sb,sc]; rfl)
  refine ⟨_,?_,hsm⟩
  rw [r5]
  show I8 nest l _=_
  rw [lG (by omega),if_pos (by rw [hl'.word]; decide),ra,x8,qO g2,rb,x8,qO g4,rc,x8]
  exact aZ (by have:=V8 hsm; omega)
theorem vZ {u : Nd} (h : d6 u 1=true) {l x : List Tk} (hl : Sp (n5 u) l x) (hx : eQ x) : l7 .expr 0 l x u :=
 (wS _ u 1 (Nat.lt_succ_self _) h (by decide)).1 0 l x hl hx (by have:=cU u 1 h; omega)
end Go.Proofs.YtibiccacafjjfaaGreatDoor
