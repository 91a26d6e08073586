/-
  Laws that the proof rests on.
-/
import Derived.Test.YtppcfebnaieciaaGreatDoorE01
import Derived.Test.YtppcfebnaieciaaGreatDoorProg
import Derived.WalkKit
import Derived.Deep.RegionWith
import Derived.Deep.RegionHeld3
import Derived.Lib.SlTrimSet
import Derived.Lib.Strings
import Derived.Lib.IndexMore
import Derived.Lib.IndexBytes
namespace Go.Proofs.YtppcfebnaieciaaGreatDoor
set_option maxRecDepth 100000
set_option maxHeartbeats 16000000
section
variable {Pr : Program} {ops : Array Oper} {Q : Exit→Act→World→Prop} {md : Region.Mode} {S : World→Prop}
def Y0 (Pr : Program) (md : Region.Mode) (ops : Array Oper) (Q : Exit→Act→World→Prop) (S : World→Prop) (Z : List Nat) : Nat→Array Bool→Act→World→Prop
 | 0,listed,a,w => Region.ready md ops listed=[]∧Q .normal a w
 | n + 1,listed,a,w => (Region.ready md ops listed=[]→Q .normal a w) ∧
   ∀ i∈Region.ready md ops listed,wpOp Pr ops Q i (fun a' w' => (i ∉ Z→S w')∧Y0 Pr md ops Q S Z n (listed.setIfInBounds i true) a' w') a w
theorem Y0.any {Z : List Nat} : ∀ (n : Nat) (listed : Array Bool) (a : Act) (w : World),Y0 Pr md ops Q S Z n listed a w→wpAny Pr md ops Q n listed a w
 | 0,_,_,_,h => h
 | n + 1,_,_,_,h => ⟨h.1,fun i hi => wpOp_mono (fun a' w' h' => Y0.any n _ a' w' h'.2) (h.2 i hi)⟩
theorem Y0.first {T : World→Prop} {i : Nat} {Z : List Nat} {oi : Oper} {v : Value} (hi : ops[i]?=some oi) (hsel : ∀ (j : Nat) (o : Oper) cs b,ops[j]?=some o→o.op≠.select cs b)
 (hT : (∀ w,T w)∨((∀ w,S w→T w)∧∀ z∈Z,fG md ops z i=true)) (hiS : i∈Z∨∀ w,T w→S w)
 (hQ : ∀ c a w,Q (.panic c) (a.put oi.dst v) w→Q (.panic c) a w) : ∀ (n : Nat) (listed : Array Bool) (a : Act) (w : World),
   (∀ j oj,ops[j]?=some oj→j≠i→listed.getD j true=false→(∀ e∈oj.after,Region.binds md e=true→e.on≠i)→oi.apart ops oj=true) →
   i∈Region.ready md ops listed→YieldsIf Pr ops T oi v a→T w →
   Y0 Pr md ops Q S Z n (listed.setIfInBounds i true) (a.put oi.dst v) w→Y0 Pr md ops Q S Z (n + 1) listed a w
 | 0,listed,a,w,_,hr,hy,hS,H => by
   refine ⟨fun h => (by rw [h] at hr; cases hr),fun j hj => ?_⟩
   by_cases hji : j=i
   ·subst hji; exact hy.wpOp hi hS ⟨fun hz => hiS.elim (fun h => absurd h hz) fun h => h w hS,H⟩
   ·have:=ready_mono hj hji
    rw [H.1] at this
    cases this
 | n + 1,listed,a,w,hfree,hr,hy,hS,H => by
   have hun:=(mem_ready.1 hr).1
   refine ⟨fun h => (by rw [h] at hr; cases hr),fun j hj => ?_⟩
   by_cases hji : j=i
   ·subst hji; exact hy.wpOp hi hS ⟨fun hz => hiS.elim (fun h => absurd h hz) fun h => h w hS,H⟩
   ·obtain ⟨hjun,oj,hoj,hall⟩:=mem_ready.1 hj
    have hno : ∀ e∈oj.after,Region.binds md e=true→e.on≠i:=fun e he hb heq => by
     have h1:=hall e he hb
     rw [heq] at h1
     rcases Nat.lt_or_ge i listed.size with g | g
     ·simp [g] at hun h1; rw [hun] at h1; cases h1
     ·simp [Array.getElem?_eq_none g] at h1
    have h2:=wpOp_putIf hoj (hfree j oj hoj hji hjun hno) (fun cs b => hsel i oi cs b hi) (fun cs b => hsel j oj cs b hoj) hQ hy (H.2 j (ready_mono hj hji))
    refine wpOp_mono (fun a' w' h3 => ⟨h3.2.1,Y0.first hi hsel hT hiS hQ n (listed.setIfInBounds j true) a' w' (fun k ok hk hki hku hkn => ?_) (ready_mono hr (Ne.symm hji)) h3.1 ?_ ?_⟩) h2
    ·refine hfree k ok hk hki ?_ hkn
     by_cases hjk : j=k
     ·subst hjk; exact hjun
     ·rw [getD_set_ne true hjk] at hku; exact hku
    ·rcases hT with hT | ⟨hT,hz⟩
     ·exact hT w'
     ·exact hT w' (h3.2.1 fun hjz => fG.not_ready (hz j hjz) hun hj)
    ·rw [Array.setIfInBounds_comm _ _ hji]
     exact h3.2.2
theorem Y0.take {i : Nat} {Z : List Nat} {oi : Oper} {v : Value} {n : Nat} {listed : Array Bool} {a : Act} {w : World} (hi : ops[i]?=some oi) (hs : Region.noSelect ops=true) (hf : Region.free md ops listed i=true) (hr : (Region.ready md ops listed).contains i=true) (hz : (Z.all fun z => fG md ops z i)=true)
 (hQ : ∀ c a w,Q (.panic c) (a.put oi.dst v) w→Q (.panic c) a w) (hy : YieldsIf Pr ops S oi v a) (hS : S w) (h : Y0 Pr md ops Q S Z n (listed.setIfInBounds i true) (a.put oi.dst v) w) : Y0 Pr md ops Q S Z (n + 1) listed a w :=
 Y0.first (T:=S) hi (Region.noSelect_spec hs) (.inr ⟨fun _ h => h,fun z hz' => List.all_eq_true.1 hz z hz'⟩) (.inr fun _ h => h) hQ n listed a w (Region.free_spec hi hf) (by simpa using hr) hy hS h
theorem Y0.next {i : Nat} {Z : List Nat} {o : Oper} {n : Nat} {listed : Array Bool} {a : Act} {w : World} (hr : Region.ready md ops listed=[i]) (ho : ops[i]?=some o)
 (h : ∀ K' : Act→World→Prop,Shut (∀ a w,S w→(S w→Y0 Pr md ops Q S Z n (listed.setIfInBounds i true) a w)→K' a w)→if Region.wanted o (yielded ops a.tmps)=true then Oper.wp Pr o a w K' Q else K' (a.put o.dst undef) w) : Y0 Pr md ops Q S Z (n + 1) listed a w :=
 ⟨fun h0 => (by rw [h0] at hr; cases hr),fun j hj => by
  rw [hr] at hj
  obtain rfl:=List.mem_singleton.1 hj
  exact wpOp_step ho fun K' hK => h K' fun a w hS hW => hK a w ⟨fun _ => hS,hW hS⟩⟩
theorem Y0.done {Z : List Nat} {listed : Array Bool} {a : Act} {w : World} (hr : Region.ready md ops listed=[]) (h : Q .normal a w) : ∀ n,Y0 Pr md ops Q S Z n listed a w
 | 0 => ⟨hr,h⟩
 | _ + 1 => ⟨fun _ => h,by rw [hr]; simp⟩
theorem sL {id : Nat} {Z : List Nat} {a : Act} {w : World} (hm : Pr.follows .mixedOrders=true) (hS : S w.drew) (h : S w.drew→Y0 Pr .any ops Q S Z ops.size (Array.replicate ops.size false) a w.drew) : (Code.region id ops true).wp Pr Q a w :=
 wp_region_any hm (Y0.any _ _ _ _ (h hS))
end
theorem n7 {l : List Oper} {n : Nat} {o : Oper} {r : List Oper} (h : l.drop n=o :: r) : l.toArray[n]?=some o:=by
 rw [List.getElem?_toArray]
 have : (l.drop n)[0]?=some o:=by rw [h]; rfl
 rw [List.getElem?_drop] at this
 simpa using this
def a5O : ByteArray:=⟨#[97,98,99,100,101,102,103,104,105,106,107,108,109,110,111,112,113,114,115,116,117,118,119,120,121,122,48,49,50,51,52,53,54,55,56,57,95]⟩
def xN : ByteArray:=⟨#[65,66,67,68,69,70,71,72,73,74,75,76,77,78,79,80,81,82,83,84,85,86,87,88,89,90]⟩
def R7 (c : UInt8) : Bool:=a5O.data.toList.contains c
def rL (c : UInt8) : Bool:=xN.data.toList.contains c
def z7 (l : List UInt8) : Bool:=decide (l.length≤24) && (decide (97≤((l.headD 0).toNat : Int)) && decide (((l.headD 0).toNat : Int)≤122)) && l.all R7
def eI (l : List UInt8) : Bool:=decide (l.length=3) && l.all rL
theorem aB {α : Type} (p : α→Bool) : ∀ l : List α,l.dropWhile p=[]↔l.all p=true
 | [] => by simp
 | a :: l => by
   rw [List.dropWhile_cons]
   cases h : p a
   ·simp [h]
   ·simp [h,aB p l]
theorem a3M (l cs : List UInt8) : Lib.trimS l cs=[]↔l.all (cs.contains ·)=true:=by
 unfold Lib.trimS Lib.trimLeftS Lib.trimRightS
 rw [aB]
 constructor
 ·intro h
  by_cases e : l.reverse.dropWhile (cs.contains ·)=[]
  ·rw [aB,List.all_reverse] at e; exact e
  ·exfalso
   have k:=List.head_dropWhile_not (p:=(cs.contains ·)) e
   rw [List.all_reverse,List.all_eq_true] at h
   have:=h _ (List.head_mem e)
   rw [this] at k
   cases k
 ·intro h
  have e : l.reverse.dropWhile (cs.contains ·)=[]:=by rw [aB,List.all_reverse]; exact h
  rw [e]; rfl
theorem yS (l cs : List UInt8) : (Lib.trimS l cs).isEmpty=l.all (cs.contains ·):=by
 rw [Bool.eq_iff_iff,List.isEmpty_iff,a3M]
theorem d6 (s : ByteArray) : s.data.toList.length=s.size:=by cases s; rfl
theorem U7 {s : ByteArray} (h : 0<s.size) : s.data.toList.headD 0=s[0]:=by
 have : s.data.toList≠[]:=fun e => by have:=d6 s; rw [e] at this; simp at this; omega
 cases hl : s.data.toList with
 | nil => exact absurd hl this
 | cons a l =>
   have : s[0]=s.data.toList[0]'(by rw [d6]; exact h):=rfl
   rw [this]; simp [hl]
def dig (n : Nat) : UInt8:=UInt8.ofNat (48 + n % 10)
def aV : Nat→Nat→List UInt8→List UInt8
 | 0,_,l => l
 | f + 1,n,l => if n=0 then l else aV f (n / 10) (dig n :: l)
def fS (n : Nat) : List UInt8:=aV 20 (n / 10) [dig n]
def bD : Nat→Nat→List UInt8→List UInt8
 | 0,_,l => l
 | k + 1,n,l => bD k (n / 10) (dig n :: l)
def dX (l : List UInt8) : List UInt8:=(l.reverse.dropWhile (· == 48)).reverse
def vL (x : Nat) : List UInt8:=fS (x / 1000000) ++ (if dX (bD 6 x [])=[] then [] else 46 :: dX (bD 6 x []))
def V9 (a : Int) : Int:=if a > 1000000000000000 then 1000000000000000 else if a < -1000000000000000 then -1000000000000000 else a
def bX (a : Int) : List UInt8:=(if V9 a<0 then [45] else []) ++ vL (V9 a).natAbs
theorem nX : ∀ (k n : Nat) (l : List UInt8),bD k n l=bD k n [] ++ l
 | 0,_,_ => rfl
 | k + 1,n,l => by
   rw [bD,bD,nX k _ (dig n :: l),nX k _ [dig n],List.append_assoc]; rfl
theorem eC : ∀ (k n : Nat) (l : List UInt8),(bD k n l).length=k + l.length
 | 0,_,_ => by rw [bD]; omega
 | k + 1,n,l => by rw [bD,eC k]; simp; omega
theorem qQ : ∀ (f g n : Nat) (l : List UInt8),n<10 ^ f→f≤g→aV g n l=aV f n l
 | 0,g,n,l,h,_ => by
   have : n=0:=by simpa using h
   subst this
   cases g with
   | zero => rfl
   | succ g => show (if (0 : Nat)=0 then l else _)=_; rw [if_pos rfl]; rfl
 | f + 1,0,n,l,_,h => absurd h (by omega)
 | f + 1,g + 1,n,l,h,hg => by
   rw [aV,aV]
   split
   ·rfl
   ·exact qQ f g _ _ (by rw [Nat.pow_succ] at h; omega) (by omega)
theorem jI (n : Nat) (l : List UInt8) (h0 : n≠0) (h : n<10 ^ 20) : aV 20 n l=aV 20 (n / 10) (dig n :: l):=by
 rw [show aV 20 n l=aV (19 + 1) n l from rfl,aV,if_neg h0]
 exact (qQ 19 20 _ _ (by omega) (by omega)).symm
theorem pZ (l : List UInt8) : aV 20 0 l=l:=rfl
theorem a4A (n : Nat) (h0 : n≠0) (h : n<10 ^ 20) : fS n=aV 20 n []:=(jI n [] h0 h).symm
theorem vU (n : Nat) : dig n=48↔n % 10=0:=by
 unfold dig
 have h : n % 10<10:=Nat.mod_lt _ (by decide)
 have : ∀ k : Fin 10,(UInt8.ofNat (48 + k.val)=48↔k.val=0):=by decide
 exact this ⟨n % 10,h⟩
theorem a01 (l : List UInt8) : dX l=[]↔∀ c∈l,c=48:=by
 unfold dX
 rw [List.reverse_eq_nil_iff]
 have : ∀ l : List UInt8,l.dropWhile (· == 48)=[]↔∀ c∈l,c=48:=by
  intro l
  induction l with
  | nil => simp
  | cons a l ih =>
    rw [List.dropWhile_cons]
    by_cases h : a=48
    ·subst h; simp [ih]
    ·simp [h]
 rw [this]
 simp
theorem uV : ∀ (k n : Nat),(∀ c∈bD k n [],c=48)↔n % 10 ^ k=0
 | 0,n => by simp [bD,Nat.mod_one]
 | k + 1,n => by
   have e : (10 : Nat) ^ (k + 1)=10 * 10 ^ k:=by rw [Nat.pow_succ,Nat.mul_comm]
   have m:=Nat.mod_mul (x:=n) (a:=10) (b:=10 ^ k)
   rw [bD,nX,e,m]
   simp only [List.mem_append,List.mem_singleton]
   have i:=uV k (n / 10)
   constructor
   ·intro h
    have h1:=i.1 fun c hc => h c (.inl hc)
    have h2:=(vU n).1 (h _ (.inr rfl))
    rw [h1,h2]
   ·intro h c hc
    have h1 : n % 10=0:=by omega
    have h2 : (n / 10) % 10 ^ k=0:=by omega
    rcases hc with hc | rfl
    ·exact i.2 h2 c hc
    ·exact (vU n).2 h1
theorem a3D (x : Nat) : dX (bD 6 x [])=[]↔x % 1000000=0:=by
 rw [a01,uV]
theorem contains_cons (b : UInt8) (l sub : List UInt8) : Lib.contains (b :: l) sub=(sub.isPrefixOf (b :: l) || Lib.contains l sub):=by
 unfold Lib.contains
 rw [Lib.index]
 have:=Lib.index_ge l sub
 split
 ·rename_i h; rw [h]; rfl
 ·rename_i h
  rw [Bool.eq_false_iff.2 h,Bool.false_or]
  split
  ·rename_i g; rw [eq_of_beq g]
  ·rename_i g
   rw [Bool.eq_iff_iff]
   simp only [decide_eq_true_eq]
   have : Lib.index l sub≠-1:=fun e => g (by rw [e]; rfl)
   omega
theorem fK (sub : List UInt8) : ∀ (w m : List UInt8),(∀ c∈w,c≠32)→Lib.contains (w ++ m) (32 :: sub)=Lib.contains m (32 :: sub)
 | [],_,_ => rfl
 | c :: w,m,h => by
   have hc : (32 == c)=false:=by rw [beq_eq_false_iff_ne]; exact fun e => h c (List.mem_cons_self ..) e.symm
   rw [List.cons_append,contains_cons,List.isPrefixOf,hc,Bool.false_and,Bool.false_or]
   exact fK sub w m fun d hd => h d (List.mem_cons_of_mem _ hd)
theorem jU : ∀ (s w m : List UInt8),(∀ c∈s,c≠32)→(∀ c∈w,c≠32)→(s ++ [32]).isPrefixOf (w ++ 32 :: m)=(s == w)
 | [],[],_,_,_ => rfl
 | [],c :: w,m,_,h => by
   have hc : (32 == c)=false:=by rw [beq_eq_false_iff_ne]; exact fun e => h c (List.mem_cons_self ..) e.symm
   rw [List.nil_append,List.cons_append,List.isPrefixOf,hc]; rfl
 | c :: s,[],m,h,_ => by
   have hc : (c == 32)=false:=by rw [beq_eq_false_iff_ne]; exact fun e => h c (List.mem_cons_self ..) e
   rw [List.cons_append,List.nil_append,List.isPrefixOf,hc]; rfl
 | c :: s,d :: w,m,h,g => by
   rw [List.cons_append,List.cons_append,List.isPrefixOf,jU s w m (fun x hx => h x (List.mem_cons_of_mem _ hx)) (fun x hx => g x (List.mem_cons_of_mem _ hx))]
   rfl
def eB : List (List UInt8)→List UInt8
 | [] => [32]
 | w :: r => 32 :: (w ++ eB r)
theorem sQ : ∀ L,∃ m,eB L=32 :: m
 | [] => ⟨_,rfl⟩
 | _ :: _ => ⟨_,rfl⟩
theorem aO (s : List UInt8) (hs : ∀ c∈s,c≠32) : ∀ (L : List (List UInt8)),(∀ w∈L,∀ c∈w,c≠32)→Lib.contains (eB L) (32 :: (s ++ [32]))=L.contains s
 | [],_ => by
   show Lib.contains [32] (32 :: (s ++ [32]))=false
   rw [contains_cons]
   cases s with
   | nil => rfl
   | cons c s => rfl
 | w :: r,h => by
   obtain ⟨m,hm⟩:=sQ r
   have hw:=h w (List.mem_cons_self ..)
   rw [eB,contains_cons,fK _ _ _ hw,aO s hs r (fun w hw => h w (List.mem_cons_of_mem _ hw)),List.isPrefixOf,hm,jU s w m hs hw,List.contains_cons]
   rfl
def L4 : List (List UInt8):=[[109,111,100,117,108,101],[105,109,112,111,114,116],[108,101,116],[105,102],[116,104,101,110],[101,108,115,101],[97,110,100],[111,114],[110,111,116],[116,114,117,101],[102,97,108,115,101],[102,101,101,100],[112,105,99,107]]
def v7 : List (List UInt8):=[[111,114],[97,110,100],[60],[60,61],[61],[43],[45],[42],[47]]
def aI (l : List UInt8) : Bool:=L4.contains l
def cB (l : List UInt8) : Bool:=v7.contains l
def j8 (l : List UInt8) : Bool:=z7 l && !aI l
def fX (l : List UInt8) : Bool:=j8 (Lib.cut l [46]).1 && (!(Lib.cut l [46]).2.2 || j8 (Lib.cut l [46]).2.1)
def qW (l : List UInt8) : Bool:=(Lib.cut l [46]).2.2 && (j8 (Lib.cut l [46]).1 && j8 (Lib.cut l [46]).2.1)
theorem uI (c : UInt8) (h : R7 c=true) : c≠32∧c≠46:=by
 constructor <;> (rintro rfl; exact absurd h (by decide))
theorem oD {l : List UInt8} (h : z7 l=true) : ∀ c∈l,R7 c=true:=by
 unfold z7 at h
 rw [Bool.and_eq_true] at h
 exact List.all_eq_true.1 h.2
theorem oO {l : List UInt8} (h : z7 l=true) : Lib.contains (eB L4) (32 :: (l ++ [32]))=aI l :=
 aO l (fun c hc => (uI c (oD h c hc)).1) L4 (by decide)
theorem dJ (l : List UInt8) (c : UInt8) : Lib.contains l [c]=l.contains c:=by
 induction l with
 | nil => rfl
 | cons b l ih => rw [contains_cons,ih,List.contains_cons,List.isPrefixOf,List.isPrefixOf,Bool.and_true]
theorem oV (l : List UInt8) : (!l.isEmpty && !Lib.contains l [32] && Lib.contains (eB v7) (32 :: (l ++ [32])))=cB l:=by
 by_cases h : ∀ c∈l,c≠32
 ·rw [aO l h v7 (by decide),dJ]
  have h1 : l.contains 32=false:=by
   rw [Bool.eq_false_iff]; intro e; exact h 32 (List.contains_iff_mem.1 e) rfl
  rw [h1]
  cases l with
  | nil => rfl
  | cons c l => rfl
 ·have h1 : l.contains 32=true:=by
   rw [List.contains_iff_mem]
   exact Classical.byContradiction fun g => h fun c hc e => g (e ▸ hc)
  rw [dJ,h1,Bool.not_true,Bool.and_false,Bool.false_and]
  symm
  rw [Bool.eq_false_iff]
  intro e
  have hm : l∈v7:=List.contains_iff_mem.1 e
  have : ∀ w∈v7,w.contains 32=false:=by decide
  rw [this l hm] at h1
  cases h1
theorem a2v {l : List UInt8} (h : (Lib.cut l [46]).2.2=false) : (Lib.cut l [46]).1=l:=by
 unfold Lib.cut at h ⊢
 split
 ·rename_i g; rw [if_pos g] at h; cases h
 ·rfl
theorem a0J {l : List UInt8} {c : UInt8} (h : 0≤Lib.index l [c]) : c∈l:=by
 have:=dJ l c
 unfold Lib.contains at this
 rw [decide_eq_true h] at this
 exact List.contains_iff_mem.1 this.symm
theorem a2I (l : List UInt8) : (j8 l || qW l)=fX l:=by
 unfold qW fX
 cases h : (Lib.cut l [46]).2.2
 ·rw [a2v h]; simp
 ·have hn : j8 l=false:=by
   rw [Bool.eq_false_iff]
   intro e
   unfold j8 at e
   rw [Bool.and_eq_true] at e
   have hm : (46 : UInt8)∈l:=by
    unfold Lib.cut at h
    split at h
    ·rename_i g; exact a0J g
    ·cases h
   exact (uI 46 (oD e.1 46 hm)).2 rfl
  rw [hn]; simp
def wL : List (Int × Int × Int):=(List.range 200).flatMap fun (y : Nat) => (List.range 12).flatMap fun (m : Nat) => (List.range 31).map fun (d : Nat) => (1900 + (y : Int),1 + (m : Int),1 + (d : Int))
instance (y m d : Int) : Decidable (Cal.ok y m d):=inferInstanceAs (Decidable (_∧_))
def nS (k : Int) : List UInt8:=match wL.find? (fun t => decide (Cal.ok t.1 t.2.1 t.2.2∧Cal.num t.1 t.2.1 t.2.2=k)) with
 | some t => Cal.text t.1 t.2.1 t.2.2
 | none => []
theorem wE {y m d : Int} (h : Cal.ok y m d) : (y,m,d)∈wL:=by
 obtain ⟨h1,h2,h3,h4,h5,h6⟩:=h
 have:=Cal.mlen_bd y m
 refine List.mem_flatMap.2 ⟨(y - 1900).toNat,List.mem_range.2 (by omega),List.mem_flatMap.2 ⟨(m - 1).toNat,List.mem_range.2 (by omega),List.mem_map.2 ⟨(d - 1).toNat,List.mem_range.2 (by omega),?_⟩⟩⟩
 simp only [Prod.mk.injEq]
 omega
theorem a2g {y m d : Int} (h : Cal.ok y m d) : nS (Cal.num y m d)=Cal.text y m d:=by
 unfold nS
 cases hf : wL.find? (fun t => decide (Cal.ok t.1 t.2.1 t.2.2∧Cal.num t.1 t.2.1 t.2.2=Cal.num y m d)) with
 | none =>
   have:=List.find?_eq_none.1 hf (y,m,d) (wE h)
   exact absurd (decide_eq_true ⟨h,rfl⟩) this
 | some t =>
   have:=List.find?_some hf
   simp only [decide_eq_true_eq] at this
   obtain ⟨e1,e2,e3⟩:=Cal.num_inj this.1 h this.2
   show Cal.text t.1 t.2.1 t.2.2=_
   rw [e1,e2,e3]
def q6 (kind : Int) (l : List UInt8) : Bool :=
 if kind=7 then eI l else if kind=9∨kind=15 then z7 l else if kind=10∨kind=11 then fX l
 else if kind=12 then l == [45] || l == [110,111,116] else if kind=13 then cB l else l.isEmpty
def bM (kind n : Int) : Bool :=
 if kind=5 then decide (0≤n) && decide (n≤1000000000000000) else if kind=6 then decide (0≤n) && decide (n≤73048)
 else if kind=8 then decide (n=0) || decide (n=1) else decide (n=0)
def x6 (kind : Int) (k : Nat) : Bool :=
 if 5≤kind∧kind≤10 then decide (k=0) else if kind=11 then decide (1≤k) && decide (k≤8)
 else if kind=12 then decide (k=1) else if kind=13 then decide (k=2) else if kind=14∨kind=15 then decide (k=3) else false
mutual
def d5 : Nd→Int→Bool
 | .mk kind s n ks _,d => decide (d≤100) && x6 kind ks.length && q6 kind s.data.toList && bM kind n && o6 ks (d + 1)
def o6 : List Nd→Int→Bool
 | [],_ => true
 | k :: ks,d => d5 k d && o6 ks d
end
def U6 (kind : Int) : Bool:=decide (kind=12) || decide (kind=13) || decide (kind=14)
def U3 (kind : Int) (f : List UInt8) : List UInt8:=if U6 kind=true then [40] ++ f ++ [41] else f
def kV : List (List UInt8)→List UInt8
 | [] => []
 | f :: r => [44,32] ++ f ++ kV r
def cV : List (List UInt8)→List UInt8
 | [] => [40,41]
 | f :: r => [40] ++ f ++ kV r ++ [41]
def rR (kind n : Int) (s : List UInt8) (l : List (Int × List UInt8)) : List UInt8 :=
 if kind=5 then bX n
 else if kind=6 then nS n
 else if kind=8 then (if n=1 then [116,114,117,101] else [102,97,108,115,101])
 else if kind=9 then [102,101,101,100,32,34] ++ s ++ [34]
 else if kind=11 then s ++ cV (l.map (·.2))
 else if kind=15 then [112,105,99,107,32,34] ++ s ++ [34] ++ cV (l.map (·.2))
 else match l with
  | [a] => (if kind=12 then (if s=[45] then [45] else [110,111,116,32]) ++ U3 a.1 a.2 else s)
  | [a,b] => (if kind=13 then U3 a.1 a.2 ++ [32] ++ s ++ [32] ++ U3 b.1 b.2 else s)
  | [a,b,c] => (if kind=14 then [105,102,32] ++ a.2 ++ [32,116,104,101,110,32] ++ b.2 ++ [32,101,108,115,101,32] ++ c.2 else s)
  | _ => s
mutual
def g9 : Nd→List UInt8
 | .mk kind s n ks _ => rR kind n s.data.toList (r9 ks)
def r9 : List Nd→List (Int × List UInt8)
 | [] => []
 | k :: ks => (k.kind,g9 k) :: r9 ks
end
theorem mF : ∀ ks : List Nd,r9 ks=ks.map fun k => (k.kind,g9 k)
 | [] => rfl
 | k :: ks => by rw [r9,mF ks]; rfl
theorem bW : ∀ (ks : List Nd) (d : Int),o6 ks d=ks.all fun k => d5 k d
 | [],_ => rfl
 | k :: ks,d => by rw [o6,bW ks d]; rfl
def mD (t : Nd) : Bool:=y9 t && d5 t 1
inductive Fm where
 | leaf (s : ByteArray)
 | called (head : ByteArray) (kids : List Fm)
 | unary (sign kid : Fm)
 | binary (a sign b : Fm)
 | choice (a b c : Fm)
def Fm.wrap : Fm→Bool
 | .leaf _ => false
 | .called _ _ => false
 | _ => true
def U9 (b : Bool) (l : List UInt8) : List UInt8:=if b=true then [40] ++ l ++ [41] else l
mutual
def Fm.text : Fm→List UInt8
 | .leaf s => s.data.toList
 | .called h ks => h.data.toList ++ Fm.texts true ks ++ [41]
 | .unary s k => s.text ++ U9 k.wrap k.text
 | .binary a s b => U9 a.wrap a.text ++ [32] ++ s.text ++ [32] ++ U9 b.wrap b.text
 | .choice a b c => [105,102,32] ++ a.text ++ [32,116,104,101,110,32] ++ b.text ++ [32,101,108,115,101,32] ++ c.text
def Fm.texts : Bool→List Fm→List UInt8
 | _,[] => []
 | first,k :: ks => (if first=true then [40] else [44,32]) ++ k.text ++ Fm.texts false ks
end
theorem jZ : ∀ fs : List Fm,Fm.texts false fs=kV (fs.map Fm.text)
 | [] => by rw [Fm.texts]; rfl
 | k :: ks => by rw [Fm.texts,jZ ks]; rfl
theorem lS (fs : List Fm) (h : fs≠[]) : Fm.texts true fs ++ [41]=cV (fs.map Fm.text):=by
 cases fs with
 | nil => exact absurd rfl h
 | cons k ks => rw [Fm.texts,jZ ks,if_pos rfl]; rfl
theorem wC (fs : List Fm) (k : Nat) (hk : k<fs.length) : Fm.texts (decide (k=0)) (fs.drop k)=(if k=0 then [40] else [44,32]) ++ fs[k].text ++ Fm.texts (decide (k + 1=0)) (fs.drop (k + 1)):=by
 rw [List.drop_eq_getElem_cons hk,Fm.texts]
 by_cases h : k=0
 ·subst h; rfl
 ·rw [decide_eq_false h,if_neg (by decide),if_neg h]; rfl
theorem wS {h : ByteArray} {ks : List Fm} {N k : Nat} (hk : k<ks.length) (g : SizeOf.sizeOf (Fm.called h ks)<N + 1) : SizeOf.sizeOf ks[k]<N:=by
 have:=List.sizeOf_lt_of_mem (List.getElem_mem hk)
 simp only [Fm.called.sizeOf_spec] at g
 omega
theorem nO {l : List UInt8} (h : z7 l=true) : l.length≤24:=by
 unfold z7 at h
 simp only [Bool.and_eq_true,decide_eq_true_eq] at h
 exact h.1.1
theorem r8 {l : List UInt8} (h : j8 l=true) : l.length≤24:=by
 unfold j8 at h
 rw [Bool.and_eq_true] at h
 exact nO h.1
theorem zY {l : List UInt8} (h : fX l=true) : l.length≤49:=by
 unfold fX at h
 rw [Bool.and_eq_true] at h
 have h1:=r8 h.1
 cases hc : (Lib.cut l [46]).2.2 with
 | false => rw [a2v hc] at h1; omega
 | true =>
   rw [hc] at h
   have h2:=r8 (by simpa using h.2)
   unfold Lib.cut at h1 h2 hc
   split at hc
   ·rename_i g
    rw [if_pos g] at h1 h2
    simp only [List.length_take,List.length_drop,List.length_cons,List.length_nil] at h1 h2
    omega
   ·cases hc
theorem a3k {l : List UInt8} (h : cB l=true) : 1≤l.length∧l.length≤3:=by
 have : ∀ w∈v7,1≤w.length∧w.length≤3:=by decide
 exact this l (List.contains_iff_mem.1 h)
theorem lL : ∀ (f n : Nat) (l : List UInt8),(aV f n l).length≤f + l.length
 | 0,_,_ => by rw [aV]; omega
 | f + 1,n,l => by
   rw [aV]
   split
   ·omega
   ·have:=lL f (n / 10) (dig n :: l)
    simp only [List.length_cons] at this
    omega
theorem a3L (n : Nat) : (fS n).length≤21:=by
 have:=lL 20 (n / 10) [dig n]
 simpa [fS] using this
theorem pQ (l : List UInt8) : (dX l).length≤l.length:=by
 unfold dX
 have:=(List.dropWhile_sublist (l:=l.reverse) (· == 48)).length_le
 simpa using this
theorem a1O (n : Int) : (bX n).length≤29:=by
 unfold bX vL
 have h1:=a3L ((V9 n).natAbs / 1000000)
 have h2:=pQ (bD 6 (V9 n).natAbs [])
 rw [eC] at h2
 simp only [List.length_append]
 simp only [List.length_nil] at h2
 split <;> split <;> simp <;> omega
theorem a0U (n : Int) : (nS n).length≤10:=by
 unfold nS
 split
 ·exact Nat.le_refl _
 ·exact Nat.zero_le _
theorem jE (k : Int) (f : List UInt8) : (U3 k f).length≤f.length + 2:=by
 unfold U3
 split <;> simp
theorem nM : ∀ (fs : List (List UInt8)),(kV fs).length=(fs.map fun f => f.length + 2).sum
 | [] => rfl
 | f :: r => by
   rw [kV,List.map_cons,List.sum_cons,← nM r]
   simp; omega
theorem oZ (fs : List (List UInt8)) : (cV fs).length≤(fs.map fun f => f.length + 2).sum + 2:=by
 cases fs with
 | nil => exact Nat.le_refl _
 | cons f r =>
   rw [cV,List.map_cons,List.sum_cons,← nM r]
   simp; omega
theorem xV {k : Int} {l : List UInt8} (h : q6 k l=true) : l.length≤49:=by
 unfold q6 at h
 split at h
 ·unfold eI at h; simp only [Bool.and_eq_true,decide_eq_true_eq] at h; omega
 split at h
 ·have:=nO h; omega
 split at h
 ·exact zY h
 split at h
 ·rw [Bool.or_eq_true] at h
  rcases h with h | h <;> (rw [eq_of_beq h]; decide)
 split at h
 ·have:=a3k h; omega
 ·rw [List.isEmpty_iff] at h; rw [h]; decide
theorem yF (kind n : Int) (s : List UInt8) (l : List (Int × List UInt8)) (h : s.length≤49) : (rR kind n s l).length≤100 + (l.map fun x => x.2.length + 2).sum:=by
 have e : (l.map (·.2)).map (fun f => f.length + 2)=l.map fun x => x.2.length + 2:=by rw [List.map_map]; rfl
 have hl:=oZ (l.map (·.2))
 rw [e] at hl
 unfold rR
 split
 ·have:=a1O n; omega
 split
 ·have:=a0U n; omega
 split
 ·split <;> simp <;> omega
 split
 ·simp; omega
 split
 ·simp only [List.length_append]; omega
 split
 ·simp only [List.length_append,List.length_cons,List.length_nil]; omega
 split
 ·rename_i a
  split
  ·have:=jE a.1 a.2
   simp only [List.length_append,List.map_cons,List.map_nil,List.sum_cons,List.sum_nil]
   split <;> simp <;> omega
  ·omega
 ·rename_i a b
  split
  ·have h1:=jE a.1 a.2
   have h2:=jE b.1 b.2
   simp only [List.length_append,List.map_cons,List.map_nil,List.sum_cons,List.sum_nil,List.length_cons,List.length_nil]
   omega
  ·omega
 ·split
  ·simp only [List.length_append,List.map_cons,List.map_nil,List.sum_cons,List.sum_nil,List.length_cons,List.length_nil]
   omega
  ·omega
 ·omega
mutual
theorem jB : ∀ (t : Nd) (d : Int),d5 t d=true→(g9 t).length + 2≤128 * j5 t
 | .mk kind s n ks p,d,h => by
   rw [d5] at h
   simp only [Bool.and_eq_true] at h
   have h1:=yF kind n s.data.toList (r9 ks) (xV h.1.1.2)
   have h2:=nC ks (d + 1) h.2
   rw [g9,j5]
   omega
theorem nC : ∀ (ks : List Nd) (d : Int),o6 ks d=true→((r9 ks).map fun x => x.2.length + 2).sum≤128 * j9 ks
 | [],_,_ => by rw [r9]; exact Nat.zero_le _
 | k :: ks,d,h => by
   rw [o6,Bool.and_eq_true] at h
   have h1:=jB k d h.1
   have h2:=nC ks d h.2
   rw [r9,j9,List.map_cons,List.sum_cons]
   simp only
   omega
end
theorem sE {p : UInt8→Bool} (h : ∀ n : Fin 256,p (UInt8.ofNat n.val)=true) (c : UInt8) : p c=true:=by
 have:=h ⟨c.toNat,c.toNat_lt⟩
 simpa using this
def dgC (c : UInt8) : Bool:=decide (48≤c.toNat) && decide (c.toNat≤57)
theorem a3n {n : Int} (h : 0≤n) (h' : n≤73048) : ∃ y m d,Cal.ok y m d∧Cal.num y m d=n∧nS n=Cal.text y m d:=by
 obtain ⟨y,m,d,ho,rfl⟩:=Cal.date_of n h h'
 exact ⟨y,m,d,ho,rfl,a2g ho⟩
theorem uU {t : Nd} {d : Int} (h : d5 t d=true) : x6 t.kind t.kids.length=true∧q6 t.kind t.text.data.toList=true∧bM t.kind t.n=true∧o6 t.kids (d + 1)=true:=by
 cases t
 rw [d5] at h
 simp only [Bool.and_eq_true] at h
 exact ⟨h.1.1.1.2,h.1.1.2,h.1.2,h.2⟩
theorem zX (t : Nd) : g9 t=rR t.kind t.n t.text.data.toList (r9 t.kids):=by cases t; rw [g9]; rfl
theorem a3O (s : ByteArray) (n p : Int) (k u : Nd) : g9 (.mk 13 s n [k,u] p)=U3 k.kind (g9 k) ++ 32 :: (s.data.toList ++ 32 :: U3 u.kind (g9 u)):=by
 rw [g9,r9,r9,r9]
 show U3 k.kind (g9 k) ++ [32] ++ s.data.toList ++ [32] ++ U3 u.kind (g9 u)=_
 simp
theorem a2p (s : ByteArray) (n p : Int) (k : Nd) : g9 (.mk 12 s n [k] p)=(if s.data.toList=[45] then [45] else [110,111,116,32]) ++ U3 k.kind (g9 k):=by
 rw [g9,r9,r9]; rfl
theorem a4o (s : ByteArray) (n p : Int) (k u v : Nd) : g9 (.mk 14 s n [k,u,v] p)=105 :: 102 :: 32 :: (g9 k ++ 32 :: ([116,104,101,110] ++ 32 :: (g9 u ++ 32 :: ([101,108,115,101] ++ 32 :: g9 v)))):=by
 rw [g9,r9,r9,r9,r9]
 show [105,102,32] ++ g9 k ++ [32,116,104,101,110,32] ++ g9 u ++ [32,101,108,115,101,32] ++ g9 v=_
 simp
theorem a5u {t : Nd} {d : Int} (h : d5 t d=true) (hk : 5≤t.kind∧t.kind≤10) : t.kids=[]:=by
 have:=(uU h).1
 unfold x6 at this
 rw [if_pos hk,decide_eq_true_eq] at this
 exact List.eq_nil_of_length_eq_zero this
def hw (t : Nd) : List UInt8:=if t.kind=9 then [102,101,101,100] else if t.kind=15 then [112,105,99,107] else if t.kind=11 then t.text.data.toList else g9 t
theorem a6b {α : Type} {l : List α} (h : l.length=1) : ∃ a,l=[a]:=by
 match l,h with
 | [a],_ => exact ⟨a,rfl⟩
theorem a6f {α : Type} {l : List α} (h : l.length=2) : ∃ a b,l=[a,b]:=by
 match l,h with
 | [a,b],_ => exact ⟨a,b,rfl⟩
theorem a57 {α : Type} {l : List α} (h : l.length=3) : ∃ a b c,l=[a,b,c]:=by
 match l,h with
 | [a,b,c],_ => exact ⟨a,b,c,rfl⟩
def s5 (t : Nd) : Bool:=decide (5≤t.kind∧t.kind≤10) && (q6 t.kind t.text.data.toList && bM t.kind t.n) && t.kids.isEmpty
def fI (t : Nd) : Bool :=
 if t.kind=11 then fX t.text.data.toList
 else if t.kind=15 then z7 t.text.data.toList && decide (t.kids.length=3)
 else if t.kind=14 then t.text.data.toList.isEmpty && decide (t.kids.length=3)
 else if t.kind=12 then (t.text.data.toList == [45] || t.text.data.toList == [110,111,116]) && decide (t.kids.length=1)
 else if t.kind=13 then cB t.text.data.toList && decide (t.kids.length=2)
 else false
theorem vP (t : Nd) (d : Int) : d5 t d=(decide (d≤100) && (s5 t || (decide (t.n=0) && (decide (1≤t.kids.length) && decide (t.kids.length≤8)) && o6 t.kids (d + 1) && fI t))):=by
 cases t with
 | mk kind s n ks p =>
 rw [d5]
 show (decide (d≤100) && x6 kind ks.length && q6 kind s.data.toList && bM kind n && o6 ks (d + 1))=(decide (d≤100) && ((decide (5≤kind∧kind≤10) && (q6 kind s.data.toList && bM kind n) && ks.isEmpty) ||
  (decide (n=0) && (decide (1≤ks.length) && decide (ks.length≤8)) && o6 ks (d + 1) && (if kind=11 then fX s.data.toList
    else if kind=15 then z7 s.data.toList && decide (ks.length=3)
    else if kind=14 then s.data.toList.isEmpty && decide (ks.length=3)
    else if kind=12 then (s.data.toList == [45] || s.data.toList == [110,111,116]) && decide (ks.length=1)
    else if kind=13 then cB s.data.toList && decide (ks.length=2)
    else false))))
 cases decide (d≤100)
 ·simp
 simp only [Bool.true_and]
 by_cases h1 : 5≤kind∧kind≤10
 ·rw [decide_eq_true h1,if_neg (by omega),if_neg (by omega),if_neg (by omega),if_neg (by omega),if_neg (by omega),Bool.and_false,Bool.or_false,Bool.true_and]
  unfold x6
  rw [if_pos h1]
  cases ks with
  | nil => rw [o6]; simp
  | cons k ks => simp
 ·rw [decide_eq_false h1,Bool.false_and,Bool.false_and,Bool.false_or]
  have hk : kind=11∨kind=15∨kind=14∨kind=12∨kind=13∨(kind≠11∧kind≠15∧kind≠14∧kind≠12∧kind≠13):=by omega
  rcases hk with hk | hk | hk | hk | hk | hk
  ·subst hk
   have e1 : x6 11 ks.length=(decide (1≤ks.length) && decide (ks.length≤8)):=rfl
   have e2 : q6 11 s.data.toList=fX s.data.toList:=rfl
   have e3 : bM 11 n=decide (n=0):=rfl
   rw [e1,e2,e3,if_pos rfl]
   cases decide (1≤ks.length) <;> cases decide (ks.length≤8) <;> cases decide (n=0) <;> cases fX s.data.toList <;> cases o6 ks (d + 1) <;> rfl
  ·subst hk
   have e1 : x6 15 ks.length=decide (ks.length=3):=rfl
   have e2 : q6 15 s.data.toList=z7 s.data.toList:=rfl
   have e3 : bM 15 n=decide (n=0):=rfl
   rw [e1,e2,e3,if_neg (by decide),if_pos rfl]
   by_cases hl : ks.length=3
   ·rw [decide_eq_true hl,decide_eq_true (show 1≤ks.length by omega),decide_eq_true (show ks.length≤8 by omega)]
    cases decide (n=0) <;> cases z7 s.data.toList <;> cases o6 ks (d + 1) <;> rfl
   ·rw [decide_eq_false hl]; simp
  ·subst hk
   have e1 : x6 14 ks.length=decide (ks.length=3):=rfl
   have e2 : q6 14 s.data.toList=s.data.toList.isEmpty:=rfl
   have e3 : bM 14 n=decide (n=0):=rfl
   rw [e1,e2,e3,if_neg (by decide),if_neg (by decide),if_pos rfl]
   by_cases hl : ks.length=3
   ·rw [decide_eq_true hl,decide_eq_true (show 1≤ks.length by omega),decide_eq_true (show ks.length≤8 by omega)]
    cases decide (n=0) <;> cases s.data.toList.isEmpty <;> cases o6 ks (d + 1) <;> rfl
   ·rw [decide_eq_false hl]; simp
  ·subst hk
   have e1 : x6 12 ks.length=decide (ks.length=1):=rfl
   have e2 : q6 12 s.data.toList=(s.data.toList == [45] || s.data.toList == [110,111,116]):=rfl
   have e3 : bM 12 n=decide (n=0):=rfl
   rw [e1,e2,e3,if_neg (by decide),if_neg (by decide),if_neg (by decide),if_pos rfl]
   by_cases hl : ks.length=1
   ·rw [decide_eq_true hl,decide_eq_true (show 1≤ks.length by omega),decide_eq_true (show ks.length≤8 by omega)]
    cases decide (n=0) <;> cases (s.data.toList == [45] || s.data.toList == [110,111,116]) <;> cases o6 ks (d + 1) <;> rfl
   ·rw [decide_eq_false hl]; simp
  ·subst hk
   have e1 : x6 13 ks.length=decide (ks.length=2):=rfl
   have e2 : q6 13 s.data.toList=cB s.data.toList:=rfl
   have e3 : bM 13 n=decide (n=0):=rfl
   rw [e1,e2,e3,if_neg (by decide),if_neg (by decide),if_neg (by decide),if_neg (by decide),if_pos rfl]
   by_cases hl : ks.length=2
   ·rw [decide_eq_true hl,decide_eq_true (show 1≤ks.length by omega),decide_eq_true (show ks.length≤8 by omega)]
    cases decide (n=0) <;> cases cB s.data.toList <;> cases o6 ks (d + 1) <;> rfl
   ·rw [decide_eq_false hl]; simp
  ·have e1 : x6 kind ks.length=false:=by
    unfold x6
    rw [if_neg h1,if_neg hk.1,if_neg hk.2.2.2.1,if_neg hk.2.2.2.2,if_neg (by omega)]
   rw [e1,if_neg hk.1,if_neg hk.2.1,if_neg hk.2.2.1,if_neg hk.2.2.2.1,if_neg hk.2.2.2.2]
   simp
theorem gQ (ks : List Nd) (d : Int) : ∀ n,(∀ j (hj : j<ks.length),j<n→d5 ks[j] d=true)→o6 (ks.take n) d=true:=by
 intro n h
 rw [bW,List.all_eq_true]
 intro k hk
 obtain ⟨i,hi,rfl⟩:=List.getElem_of_mem hk
 rw [List.length_take] at hi
 rw [List.getElem_take]
 exact h i (by omega) (by omega)
theorem jX {ks : List Nd} {d : Int} {j : Nat} (hj : j<ks.length) (h : d5 ks[j] d=false) : o6 ks d=false:=by
 rw [bW,Bool.eq_false_iff]
 intro e
 rw [List.all_eq_true] at e
 rw [e _ (List.getElem_mem hj)] at h
 cases h
end Go.Proofs.YtppcfebnaieciaaGreatDoor
