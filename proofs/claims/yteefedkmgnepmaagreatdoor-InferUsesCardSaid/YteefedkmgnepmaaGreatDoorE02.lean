/-
  Laws that the proof rests on.
-/
import Derived.Test.YteefedkmgnepmaaGreatDoorE01
import Derived.Test.YteefedkmgnepmaaGreatDoorProg
import Derived.WalkKit
import Derived.Deep.RegionWith
import Derived.Deep.RegionHeld3
import Derived.Lib.SlTrimSet
import Derived.Lib.Strings
import Derived.Lib.IndexMore
import Derived.Lib.IndexBytes
namespace Go.Proofs.YteefedkmgnepmaaGreatDoor
set_option maxRecDepth 100000
set_option maxHeartbeats 16000000
section
variable {Pr : Program} {ops : Array Oper} {Q : Exit→Act→World→Prop} {md : Region.Mode} {S : World→Prop}
def aS (Pr : Program) (md : Region.Mode) (ops : Array Oper) (Q : Exit→Act→World→Prop) (S : World→Prop) (Z : List Nat) : Nat→Array Bool→Act→World→Prop
 | 0,listed,a,w => Region.ready md ops listed=[]∧Q .normal a w
 | n + 1,listed,a,w => (Region.ready md ops listed=[]→Q .normal a w) ∧
   ∀ i∈Region.ready md ops listed,wpOp Pr ops Q i (fun a' w' => (i ∉ Z→S w')∧aS Pr md ops Q S Z n (listed.setIfInBounds i true) a' w') a w
theorem aS.any {Z : List Nat} : ∀ (n : Nat) (listed : Array Bool) (a : Act) (w : World),aS Pr md ops Q S Z n listed a w→wpAny Pr md ops Q n listed a w
 | 0,_,_,_,h => h
 | n + 1,_,_,_,h => ⟨h.1,fun i hi => wpOp_mono (fun a' w' h' => aS.any n _ a' w' h'.2) (h.2 i hi)⟩
theorem aS.first {T : World→Prop} {i : Nat} {Z : List Nat} {oi : Oper} {v : Value} (hi : ops[i]?=some oi) (hsel : ∀ (j : Nat) (o : Oper) cs b,ops[j]?=some o→o.op≠.select cs b)
 (hT : (∀ w,T w)∨((∀ w,S w→T w)∧∀ z∈Z,iN md ops z i=true)) (hiS : i∈Z∨∀ w,T w→S w)
 (hQ : ∀ c a w,Q (.panic c) (a.put oi.dst v) w→Q (.panic c) a w) : ∀ (n : Nat) (listed : Array Bool) (a : Act) (w : World),
   (∀ j oj,ops[j]?=some oj→j≠i→listed.getD j true=false→(∀ e∈oj.after,Region.binds md e=true→e.on≠i)→oi.apart ops oj=true) →
   i∈Region.ready md ops listed→YieldsIf Pr ops T oi v a→T w →
   aS Pr md ops Q S Z n (listed.setIfInBounds i true) (a.put oi.dst v) w→aS Pr md ops Q S Z (n + 1) listed a w
 | 0,listed,a,w,_,hr,hy,hS,H => by
   refine ⟨fun h => (by rw [h] at hr; cases hr),fun j hj => ?_⟩
   by_cases hji : j=i
   ·subst hji; exact hy.wpOp hi hS ⟨fun hz => hiS.elim (fun h => absurd h hz) fun h => h w hS,H⟩
   ·have:=ready_mono hj hji
    rw [H.1] at this
    cases this
 | n + 1,listed,a,w,hfree,hr,hy,hS,H => by
   have hun:=(mem_ready.1 hr).1
   refine ⟨fun h => (by rw [h] at hr; cases hr),fun j hj => ?_⟩
   by_cases hji : j=i
   ·subst hji; exact hy.wpOp hi hS ⟨fun hz => hiS.elim (fun h => absurd h hz) fun h => h w hS,H⟩
   ·obtain ⟨hjun,oj,hoj,hall⟩:=mem_ready.1 hj
    have hno : ∀ e∈oj.after,Region.binds md e=true→e.on≠i:=fun e he hb heq => by
     have h1:=hall e he hb
     rw [heq] at h1
     rcases Nat.lt_or_ge i listed.size with g | g
     ·simp [g] at hun h1; rw [hun] at h1; cases h1
     ·simp [Array.getElem?_eq_none g] at h1
    have h2:=wpOp_putIf hoj (hfree j oj hoj hji hjun hno) (fun cs b => hsel i oi cs b hi) (fun cs b => hsel j oj cs b hoj) hQ hy (H.2 j (ready_mono hj hji))
    refine wpOp_mono (fun a' w' h3 => ⟨h3.2.1,aS.first hi hsel hT hiS hQ n (listed.setIfInBounds j true) a' w' (fun k ok hk hki hku hkn => ?_) (ready_mono hr (Ne.symm hji)) h3.1 ?_ ?_⟩) h2
    ·refine hfree k ok hk hki ?_ hkn
     by_cases hjk : j=k
     ·subst hjk; exact hjun
     ·rw [getD_set_ne true hjk] at hku; exact hku
    ·rcases hT with hT | ⟨hT,hz⟩
     ·exact hT w'
     ·exact hT w' (h3.2.1 fun hjz => iN.not_ready (hz j hjz) hun hj)
    ·rw [Array.setIfInBounds_comm _ _ hji]
     exact h3.2.2
theorem aS.take {i : Nat} {Z : List Nat} {oi : Oper} {v : Value} {n : Nat} {listed : Array Bool} {a : Act} {w : World} (hi : ops[i]?=some oi) (hs : Region.noSelect ops=true) (hf : Region.free md ops listed i=true) (hr : (Region.ready md ops listed).contains i=true) (hz : (Z.all fun z => iN md ops z i)=true)
 (hQ : ∀ c a w,Q (.panic c) (a.put oi.dst v) w→Q (.panic c) a w) (hy : YieldsIf Pr ops S oi v a) (hS : S w) (h : aS Pr md ops Q S Z n (listed.setIfInBounds i true) (a.put oi.dst v) w) : aS Pr md ops Q S Z (n + 1) listed a w :=
 aS.first (T:=S) hi (Region.noSelect_spec hs) (.inr ⟨fun _ h => h,fun z hz' => List.all_eq_true.1 hz z hz'⟩) (.inr fun _ h => h) hQ n listed a w (Region.free_spec hi hf) (by simpa using hr) hy hS h
theorem aS.next {i : Nat} {Z : List Nat} {o : Oper} {n : Nat} {listed : Array Bool} {a : Act} {w : World} (hr : Region.ready md ops listed=[i]) (ho : ops[i]?=some o)
 (h : ∀ K' : Act→World→Prop,Shut (∀ a w,S w→(S w→aS Pr md ops Q S Z n (listed.setIfInBounds i true) a w)→K' a w)→if Region.wanted o (yielded ops a.tmps)=true then Oper.wp Pr o a w K' Q else K' (a.put o.dst undef) w) : aS Pr md ops Q S Z (n + 1) listed a w :=
 ⟨fun h0 => (by rw [h0] at hr; cases hr),fun j hj => by
  rw [hr] at hj
  obtain rfl:=List.mem_singleton.1 hj
  exact wpOp_step ho fun K' hK => h K' fun a w hS hW => hK a w ⟨fun _ => hS,hW hS⟩⟩
theorem aS.done {Z : List Nat} {listed : Array Bool} {a : Act} {w : World} (hr : Region.ready md ops listed=[]) (h : Q .normal a w) : ∀ n,aS Pr md ops Q S Z n listed a w
 | 0 => ⟨hr,h⟩
 | _ + 1 => ⟨fun _ => h,by rw [hr]; simp⟩
theorem xD {id : Nat} {Z : List Nat} {a : Act} {w : World} (hm : Pr.follows .mixedOrders=true) (hS : S w.drew) (h : S w.drew→aS Pr .any ops Q S Z ops.size (Array.replicate ops.size false) a w.drew) : (Code.region id ops true).wp Pr Q a w :=
 wp_region_any hm (aS.any _ _ _ _ (h hS))
end
theorem j5 {l : List Oper} {n : Nat} {o : Oper} {r : List Oper} (h : l.drop n=o :: r) : l.toArray[n]?=some o:=by
 rw [List.getElem?_toArray]
 have : (l.drop n)[0]?=some o:=by rw [h]; rfl
 rw [List.getElem?_drop] at this
 simpa using this
def a7D : ByteArray:=⟨#[97,98,99,100,101,102,103,104,105,106,107,108,109,110,111,112,113,114,115,116,117,118,119,120,121,122,48,49,50,51,52,53,54,55,56,57,95]⟩
def zU : ByteArray:=⟨#[65,66,67,68,69,70,71,72,73,74,75,76,77,78,79,80,81,82,83,84,85,86,87,88,89,90]⟩
def O3 (c : UInt8) : Bool:=a7D.data.toList.contains c
def dS (c : UInt8) : Bool:=zU.data.toList.contains c
def p6 (l : List UInt8) : Bool:=decide (l.length≤24) && (decide (97≤((l.headD 0).toNat : Int)) && decide (((l.headD 0).toNat : Int)≤122)) && l.all O3
def oA (l : List UInt8) : Bool:=decide (l.length=3) && l.all dS
theorem bJ {α : Type} (p : α→Bool) : ∀ l : List α,l.dropWhile p=[]↔l.all p=true
 | [] => by simp
 | a :: l => by
   rw [List.dropWhile_cons]
   cases h : p a
   ·simp [h]
   ·simp [h,bJ p l]
theorem a5G (l cs : List UInt8) : Lib.trimS l cs=[]↔l.all (cs.contains ·)=true:=by
 unfold Lib.trimS Lib.trimLeftS Lib.trimRightS
 rw [bJ]
 constructor
 ·intro h
  by_cases e : l.reverse.dropWhile (cs.contains ·)=[]
  ·rw [bJ,List.all_reverse] at e; exact e
  ·exfalso
   have k:=List.head_dropWhile_not (p:=(cs.contains ·)) e
   rw [List.all_reverse,List.all_eq_true] at h
   have:=h _ (List.head_mem e)
   rw [this] at k
   cases k
 ·intro h
  have e : l.reverse.dropWhile (cs.contains ·)=[]:=by rw [bJ,List.all_reverse]; exact h
  rw [e]; rfl
theorem a0z (l cs : List UInt8) : (Lib.trimS l cs).isEmpty=l.all (cs.contains ·):=by
 rw [Bool.eq_iff_iff,List.isEmpty_iff,a5G]
theorem f8 (s : ByteArray) : s.data.toList.length=s.size:=by cases s; rfl
theorem Y4 {s : ByteArray} (h : 0<s.size) : s.data.toList.headD 0=s[0]:=by
 have : s.data.toList≠[]:=fun e => by have:=f8 s; rw [e] at this; simp at this; omega
 cases hl : s.data.toList with
 | nil => exact absurd hl this
 | cons a l =>
   have : s[0]=s.data.toList[0]'(by rw [f8]; exact h):=rfl
   rw [this]; simp [hl]
def dig (n : Nat) : UInt8:=UInt8.ofNat (48 + n % 10)
def cL : Nat→Nat→List UInt8→List UInt8
 | 0,_,l => l
 | f + 1,n,l => if n=0 then l else cL f (n / 10) (dig n :: l)
def fI (n : Nat) : List UInt8:=cL 20 (n / 10) [dig n]
def U1 : Nat→Nat→List UInt8→List UInt8
 | 0,_,l => l
 | k + 1,n,l => U1 k (n / 10) (dig n :: l)
def aX (l : List UInt8) : List UInt8:=(l.reverse.dropWhile (· == 48)).reverse
def I9 (x : Nat) : List UInt8:=fI (x / 1000000) ++ (if aX (U1 6 x [])=[] then [] else 46 :: aX (U1 6 x []))
def V6 (a : Int) : Int:=if a > 1000000000000000 then 1000000000000000 else if a < -1000000000000000 then -1000000000000000 else a
def V5 (a : Int) : List UInt8:=(if V6 a<0 then [45] else []) ++ I9 (V6 a).natAbs
theorem gM : ∀ (k n : Nat) (l : List UInt8),U1 k n l=U1 k n [] ++ l
 | 0,_,_ => rfl
 | k + 1,n,l => by
   rw [U1,U1,gM k _ (dig n :: l),gM k _ [dig n],List.append_assoc]; rfl
theorem bV : ∀ (k n : Nat) (l : List UInt8),(U1 k n l).length=k + l.length
 | 0,_,_ => by rw [U1]; omega
 | k + 1,n,l => by rw [U1,bV k]; simp; omega
theorem rK : ∀ (f g n : Nat) (l : List UInt8),n<10 ^ f→f≤g→cL g n l=cL f n l
 | 0,g,n,l,h,_ => by
   have : n=0:=by simpa using h
   subst this
   cases g with
   | zero => rfl
   | succ g => show (if (0 : Nat)=0 then l else _)=_; rw [if_pos rfl]; rfl
 | f + 1,0,n,l,_,h => absurd h (by omega)
 | f + 1,g + 1,n,l,h,hg => by
   rw [cL,cL]
   split
   ·rfl
   ·exact rK f g _ _ (by rw [Nat.pow_succ] at h; omega) (by omega)
theorem a2u (n : Nat) (l : List UInt8) (h0 : n≠0) (h : n<10 ^ 20) : cL 20 n l=cL 20 (n / 10) (dig n :: l):=by
 rw [show cL 20 n l=cL (19 + 1) n l from rfl,cL,if_neg h0]
 exact (rK 19 20 _ _ (by omega) (by omega)).symm
theorem a2k (l : List UInt8) : cL 20 0 l=l:=rfl
theorem yN : ∀ (f n : Nat) (l : List UInt8),l≠[]→cL f n l≠[]
 | 0,_,_,h => h
 | f + 1,n,l,h => by
   rw [cL]
   split
   ·exact h
   ·exact yN f _ _ (by simp)
theorem a33 (n : Nat) : fI n≠[]:=yN _ _ _ (by simp)
theorem xO (n : Nat) : dig n=48↔n % 10=0:=by
 unfold dig
 have h : n % 10<10:=Nat.mod_lt _ (by decide)
 have : ∀ k : Fin 10,(UInt8.ofNat (48 + k.val)=48↔k.val=0):=by decide
 exact this ⟨n % 10,h⟩
theorem nK (n : Nat) : (dig n).toNat=48 + n % 10:=by
 have h : n % 10<10:=Nat.mod_lt _ (by decide)
 have : ∀ k : Fin 10,(UInt8.ofNat (48 + k.val)).toNat=48 + k.val:=by decide
 exact this ⟨n % 10,h⟩
theorem a2f (l : List UInt8) : aX l=[]↔∀ c∈l,c=48:=by
 unfold aX
 rw [List.reverse_eq_nil_iff]
 have : ∀ l : List UInt8,l.dropWhile (· == 48)=[]↔∀ c∈l,c=48:=by
  intro l
  induction l with
  | nil => simp
  | cons a l ih =>
    rw [List.dropWhile_cons]
    by_cases h : a=48
    ·subst h; simp [ih]
    ·simp [h]
 rw [this]
 simp
theorem xL : ∀ (k n : Nat),(∀ c∈U1 k n [],c=48)↔n % 10 ^ k=0
 | 0,n => by simp [U1,Nat.mod_one]
 | k + 1,n => by
   have e : (10 : Nat) ^ (k + 1)=10 * 10 ^ k:=by rw [Nat.pow_succ,Nat.mul_comm]
   have m:=Nat.mod_mul (x:=n) (a:=10) (b:=10 ^ k)
   rw [U1,gM,e,m]
   simp only [List.mem_append,List.mem_singleton]
   have i:=xL k (n / 10)
   constructor
   ·intro h
    have h1:=i.1 fun c hc => h c (.inl hc)
    have h2:=(xO n).1 (h _ (.inr rfl))
    rw [h1,h2]
   ·intro h c hc
    have h1 : n % 10=0:=by omega
    have h2 : (n / 10) % 10 ^ k=0:=by omega
    rcases hc with hc | rfl
    ·exact i.2 h2 c hc
    ·exact (xO n).2 h1
theorem a5B (x : Nat) : aX (U1 6 x [])=[]↔x % 1000000=0:=by
 rw [a2f,xL]
theorem contains_cons (b : UInt8) (l sub : List UInt8) : Lib.contains (b :: l) sub=(sub.isPrefixOf (b :: l) || Lib.contains l sub):=by
 unfold Lib.contains
 rw [Lib.index]
 have:=Lib.index_ge l sub
 split
 ·rename_i h; rw [h]; rfl
 ·rename_i h
  rw [Bool.eq_false_iff.2 h,Bool.false_or]
  split
  ·rename_i g; rw [eq_of_beq g]
  ·rename_i g
   rw [Bool.eq_iff_iff]
   simp only [decide_eq_true_eq]
   have : Lib.index l sub≠-1:=fun e => g (by rw [e]; rfl)
   omega
theorem iG (sub : List UInt8) : ∀ (w m : List UInt8),(∀ c∈w,c≠32)→Lib.contains (w ++ m) (32 :: sub)=Lib.contains m (32 :: sub)
 | [],_,_ => rfl
 | c :: w,m,h => by
   have hc : (32 == c)=false:=by rw [beq_eq_false_iff_ne]; exact fun e => h c (List.mem_cons_self ..) e.symm
   rw [List.cons_append,contains_cons,List.isPrefixOf,hc,Bool.false_and,Bool.false_or]
   exact iG sub w m fun d hd => h d (List.mem_cons_of_mem _ hd)
theorem lU : ∀ (s w m : List UInt8),(∀ c∈s,c≠32)→(∀ c∈w,c≠32)→(s ++ [32]).isPrefixOf (w ++ 32 :: m)=(s == w)
 | [],[],_,_,_ => rfl
 | [],c :: w,m,_,h => by
   have hc : (32 == c)=false:=by rw [beq_eq_false_iff_ne]; exact fun e => h c (List.mem_cons_self ..) e.symm
   rw [List.nil_append,List.cons_append,List.isPrefixOf,hc]; rfl
 | c :: s,[],m,h,_ => by
   have hc : (c == 32)=false:=by rw [beq_eq_false_iff_ne]; exact fun e => h c (List.mem_cons_self ..) e
   rw [List.cons_append,List.nil_append,List.isPrefixOf,hc]; rfl
 | c :: s,d :: w,m,h,g => by
   rw [List.cons_append,List.cons_append,List.isPrefixOf,lU s w m (fun x hx => h x (List.mem_cons_of_mem _ hx)) (fun x hx => g x (List.mem_cons_of_mem _ hx))]
   rfl
def gD : List (List UInt8)→List UInt8
 | [] => [32]
 | w :: r => 32 :: (w ++ gD r)
theorem wK : ∀ L,∃ m,gD L=32 :: m
 | [] => ⟨_,rfl⟩
 | _ :: _ => ⟨_,rfl⟩
theorem cB (s : List UInt8) (hs : ∀ c∈s,c≠32) : ∀ (L : List (List UInt8)),(∀ w∈L,∀ c∈w,c≠32)→Lib.contains (gD L) (32 :: (s ++ [32]))=L.contains s
 | [],_ => by
   show Lib.contains [32] (32 :: (s ++ [32]))=false
   rw [contains_cons]
   cases s with
   | nil => rfl
   | cons c s => rfl
 | w :: r,h => by
   obtain ⟨m,hm⟩:=wK r
   have hw:=h w (List.mem_cons_self ..)
   rw [gD,contains_cons,iG _ _ _ hw,cB s hs r (fun w hw => h w (List.mem_cons_of_mem _ hw)),List.isPrefixOf,hm,lU s w m hs hw,List.contains_cons]
   rfl
def R9 : List (List UInt8):=[[109,111,100,117,108,101],[105,109,112,111,114,116],[108,101,116],[105,102],[116,104,101,110],[101,108,115,101],[97,110,100],[111,114],[110,111,116],[116,114,117,101],[102,97,108,115,101],[102,101,101,100],[112,105,99,107]]
def aP : List (List UInt8):=[[111,114],[97,110,100],[60],[60,61],[61],[43],[45],[42],[47]]
def X3 (l : List UInt8) : Bool:=R9.contains l
def eW (l : List UInt8) : Bool:=aP.contains l
def l9 (l : List UInt8) : Bool:=p6 l && !X3 l
def eX (l : List UInt8) : Bool:=l9 (Lib.cut l [46]).1 && (!(Lib.cut l [46]).2.2 || l9 (Lib.cut l [46]).2.1)
def a8q (l : List UInt8) : Bool:=(Lib.cut l [46]).2.2 && (l9 (Lib.cut l [46]).1 && l9 (Lib.cut l [46]).2.1)
theorem wI (c : UInt8) (h : O3 c=true) : c≠32∧c≠46:=by
 constructor <;> (rintro rfl; exact absurd h (by decide))
theorem jA {l : List UInt8} (h : p6 l=true) : ∀ c∈l,O3 c=true:=by
 unfold p6 at h
 rw [Bool.and_eq_true] at h
 exact List.all_eq_true.1 h.2
theorem qW {l : List UInt8} (h : p6 l=true) : Lib.contains (gD R9) (32 :: (l ++ [32]))=X3 l :=
 cB l (fun c hc => (wI c (jA h c hc)).1) R9 (by decide)
theorem fE (l : List UInt8) (c : UInt8) : Lib.contains l [c]=l.contains c:=by
 induction l with
 | nil => rfl
 | cons b l ih => rw [contains_cons,ih,List.contains_cons,List.isPrefixOf,List.isPrefixOf,Bool.and_true]
theorem rI (l : List UInt8) : (!l.isEmpty && !Lib.contains l [32] && Lib.contains (gD aP) (32 :: (l ++ [32])))=eW l:=by
 by_cases h : ∀ c∈l,c≠32
 ·rw [cB l h aP (by decide),fE]
  have h1 : l.contains 32=false:=by
   rw [Bool.eq_false_iff]; intro e; exact h 32 (List.contains_iff_mem.1 e) rfl
  rw [h1]
  cases l with
  | nil => rfl
  | cons c l => rfl
 ·have h1 : l.contains 32=true:=by
   rw [List.contains_iff_mem]
   exact Classical.byContradiction fun g => h fun c hc e => g (e ▸ hc)
  rw [fE,h1,Bool.not_true,Bool.and_false,Bool.false_and]
  symm
  rw [Bool.eq_false_iff]
  intro e
  have hm : l∈aP:=List.contains_iff_mem.1 e
  have : ∀ w∈aP,w.contains 32=false:=by decide
  rw [this l hm] at h1
  cases h1
theorem a0r {l : List UInt8} (h : (Lib.cut l [46]).2.2=false) : (Lib.cut l [46]).1=l:=by
 unfold Lib.cut at h ⊢
 split
 ·rename_i g; rw [if_pos g] at h; cases h
 ·rfl
theorem a3T {l : List UInt8} {c : UInt8} (h : 0≤Lib.index l [c]) : c∈l:=by
 have:=fE l c
 unfold Lib.contains at this
 rw [decide_eq_true h] at this
 exact List.contains_iff_mem.1 this.symm
theorem a7T (l : List UInt8) : (l9 l || a8q l)=eX l:=by
 unfold a8q eX
 cases h : (Lib.cut l [46]).2.2
 ·rw [a0r h]; simp
 ·have hn : l9 l=false:=by
   rw [Bool.eq_false_iff]
   intro e
   unfold l9 at e
   rw [Bool.and_eq_true] at e
   have hm : (46 : UInt8)∈l:=by
    unfold Lib.cut at h
    split at h
    ·rename_i g; exact a3T g
    ·cases h
   exact (wI 46 (jA e.1 46 hm)).2 rfl
  rw [hn]; simp
def zT : List (Int × Int × Int):=(List.range 200).flatMap fun (y : Nat) => (List.range 12).flatMap fun (m : Nat) => (List.range 31).map fun (d : Nat) => (1900 + (y : Int),1 + (m : Int),1 + (d : Int))
instance (y m d : Int) : Decidable (Cal.ok y m d):=inferInstanceAs (Decidable (_∧_))
def bO (k : Int) : List UInt8:=match zT.find? (fun t => decide (Cal.ok t.1 t.2.1 t.2.2∧Cal.num t.1 t.2.1 t.2.2=k)) with
 | some t => Cal.text t.1 t.2.1 t.2.2
 | none => []
theorem a09 {y m d : Int} (h : Cal.ok y m d) : (y,m,d)∈zT:=by
 obtain ⟨h1,h2,h3,h4,h5,h6⟩:=h
 have:=Cal.mlen_bd y m
 refine List.mem_flatMap.2 ⟨(y - 1900).toNat,List.mem_range.2 (by omega),List.mem_flatMap.2 ⟨(m - 1).toNat,List.mem_range.2 (by omega),List.mem_map.2 ⟨(d - 1).toNat,List.mem_range.2 (by omega),?_⟩⟩⟩
 simp only [Prod.mk.injEq]
 omega
theorem a4U {y m d : Int} (h : Cal.ok y m d) : bO (Cal.num y m d)=Cal.text y m d:=by
 unfold bO
 cases hf : zT.find? (fun t => decide (Cal.ok t.1 t.2.1 t.2.2∧Cal.num t.1 t.2.1 t.2.2=Cal.num y m d)) with
 | none =>
   have:=List.find?_eq_none.1 hf (y,m,d) (a09 h)
   exact absurd (decide_eq_true ⟨h,rfl⟩) this
 | some t =>
   have:=List.find?_some hf
   simp only [decide_eq_true_eq] at this
   obtain ⟨e1,e2,e3⟩:=Cal.num_inj this.1 h this.2
   show Cal.text t.1 t.2.1 t.2.2=_
   rw [e1,e2,e3]
def x9 (kind : Int) (l : List UInt8) : Bool :=
 if kind=7 then oA l else if kind=9∨kind=15 then p6 l else if kind=10∨kind=11 then eX l
 else if kind=12 then l == [45] || l == [110,111,116] else if kind=13 then eW l else l.isEmpty
def aZ (kind n : Int) : Bool :=
 if kind=5 then decide (0≤n) && decide (n≤1000000000000000) else if kind=6 then decide (0≤n) && decide (n≤73048)
 else if kind=8 then decide (n=0) || decide (n=1) else decide (n=0)
def o2 (kind : Int) (k : Nat) : Bool :=
 if 5≤kind∧kind≤10 then decide (k=0) else if kind=11 then decide (1≤k) && decide (k≤8)
 else if kind=12 then decide (k=1) else if kind=13 then decide (k=2) else if kind=14∨kind=15 then decide (k=3) else false
mutual
def d5 : Nd→Int→Bool
 | .mk kind s n ks _,d => decide (d≤100) && o2 kind ks.length && x9 kind s.data.toList && aZ kind n && m7 ks (d + 1)
def m7 : List Nd→Int→Bool
 | [],_ => true
 | k :: ks,d => d5 k d && m7 ks d
end
def J0 (kind : Int) : Bool:=decide (kind=12) || decide (kind=13) || decide (kind=14)
def U7 (kind : Int) (f : List UInt8) : List UInt8:=if J0 kind=true then [40] ++ f ++ [41] else f
def J5 : List (List UInt8)→List UInt8
 | [] => []
 | f :: r => [44,32] ++ f ++ J5 r
def U4 : List (List UInt8)→List UInt8
 | [] => [40,41]
 | f :: r => [40] ++ f ++ J5 r ++ [41]
def uT (kind n : Int) (s : List UInt8) (l : List (Int × List UInt8)) : List UInt8 :=
 if kind=5 then V5 n
 else if kind=6 then bO n
 else if kind=8 then (if n=1 then [116,114,117,101] else [102,97,108,115,101])
 else if kind=9 then [102,101,101,100,32,34] ++ s ++ [34]
 else if kind=11 then s ++ U4 (l.map (·.2))
 else if kind=15 then [112,105,99,107,32,34] ++ s ++ [34] ++ U4 (l.map (·.2))
 else match l with
  | [a] => (if kind=12 then (if s=[45] then [45] else [110,111,116,32]) ++ U7 a.1 a.2 else s)
  | [a,b] => (if kind=13 then U7 a.1 a.2 ++ [32] ++ s ++ [32] ++ U7 b.1 b.2 else s)
  | [a,b,c] => (if kind=14 then [105,102,32] ++ a.2 ++ [32,116,104,101,110,32] ++ b.2 ++ [32,101,108,115,101,32] ++ c.2 else s)
  | _ => s
mutual
def d7 : Nd→List UInt8
 | .mk kind s n ks _ => uT kind n s.data.toList (p8 ks)
def p8 : List Nd→List (Int × List UInt8)
 | [] => []
 | k :: ks => (k.kind,d7 k) :: p8 ks
end
theorem fO : ∀ ks : List Nd,p8 ks=ks.map fun k => (k.kind,d7 k)
 | [] => rfl
 | k :: ks => by rw [p8,fO ks]; rfl
theorem Z3 : ∀ (ks : List Nd) (d : Int),m7 ks d=ks.all fun k => d5 k d
 | [],_ => rfl
 | k :: ks,d => by rw [m7,Z3 ks d]; rfl
inductive Fm where
 | leaf (s : ByteArray)
 | called (head : ByteArray) (kids : List Fm)
 | unary (sign kid : Fm)
 | binary (a sign b : Fm)
 | choice (a b c : Fm)
def Fm.wrap : Fm→Bool
 | .leaf _ => false
 | .called _ _ => false
 | _ => true
def Y9 (b : Bool) (l : List UInt8) : List UInt8:=if b=true then [40] ++ l ++ [41] else l
mutual
def Fm.text : Fm→List UInt8
 | .leaf s => s.data.toList
 | .called h ks => h.data.toList ++ Fm.texts true ks ++ [41]
 | .unary s k => s.text ++ Y9 k.wrap k.text
 | .binary a s b => Y9 a.wrap a.text ++ [32] ++ s.text ++ [32] ++ Y9 b.wrap b.text
 | .choice a b c => [105,102,32] ++ a.text ++ [32,116,104,101,110,32] ++ b.text ++ [32,101,108,115,101,32] ++ c.text
def Fm.texts : Bool→List Fm→List UInt8
 | _,[] => []
 | first,k :: ks => (if first=true then [40] else [44,32]) ++ k.text ++ Fm.texts false ks
end
theorem lV : ∀ fs : List Fm,Fm.texts false fs=J5 (fs.map Fm.text)
 | [] => by rw [Fm.texts]; rfl
 | k :: ks => by rw [Fm.texts,lV ks]; rfl
theorem qO (fs : List Fm) (h : fs≠[]) : Fm.texts true fs ++ [41]=U4 (fs.map Fm.text):=by
 cases fs with
 | nil => exact absurd rfl h
 | cons k ks => rw [Fm.texts,lV ks,if_pos rfl]; rfl
theorem a0W (fs : List Fm) (k : Nat) (hk : k<fs.length) : Fm.texts (decide (k=0)) (fs.drop k)=(if k=0 then [40] else [44,32]) ++ fs[k].text ++ Fm.texts (decide (k + 1=0)) (fs.drop (k + 1)):=by
 rw [List.drop_eq_getElem_cons hk,Fm.texts]
 by_cases h : k=0
 ·subst h; rfl
 ·rw [decide_eq_false h,if_neg (by decide),if_neg h]; rfl
theorem a0m {h : ByteArray} {ks : List Fm} {N k : Nat} (hk : k<ks.length) (g : SizeOf.sizeOf (Fm.called h ks)<N + 1) : SizeOf.sizeOf ks[k]<N:=by
 have:=List.sizeOf_lt_of_mem (List.getElem_mem hk)
 simp only [Fm.called.sizeOf_spec] at g
 omega
theorem qK {l : List UInt8} (h : p6 l=true) : l.length≤24:=by
 unfold p6 at h
 simp only [Bool.and_eq_true,decide_eq_true_eq] at h
 exact h.1.1
theorem s5 {l : List UInt8} (h : l9 l=true) : l.length≤24:=by
 unfold l9 at h
 rw [Bool.and_eq_true] at h
 exact qK h.1
theorem a1u {l : List UInt8} (h : eX l=true) : l.length≤49:=by
 unfold eX at h
 rw [Bool.and_eq_true] at h
 have h1:=s5 h.1
 cases hc : (Lib.cut l [46]).2.2 with
 | false => rw [a0r hc] at h1; omega
 | true =>
   rw [hc] at h
   have h2:=s5 (by simpa using h.2)
   unfold Lib.cut at h1 h2 hc
   split at hc
   ·rename_i g
    rw [if_pos g] at h1 h2
    simp only [List.length_take,List.length_drop,List.length_cons,List.length_nil] at h1 h2
    omega
   ·cases hc
theorem a5F {l : List UInt8} (h : eW l=true) : 1≤l.length∧l.length≤3:=by
 have : ∀ w∈aP,1≤w.length∧w.length≤3:=by decide
 exact this l (List.contains_iff_mem.1 h)
theorem xJ : ∀ (f n : Nat) (l : List UInt8),(cL f n l).length≤f + l.length
 | 0,_,_ => by rw [cL]; omega
 | f + 1,n,l => by
   rw [cL]
   split
   ·omega
   ·have:=xJ f (n / 10) (dig n :: l)
    simp only [List.length_cons] at this
    omega
theorem a4t (n : Nat) : (fI n).length≤21:=by
 have:=xJ 20 (n / 10) [dig n]
 simpa [fI] using this
theorem sQ (l : List UInt8) : (aX l).length≤l.length:=by
 unfold aX
 have:=(List.dropWhile_sublist (l:=l.reverse) (· == 48)).length_le
 simpa using this
theorem a2C (n : Int) : (V5 n).length≤29:=by
 unfold V5 I9
 have h1:=a4t ((V6 n).natAbs / 1000000)
 have h2:=sQ (U1 6 (V6 n).natAbs [])
 rw [bV] at h2
 simp only [List.length_append]
 simp only [List.length_nil] at h2
 split <;> split <;> simp <;> omega
theorem a3v (n : Int) : (bO n).length≤10:=by
 unfold bO
 split
 ·exact Nat.le_refl _
 ·exact Nat.zero_le _
theorem lP (k : Int) (f : List UInt8) : (U7 k f).length≤f.length + 2:=by
 unfold U7
 split <;> simp
theorem qT : ∀ (fs : List (List UInt8)),(J5 fs).length=(fs.map fun f => f.length + 2).sum
 | [] => rfl
 | f :: r => by
   rw [J5,List.map_cons,List.sum_cons,← qT r]
   simp; omega
theorem rO (fs : List (List UInt8)) : (U4 fs).length≤(fs.map fun f => f.length + 2).sum + 2:=by
 cases fs with
 | nil => exact Nat.le_refl _
 | cons f r =>
   rw [U4,List.map_cons,List.sum_cons,← qT r]
   simp; omega
theorem a0O {k : Int} {l : List UInt8} (h : x9 k l=true) : l.length≤49:=by
 unfold x9 at h
 split at h
 ·unfold oA at h; simp only [Bool.and_eq_true,decide_eq_true_eq] at h; omega
 split at h
 ·have:=qK h; omega
 split at h
 ·exact a1u h
 split at h
 ·rw [Bool.or_eq_true] at h
  rcases h with h | h <;> (rw [eq_of_beq h]; decide)
 split at h
 ·have:=a5F h; omega
 ·rw [List.isEmpty_iff] at h; rw [h]; decide
theorem zR (kind n : Int) (s : List UInt8) (l : List (Int × List UInt8)) (h : s.length≤49) : (uT kind n s l).length≤100 + (l.map fun x => x.2.length + 2).sum:=by
 have e : (l.map (·.2)).map (fun f => f.length + 2)=l.map fun x => x.2.length + 2:=by rw [List.map_map]; rfl
 have hl:=rO (l.map (·.2))
 rw [e] at hl
 unfold uT
 split
 ·have:=a2C n; omega
 split
 ·have:=a3v n; omega
 split
 ·split <;> simp <;> omega
 split
 ·simp; omega
 split
 ·simp only [List.length_append]; omega
 split
 ·simp only [List.length_append,List.length_cons,List.length_nil]; omega
 split
 ·rename_i a
  split
  ·have:=lP a.1 a.2
   simp only [List.length_append,List.map_cons,List.map_nil,List.sum_cons,List.sum_nil]
   split <;> simp <;> omega
  ·omega
 ·rename_i a b
  split
  ·have h1:=lP a.1 a.2
   have h2:=lP b.1 b.2
   simp only [List.length_append,List.map_cons,List.map_nil,List.sum_cons,List.sum_nil,List.length_cons,List.length_nil]
   omega
  ·omega
 ·split
  ·simp only [List.length_append,List.map_cons,List.map_nil,List.sum_cons,List.sum_nil,List.length_cons,List.length_nil]
   omega
  ·omega
 ·omega
mutual
theorem kO : ∀ (t : Nd) (d : Int),d5 t d=true→(d7 t).length + 2≤128 * j3 t
 | .mk kind s n ks p,d,h => by
   rw [d5] at h
   simp only [Bool.and_eq_true] at h
   have h1:=zR kind n s.data.toList (p8 ks) (a0O h.1.1.2)
   have h2:=nT ks (d + 1) h.2
   rw [d7,j3]
   omega
theorem nT : ∀ (ks : List Nd) (d : Int),m7 ks d=true→((p8 ks).map fun x => x.2.length + 2).sum≤128 * l5 ks
 | [],_,_ => by rw [p8]; exact Nat.zero_le _
 | k :: ks,d,h => by
   rw [m7,Bool.and_eq_true] at h
   have h1:=kO k d h.1
   have h2:=nT ks d h.2
   rw [p8,l5,List.map_cons,List.sum_cons]
   simp only
   omega
end
theorem R8 {p : UInt8→Bool} (h : ∀ n : Fin 256,p (UInt8.ofNat n.val)=true) (c : UInt8) : p c=true:=by
 have:=h ⟨c.toNat,c.toNat_lt⟩
 simpa using this
def fZ (c : UInt8) : Bool:=O3 c || c == 46 || dS c || c == 45
def dgC (c : UInt8) : Bool:=decide (48≤c.toNat) && decide (c.toNat≤57)
theorem vG (c : UInt8) (h : dgC c=true) : fZ c=true:=by
 have:=R8 (p:=fun c => !dgC c || fZ c) (by decide +kernel) c
 rw [h] at this; simpa using this
theorem yA {s s' : ByteArray} (h : s.data.toList=s'.data.toList) : s=s':=by
 cases s; cases s'
 simp only [Array.toList_inj] at h
 rw [h]
theorem a0f (n : Nat) : dgC (dig n)=true:=by
 unfold dgC
 rw [nK]
 have : n % 10<10:=Nat.mod_lt _ (by decide)
 simp; omega
def vR : List UInt8→Nat
 | [] => 0
 | c :: l => (c.toNat - 48) * 10 ^ l.length + vR l
theorem a4S : ∀ (f n : Nat) (l : List UInt8),n<10 ^ f→vR (cL f n l)=n * 10 ^ l.length + vR l
 | 0,n,l,h => by
   have : n=0:=by simpa using h
   subst this
   rw [cL]; simp
 | f + 1,n,l,h => by
   rw [cL]
   by_cases h0 : n=0
   ·subst h0; rw [if_pos rfl]; simp
   ·rw [if_neg h0,a4S f _ _ (by rw [Nat.pow_succ] at h; omega),List.length_cons,vR,nK,Nat.pow_succ]
    have e : n * 10 ^ l.length=n / 10 * (10 ^ l.length * 10) + n % 10 * 10 ^ l.length:=by
     conv => lhs; rw [← Nat.div_add_mod n 10,Nat.add_mul]
     rw [Nat.mul_comm 10,Nat.mul_assoc,Nat.mul_comm 10]
    rw [e,Nat.add_sub_cancel_left,Nat.add_assoc]
theorem a1z : ∀ (f n : Nat) (l : List UInt8),(∀ c∈l,dgC c=true)→∀ c∈cL f n l,dgC c=true
 | 0,_,_,h => h
 | f + 1,n,l,h => by
   rw [cL]
   split
   ·exact h
   ·refine a1z f _ _ fun c hc => ?_
    rcases List.mem_cons.1 hc with rfl | hc
    ·exact a0f n
    ·exact h c hc
theorem nG (n : Nat) : ∀ c∈fI n,dgC c=true:=a1z 20 _ _ fun c hc => by rw [List.mem_singleton.1 hc]; exact a0f n
theorem nI : ∀ (k n : Nat),∀ c∈U1 k n [],dgC c=true
 | 0,_,c,h => by cases h
 | k + 1,n,c,h => by
   rw [U1,gM] at h
   rcases List.mem_append.1 h with h | h
   ·exact nI k _ c h
   ·rw [List.mem_singleton.1 h]; exact a0f n
theorem rX (l : List UInt8) : ∃ k,l=aX l ++ List.replicate k 48:=by
 have h1:=List.takeWhile_append_dropWhile (p:=(· == 48)) (l:=l.reverse)
 have e:=congrArg List.reverse h1
 rw [List.reverse_append,List.reverse_reverse] at e
 have h2 : l.reverse.takeWhile (· == 48)=List.replicate (l.reverse.takeWhile (· == 48)).length 48 :=
  List.eq_replicate_iff.2 ⟨rfl,fun b hb => eq_of_beq (List.all_eq_true.1 (List.all_takeWhile (l:=l.reverse) (p:=(· == 48))) b hb)⟩
 refine ⟨(l.reverse.takeWhile (· == 48)).length,?_⟩
 rw [h2,List.reverse_replicate] at e
 exact e.symm
theorem tM (l : List UInt8) : ∀ c∈aX l,c∈l:=fun c hc => by
 obtain ⟨k,hk⟩:=rX l
 rw [hk]; exact List.mem_append_left _ hc
def gE (x : Nat) : List UInt8:=if aX (U1 6 x [])=[] then [] else 46 :: aX (U1 6 x [])
theorem nY (x : Nat) : ∀ c l,gE x=c :: l→dgC c=false:=by
 intro c l h
 unfold gE at h
 split at h
 ·cases h
 ·rw [← (List.cons.inj h).1]; rfl
theorem sB {n : Int} (h : 0≤n) (h' : n≤1000000000000000) : V5 n=I9 n.natAbs:=by
 unfold V5
 have e : V6 n=n:=by unfold V6; rw [if_neg (by omega),if_neg (by omega)]
 rw [e,if_neg (by omega)]; rfl
theorem a2b {n : Int} (h : 0≤n) (h' : n≤1000000000000000) : dgC ((V5 n).headD 0)=true∧V5 n≠[]∧(∀ c∈V5 n,fZ c=true)∧(45 : UInt8) ∉ V5 n:=by
 rw [sB h h']
 have hd:=nG (n.natAbs / 1000000)
 have hne:=a33 (n.natAbs / 1000000)
 have hc : ∀ c∈I9 n.natAbs,dgC c=true∨c=46:=fun c hc => by
  rcases List.mem_append.1 hc with hc | hc
  ·exact .inl (hd c hc)
  ·split at hc
   ·cases hc
   ·rcases List.mem_cons.1 hc with rfl | hc
    ·exact .inr rfl
    ·exact .inl (nI 6 _ c (tM _ c hc))
 refine ⟨?_,?_,?_,?_⟩
 ·unfold I9
  cases hl : fI (n.natAbs / 1000000) with
  | nil => exact absurd hl hne
  | cons c l => exact hd c (by rw [hl]; exact List.mem_cons_self ..)
 ·unfold I9
  intro e
  exact hne (List.append_eq_nil_iff.1 e).1
 ·intro c h
  rcases hc c h with h | rfl
  ·exact vG c h
  ·rfl
 ·intro h
  rcases hc _ h with h | h
  ·cases h
  ·cases h
theorem nQ {n : Int} (h : 0≤n) (h' : n≤73048) : ∃ y m d,Cal.ok y m d∧Cal.num y m d=n∧bO n=Cal.text y m d:=by
 obtain ⟨y,m,d,ho,rfl⟩:=Cal.date_of n h h'
 exact ⟨y,m,d,ho,rfl,a4U ho⟩
theorem pS (c : UInt8) (h : Cal.isDig c=true) : dgC c=true:=by
 have:=R8 (p:=fun c => !Cal.isDig c || dgC c) (by decide +kernel) c
 rw [h] at this; simpa using this
theorem a2F {n : Int} (h : 0≤n) (h' : n≤73048) : dgC ((bO n).headD 0)=true∧bO n≠[]∧(∀ c∈bO n,fZ c=true)∧(45 : UInt8)∈bO n:=by
 obtain ⟨y,m,d,ho,rfl,et⟩:=nQ h h'
 rw [et]
 have hf:=Cal.text_form ho
 refine ⟨?_,?_,?_,?_⟩
 ·have h0:=hf 0 (by rw [Cal.text_len]; decide)
  rw [Cal.fits_dig (by decide) (by decide)] at h0
  exact pS _ h0
 ·intro e; cases e
 ·intro c hc
  obtain ⟨i,hi,rfl⟩:=List.getElem_of_mem hc
  have h0:=hf i hi
  by_cases hj : i=4∨i=7
  ·rw [Cal.fits_dash hj] at h0
   have : (Cal.text y m d)[i]=45:=UInt8.toNat_inj.1 (by have:=of_decide_eq_true h0; exact Int.ofNat.inj this)
   rw [this]; rfl
  ·rw [Cal.fits_dig (by omega) (by omega)] at h0
   exact vG _ (pS _ h0)
 ·unfold Cal.text; simp
theorem gY {l : List UInt8} (h : l9 l=true) : p6 l=true:=by
 unfold l9 at h
 rw [Bool.and_eq_true] at h
 exact h.1
theorem a6x {l : List UInt8} (h : (Lib.cut l [46]).2.2=true) : l=(Lib.cut l [46]).1 ++ 46 :: (Lib.cut l [46]).2.1:=by
 unfold Lib.cut at h ⊢
 split at h
 ·rename_i g
  rw [if_pos g]
  rcases Lib.index_spec l [46] with ⟨h1,_⟩ | ⟨i,h1,h2,h3,_⟩
  ·omega
  ·rw [h1]
   show l=l.take i ++ 46 :: l.drop (i + 1)
   unfold Lib.occAt at h3
   cases hd : l.drop i with
   | nil => rw [hd] at h3; cases h3
   | cons c r =>
     rw [hd,List.isPrefixOf,Bool.and_eq_true] at h3
     have : c=46:=(eq_of_beq h3.1).symm
     subst this
     have e:=List.take_append_drop i l
     rw [hd] at e
     have : l.drop (i + 1)=r:=by rw [← List.drop_drop,hd]; rfl
     rw [this]
     exact e.symm
 ·cases h
end Go.Proofs.YteefedkmgnepmaaGreatDoor
