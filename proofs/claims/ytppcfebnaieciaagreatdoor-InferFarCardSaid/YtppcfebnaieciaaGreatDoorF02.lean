/-
  Laws that the proof rests on.
-/
import Derived.Test.YtppcfebnaieciaaGreatDoorF01
import Derived.Test.YtppcfebnaieciaaGreatDoorProg
import Derived.WalkKit
import Derived.Deep.RegionWith
import Derived.Deep.RegionHeld3
import Derived.Lib.SlTrimSet
import Derived.Lib.Strings
import Derived.Lib.IndexMore
import Derived.Lib.IndexBytes
namespace Go.Proofs.YtppcfebnaieciaaGreatDoor
set_option maxRecDepth 100000
set_option maxHeartbeats 16000000
section
variable {Pr : Program} {ops : Array Oper} {Q : Exit→Act→World→Prop} {md : Region.Mode} {S : World→Prop}
def V9 (Pr : Program) (md : Region.Mode) (ops : Array Oper) (Q : Exit→Act→World→Prop) (S : World→Prop) (Z : List Nat) : Nat→Array Bool→Act→World→Prop
 | 0,listed,a,w => Region.ready md ops listed=[]∧Q .normal a w
 | n + 1,listed,a,w => (Region.ready md ops listed=[]→Q .normal a w) ∧
   ∀ i∈Region.ready md ops listed,wpOp Pr ops Q i (fun a' w' => (i ∉ Z→S w')∧V9 Pr md ops Q S Z n (listed.setIfInBounds i true) a' w') a w
theorem V9.any {Z : List Nat} : ∀ (n : Nat) (listed : Array Bool) (a : Act) (w : World),V9 Pr md ops Q S Z n listed a w→wpAny Pr md ops Q n listed a w
 | 0,_,_,_,h => h
 | n + 1,_,_,_,h => ⟨h.1,fun i hi => wpOp_mono (fun a' w' h' => V9.any n _ a' w' h'.2) (h.2 i hi)⟩
theorem V9.first {T : World→Prop} {i : Nat} {Z : List Nat} {oi : Oper} {v : Value} (hi : ops[i]?=some oi) (hsel : ∀ (j : Nat) (o : Oper) cs b,ops[j]?=some o→o.op≠.select cs b)
 (hT : (∀ w,T w)∨((∀ w,S w→T w)∧∀ z∈Z,fB md ops z i=true)) (hiS : i∈Z∨∀ w,T w→S w)
 (hQ : ∀ c a w,Q (.panic c) (a.put oi.dst v) w→Q (.panic c) a w) : ∀ (n : Nat) (listed : Array Bool) (a : Act) (w : World),
   (∀ j oj,ops[j]?=some oj→j≠i→listed.getD j true=false→(∀ e∈oj.after,Region.binds md e=true→e.on≠i)→oi.apart ops oj=true) →
   i∈Region.ready md ops listed→YieldsIf Pr ops T oi v a→T w →
   V9 Pr md ops Q S Z n (listed.setIfInBounds i true) (a.put oi.dst v) w→V9 Pr md ops Q S Z (n + 1) listed a w
 | 0,listed,a,w,_,hr,hy,hS,H => by
   refine ⟨fun h => (by rw [h] at hr; cases hr),fun j hj => ?_⟩
   by_cases hji : j=i
   ·subst hji; exact hy.wpOp hi hS ⟨fun hz => hiS.elim (fun h => absurd h hz) fun h => h w hS,H⟩
   ·have:=ready_mono hj hji
    rw [H.1] at this
    cases this
 | n + 1,listed,a,w,hfree,hr,hy,hS,H => by
   have hun:=(mem_ready.1 hr).1
   refine ⟨fun h => (by rw [h] at hr; cases hr),fun j hj => ?_⟩
   by_cases hji : j=i
   ·subst hji; exact hy.wpOp hi hS ⟨fun hz => hiS.elim (fun h => absurd h hz) fun h => h w hS,H⟩
   ·obtain ⟨hjun,oj,hoj,hall⟩:=mem_ready.1 hj
    have hno : ∀ e∈oj.after,Region.binds md e=true→e.on≠i:=fun e he hb heq => by
     have h1:=hall e he hb
     rw [heq] at h1
     rcases Nat.lt_or_ge i listed.size with g | g
     ·simp [g] at hun h1; rw [hun] at h1; cases h1
     ·simp [Array.getElem?_eq_none g] at h1
    have h2:=wpOp_putIf hoj (hfree j oj hoj hji hjun hno) (fun cs b => hsel i oi cs b hi) (fun cs b => hsel j oj cs b hoj) hQ hy (H.2 j (ready_mono hj hji))
    refine wpOp_mono (fun a' w' h3 => ⟨h3.2.1,V9.first hi hsel hT hiS hQ n (listed.setIfInBounds j true) a' w' (fun k ok hk hki hku hkn => ?_) (ready_mono hr (Ne.symm hji)) h3.1 ?_ ?_⟩) h2
    ·refine hfree k ok hk hki ?_ hkn
     by_cases hjk : j=k
     ·subst hjk; exact hjun
     ·rw [getD_set_ne true hjk] at hku; exact hku
    ·rcases hT with hT | ⟨hT,hz⟩
     ·exact hT w'
     ·exact hT w' (h3.2.1 fun hjz => fB.not_ready (hz j hjz) hun hj)
    ·rw [Array.setIfInBounds_comm _ _ hji]
     exact h3.2.2
theorem V9.take {i : Nat} {Z : List Nat} {oi : Oper} {v : Value} {n : Nat} {listed : Array Bool} {a : Act} {w : World} (hi : ops[i]?=some oi) (hs : Region.noSelect ops=true) (hf : Region.free md ops listed i=true) (hr : (Region.ready md ops listed).contains i=true) (hz : (Z.all fun z => fB md ops z i)=true)
 (hQ : ∀ c a w,Q (.panic c) (a.put oi.dst v) w→Q (.panic c) a w) (hy : YieldsIf Pr ops S oi v a) (hS : S w) (h : V9 Pr md ops Q S Z n (listed.setIfInBounds i true) (a.put oi.dst v) w) : V9 Pr md ops Q S Z (n + 1) listed a w :=
 V9.first (T:=S) hi (Region.noSelect_spec hs) (.inr ⟨fun _ h => h,fun z hz' => List.all_eq_true.1 hz z hz'⟩) (.inr fun _ h => h) hQ n listed a w (Region.free_spec hi hf) (by simpa using hr) hy hS h
theorem V9.next {i : Nat} {Z : List Nat} {o : Oper} {n : Nat} {listed : Array Bool} {a : Act} {w : World} (hr : Region.ready md ops listed=[i]) (ho : ops[i]?=some o)
 (h : ∀ K' : Act→World→Prop,Shut (∀ a w,S w→(S w→V9 Pr md ops Q S Z n (listed.setIfInBounds i true) a w)→K' a w)→if Region.wanted o (yielded ops a.tmps)=true then Oper.wp Pr o a w K' Q else K' (a.put o.dst undef) w) : V9 Pr md ops Q S Z (n + 1) listed a w :=
 ⟨fun h0 => (by rw [h0] at hr; cases hr),fun j hj => by
  rw [hr] at hj
  obtain rfl:=List.mem_singleton.1 hj
  exact wpOp_step ho fun K' hK => h K' fun a w hS hW => hK a w ⟨fun _ => hS,hW hS⟩⟩
theorem V9.done {Z : List Nat} {listed : Array Bool} {a : Act} {w : World} (hr : Region.ready md ops listed=[]) (h : Q .normal a w) : ∀ n,V9 Pr md ops Q S Z n listed a w
 | 0 => ⟨hr,h⟩
 | _ + 1 => ⟨fun _ => h,by rw [hr]; simp⟩
theorem sG {id : Nat} {Z : List Nat} {a : Act} {w : World} (hm : Pr.follows .mixedOrders=true) (hS : S w.drew) (h : S w.drew→V9 Pr .any ops Q S Z ops.size (Array.replicate ops.size false) a w.drew) : (Code.region id ops true).wp Pr Q a w :=
 wp_region_any hm (V9.any _ _ _ _ (h hS))
end
theorem r6 {l : List Oper} {n : Nat} {o : Oper} {r : List Oper} (h : l.drop n=o :: r) : l.toArray[n]?=some o:=by
 rw [List.getElem?_toArray]
 have : (l.drop n)[0]?=some o:=by rw [h]; rfl
 rw [List.getElem?_drop] at this
 simpa using this
def a4T : ByteArray:=⟨#[97,98,99,100,101,102,103,104,105,106,107,108,109,110,111,112,113,114,115,116,117,118,119,120,121,122,48,49,50,51,52,53,54,55,56,57,95]⟩
def wE : ByteArray:=⟨#[65,66,67,68,69,70,71,72,73,74,75,76,77,78,79,80,81,82,83,84,85,86,87,88,89,90]⟩
def Q4 (c : UInt8) : Bool:=a4T.data.toList.contains c
def a3F (c : UInt8) : Bool:=wE.data.toList.contains c
def x8 (l : List UInt8) : Bool:=decide (l.length≤24) && (decide (97≤((l.headD 0).toNat : Int)) && decide (((l.headD 0).toNat : Int)≤122)) && l.all Q4
def qP (l : List UInt8) : Bool:=decide (l.length=3) && l.all a3F
theorem Y4 {α : Type} (p : α→Bool) : ∀ l : List α,l.dropWhile p=[]↔l.all p=true
 | [] => by simp
 | a :: l => by
   rw [List.dropWhile_cons]
   cases h : p a
   ·simp [h]
   ·simp [h,Y4 p l]
theorem a1q (l cs : List UInt8) : Lib.trimS l cs=[]↔l.all (cs.contains ·)=true:=by
 unfold Lib.trimS Lib.trimLeftS Lib.trimRightS
 rw [Y4]
 constructor
 ·intro h
  by_cases e : l.reverse.dropWhile (cs.contains ·)=[]
  ·rw [Y4,List.all_reverse] at e; exact e
  ·exfalso
   have k:=List.head_dropWhile_not (p:=(cs.contains ·)) e
   rw [List.all_reverse,List.all_eq_true] at h
   have:=h _ (List.head_mem e)
   rw [this] at k
   cases k
 ·intro h
  have e : l.reverse.dropWhile (cs.contains ·)=[]:=by rw [Y4,List.all_reverse]; exact h
  rw [e]; rfl
theorem vF (l cs : List UInt8) : (Lib.trimS l cs).isEmpty=l.all (cs.contains ·):=by
 rw [Bool.eq_iff_iff,List.isEmpty_iff,a1q]
theorem d7 (s : ByteArray) : s.data.toList.length=s.size:=by cases s; rfl
theorem U3 {s : ByteArray} (h : 0<s.size) : s.data.toList.headD 0=s[0]:=by
 have : s.data.toList≠[]:=fun e => by have:=d7 s; rw [e] at this; simp at this; omega
 cases hl : s.data.toList with
 | nil => exact absurd hl this
 | cons a l =>
   have : s[0]=s.data.toList[0]'(by rw [d7]; exact h):=rfl
   rw [this]; simp [hl]
def dig (n : Nat) : UInt8:=UInt8.ofNat (48 + n % 10)
def dW : Nat→Nat→List UInt8→List UInt8
 | 0,_,l => l
 | f + 1,n,l => if n=0 then l else dW f (n / 10) (dig n :: l)
def a01 (n : Nat) : List UInt8:=dW 20 (n / 10) [dig n]
def aN : Nat→Nat→List UInt8→List UInt8
 | 0,_,l => l
 | k + 1,n,l => aN k (n / 10) (dig n :: l)
def dO (l : List UInt8) : List UInt8:=(l.reverse.dropWhile (· == 48)).reverse
def uK (x : Nat) : List UInt8:=a01 (x / 1000000) ++ (if dO (aN 6 x [])=[] then [] else 46 :: dO (aN 6 x []))
def U5 (a : Int) : Int:=if a > 1000000000000000 then 1000000000000000 else if a < -1000000000000000 then -1000000000000000 else a
def bP (a : Int) : List UInt8:=(if U5 a<0 then [45] else []) ++ uK (U5 a).natAbs
theorem lF : ∀ (k n : Nat) (l : List UInt8),aN k n l=aN k n [] ++ l
 | 0,_,_ => rfl
 | k + 1,n,l => by
   rw [aN,aN,lF k _ (dig n :: l),lF k _ [dig n],List.append_assoc]; rfl
theorem dP : ∀ (k n : Nat) (l : List UInt8),(aN k n l).length=k + l.length
 | 0,_,_ => by rw [aN]; omega
 | k + 1,n,l => by rw [aN,dP k]; simp; omega
theorem pB : ∀ (f g n : Nat) (l : List UInt8),n<10 ^ f→f≤g→dW g n l=dW f n l
 | 0,g,n,l,h,_ => by
   have : n=0:=by simpa using h
   subst this
   cases g with
   | zero => rfl
   | succ g => show (if (0 : Nat)=0 then l else _)=_; rw [if_pos rfl]; rfl
 | f + 1,0,n,l,_,h => absurd h (by omega)
 | f + 1,g + 1,n,l,h,hg => by
   rw [dW,dW]
   split
   ·rfl
   ·exact pB f g _ _ (by rw [Nat.pow_succ] at h; omega) (by omega)
theorem a1b (n : Nat) (l : List UInt8) (h0 : n≠0) (h : n<10 ^ 20) : dW 20 n l=dW 20 (n / 10) (dig n :: l):=by
 rw [show dW 20 n l=dW (19 + 1) n l from rfl,dW,if_neg h0]
 exact (pB 19 20 _ _ (by omega) (by omega)).symm
theorem a0S (l : List UInt8) : dW 20 0 l=l:=rfl
theorem uG (n : Nat) : dig n=48↔n % 10=0:=by
 unfold dig
 have h : n % 10<10:=Nat.mod_lt _ (by decide)
 have : ∀ k : Fin 10,(UInt8.ofNat (48 + k.val)=48↔k.val=0):=by decide
 exact this ⟨n % 10,h⟩
theorem a02 (l : List UInt8) : dO l=[]↔∀ c∈l,c=48:=by
 unfold dO
 rw [List.reverse_eq_nil_iff]
 have : ∀ l : List UInt8,l.dropWhile (· == 48)=[]↔∀ c∈l,c=48:=by
  intro l
  induction l with
  | nil => simp
  | cons a l ih =>
    rw [List.dropWhile_cons]
    by_cases h : a=48
    ·subst h; simp [ih]
    ·simp [h]
 rw [this]
 simp
theorem rL : ∀ (k n : Nat),(∀ c∈aN k n [],c=48)↔n % 10 ^ k=0
 | 0,n => by simp [aN,Nat.mod_one]
 | k + 1,n => by
   have e : (10 : Nat) ^ (k + 1)=10 * 10 ^ k:=by rw [Nat.pow_succ,Nat.mul_comm]
   have m:=Nat.mod_mul (x:=n) (a:=10) (b:=10 ^ k)
   rw [aN,lF,e,m]
   simp only [List.mem_append,List.mem_singleton]
   have i:=rL k (n / 10)
   constructor
   ·intro h
    have h1:=i.1 fun c hc => h c (.inl hc)
    have h2:=(uG n).1 (h _ (.inr rfl))
    rw [h1,h2]
   ·intro h c hc
    have h1 : n % 10=0:=by omega
    have h2 : (n / 10) % 10 ^ k=0:=by omega
    rcases hc with hc | rfl
    ·exact i.2 h2 c hc
    ·exact (uG n).2 h1
theorem a2R (x : Nat) : dO (aN 6 x [])=[]↔x % 1000000=0:=by
 rw [a02,rL]
theorem contains_cons (b : UInt8) (l sub : List UInt8) : Lib.contains (b :: l) sub=(sub.isPrefixOf (b :: l) || Lib.contains l sub):=by
 unfold Lib.contains
 rw [Lib.index]
 have:=Lib.index_ge l sub
 split
 ·rename_i h; rw [h]; rfl
 ·rename_i h
  rw [Bool.eq_false_iff.2 h,Bool.false_or]
  split
  ·rename_i g; rw [eq_of_beq g]
  ·rename_i g
   rw [Bool.eq_iff_iff]
   simp only [decide_eq_true_eq]
   have : Lib.index l sub≠-1:=fun e => g (by rw [e]; rfl)
   omega
theorem eW (sub : List UInt8) : ∀ (w m : List UInt8),(∀ c∈w,c≠32)→Lib.contains (w ++ m) (32 :: sub)=Lib.contains m (32 :: sub)
 | [],_,_ => rfl
 | c :: w,m,h => by
   have hc : (32 == c)=false:=by rw [beq_eq_false_iff_ne]; exact fun e => h c (List.mem_cons_self ..) e.symm
   rw [List.cons_append,contains_cons,List.isPrefixOf,hc,Bool.false_and,Bool.false_or]
   exact eW sub w m fun d hd => h d (List.mem_cons_of_mem _ hd)
theorem jL : ∀ (s w m : List UInt8),(∀ c∈s,c≠32)→(∀ c∈w,c≠32)→(s ++ [32]).isPrefixOf (w ++ 32 :: m)=(s == w)
 | [],[],_,_,_ => rfl
 | [],c :: w,m,_,h => by
   have hc : (32 == c)=false:=by rw [beq_eq_false_iff_ne]; exact fun e => h c (List.mem_cons_self ..) e.symm
   rw [List.nil_append,List.cons_append,List.isPrefixOf,hc]; rfl
 | c :: s,[],m,h,_ => by
   have hc : (c == 32)=false:=by rw [beq_eq_false_iff_ne]; exact fun e => h c (List.mem_cons_self ..) e
   rw [List.cons_append,List.nil_append,List.isPrefixOf,hc]; rfl
 | c :: s,d :: w,m,h,g => by
   rw [List.cons_append,List.cons_append,List.isPrefixOf,jL s w m (fun x hx => h x (List.mem_cons_of_mem _ hx)) (fun x hx => g x (List.mem_cons_of_mem _ hx))]
   rfl
def dN : List (List UInt8)→List UInt8
 | [] => [32]
 | w :: r => 32 :: (w ++ dN r)
theorem rO : ∀ L,∃ m,dN L=32 :: m
 | [] => ⟨_,rfl⟩
 | _ :: _ => ⟨_,rfl⟩
theorem aE (s : List UInt8) (hs : ∀ c∈s,c≠32) : ∀ (L : List (List UInt8)),(∀ w∈L,∀ c∈w,c≠32)→Lib.contains (dN L) (32 :: (s ++ [32]))=L.contains s
 | [],_ => by
   show Lib.contains [32] (32 :: (s ++ [32]))=false
   rw [contains_cons]
   cases s with
   | nil => rfl
   | cons c s => rfl
 | w :: r,h => by
   obtain ⟨m,hm⟩:=rO r
   have hw:=h w (List.mem_cons_self ..)
   rw [dN,contains_cons,eW _ _ _ hw,aE s hs r (fun w hw => h w (List.mem_cons_of_mem _ hw)),List.isPrefixOf,hm,jL s w m hs hw,List.contains_cons]
   rfl
def J6 : List (List UInt8):=[[109,111,100,117,108,101],[105,109,112,111,114,116],[108,101,116],[105,102],[116,104,101,110],[101,108,115,101],[97,110,100],[111,114],[110,111,116],[116,114,117,101],[102,97,108,115,101],[102,101,101,100],[112,105,99,107]]
def Y5 : List (List UInt8):=[[111,114],[97,110,100],[60],[60,61],[61],[43],[45],[42],[47]]
def aJ (l : List UInt8) : Bool:=J6.contains l
def eX (l : List UInt8) : Bool:=Y5.contains l
def l3 (l : List UInt8) : Bool:=x8 l && !aJ l
def eV (l : List UInt8) : Bool:=l3 (Lib.cut l [46]).1 && (!(Lib.cut l [46]).2.2 || l3 (Lib.cut l [46]).2.1)
theorem a1p (c : UInt8) (h : Q4 c=true) : c≠32∧c≠46:=by
 constructor <;> (rintro rfl; exact absurd h (by decide))
theorem vT {l : List UInt8} (h : x8 l=true) : ∀ c∈l,Q4 c=true:=by
 unfold x8 at h
 rw [Bool.and_eq_true] at h
 exact List.all_eq_true.1 h.2
theorem nN {l : List UInt8} (h : x8 l=true) : Lib.contains (dN J6) (32 :: (l ++ [32]))=aJ l :=
 aE l (fun c hc => (a1p c (vT h c hc)).1) J6 (by decide)
theorem gR (l : List UInt8) (c : UInt8) : Lib.contains l [c]=l.contains c:=by
 induction l with
 | nil => rfl
 | cons b l ih => rw [contains_cons,ih,List.contains_cons,List.isPrefixOf,List.isPrefixOf,Bool.and_true]
theorem nE (l : List UInt8) : (!l.isEmpty && !Lib.contains l [32] && Lib.contains (dN Y5) (32 :: (l ++ [32])))=eX l:=by
 by_cases h : ∀ c∈l,c≠32
 ·rw [aE l h Y5 (by decide),gR]
  have h1 : l.contains 32=false:=by
   rw [Bool.eq_false_iff]; intro e; exact h 32 (List.contains_iff_mem.1 e) rfl
  rw [h1]
  cases l with
  | nil => rfl
  | cons c l => rfl
 ·have h1 : l.contains 32=true:=by
   rw [List.contains_iff_mem]
   exact Classical.byContradiction fun g => h fun c hc e => g (e ▸ hc)
  rw [gR,h1,Bool.not_true,Bool.and_false,Bool.false_and]
  symm
  rw [Bool.eq_false_iff]
  intro e
  have hm : l∈Y5:=List.contains_iff_mem.1 e
  have : ∀ w∈Y5,w.contains 32=false:=by decide
  rw [this l hm] at h1
  cases h1
theorem a5e {l : List UInt8} (h : (Lib.cut l [46]).2.2=false) : (Lib.cut l [46]).1=l:=by
 unfold Lib.cut at h ⊢
 split
 ·rename_i g; rw [if_pos g] at h; cases h
 ·rfl
def wM : List (Int × Int × Int):=(List.range 200).flatMap fun (y : Nat) => (List.range 12).flatMap fun (m : Nat) => (List.range 31).map fun (d : Nat) => (1900 + (y : Int),1 + (m : Int),1 + (d : Int))
instance (y m d : Int) : Decidable (Cal.ok y m d):=inferInstanceAs (Decidable (_∧_))
def kO (k : Int) : List UInt8:=match wM.find? (fun t => decide (Cal.ok t.1 t.2.1 t.2.2∧Cal.num t.1 t.2.1 t.2.2=k)) with
 | some t => Cal.text t.1 t.2.1 t.2.2
 | none => []
theorem wH {y m d : Int} (h : Cal.ok y m d) : (y,m,d)∈wM:=by
 obtain ⟨h1,h2,h3,h4,h5,h6⟩:=h
 have:=Cal.mlen_bd y m
 refine List.mem_flatMap.2 ⟨(y - 1900).toNat,List.mem_range.2 (by omega),List.mem_flatMap.2 ⟨(m - 1).toNat,List.mem_range.2 (by omega),List.mem_map.2 ⟨(d - 1).toNat,List.mem_range.2 (by omega),?_⟩⟩⟩
 simp only [Prod.mk.injEq]
 omega
theorem a3b {y m d : Int} (h : Cal.ok y m d) : kO (Cal.num y m d)=Cal.text y m d:=by
 unfold kO
 cases hf : wM.find? (fun t => decide (Cal.ok t.1 t.2.1 t.2.2∧Cal.num t.1 t.2.1 t.2.2=Cal.num y m d)) with
 | none =>
   have:=List.find?_eq_none.1 hf (y,m,d) (wH h)
   exact absurd (decide_eq_true ⟨h,rfl⟩) this
 | some t =>
   have:=List.find?_some hf
   simp only [decide_eq_true_eq] at this
   obtain ⟨e1,e2,e3⟩:=Cal.num_inj this.1 h this.2
   show Cal.text t.1 t.2.1 t.2.2=_
   rw [e1,e2,e3]
def G0 (kind : Int) (l : List UInt8) : Bool :=
 if kind=7 then qP l else if kind=9∨kind=15 then x8 l else if kind=10∨kind=11 then eV l
 else if kind=12 then l == [45] || l == [110,111,116] else if kind=13 then eX l else l.isEmpty
def dG (kind n : Int) : Bool :=
 if kind=5 then decide (0≤n) && decide (n≤1000000000000000) else if kind=6 then decide (0≤n) && decide (n≤73048)
 else if kind=8 then decide (n=0) || decide (n=1) else decide (n=0)
def y7 (kind : Int) (k : Nat) : Bool :=
 if 5≤kind∧kind≤10 then decide (k=0) else if kind=11 then decide (1≤k) && decide (k≤8)
 else if kind=12 then decide (k=1) else if kind=13 then decide (k=2) else if kind=14∨kind=15 then decide (k=3) else false
mutual
def d9 : Nd→Int→Bool
 | .mk kind s n ks _,d => decide (d≤100) && y7 kind ks.length && G0 kind s.data.toList && dG kind n && o9 ks (d + 1)
def o9 : List Nd→Int→Bool
 | [],_ => true
 | k :: ks,d => d9 k d && o9 ks d
end
def R9 (kind : Int) : Bool:=decide (kind=12) || decide (kind=13) || decide (kind=14)
def T1 (kind : Int) (f : List UInt8) : List UInt8:=if R9 kind=true then [40] ++ f ++ [41] else f
def lN : List (List UInt8)→List UInt8
 | [] => []
 | f :: r => [44,32] ++ f ++ lN r
def cO : List (List UInt8)→List UInt8
 | [] => [40,41]
 | f :: r => [40] ++ f ++ lN r ++ [41]
def qA (kind n : Int) (s : List UInt8) (l : List (Int × List UInt8)) : List UInt8 :=
 if kind=5 then bP n
 else if kind=6 then kO n
 else if kind=8 then (if n=1 then [116,114,117,101] else [102,97,108,115,101])
 else if kind=9 then [102,101,101,100,32,34] ++ s ++ [34]
 else if kind=11 then s ++ cO (l.map (·.2))
 else if kind=15 then [112,105,99,107,32,34] ++ s ++ [34] ++ cO (l.map (·.2))
 else match l with
  | [a] => (if kind=12 then (if s=[45] then [45] else [110,111,116,32]) ++ T1 a.1 a.2 else s)
  | [a,b] => (if kind=13 then T1 a.1 a.2 ++ [32] ++ s ++ [32] ++ T1 b.1 b.2 else s)
  | [a,b,c] => (if kind=14 then [105,102,32] ++ a.2 ++ [32,116,104,101,110,32] ++ b.2 ++ [32,101,108,115,101,32] ++ c.2 else s)
  | _ => s
mutual
def i6 : Nd→List UInt8
 | .mk kind s n ks _ => qA kind n s.data.toList (s5 ks)
def s5 : List Nd→List (Int × List UInt8)
 | [] => []
 | k :: ks => (k.kind,i6 k) :: s5 ks
end
theorem kN : ∀ ks : List Nd,s5 ks=ks.map fun k => (k.kind,i6 k)
 | [] => rfl
 | k :: ks => by rw [s5,kN ks]; rfl
theorem bU : ∀ (ks : List Nd) (d : Int),o9 ks d=ks.all fun k => d9 k d
 | [],_ => rfl
 | k :: ks,d => by rw [o9,bU ks d]; rfl
inductive Fm where
 | leaf (s : ByteArray)
 | called (head : ByteArray) (kids : List Fm)
 | unary (sign kid : Fm)
 | binary (a sign b : Fm)
 | choice (a b c : Fm)
def Fm.wrap : Fm→Bool
 | .leaf _ => false
 | .called _ _ => false
 | _ => true
def T3 (b : Bool) (l : List UInt8) : List UInt8:=if b=true then [40] ++ l ++ [41] else l
mutual
def Fm.text : Fm→List UInt8
 | .leaf s => s.data.toList
 | .called h ks => h.data.toList ++ Fm.texts true ks ++ [41]
 | .unary s k => s.text ++ T3 k.wrap k.text
 | .binary a s b => T3 a.wrap a.text ++ [32] ++ s.text ++ [32] ++ T3 b.wrap b.text
 | .choice a b c => [105,102,32] ++ a.text ++ [32,116,104,101,110,32] ++ b.text ++ [32,101,108,115,101,32] ++ c.text
def Fm.texts : Bool→List Fm→List UInt8
 | _,[] => []
 | first,k :: ks => (if first=true then [40] else [44,32]) ++ k.text ++ Fm.texts false ks
end
theorem jB : ∀ fs : List Fm,Fm.texts false fs=lN (fs.map Fm.text)
 | [] => by rw [Fm.texts]; rfl
 | k :: ks => by rw [Fm.texts,jB ks]; rfl
theorem lE (fs : List Fm) (h : fs≠[]) : Fm.texts true fs ++ [41]=cO (fs.map Fm.text):=by
 cases fs with
 | nil => exact absurd rfl h
 | cons k ks => rw [Fm.texts,jB ks,if_pos rfl]; rfl
theorem vJ (fs : List Fm) (k : Nat) (hk : k<fs.length) : Fm.texts (decide (k=0)) (fs.drop k)=(if k=0 then [40] else [44,32]) ++ fs[k].text ++ Fm.texts (decide (k + 1=0)) (fs.drop (k + 1)):=by
 rw [List.drop_eq_getElem_cons hk,Fm.texts]
 by_cases h : k=0
 ·subst h; rfl
 ·rw [decide_eq_false h,if_neg (by decide),if_neg h]; rfl
theorem xB {h : ByteArray} {ks : List Fm} {N k : Nat} (hk : k<ks.length) (g : SizeOf.sizeOf (Fm.called h ks)<N + 1) : SizeOf.sizeOf ks[k]<N:=by
 have:=List.sizeOf_lt_of_mem (List.getElem_mem hk)
 simp only [Fm.called.sizeOf_spec] at g
 omega
theorem lU {l : List UInt8} (h : x8 l=true) : l.length≤24:=by
 unfold x8 at h
 simp only [Bool.and_eq_true,decide_eq_true_eq] at h
 exact h.1.1
theorem o0 {l : List UInt8} (h : l3 l=true) : l.length≤24:=by
 unfold l3 at h
 rw [Bool.and_eq_true] at h
 exact lU h.1
theorem xS {l : List UInt8} (h : eV l=true) : l.length≤49:=by
 unfold eV at h
 rw [Bool.and_eq_true] at h
 have h1:=o0 h.1
 cases hc : (Lib.cut l [46]).2.2 with
 | false => rw [a5e hc] at h1; omega
 | true =>
   rw [hc] at h
   have h2:=o0 (by simpa using h.2)
   unfold Lib.cut at h1 h2 hc
   split at hc
   ·rename_i g
    rw [if_pos g] at h1 h2
    simp only [List.length_take,List.length_drop,List.length_cons,List.length_nil] at h1 h2
    omega
   ·cases hc
theorem a1t {l : List UInt8} (h : eX l=true) : 1≤l.length∧l.length≤3:=by
 have : ∀ w∈Y5,1≤w.length∧w.length≤3:=by decide
 exact this l (List.contains_iff_mem.1 h)
theorem rR : ∀ (f n : Nat) (l : List UInt8),(dW f n l).length≤f + l.length
 | 0,_,_ => by rw [dW]; omega
 | f + 1,n,l => by
   rw [dW]
   split
   ·omega
   ·have:=rR f (n / 10) (dig n :: l)
    simp only [List.length_cons] at this
    omega
theorem a13 (n : Nat) : (a01 n).length≤21:=by
 have:=rR 20 (n / 10) [dig n]
 simpa [a01] using this
theorem oK (l : List UInt8) : (dO l).length≤l.length:=by
 unfold dO
 have:=(List.dropWhile_sublist (l:=l.reverse) (· == 48)).length_le
 simpa using this
theorem a05 (n : Int) : (bP n).length≤29:=by
 unfold bP uK
 have h1:=a13 ((U5 n).natAbs / 1000000)
 have h2:=oK (aN 6 (U5 n).natAbs [])
 rw [dP] at h2
 simp only [List.length_append]
 simp only [List.length_nil] at h2
 split <;> split <;> simp <;> omega
theorem a0x (n : Int) : (kO n).length≤10:=by
 unfold kO
 split
 ·exact Nat.le_refl _
 ·exact Nat.zero_le _
theorem iO (k : Int) (f : List UInt8) : (T1 k f).length≤f.length + 2:=by
 unfold T1
 split <;> simp
theorem lB : ∀ (fs : List (List UInt8)),(lN fs).length=(fs.map fun f => f.length + 2).sum
 | [] => rfl
 | f :: r => by
   rw [lN,List.map_cons,List.sum_cons,← lB r]
   simp; omega
theorem oF (fs : List (List UInt8)) : (cO fs).length≤(fs.map fun f => f.length + 2).sum + 2:=by
 cases fs with
 | nil => exact Nat.le_refl _
 | cons f r =>
   rw [cO,List.map_cons,List.sum_cons,← lB r]
   simp; omega
theorem xF {k : Int} {l : List UInt8} (h : G0 k l=true) : l.length≤49:=by
 unfold G0 at h
 split at h
 ·unfold qP at h; simp only [Bool.and_eq_true,decide_eq_true_eq] at h; omega
 split at h
 ·have:=lU h; omega
 split at h
 ·exact xS h
 split at h
 ·rw [Bool.or_eq_true] at h
  rcases h with h | h <;> (rw [eq_of_beq h]; decide)
 split at h
 ·have:=a1t h; omega
 ·rw [List.isEmpty_iff] at h; rw [h]; decide
theorem xG (kind n : Int) (s : List UInt8) (l : List (Int × List UInt8)) (h : s.length≤49) : (qA kind n s l).length≤100 + (l.map fun x => x.2.length + 2).sum:=by
 have e : (l.map (·.2)).map (fun f => f.length + 2)=l.map fun x => x.2.length + 2:=by rw [List.map_map]; rfl
 have hl:=oF (l.map (·.2))
 rw [e] at hl
 unfold qA
 split
 ·have:=a05 n; omega
 split
 ·have:=a0x n; omega
 split
 ·split <;> simp <;> omega
 split
 ·simp; omega
 split
 ·simp only [List.length_append]; omega
 split
 ·simp only [List.length_append,List.length_cons,List.length_nil]; omega
 split
 ·rename_i a
  split
  ·have:=iO a.1 a.2
   simp only [List.length_append,List.map_cons,List.map_nil,List.sum_cons,List.sum_nil]
   split <;> simp <;> omega
  ·omega
 ·rename_i a b
  split
  ·have h1:=iO a.1 a.2
   have h2:=iO b.1 b.2
   simp only [List.length_append,List.map_cons,List.map_nil,List.sum_cons,List.sum_nil,List.length_cons,List.length_nil]
   omega
  ·omega
 ·split
  ·simp only [List.length_append,List.map_cons,List.map_nil,List.sum_cons,List.sum_nil,List.length_cons,List.length_nil]
   omega
  ·omega
 ·omega
mutual
theorem iH : ∀ (t : Nd) (d : Int),d9 t d=true→(i6 t).length + 2≤128 * i7 t
 | .mk kind s n ks p,d,h => by
   rw [d9] at h
   simp only [Bool.and_eq_true] at h
   have h1:=xG kind n s.data.toList (s5 ks) (xF h.1.1.2)
   have h2:=mR ks (d + 1) h.2
   rw [i6,i7]
   omega
theorem mR : ∀ (ks : List Nd) (d : Int),o9 ks d=true→((s5 ks).map fun x => x.2.length + 2).sum≤128 * j7 ks
 | [],_,_ => by rw [s5]; exact Nat.zero_le _
 | k :: ks,d,h => by
   rw [o9,Bool.and_eq_true] at h
   have h1:=iH k d h.1
   have h2:=mR ks d h.2
   rw [s5,j7,List.map_cons,List.sum_cons]
   simp only
   omega
end
theorem fY {p : UInt8→Bool} (h : ∀ n : Fin 256,p (UInt8.ofNat n.val)=true) (c : UInt8) : p c=true:=by
 have:=h ⟨c.toNat,c.toNat_lt⟩
 simpa using this
def dgC (c : UInt8) : Bool:=decide (48≤c.toNat) && decide (c.toNat≤57)
theorem a24 {n : Int} (h : 0≤n) (h' : n≤73048) : ∃ y m d,Cal.ok y m d∧Cal.num y m d=n∧kO n=Cal.text y m d:=by
 obtain ⟨y,m,d,ho,rfl⟩:=Cal.date_of n h h'
 exact ⟨y,m,d,ho,rfl,a3b ho⟩
theorem uI {t : Nd} {d : Int} (h : d9 t d=true) : y7 t.kind t.kids.length=true∧G0 t.kind t.text.data.toList=true∧dG t.kind t.n=true∧o9 t.kids (d + 1)=true:=by
 cases t
 rw [d9] at h
 simp only [Bool.and_eq_true] at h
 exact ⟨h.1.1.1.2,h.1.1.2,h.1.2,h.2⟩
theorem yS (t : Nd) : i6 t=qA t.kind t.n t.text.data.toList (s5 t.kids):=by cases t; rw [i6]; rfl
theorem a2J (s : ByteArray) (n p : Int) (k u : Nd) : i6 (.mk 13 s n [k,u] p)=T1 k.kind (i6 k) ++ 32 :: (s.data.toList ++ 32 :: T1 u.kind (i6 u)):=by
 rw [i6,s5,s5,s5]
 show T1 k.kind (i6 k) ++ [32] ++ s.data.toList ++ [32] ++ T1 u.kind (i6 u)=_
 simp
theorem a2m (s : ByteArray) (n p : Int) (k : Nd) : i6 (.mk 12 s n [k] p)=(if s.data.toList=[45] then [45] else [110,111,116,32]) ++ T1 k.kind (i6 k):=by
 rw [i6,s5,s5]; rfl
theorem a4l (s : ByteArray) (n p : Int) (k u v : Nd) : i6 (.mk 14 s n [k,u,v] p)=105 :: 102 :: 32 :: (i6 k ++ 32 :: ([116,104,101,110] ++ 32 :: (i6 u ++ 32 :: ([101,108,115,101] ++ 32 :: i6 v)))):=by
 rw [i6,s5,s5,s5,s5]
 show [105,102,32] ++ i6 k ++ [32,116,104,101,110,32] ++ i6 u ++ [32,101,108,115,101,32] ++ i6 v=_
 simp
theorem a42 {t : Nd} {d : Int} (h : d9 t d=true) (hk : 5≤t.kind∧t.kind≤10) : t.kids=[]:=by
 have:=(uI h).1
 unfold y7 at this
 rw [if_pos hk,decide_eq_true_eq] at this
 exact List.eq_nil_of_length_eq_zero this
def hw (t : Nd) : List UInt8:=if t.kind=9 then [102,101,101,100] else if t.kind=15 then [112,105,99,107] else if t.kind=11 then t.text.data.toList else i6 t
theorem a5t {α : Type} {l : List α} (h : l.length=1) : ∃ a,l=[a]:=by
 match l,h with
 | [a],_ => exact ⟨a,rfl⟩
theorem a5z {α : Type} {l : List α} (h : l.length=2) : ∃ a b,l=[a,b]:=by
 match l,h with
 | [a,b],_ => exact ⟨a,b,rfl⟩
theorem a5i {α : Type} {l : List α} (h : l.length=3) : ∃ a b c,l=[a,b,c]:=by
 match l,h with
 | [a,b,c],_ => exact ⟨a,b,c,rfl⟩
def s4 (t : Nd) : Bool:=decide (5≤t.kind∧t.kind≤10) && (G0 t.kind t.text.data.toList && dG t.kind t.n) && t.kids.isEmpty
def fD (t : Nd) : Bool :=
 if t.kind=11 then eV t.text.data.toList
 else if t.kind=15 then x8 t.text.data.toList && decide (t.kids.length=3)
 else if t.kind=14 then t.text.data.toList.isEmpty && decide (t.kids.length=3)
 else if t.kind=12 then (t.text.data.toList == [45] || t.text.data.toList == [110,111,116]) && decide (t.kids.length=1)
 else if t.kind=13 then eX t.text.data.toList && decide (t.kids.length=2)
 else false
theorem tG (t : Nd) (d : Int) : d9 t d=(decide (d≤100) && (s4 t || (decide (t.n=0) && (decide (1≤t.kids.length) && decide (t.kids.length≤8)) && o9 t.kids (d + 1) && fD t))):=by
 cases t with
 | mk kind s n ks p =>
 rw [d9]
 show (decide (d≤100) && y7 kind ks.length && G0 kind s.data.toList && dG kind n && o9 ks (d + 1))=(decide (d≤100) && ((decide (5≤kind∧kind≤10) && (G0 kind s.data.toList && dG kind n) && ks.isEmpty) ||
  (decide (n=0) && (decide (1≤ks.length) && decide (ks.length≤8)) && o9 ks (d + 1) && (if kind=11 then eV s.data.toList
    else if kind=15 then x8 s.data.toList && decide (ks.length=3)
    else if kind=14 then s.data.toList.isEmpty && decide (ks.length=3)
    else if kind=12 then (s.data.toList == [45] || s.data.toList == [110,111,116]) && decide (ks.length=1)
    else if kind=13 then eX s.data.toList && decide (ks.length=2)
    else false))))
 cases decide (d≤100)
 ·simp
 simp only [Bool.true_and]
 by_cases h1 : 5≤kind∧kind≤10
 ·rw [decide_eq_true h1,if_neg (by omega),if_neg (by omega),if_neg (by omega),if_neg (by omega),if_neg (by omega),Bool.and_false,Bool.or_false,Bool.true_and]
  unfold y7
  rw [if_pos h1]
  cases ks with
  | nil => rw [o9]; simp
  | cons k ks => simp
 ·rw [decide_eq_false h1,Bool.false_and,Bool.false_and,Bool.false_or]
  have hk : kind=11∨kind=15∨kind=14∨kind=12∨kind=13∨(kind≠11∧kind≠15∧kind≠14∧kind≠12∧kind≠13):=by omega
  rcases hk with hk | hk | hk | hk | hk | hk
  ·subst hk
   have e1 : y7 11 ks.length=(decide (1≤ks.length) && decide (ks.length≤8)):=rfl
   have e2 : G0 11 s.data.toList=eV s.data.toList:=rfl
   have e3 : dG 11 n=decide (n=0):=rfl
   rw [e1,e2,e3,if_pos rfl]
   cases decide (1≤ks.length) <;> cases decide (ks.length≤8) <;> cases decide (n=0) <;> cases eV s.data.toList <;> cases o9 ks (d + 1) <;> rfl
  ·subst hk
   have e1 : y7 15 ks.length=decide (ks.length=3):=rfl
   have e2 : G0 15 s.data.toList=x8 s.data.toList:=rfl
   have e3 : dG 15 n=decide (n=0):=rfl
   rw [e1,e2,e3,if_neg (by decide),if_pos rfl]
   by_cases hl : ks.length=3
   ·rw [decide_eq_true hl,decide_eq_true (show 1≤ks.length by omega),decide_eq_true (show ks.length≤8 by omega)]
    cases decide (n=0) <;> cases x8 s.data.toList <;> cases o9 ks (d + 1) <;> rfl
   ·rw [decide_eq_false hl]; simp
  ·subst hk
   have e1 : y7 14 ks.length=decide (ks.length=3):=rfl
   have e2 : G0 14 s.data.toList=s.data.toList.isEmpty:=rfl
   have e3 : dG 14 n=decide (n=0):=rfl
   rw [e1,e2,e3,if_neg (by decide),if_neg (by decide),if_pos rfl]
   by_cases hl : ks.length=3
   ·rw [decide_eq_true hl,decide_eq_true (show 1≤ks.length by omega),decide_eq_true (show ks.length≤8 by omega)]
    cases decide (n=0) <;> cases s.data.toList.isEmpty <;> cases o9 ks (d + 1) <;> rfl
   ·rw [decide_eq_false hl]; simp
  ·subst hk
   have e1 : y7 12 ks.length=decide (ks.length=1):=rfl
   have e2 : G0 12 s.data.toList=(s.data.toList == [45] || s.data.toList == [110,111,116]):=rfl
   have e3 : dG 12 n=decide (n=0):=rfl
   rw [e1,e2,e3,if_neg (by decide),if_neg (by decide),if_neg (by decide),if_pos rfl]
   by_cases hl : ks.length=1
   ·rw [decide_eq_true hl,decide_eq_true (show 1≤ks.length by omega),decide_eq_true (show ks.length≤8 by omega)]
    cases decide (n=0) <;> cases (s.data.toList == [45] || s.data.toList == [110,111,116]) <;> cases o9 ks (d + 1) <;> rfl
   ·rw [decide_eq_false hl]; simp
  ·subst hk
   have e1 : y7 13 ks.length=decide (ks.length=2):=rfl
   have e2 : G0 13 s.data.toList=eX s.data.toList:=rfl
   have e3 : dG 13 n=decide (n=0):=rfl
   rw [e1,e2,e3,if_neg (by decide),if_neg (by decide),if_neg (by decide),if_neg (by decide),if_pos rfl]
   by_cases hl : ks.length=2
   ·rw [decide_eq_true hl,decide_eq_true (show 1≤ks.length by omega),decide_eq_true (show ks.length≤8 by omega)]
    cases decide (n=0) <;> cases eX s.data.toList <;> cases o9 ks (d + 1) <;> rfl
   ·rw [decide_eq_false hl]; simp
  ·have e1 : y7 kind ks.length=false:=by
    unfold y7
    rw [if_neg h1,if_neg hk.1,if_neg hk.2.2.2.1,if_neg hk.2.2.2.2,if_neg (by omega)]
   rw [e1,if_neg hk.1,if_neg hk.2.1,if_neg hk.2.2.1,if_neg hk.2.2.2.1,if_neg hk.2.2.2.2]
   simp
theorem pT (ks : List Nd) (d : Int) : ∀ n,(∀ j (hj : j<ks.length),j<n→d9 ks[j] d=true)→o9 (ks.take n) d=true:=by
 intro n h
 rw [bU,List.all_eq_true]
 intro k hk
 obtain ⟨i,hi,rfl⟩:=List.getElem_of_mem hk
 rw [List.length_take] at hi
 rw [List.getElem_take]
 exact h i (by omega) (by omega)
theorem rF {ks : List Nd} {d : Int} {j : Nat} (hj : j<ks.length) (h : d9 ks[j] d=false) : o9 ks d=false:=by
 rw [bU,Bool.eq_false_iff]
 intro e
 rw [List.all_eq_true] at e
 rw [e _ (List.getElem_mem hj)] at h
 cases h
end Go.Proofs.YtppcfebnaieciaaGreatDoor
