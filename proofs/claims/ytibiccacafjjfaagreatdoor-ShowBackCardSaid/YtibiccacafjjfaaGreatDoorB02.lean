/-
  Laws that the proof rests on.
-/
import Derived.Test.YtibiccacafjjfaaGreatDoorB01
import Derived.Test.YtibiccacafjjfaaGreatDoorProg
import Derived.WalkKit
import Derived.Deep.RegionWith
import Derived.Deep.RegionHeld3
import Derived.Lib.SlTrimSet
import Derived.Lib.Strings
import Derived.Lib.IndexMore
import Derived.Lib.IndexBytes
namespace Go.Proofs.YtibiccacafjjfaaGreatDoor
set_option maxRecDepth 100000
set_option maxHeartbeats 16000000
section
variable {Pr : Program} {ops : Array Oper} {Q : Exit→Act→World→Prop} {md : Region.Mode} {S : World→Prop}
def l6 (Pr : Program) (md : Region.Mode) (ops : Array Oper) (Q : Exit→Act→World→Prop) (S : World→Prop) (Z : List Nat) : Nat→Array Bool→Act→World→Prop
 | 0,listed,a,w => Region.ready md ops listed=[]∧Q .normal a w
 | n + 1,listed,a,w => (Region.ready md ops listed=[]→Q .normal a w) ∧
   ∀ i∈Region.ready md ops listed,wpOp Pr ops Q i (fun a' w' => (i ∉ Z→S w')∧l6 Pr md ops Q S Z n (listed.setIfInBounds i true) a' w') a w
theorem l6.any {Z : List Nat} : ∀ (n : Nat) (listed : Array Bool) (a : Act) (w : World),l6 Pr md ops Q S Z n listed a w→wpAny Pr md ops Q n listed a w
 | 0,_,_,_,h => h
 | n + 1,_,_,_,h => ⟨h.1,fun i hi => wpOp_mono (fun a' w' h' => l6.any n _ a' w' h'.2) (h.2 i hi)⟩
theorem l6.first {T : World→Prop} {i : Nat} {Z : List Nat} {oi : Oper} {v : Value} (hi : ops[i]?=some oi) (hsel : ∀ (j : Nat) (o : Oper) cs b,ops[j]?=some o→o.op≠.select cs b)
 (hT : (∀ w,T w)∨((∀ w,S w→T w)∧∀ z∈Z,fE md ops z i=true)) (hiS : i∈Z∨∀ w,T w→S w)
 (hQ : ∀ c a w,Q (.panic c) (a.put oi.dst v) w→Q (.panic c) a w) : ∀ (n : Nat) (listed : Array Bool) (a : Act) (w : World),
   (∀ j oj,ops[j]?=some oj→j≠i→listed.getD j true=false→(∀ e∈oj.after,Region.binds md e=true→e.on≠i)→oi.apart ops oj=true) →
   i∈Region.ready md ops listed→YieldsIf Pr ops T oi v a→T w →
   l6 Pr md ops Q S Z n (listed.setIfInBounds i true) (a.put oi.dst v) w→l6 Pr md ops Q S Z (n + 1) listed a w
 | 0,listed,a,w,_,hr,hy,hS,H => by
   refine ⟨fun h => (by rw [h] at hr; cases hr),fun j hj => ?_⟩
   by_cases hji : j=i
   ·subst hji; exact hy.wpOp hi hS ⟨fun hz => hiS.elim (fun h => absurd h hz) fun h => h w hS,H⟩
   ·have:=ready_mono hj hji
    rw [H.1] at this
    cases this
 | n + 1,listed,a,w,hfree,hr,hy,hS,H => by
   have hun:=(mem_ready.1 hr).1
   refine ⟨fun h => (by rw [h] at hr; cases hr),fun j hj => ?_⟩
   by_cases hji : j=i
   ·subst hji; exact hy.wpOp hi hS ⟨fun hz => hiS.elim (fun h => absurd h hz) fun h => h w hS,H⟩
   ·obtain ⟨hjun,oj,hoj,hall⟩:=mem_ready.1 hj
    have hno : ∀ e∈oj.after,Region.binds md e=true→e.on≠i:=fun e he hb heq => by
     have h1:=hall e he hb
     rw [heq] at h1
     rcases Nat.lt_or_ge i listed.size with g | g
     ·simp [g] at hun h1; rw [hun] at h1; cases h1
     ·simp [Array.getElem?_eq_none g] at h1
    have h2:=wpOp_putIf hoj (hfree j oj hoj hji hjun hno) (fun cs b => hsel i oi cs b hi) (fun cs b => hsel j oj cs b hoj) hQ hy (H.2 j (ready_mono hj hji))
    refine wpOp_mono (fun a' w' h3 => ⟨h3.2.1,l6.first hi hsel hT hiS hQ n (listed.setIfInBounds j true) a' w' (fun k ok hk hki hku hkn => ?_) (ready_mono hr (Ne.symm hji)) h3.1 ?_ ?_⟩) h2
    ·refine hfree k ok hk hki ?_ hkn
     by_cases hjk : j=k
     ·subst hjk; exact hjun
     ·rw [getD_set_ne true hjk] at hku; exact hku
    ·rcases hT with hT | ⟨hT,hz⟩
     ·exact hT w'
     ·exact hT w' (h3.2.1 fun hjz => fE.not_ready (hz j hjz) hun hj)
    ·rw [Array.setIfInBounds_comm _ _ hji]
     exact h3.2.2
theorem l6.take {i : Nat} {Z : List Nat} {oi : Oper} {v : Value} {n : Nat} {listed : Array Bool} {a : Act} {w : World} (hi : ops[i]?=some oi) (hs : Region.noSelect ops=true) (hf : Region.free md ops listed i=true) (hr : (Region.ready md ops listed).contains i=true) (hz : (Z.all fun z => fE md ops z i)=true)
 (hQ : ∀ c a w,Q (.panic c) (a.put oi.dst v) w→Q (.panic c) a w) (hy : YieldsIf Pr ops S oi v a) (hS : S w) (h : l6 Pr md ops Q S Z n (listed.setIfInBounds i true) (a.put oi.dst v) w) : l6 Pr md ops Q S Z (n + 1) listed a w :=
 l6.first (T:=S) hi (Region.noSelect_spec hs) (.inr ⟨fun _ h => h,fun z hz' => List.all_eq_true.1 hz z hz'⟩) (.inr fun _ h => h) hQ n listed a w (Region.free_spec hi hf) (by simpa using hr) hy hS h
theorem l6.pure {i : Nat} {Z : List Nat} {oi : Oper} {v : Value} {n : Nat} {listed : Array Bool} {a : Act} {w : World} (hi : ops[i]?=some oi) (hs : Region.noSelect ops=true) (hf : Region.free md ops listed i=true) (hr : (Region.ready md ops listed).contains i=true) (hz : Z.contains i=true)
 (hQ : ∀ c a w,Q (.panic c) (a.put oi.dst v) w→Q (.panic c) a w) (hy : YieldsIf Pr ops (fun _ => True) oi v a) (h : l6 Pr md ops Q S Z n (listed.setIfInBounds i true) (a.put oi.dst v) w) : l6 Pr md ops Q S Z (n + 1) listed a w :=
 l6.first (T:=fun _ => True) hi (Region.noSelect_spec hs) (.inl fun _ => trivial) (.inl (by simpa using hz)) hQ n listed a w (Region.free_spec hi hf) (by simpa using hr) hy trivial h
theorem l6.next {i : Nat} {Z : List Nat} {o : Oper} {n : Nat} {listed : Array Bool} {a : Act} {w : World} (hr : Region.ready md ops listed=[i]) (ho : ops[i]?=some o)
 (h : ∀ K' : Act→World→Prop,Shut (∀ a w,S w→(S w→l6 Pr md ops Q S Z n (listed.setIfInBounds i true) a w)→K' a w)→if Region.wanted o (yielded ops a.tmps)=true then Oper.wp Pr o a w K' Q else K' (a.put o.dst undef) w) : l6 Pr md ops Q S Z (n + 1) listed a w :=
 ⟨fun h0 => (by rw [h0] at hr; cases hr),fun j hj => by
  rw [hr] at hj
  obtain rfl:=List.mem_singleton.1 hj
  exact wpOp_step ho fun K' hK => h K' fun a w hS hW => hK a w ⟨fun _ => hS,hW hS⟩⟩
theorem l6.two {i j : Nat} {Z : List Nat} {oi oj : Oper} {n : Nat} {listed : Array Bool} {a : Act} {w : World} (hr : Region.ready md ops listed=[i,j]) (hoi : ops[i]?=some oi) (hoj : ops[j]?=some oj)
 (hi : ∀ K' : Act→World→Prop,Shut (∀ a w,S w→(S w→l6 Pr md ops Q S Z n (listed.setIfInBounds i true) a w)→K' a w)→if Region.wanted oi (yielded ops a.tmps)=true then Oper.wp Pr oi a w K' Q else K' (a.put oi.dst undef) w)
 (hj : ∀ K' : Act→World→Prop,Shut (∀ a w,S w→(S w→l6 Pr md ops Q S Z n (listed.setIfInBounds j true) a w)→K' a w)→if Region.wanted oj (yielded ops a.tmps)=true then Oper.wp Pr oj a w K' Q else K' (a.put oj.dst undef) w) : l6 Pr md ops Q S Z (n + 1) listed a w :=
 ⟨fun h0 => (by rw [h0] at hr; cases hr),fun k hk => by
  rw [hr] at hk
  rcases List.mem_cons.1 hk with rfl | hk
  ·exact wpOp_step hoi fun K' hK => hi K' fun a w hS hW => hK a w ⟨fun _ => hS,hW hS⟩
  ·obtain rfl:=List.mem_singleton.1 hk
   exact wpOp_step hoj fun K' hK => hj K' fun a w hS hW => hK a w ⟨fun _ => hS,hW hS⟩⟩
theorem l6.nextZ {i : Nat} {Z : List Nat} {o : Oper} {n : Nat} {listed : Array Bool} {a : Act} {w : World} (hr : Region.ready md ops listed=[i]) (ho : ops[i]?=some o) (hz : Z.contains i=true)
 (h : ∀ K' : Act→World→Prop,Shut (∀ a w,l6 Pr md ops Q S Z n (listed.setIfInBounds i true) a w→K' a w)→if Region.wanted o (yielded ops a.tmps)=true then Oper.wp Pr o a w K' Q else K' (a.put o.dst undef) w) : l6 Pr md ops Q S Z (n + 1) listed a w :=
 ⟨fun h0 => (by rw [h0] at hr; cases hr),fun j hj => by
  rw [hr] at hj
  obtain rfl:=List.mem_singleton.1 hj
  exact wpOp_step ho fun K' hK => h K' fun a w hW => hK a w ⟨fun e => absurd (by simpa using hz) e,hW⟩⟩
theorem l6.twoZ {i j : Nat} {Z : List Nat} {oi oj : Oper} {n : Nat} {listed : Array Bool} {a : Act} {w : World} (hr : Region.ready md ops listed=[i,j]) (hoi : ops[i]?=some oi) (hoj : ops[j]?=some oj) (hiz : Z.contains i=true) (hjz : Z.contains j=true)
 (hi : ∀ K' : Act→World→Prop,Shut (∀ a w,l6 Pr md ops Q S Z n (listed.setIfInBounds i true) a w→K' a w)→if Region.wanted oi (yielded ops a.tmps)=true then Oper.wp Pr oi a w K' Q else K' (a.put oi.dst undef) w)
 (hj : ∀ K' : Act→World→Prop,Shut (∀ a w,l6 Pr md ops Q S Z n (listed.setIfInBounds j true) a w→K' a w)→if Region.wanted oj (yielded ops a.tmps)=true then Oper.wp Pr oj a w K' Q else K' (a.put oj.dst undef) w) : l6 Pr md ops Q S Z (n + 1) listed a w :=
 ⟨fun h0 => (by rw [h0] at hr; cases hr),fun k hk => by
  rw [hr] at hk
  rcases List.mem_cons.1 hk with rfl | hk
  ·exact wpOp_step hoi fun K' hK => hi K' fun a w hW => hK a w ⟨fun e => absurd (by simpa using hiz) e,hW⟩
  ·obtain rfl:=List.mem_singleton.1 hk
   exact wpOp_step hoj fun K' hK => hj K' fun a w hW => hK a w ⟨fun e => absurd (by simpa using hjz) e,hW⟩⟩
theorem l6.done {Z : List Nat} {listed : Array Bool} {a : Act} {w : World} (hr : Region.ready md ops listed=[]) (h : Q .normal a w) : ∀ n,l6 Pr md ops Q S Z n listed a w
 | 0 => ⟨hr,h⟩
 | _ + 1 => ⟨fun _ => h,by rw [hr]; simp⟩
theorem cR {id : Nat} {Z : List Nat} {a : Act} {w : World} (hm : Pr.follows .mixedOrders=true) (hS : S w.drew) (h : S w.drew→l6 Pr .any ops Q S Z ops.size (Array.replicate ops.size false) a w.drew) : (Code.region id ops true).wp Pr Q a w :=
 wp_region_any hm (l6.any _ _ _ _ (h hS))
end
section
variable {Pr : Program} {ops : Array Oper} {Q : Exit→Act→World→Prop} {md : Region.Mode} {S : World→Prop}
theorem l6.firstL {i : Nat} {Z : List Nat} {oi : Oper} {v : Value} (hi : ops[i]?=some oi) (hsel : ∀ (j : Nat) (o : Oper) cs b,ops[j]?=some o→o.op≠.select cs b)
 (hQ : ∀ c a w,Q (.panic c) (a.put oi.dst v) w→Q (.panic c) a w) : ∀ (n : Nat) (listed : Array Bool) (a : Act) (w : World),
   (∀ z∈Z,fE md ops z i=true∨listed.getD z true=true) →
   (∀ j oj,ops[j]?=some oj→j≠i→listed.getD j true=false→(∀ e∈oj.after,Region.binds md e=true→e.on≠i)→oi.apart ops oj=true) →
   i∈Region.ready md ops listed→YieldsIf Pr ops S oi v a→S w →
   l6 Pr md ops Q S Z n (listed.setIfInBounds i true) (a.put oi.dst v) w→l6 Pr md ops Q S Z (n + 1) listed a w
 | 0,listed,a,w,_,_,hr,hy,hS,H => by
   refine ⟨fun h => (by rw [h] at hr; cases hr),fun j hj => ?_⟩
   by_cases hji : j=i
   ·subst hji; exact hy.wpOp hi hS ⟨fun _ => hS,H⟩
   ·have:=ready_mono hj hji
    rw [H.1] at this
    cases this
 | n + 1,listed,a,w,hz,hfree,hr,hy,hS,H => by
   have hun:=(mem_ready.1 hr).1
   refine ⟨fun h => (by rw [h] at hr; cases hr),fun j hj => ?_⟩
   by_cases hji : j=i
   ·subst hji; exact hy.wpOp hi hS ⟨fun _ => hS,H⟩
   ·obtain ⟨hjun,oj,hoj,hall⟩:=mem_ready.1 hj
    have hno : ∀ e∈oj.after,Region.binds md e=true→e.on≠i:=fun e he hb heq => by
     have h1:=hall e he hb
     rw [heq] at h1
     rcases Nat.lt_or_ge i listed.size with g | g
     ·simp [g] at hun h1; rw [hun] at h1; cases h1
     ·simp [Array.getElem?_eq_none g] at h1
    have h2:=wpOp_putIf hoj (hfree j oj hoj hji hjun hno) (fun cs b => hsel i oi cs b hi) (fun cs b => hsel j oj cs b hoj) hQ hy (H.2 j (ready_mono hj hji))
    refine wpOp_mono (fun a' w' h3 => ⟨h3.2.1,l6.firstL hi hsel hQ n (listed.setIfInBounds j true) a' w' (fun z hz' => (hz z hz').imp id fun hl => ?_) (fun k ok hk hki hku hkn => ?_) (ready_mono hr (Ne.symm hji)) h3.1 ?_ ?_⟩) h2
    ·by_cases hjz : j=z
     ·subst hjz; rw [hl] at hjun; cases hjun
     ·rw [getD_set_ne true hjz]; exact hl
    ·refine hfree k ok hk hki ?_ hkn
     by_cases hjk : j=k
     ·subst hjk; exact hjun
     ·rw [getD_set_ne true hjk] at hku; exact hku
    ·exact h3.2.1 fun hjz => (hz j hjz).elim (fun h => fE.not_ready h hun hj) fun h => by rw [h] at hjun; cases hjun
    ·rw [Array.setIfInBounds_comm _ _ hji]
     exact h3.2.2
theorem l6.takeL {i : Nat} {Z : List Nat} {oi : Oper} {v : Value} {n : Nat} {listed : Array Bool} {a : Act} {w : World} (hi : ops[i]?=some oi) (hs : Region.noSelect ops=true) (hf : Region.free md ops listed i=true) (hr : (Region.ready md ops listed).contains i=true) (hz : (Z.all fun z => fE md ops z i || listed.getD z true)=true)
 (hQ : ∀ c a w,Q (.panic c) (a.put oi.dst v) w→Q (.panic c) a w) (hy : YieldsIf Pr ops S oi v a) (hS : S w) (h : l6 Pr md ops Q S Z n (listed.setIfInBounds i true) (a.put oi.dst v) w) : l6 Pr md ops Q S Z (n + 1) listed a w :=
 l6.firstL hi (Region.noSelect_spec hs) hQ n listed a w (fun z hz' => by have:=List.all_eq_true.1 hz z hz'; simpa using this) (Region.free_spec hi hf) (by simpa using hr) hy hS h
end
theorem l3 {l : List Oper} {n : Nat} {o : Oper} {r : List Oper} (h : l.drop n=o :: r) : l.toArray[n]?=some o:=by
 rw [List.getElem?_toArray]
 have : (l.drop n)[0]?=some o:=by rw [h]; rfl
 rw [List.getElem?_drop] at this
 simpa using this
def a62 : ByteArray:=⟨#[97,98,99,100,101,102,103,104,105,106,107,108,109,110,111,112,113,114,115,116,117,118,119,120,121,122,48,49,50,51,52,53,54,55,56,57,95]⟩
def zV : ByteArray:=⟨#[65,66,67,68,69,70,71,72,73,74,75,76,77,78,79,80,81,82,83,84,85,86,87,88,89,90]⟩
def U7 (c : UInt8) : Bool:=a62.data.toList.contains c
def eP (c : UInt8) : Bool:=zV.data.toList.contains c
def r9 (l : List UInt8) : Bool:=decide (l.length≤24) && (decide (97≤((l.headD 0).toNat : Int)) && decide (((l.headD 0).toNat : Int)≤122)) && l.all U7
def fV (l : List UInt8) : Bool:=decide (l.length=3) && l.all eP
theorem cL {α : Type} (p : α→Bool) : ∀ l : List α,l.dropWhile p=[]↔l.all p=true
 | [] => by simp
 | a :: l => by
   rw [List.dropWhile_cons]
   cases h : p a
   ·simp [h]
   ·simp [h,cL p l]
theorem a4f (l cs : List UInt8) : Lib.trimS l cs=[]↔l.all (cs.contains ·)=true:=by
 unfold Lib.trimS Lib.trimLeftS Lib.trimRightS
 rw [cL]
 constructor
 ·intro h
  by_cases e : l.reverse.dropWhile (cs.contains ·)=[]
  ·rw [cL,List.all_reverse] at e; exact e
  ·exfalso
   have k:=List.head_dropWhile_not (p:=(cs.contains ·)) e
   rw [List.all_reverse,List.all_eq_true] at h
   have:=h _ (List.head_mem e)
   rw [this] at k
   cases k
 ·intro h
  have e : l.reverse.dropWhile (cs.contains ·)=[]:=by rw [cL,List.all_reverse]; exact h
  rw [e]; rfl
theorem qP (l cs : List UInt8) : (Lib.trimS l cs).isEmpty=l.all (cs.contains ·):=by
 rw [Bool.eq_iff_iff,List.isEmpty_iff,a4f]
theorem d6 (s : ByteArray) : s.data.toList.length=s.size:=by cases s; rfl
theorem aD {s : ByteArray} (h : 0<s.size) : s.data.toList.headD 0=s[0]:=by
 have : s.data.toList≠[]:=fun e => by have:=d6 s; rw [e] at this; simp at this; omega
 cases hl : s.data.toList with
 | nil => exact absurd hl this
 | cons a l =>
   have : s[0]=s.data.toList[0]'(by rw [d6]; exact h):=rfl
   rw [this]; simp [hl]
def dig (n : Nat) : UInt8:=UInt8.ofNat (48 + n % 10)
def dH : Nat→Nat→List UInt8→List UInt8
 | 0,_,l => l
 | f + 1,n,l => if n=0 then l else dH f (n / 10) (dig n :: l)
def fQ (n : Nat) : List UInt8:=dH 20 (n / 10) [dig n]
def Y9 : Nat→Nat→List UInt8→List UInt8
 | 0,_,l => l
 | k + 1,n,l => Y9 k (n / 10) (dig n :: l)
def bW (l : List UInt8) : List UInt8:=(l.reverse.dropWhile (· == 48)).reverse
def O7 (x : Nat) : List UInt8:=fQ (x / 1000000) ++ (if bW (Y9 6 x [])=[] then [] else 46 :: bW (Y9 6 x []))
def aI (a : Int) : Int:=if a > 1000000000000000 then 1000000000000000 else if a < -1000000000000000 then -1000000000000000 else a
def aH (a : Int) : List UInt8:=(if aI a<0 then [45] else []) ++ O7 (aI a).natAbs
theorem gS : ∀ (k n : Nat) (l : List UInt8),Y9 k n l=Y9 k n [] ++ l
 | 0,_,_ => rfl
 | k + 1,n,l => by
   rw [Y9,Y9,gS k _ (dig n :: l),gS k _ [dig n],List.append_assoc]; rfl
theorem cQ : ∀ (k n : Nat) (l : List UInt8),(Y9 k n l).length=k + l.length
 | 0,_,_ => by rw [Y9]; omega
 | k + 1,n,l => by rw [Y9,cQ k]; simp; omega
theorem uD : ∀ (f g n : Nat) (l : List UInt8),n<10 ^ f→f≤g→dH g n l=dH f n l
 | 0,g,n,l,h,_ => by
   have : n=0:=by simpa using h
   subst this
   cases g with
   | zero => rfl
   | succ g => show (if (0 : Nat)=0 then l else _)=_; rw [if_pos rfl]; rfl
 | f + 1,0,n,l,_,h => absurd h (by omega)
 | f + 1,g + 1,n,l,h,hg => by
   rw [dH,dH]
   split
   ·rfl
   ·exact uD f g _ _ (by rw [Nat.pow_succ] at h; omega) (by omega)
theorem a2l (n : Nat) (l : List UInt8) (h0 : n≠0) (h : n<10 ^ 20) : dH 20 n l=dH 20 (n / 10) (dig n :: l):=by
 rw [show dH 20 n l=dH (19 + 1) n l from rfl,dH,if_neg h0]
 exact (uD 19 20 _ _ (by omega) (by omega)).symm
theorem a3k (l : List UInt8) : dH 20 0 l=l:=rfl
theorem xN : ∀ (f n : Nat) (l : List UInt8),l≠[]→dH f n l≠[]
 | 0,_,_,h => h
 | f + 1,n,l,h => by
   rw [dH]
   split
   ·exact h
   ·exact xN f _ _ (by simp)
theorem a4o (n : Nat) : fQ n≠[]:=xN _ _ _ (by simp)
theorem vZ (n : Nat) : dig n=48↔n % 10=0:=by
 unfold dig
 have h : n % 10<10:=Nat.mod_lt _ (by decide)
 have : ∀ k : Fin 10,(UInt8.ofNat (48 + k.val)=48↔k.val=0):=by decide
 exact this ⟨n % 10,h⟩
theorem nY (n : Nat) : (dig n).toNat=48 + n % 10:=by
 have h : n % 10<10:=Nat.mod_lt _ (by decide)
 have : ∀ k : Fin 10,(UInt8.ofNat (48 + k.val)).toNat=48 + k.val:=by decide
 exact this ⟨n % 10,h⟩
theorem a25 (l : List UInt8) : bW l=[]↔∀ c∈l,c=48:=by
 unfold bW
 rw [List.reverse_eq_nil_iff]
 have : ∀ l : List UInt8,l.dropWhile (· == 48)=[]↔∀ c∈l,c=48:=by
  intro l
  induction l with
  | nil => simp
  | cons a l ih =>
    rw [List.dropWhile_cons]
    by_cases h : a=48
    ·subst h; simp [ih]
    ·simp [h]
 rw [this]
 simp
theorem yJ : ∀ (k n : Nat),(∀ c∈Y9 k n [],c=48)↔n % 10 ^ k=0
 | 0,n => by simp [Y9,Nat.mod_one]
 | k + 1,n => by
   have e : (10 : Nat) ^ (k + 1)=10 * 10 ^ k:=by rw [Nat.pow_succ,Nat.mul_comm]
   have m:=Nat.mod_mul (x:=n) (a:=10) (b:=10 ^ k)
   rw [Y9,gS,e,m]
   simp only [List.mem_append,List.mem_singleton]
   have i:=yJ k (n / 10)
   constructor
   ·intro h
    have h1:=i.1 fun c hc => h c (.inl hc)
    have h2:=(vZ n).1 (h _ (.inr rfl))
    rw [h1,h2]
   ·intro h c hc
    have h1 : n % 10=0:=by omega
    have h2 : (n / 10) % 10 ^ k=0:=by omega
    rcases hc with hc | rfl
    ·exact i.2 h2 c hc
    ·exact (vZ n).2 h1
theorem a4J (x : Nat) : bW (Y9 6 x [])=[]↔x % 1000000=0:=by
 rw [a25,yJ]
theorem contains_cons (b : UInt8) (l sub : List UInt8) : Lib.contains (b :: l) sub=(sub.isPrefixOf (b :: l) || Lib.contains l sub):=by
 unfold Lib.contains
 rw [Lib.index]
 have:=Lib.index_ge l sub
 split
 ·rename_i h; rw [h]; rfl
 ·rename_i h
  rw [Bool.eq_false_iff.2 h,Bool.false_or]
  split
  ·rename_i g; rw [eq_of_beq g]
  ·rename_i g
   rw [Bool.eq_iff_iff]
   simp only [decide_eq_true_eq]
   have : Lib.index l sub≠-1:=fun e => g (by rw [e]; rfl)
   omega
theorem iV (sub : List UInt8) : ∀ (w m : List UInt8),(∀ c∈w,c≠32)→Lib.contains (w ++ m) (32 :: sub)=Lib.contains m (32 :: sub)
 | [],_,_ => rfl
 | c :: w,m,h => by
   have hc : (32 == c)=false:=by rw [beq_eq_false_iff_ne]; exact fun e => h c (List.mem_cons_self ..) e.symm
   rw [List.cons_append,contains_cons,List.isPrefixOf,hc,Bool.false_and,Bool.false_or]
   exact iV sub w m fun d hd => h d (List.mem_cons_of_mem _ hd)
theorem mS : ∀ (s w m : List UInt8),(∀ c∈s,c≠32)→(∀ c∈w,c≠32)→(s ++ [32]).isPrefixOf (w ++ 32 :: m)=(s == w)
 | [],[],_,_,_ => rfl
 | [],c :: w,m,_,h => by
   have hc : (32 == c)=false:=by rw [beq_eq_false_iff_ne]; exact fun e => h c (List.mem_cons_self ..) e.symm
   rw [List.nil_append,List.cons_append,List.isPrefixOf,hc]; rfl
 | c :: s,[],m,h,_ => by
   have hc : (c == 32)=false:=by rw [beq_eq_false_iff_ne]; exact fun e => h c (List.mem_cons_self ..) e
   rw [List.cons_append,List.nil_append,List.isPrefixOf,hc]; rfl
 | c :: s,d :: w,m,h,g => by
   rw [List.cons_append,List.cons_append,List.isPrefixOf,mS s w m (fun x hx => h x (List.mem_cons_of_mem _ hx)) (fun x hx => g x (List.mem_cons_of_mem _ hx))]
   rfl
def gP : List (List UInt8)→List UInt8
 | [] => [32]
 | w :: r => 32 :: (w ++ gP r)
theorem xX : ∀ L,∃ m,gP L=32 :: m
 | [] => ⟨_,rfl⟩
 | _ :: _ => ⟨_,rfl⟩
theorem dA (s : List UInt8) (hs : ∀ c∈s,c≠32) : ∀ (L : List (List UInt8)),(∀ w∈L,∀ c∈w,c≠32)→Lib.contains (gP L) (32 :: (s ++ [32]))=L.contains s
 | [],_ => by
   show Lib.contains [32] (32 :: (s ++ [32]))=false
   rw [contains_cons]
   cases s with
   | nil => rfl
   | cons c s => rfl
 | w :: r,h => by
   obtain ⟨m,hm⟩:=xX r
   have hw:=h w (List.mem_cons_self ..)
   rw [gP,contains_cons,iV _ _ _ hw,dA s hs r (fun w hw => h w (List.mem_cons_of_mem _ hw)),List.isPrefixOf,hm,mS s w m hs hw,List.contains_cons]
   rfl
def n8 : List (List UInt8):=[[109,111,100,117,108,101],[105,109,112,111,114,116],[108,101,116],[105,102],[116,104,101,110],[101,108,115,101],[97,110,100],[111,114],[110,111,116],[116,114,117,101],[102,97,108,115,101],[102,101,101,100],[112,105,99,107]]
def D9 : List (List UInt8):=[[111,114],[97,110,100],[60],[60,61],[61],[43],[45],[42],[47]]
def F7 (l : List UInt8) : Bool:=n8.contains l
def dE (l : List UInt8) : Bool:=D9.contains l
def o7 (l : List UInt8) : Bool:=r9 l && !F7 l
def gT (l : List UInt8) : Bool:=o7 (Lib.cut l [46]).1 && (!(Lib.cut l [46]).2.2 || o7 (Lib.cut l [46]).2.1)
def uO (l : List UInt8) : Bool:=(Lib.cut l [46]).2.2 && (o7 (Lib.cut l [46]).1 && o7 (Lib.cut l [46]).2.1)
theorem xE (c : UInt8) (h : U7 c=true) : c≠32∧c≠46:=by
 constructor <;> (rintro rfl; exact absurd h (by decide))
theorem jP {l : List UInt8} (h : r9 l=true) : ∀ c∈l,U7 c=true:=by
 unfold r9 at h
 rw [Bool.and_eq_true] at h
 exact List.all_eq_true.1 h.2
theorem rU {l : List UInt8} (h : r9 l=true) : Lib.contains (gP n8) (32 :: (l ++ [32]))=F7 l :=
 dA l (fun c hc => (xE c (jP h c hc)).1) n8 (by decide)
theorem gG (l : List UInt8) (c : UInt8) : Lib.contains l [c]=l.contains c:=by
 induction l with
 | nil => rfl
 | cons b l ih => rw [contains_cons,ih,List.contains_cons,List.isPrefixOf,List.isPrefixOf,Bool.and_true]
theorem rR (l : List UInt8) : (!l.isEmpty && !Lib.contains l [32] && Lib.contains (gP D9) (32 :: (l ++ [32])))=dE l:=by
 by_cases h : ∀ c∈l,c≠32
 ·rw [dA l h D9 (by decide),gG]
  have h1 : l.contains 32=false:=by
   rw [Bool.eq_false_iff]; intro e; exact h 32 (List.contains_iff_mem.1 e) rfl
  rw [h1]
  cases l with
  | nil => rfl
  | cons c l => rfl
 ·have h1 : l.contains 32=true:=by
   rw [List.contains_iff_mem]
   exact Classical.byContradiction fun g => h fun c hc e => g (e ▸ hc)
  rw [gG,h1,Bool.not_true,Bool.and_false,Bool.false_and]
  symm
  rw [Bool.eq_false_iff]
  intro e
  have hm : l∈D9:=List.contains_iff_mem.1 e
  have : ∀ w∈D9,w.contains 32=false:=by decide
  rw [this l hm] at h1
  cases h1
theorem a0Q {l : List UInt8} (h : (Lib.cut l [46]).2.2=false) : (Lib.cut l [46]).1=l:=by
 unfold Lib.cut at h ⊢
 split
 ·rename_i g; rw [if_pos g] at h; cases h
 ·rfl
theorem a2T {l : List UInt8} {c : UInt8} (h : 0≤Lib.index l [c]) : c∈l:=by
 have:=gG l c
 unfold Lib.contains at this
 rw [decide_eq_true h] at this
 exact List.contains_iff_mem.1 this.symm
theorem a3Z (l : List UInt8) : (o7 l || uO l)=gT l:=by
 unfold uO gT
 cases h : (Lib.cut l [46]).2.2
 ·rw [a0Q h]; simp
 ·have hn : o7 l=false:=by
   rw [Bool.eq_false_iff]
   intro e
   unfold o7 at e
   rw [Bool.and_eq_true] at e
   have hm : (46 : UInt8)∈l:=by
    unfold Lib.cut at h
    split at h
    ·rename_i g; exact a2T g
    ·cases h
   exact (xE 46 (jP e.1 46 hm)).2 rfl
  rw [hn]; simp
def a0k : List (Int × Int × Int):=(List.range 200).flatMap fun (y : Nat) => (List.range 12).flatMap fun (m : Nat) => (List.range 31).map fun (d : Nat) => (1900 + (y : Int),1 + (m : Int),1 + (d : Int))
instance (y m d : Int) : Decidable (Cal.ok y m d):=inferInstanceAs (Decidable (_∧_))
def cV (k : Int) : List UInt8:=match a0k.find? (fun t => decide (Cal.ok t.1 t.2.1 t.2.2∧Cal.num t.1 t.2.1 t.2.2=k)) with
 | some t => Cal.text t.1 t.2.1 t.2.2
 | none => []
theorem a0R {y m d : Int} (h : Cal.ok y m d) : (y,m,d)∈a0k:=by
 obtain ⟨h1,h2,h3,h4,h5,h6⟩:=h
 have:=Cal.mlen_bd y m
 refine List.mem_flatMap.2 ⟨(y - 1900).toNat,List.mem_range.2 (by omega),List.mem_flatMap.2 ⟨(m - 1).toNat,List.mem_range.2 (by omega),List.mem_map.2 ⟨(d - 1).toNat,List.mem_range.2 (by omega),?_⟩⟩⟩
 simp only [Prod.mk.injEq]
 omega
theorem a4m {y m d : Int} (h : Cal.ok y m d) : cV (Cal.num y m d)=Cal.text y m d:=by
 unfold cV
 cases hf : a0k.find? (fun t => decide (Cal.ok t.1 t.2.1 t.2.2∧Cal.num t.1 t.2.1 t.2.2=Cal.num y m d)) with
 | none =>
   have:=List.find?_eq_none.1 hf (y,m,d) (a0R h)
   exact absurd (decide_eq_true ⟨h,rfl⟩) this
 | some t =>
   have:=List.find?_some hf
   simp only [decide_eq_true_eq] at this
   obtain ⟨e1,e2,e3⟩:=Cal.num_inj this.1 h this.2
   show Cal.text t.1 t.2.1 t.2.2=_
   rw [e1,e2,e3]
def y8 (kind : Int) (l : List UInt8) : Bool :=
 if kind=7 then fV l else if kind=9∨kind=15 then r9 l else if kind=10∨kind=11 then gT l
 else if kind=12 then l == [45] || l == [110,111,116] else if kind=13 then dE l else l.isEmpty
def bD (kind n : Int) : Bool :=
 if kind=5 then decide (0≤n) && decide (n≤1000000000000000) else if kind=6 then decide (0≤n) && decide (n≤73048)
 else if kind=8 then decide (n=0) || decide (n=1) else decide (n=0)
def z7 (kind : Int) (k : Nat) : Bool :=
 if 5≤kind∧kind≤10 then decide (k=0) else if kind=11 then decide (1≤k) && decide (k≤8)
 else if kind=12 then decide (k=1) else if kind=13 then decide (k=2) else if kind=14∨kind=15 then decide (k=3) else false
mutual
def d7 : Nd→Int→Bool
 | .mk kind s n ks _,d => decide (d≤100) && z7 kind ks.length && y8 kind s.data.toList && bD kind n && m9 ks (d + 1)
def m9 : List Nd→Int→Bool
 | [],_ => true
 | k :: ks,d => d7 k d && m9 ks d
end
def I9 (kind : Int) : Bool:=decide (kind=12) || decide (kind=13) || decide (kind=14)
def Y2 (kind : Int) (f : List UInt8) : List UInt8:=if I9 kind=true then [40] ++ f ++ [41] else f
def Y4 : List (List UInt8)→List UInt8
 | [] => []
 | f :: r => [44,32] ++ f ++ Y4 r
def bF : List (List UInt8)→List UInt8
 | [] => [40,41]
 | f :: r => [40] ++ f ++ Y4 r ++ [41]
def vK (kind n : Int) (s : List UInt8) (l : List (Int × List UInt8)) : List UInt8 :=
 if kind=5 then aH n
 else if kind=6 then cV n
 else if kind=8 then (if n=1 then [116,114,117,101] else [102,97,108,115,101])
 else if kind=9 then [102,101,101,100,32,34] ++ s ++ [34]
 else if kind=11 then s ++ bF (l.map (·.2))
 else if kind=15 then [112,105,99,107,32,34] ++ s ++ [34] ++ bF (l.map (·.2))
 else match l with
  | [a] => (if kind=12 then (if s=[45] then [45] else [110,111,116,32]) ++ Y2 a.1 a.2 else s)
  | [a,b] => (if kind=13 then Y2 a.1 a.2 ++ [32] ++ s ++ [32] ++ Y2 b.1 b.2 else s)
  | [a,b,c] => (if kind=14 then [105,102,32] ++ a.2 ++ [32,116,104,101,110,32] ++ b.2 ++ [32,101,108,115,101,32] ++ c.2 else s)
  | _ => s
mutual
def e7 : Nd→List UInt8
 | .mk kind s n ks _ => vK kind n s.data.toList (r4 ks)
def r4 : List Nd→List (Int × List UInt8)
 | [] => []
 | k :: ks => (k.kind,e7 k) :: r4 ks
end
theorem jR : ∀ ks : List Nd,r4 ks=ks.map fun k => (k.kind,e7 k)
 | [] => rfl
 | k :: ks => by rw [r4,jR ks]; rfl
theorem eQ : ∀ (ks : List Nd) (d : Int),m9 ks d=ks.all fun k => d7 k d
 | [],_ => rfl
 | k :: ks,d => by rw [m9,eQ ks d]; rfl
def U5 (t : Nd) : Bool:=s8 t && d7 t 1
inductive Fm where
 | leaf (s : ByteArray)
 | called (head : ByteArray) (kids : List Fm)
 | unary (sign kid : Fm)
 | binary (a sign b : Fm)
 | choice (a b c : Fm)
def Fm.wrap : Fm→Bool
 | .leaf _ => false
 | .called _ _ => false
 | _ => true
def bK (b : Bool) (l : List UInt8) : List UInt8:=if b=true then [40] ++ l ++ [41] else l
mutual
def Fm.text : Fm→List UInt8
 | .leaf s => s.data.toList
 | .called h ks => h.data.toList ++ Fm.texts true ks ++ [41]
 | .unary s k => s.text ++ bK k.wrap k.text
 | .binary a s b => bK a.wrap a.text ++ [32] ++ s.text ++ [32] ++ bK b.wrap b.text
 | .choice a b c => [105,102,32] ++ a.text ++ [32,116,104,101,110,32] ++ b.text ++ [32,101,108,115,101,32] ++ c.text
def Fm.texts : Bool→List Fm→List UInt8
 | _,[] => []
 | first,k :: ks => (if first=true then [40] else [44,32]) ++ k.text ++ Fm.texts false ks
end
theorem nF : ∀ fs : List Fm,Fm.texts false fs=Y4 (fs.map Fm.text)
 | [] => by rw [Fm.texts]; rfl
 | k :: ks => by rw [Fm.texts,nF ks]; rfl
theorem oB (fs : List Fm) (h : fs≠[]) : Fm.texts true fs ++ [41]=bF (fs.map Fm.text):=by
 cases fs with
 | nil => exact absurd rfl h
 | cons k ks => rw [Fm.texts,nF ks,if_pos rfl]; rfl
theorem a1l (fs : List Fm) (k : Nat) (hk : k<fs.length) : Fm.texts (decide (k=0)) (fs.drop k)=(if k=0 then [40] else [44,32]) ++ fs[k].text ++ Fm.texts (decide (k + 1=0)) (fs.drop (k + 1)):=by
 rw [List.drop_eq_getElem_cons hk,Fm.texts]
 by_cases h : k=0
 ·subst h; rfl
 ·rw [decide_eq_false h,if_neg (by decide),if_neg h]; rfl
theorem a0h {h : ByteArray} {ks : List Fm} {N k : Nat} (hk : k<ks.length) (g : SizeOf.sizeOf (Fm.called h ks)<N + 1) : SizeOf.sizeOf ks[k]<N:=by
 have:=List.sizeOf_lt_of_mem (List.getElem_mem hk)
 simp only [Fm.called.sizeOf_spec] at g
 omega
theorem pX {l : List UInt8} (h : r9 l=true) : l.length≤24:=by
 unfold r9 at h
 simp only [Bool.and_eq_true,decide_eq_true_eq] at h
 exact h.1.1
theorem V4 {l : List UInt8} (h : o7 l=true) : l.length≤24:=by
 unfold o7 at h
 rw [Bool.and_eq_true] at h
 exact pX h.1
theorem a5E {l : List UInt8} (h : gT l=true) : l.length≤49:=by
 unfold gT at h
 rw [Bool.and_eq_true] at h
 have h1:=V4 h.1
 cases hc : (Lib.cut l [46]).2.2 with
 | false => rw [a0Q hc] at h1; omega
 | true =>
   rw [hc] at h
   have h2:=V4 (by simpa using h.2)
   unfold Lib.cut at h1 h2 hc
   split at hc
   ·rename_i g
    rw [if_pos g] at h1 h2
    simp only [List.length_take,List.length_drop,List.length_cons,List.length_nil] at h1 h2
    omega
   ·cases hc
theorem a5s {l : List UInt8} (h : dE l=true) : 1≤l.length∧l.length≤3:=by
 have : ∀ w∈D9,1≤w.length∧w.length≤3:=by decide
 exact this l (List.contains_iff_mem.1 h)
theorem zB : ∀ (f n : Nat) (l : List UInt8),(dH f n l).length≤f + l.length
 | 0,_,_ => by rw [dH]; omega
 | f + 1,n,l => by
   rw [dH]
   split
   ·omega
   ·have:=zB f (n / 10) (dig n :: l)
    simp only [List.length_cons] at this
    omega
theorem a4C (n : Nat) : (fQ n).length≤21:=by
 have:=zB 20 (n / 10) [dig n]
 simpa [fQ] using this
theorem sS (l : List UInt8) : (bW l).length≤l.length:=by
 unfold bW
 have:=(List.dropWhile_sublist (l:=l.reverse) (· == 48)).length_le
 simpa using this
theorem a17 (n : Int) : (aH n).length≤29:=by
 unfold aH O7
 have h1:=a4C ((aI n).natAbs / 1000000)
 have h2:=sS (Y9 6 (aI n).natAbs [])
 rw [cQ] at h2
 simp only [List.length_append]
 simp only [List.length_nil] at h2
 split <;> split <;> simp <;> omega
theorem a19 (n : Int) : (cV n).length≤10:=by
 unfold cV
 split
 ·exact Nat.le_refl _
 ·exact Nat.zero_le _
theorem mK (k : Int) (f : List UInt8) : (Y2 k f).length≤f.length + 2:=by
 unfold Y2
 split <;> simp
theorem qJ : ∀ (fs : List (List UInt8)),(Y4 fs).length=(fs.map fun f => f.length + 2).sum
 | [] => rfl
 | f :: r => by
   rw [Y4,List.map_cons,List.sum_cons,← qJ r]
   simp; omega
theorem tQ (fs : List (List UInt8)) : (bF fs).length≤(fs.map fun f => f.length + 2).sum + 2:=by
 cases fs with
 | nil => exact Nat.le_refl _
 | cons f r =>
   rw [bF,List.map_cons,List.sum_cons,← qJ r]
   simp; omega
theorem zO {k : Int} {l : List UInt8} (h : y8 k l=true) : l.length≤49:=by
 unfold y8 at h
 split at h
 ·unfold fV at h; simp only [Bool.and_eq_true,decide_eq_true_eq] at h; omega
 split at h
 ·have:=pX h; omega
 split at h
 ·exact a5E h
 split at h
 ·rw [Bool.or_eq_true] at h
  rcases h with h | h <;> (rw [eq_of_beq h]; decide)
 split at h
 ·have:=a5s h; omega
 ·rw [List.isEmpty_iff] at h; rw [h]; decide
theorem a07 (kind n : Int) (s : List UInt8) (l : List (Int × List UInt8)) (h : s.length≤49) : (vK kind n s l).length≤100 + (l.map fun x => x.2.length + 2).sum:=by
 have e : (l.map (·.2)).map (fun f => f.length + 2)=l.map fun x => x.2.length + 2:=by rw [List.map_map]; rfl
 have hl:=tQ (l.map (·.2))
 rw [e] at hl
 unfold vK
 split
 ·have:=a17 n; omega
 split
 ·have:=a19 n; omega
 split
 ·split <;> simp <;> omega
 split
 ·simp; omega
 split
 ·simp only [List.length_append]; omega
 split
 ·simp only [List.length_append,List.length_cons,List.length_nil]; omega
 split
 ·rename_i a
  split
  ·have:=mK a.1 a.2
   simp only [List.length_append,List.map_cons,List.map_nil,List.sum_cons,List.sum_nil]
   split <;> simp <;> omega
  ·omega
 ·rename_i a b
  split
  ·have h1:=mK a.1 a.2
   have h2:=mK b.1 b.2
   simp only [List.length_append,List.map_cons,List.map_nil,List.sum_cons,List.sum_nil,List.length_cons,List.length_nil]
   omega
  ·omega
 ·split
  ·simp only [List.length_append,List.map_cons,List.map_nil,List.sum_cons,List.sum_nil,List.length_cons,List.length_nil]
   omega
  ·omega
 ·omega
mutual
theorem mC : ∀ (t : Nd) (d : Int),d7 t d=true→(e7 t).length + 2≤128 * aV t
 | .mk kind s n ks p,d,h => by
   rw [d7] at h
   simp only [Bool.and_eq_true] at h
   have h1:=a07 kind n s.data.toList (r4 ks) (zO h.1.1.2)
   have h2:=qC ks (d + 1) h.2
   rw [e7,aV]
   omega
theorem qC : ∀ (ks : List Nd) (d : Int),m9 ks d=true→((r4 ks).map fun x => x.2.length + 2).sum≤128 * O4 ks
 | [],_,_ => by rw [r4]; exact Nat.zero_le _
 | k :: ks,d,h => by
   rw [m9,Bool.and_eq_true] at h
   have h1:=mC k d h.1
   have h2:=qC ks d h.2
   rw [r4,O4,List.map_cons,List.sum_cons]
   simp only
   omega
end
theorem bQ {p : UInt8→Bool} (h : ∀ n : Fin 256,p (UInt8.ofNat n.val)=true) (c : UInt8) : p c=true:=by
 have:=h ⟨c.toNat,c.toNat_lt⟩
 simpa using this
def iZ (c : UInt8) : Bool:=U7 c || c == 46 || eP c || c == 45
def dgC (c : UInt8) : Bool:=decide (48≤c.toNat) && decide (c.toNat≤57)
theorem vH (c : UInt8) (h : dgC c=true) : iZ c=true:=by
 have:=bQ (p:=fun c => !dgC c || iZ c) (by decide +kernel) c
 rw [h] at this; simpa using this
theorem yR {s s' : ByteArray} (h : s.data.toList=s'.data.toList) : s=s':=by
 cases s; cases s'
 simp only [Array.toList_inj] at h
 rw [h]
theorem zJ (n : Nat) : dgC (dig n)=true:=by
 unfold dgC
 rw [nY]
 have : n % 10<10:=Nat.mod_lt _ (by decide)
 simp; omega
def vR : List UInt8→Nat
 | [] => 0
 | c :: l => (c.toNat - 48) * 10 ^ l.length + vR l
theorem a4B : ∀ (f n : Nat) (l : List UInt8),n<10 ^ f→vR (dH f n l)=n * 10 ^ l.length + vR l
 | 0,n,l,h => by
   have : n=0:=by simpa using h
   subst this
   rw [dH]; simp
 | f + 1,n,l,h => by
   rw [dH]
   by_cases h0 : n=0
   ·subst h0; rw [if_pos rfl]; simp
   ·rw [if_neg h0,a4B f _ _ (by rw [Nat.pow_succ] at h; omega),List.length_cons,vR,nY,Nat.pow_succ]
    have e : n * 10 ^ l.length=n / 10 * (10 ^ l.length * 10) + n % 10 * 10 ^ l.length:=by
     conv => lhs; rw [← Nat.div_add_mod n 10,Nat.add_mul]
     rw [Nat.mul_comm 10,Nat.mul_assoc,Nat.mul_comm 10]
    rw [e,Nat.add_sub_cancel_left,Nat.add_assoc]
theorem a1S : ∀ (f n : Nat) (l : List UInt8),(∀ c∈l,dgC c=true)→∀ c∈dH f n l,dgC c=true
 | 0,_,_,h => h
 | f + 1,n,l,h => by
   rw [dH]
   split
   ·exact h
   ·refine a1S f _ _ fun c hc => ?_
    rcases List.mem_cons.1 hc with rfl | hc
    ·exact zJ n
    ·exact h c hc
theorem nQ (n : Nat) : ∀ c∈fQ n,dgC c=true:=a1S 20 _ _ fun c hc => by rw [List.mem_singleton.1 hc]; exact zJ n
theorem nW : ∀ (k n : Nat),∀ c∈Y9 k n [],dgC c=true
 | 0,_,c,h => by cases h
 | k + 1,n,c,h => by
   rw [Y9,gS] at h
   rcases List.mem_append.1 h with h | h
   ·exact nW k _ c h
   ·rw [List.mem_singleton.1 h]; exact zJ n
theorem tH (l : List UInt8) : ∃ k,l=bW l ++ List.replicate k 48:=by
 have h1:=List.takeWhile_append_dropWhile (p:=(· == 48)) (l:=l.reverse)
 have e:=congrArg List.reverse h1
 rw [List.reverse_append,List.reverse_reverse] at e
 have h2 : l.reverse.takeWhile (· == 48)=List.replicate (l.reverse.takeWhile (· == 48)).length 48 :=
  List.eq_replicate_iff.2 ⟨rfl,fun b hb => eq_of_beq (List.all_eq_true.1 (List.all_takeWhile (l:=l.reverse) (p:=(· == 48))) b hb)⟩
 refine ⟨(l.reverse.takeWhile (· == 48)).length,?_⟩
 rw [h2,List.reverse_replicate] at e
 exact e.symm
theorem sR (l : List UInt8) : ∀ c∈bW l,c∈l:=fun c hc => by
 obtain ⟨k,hk⟩:=tH l
 rw [hk]; exact List.mem_append_left _ hc
def gZ (x : Nat) : List UInt8:=if bW (Y9 6 x [])=[] then [] else 46 :: bW (Y9 6 x [])
theorem qS (x : Nat) : ∀ c l,gZ x=c :: l→dgC c=false:=by
 intro c l h
 unfold gZ at h
 split at h
 ·cases h
 ·rw [← (List.cons.inj h).1]; rfl
theorem tP {n : Int} (h : 0≤n) (h' : n≤1000000000000000) : aH n=O7 n.natAbs:=by
 unfold aH
 have e : aI n=n:=by unfold aI; rw [if_neg (by omega),if_neg (by omega)]
 rw [e,if_neg (by omega)]; rfl
theorem a2W {n : Int} (h : 0≤n) (h' : n≤1000000000000000) : dgC ((aH n).headD 0)=true∧aH n≠[]∧(∀ c∈aH n,iZ c=true)∧(45 : UInt8) ∉ aH n:=by
 rw [tP h h']
 have hd:=nQ (n.natAbs / 1000000)
 have hne:=a4o (n.natAbs / 1000000)
 have hc : ∀ c∈O7 n.natAbs,dgC c=true∨c=46:=fun c hc => by
  rcases List.mem_append.1 hc with hc | hc
  ·exact .inl (hd c hc)
  ·split at hc
   ·cases hc
   ·rcases List.mem_cons.1 hc with rfl | hc
    ·exact .inr rfl
    ·exact .inl (nW 6 _ c (sR _ c hc))
 refine ⟨?_,?_,?_,?_⟩
 ·unfold O7
  cases hl : fQ (n.natAbs / 1000000) with
  | nil => exact absurd hl hne
  | cons c l => exact hd c (by rw [hl]; exact List.mem_cons_self ..)
 ·unfold O7
  intro e
  exact hne (List.append_eq_nil_iff.1 e).1
 ·intro c h
  rcases hc c h with h | rfl
  ·exact vH c h
  ·rfl
 ·intro h
  rcases hc _ h with h | h
  ·cases h
  ·cases h
theorem pH {n : Int} (h : 0≤n) (h' : n≤73048) : ∃ y m d,Cal.ok y m d∧Cal.num y m d=n∧cV n=Cal.text y m d:=by
 obtain ⟨y,m,d,ho,rfl⟩:=Cal.date_of n h h'
 exact ⟨y,m,d,ho,rfl,a4m ho⟩
theorem qW (c : UInt8) (h : Cal.isDig c=true) : dgC c=true:=by
 have:=bQ (p:=fun c => !Cal.isDig c || dgC c) (by decide +kernel) c
 rw [h] at this; simpa using this
theorem a3j {n : Int} (h : 0≤n) (h' : n≤73048) : dgC ((cV n).headD 0)=true∧cV n≠[]∧(∀ c∈cV n,iZ c=true)∧(45 : UInt8)∈cV n:=by
 obtain ⟨y,m,d,ho,rfl,et⟩:=pH h h'
 rw [et]
 have hf:=Cal.text_form ho
 refine ⟨?_,?_,?_,?_⟩
 ·have h0:=hf 0 (by rw [Cal.text_len]; decide)
  rw [Cal.fits_dig (by decide) (by decide)] at h0
  exact qW _ h0
 ·intro e; cases e
 ·intro c hc
  obtain ⟨i,hi,rfl⟩:=List.getElem_of_mem hc
  have h0:=hf i hi
  by_cases hj : i=4∨i=7
  ·rw [Cal.fits_dash hj] at h0
   have : (Cal.text y m d)[i]=45:=UInt8.toNat_inj.1 (by have:=of_decide_eq_true h0; exact Int.ofNat.inj this)
   rw [this]; rfl
  ·rw [Cal.fits_dig (by omega) (by omega)] at h0
   exact vH _ (qW _ h0)
 ·unfold Cal.text; simp
theorem iK {l : List UInt8} (h : o7 l=true) : r9 l=true:=by
 unfold o7 at h
 rw [Bool.and_eq_true] at h
 exact h.1
theorem a1I {l : List UInt8} (h : (Lib.cut l [46]).2.2=true) : l=(Lib.cut l [46]).1 ++ 46 :: (Lib.cut l [46]).2.1:=by
 unfold Lib.cut at h ⊢
 split at h
 ·rename_i g
  rw [if_pos g]
  rcases Lib.index_spec l [46] with ⟨h1,_⟩ | ⟨i,h1,h2,h3,_⟩
  ·omega
  ·rw [h1]
   show l=l.take i ++ 46 :: l.drop (i + 1)
   unfold Lib.occAt at h3
   cases hd : l.drop i with
   | nil => rw [hd] at h3; cases h3
   | cons c r =>
     rw [hd,List.isPrefixOf,Bool.and_eq_true] at h3
     have : c=46:=(eq_of_beq h3.1).symm
     subst this
     have e:=List.take_append_drop i l
     rw [hd] at e
     have : l.drop (i + 1)=r:=by rw [← List.drop_drop,hd]; rfl
     rw [this]
     exact e.symm
 ·cases h
end Go.Proofs.YtibiccacafjjfaaGreatDoor
