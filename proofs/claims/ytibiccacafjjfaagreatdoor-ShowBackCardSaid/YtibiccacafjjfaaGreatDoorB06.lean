/-
  Laws that the proof rests on.
-/
import Derived.Test.YtibiccacafjjfaaGreatDoorB05
import Derived.Test.YtibiccacafjjfaaGreatDoorB02
import Derived.Test.YtibiccacafjjfaaGreatDoorB03
import Derived.Test.YtibiccacafjjfaaGreatDoorB01
namespace Go.Proofs.YtibiccacafjjfaaGreatDoor
set_option maxRecDepth 100000
set_option maxHeartbeats 16000000
section
open Lib (hid)
open Go.RowKit
theorem jF {p : UInt8→Bool} (h : ∀ n : Fin 256,p (UInt8.ofNat n.val)=true) (c : UInt8) : p c=true:=by
 have:=h ⟨c.toNat,c.toNat_lt⟩
 simpa using this
theorem wQ (c : UInt8) : U7 c=inC c:=by
 have:=jF (p:=fun c => U7 c == inC c) (by decide +kernel) c
 simpa using this
theorem wG (c : UInt8) : eP c=(decide (65≤(c.toNat : Int)) && decide ((c.toNat : Int)≤90)):=by
 have:=jF (p:=fun c => eP c == (decide (65≤(c.toNat : Int)) && decide ((c.toNat : Int)≤90))) (by decide +kernel) c
 simpa using this
theorem eW {α : Type} (p : α→Bool) : ∀ l : List α,(l.takeWhile p).length=l.length↔l.all p=true
 | [] => by simp
 | a :: l => by
   rw [List.takeWhile_cons]
   cases h : p a
   ·simp [h]
   ·simp [h,eW p l]
theorem eZ (l : List UInt8) : dW l=r9 l:=by
 unfold dW r9
 cases l with
 | nil => rfl
 | cons c l =>
   have ha : (c :: l).all U7=(inC c && l.all inC):=by
    rw [List.all_cons,wQ]; congr 1
    exact List.all_congr rfl fun a => wQ a
   rw [ha,Bool.eq_iff_iff]
   have hsm : smC c=true→inC c=true:=fun h => by
    unfold inC inI; rw [show smI (c.toNat : Int)=true from h]; rfl
   have hsm' : smC c=true↔97≤(c.toNat : Int)∧(c.toNat : Int)≤122:=by unfold smC smI; simp
   have hsp : m6 (c :: l)=if smC c then 1 + (l.takeWhile inC).length else 0:=rfl
   have htw:=eW inC l
   simp only [Bool.and_eq_true,decide_eq_true_eq,List.length_cons,List.headD_cons]
   rw [hsp]
   by_cases hc : smC c=true
   ·rw [if_pos hc]
    have:=hsm hc
    have h2:=hsm'.1 hc
    constructor
    ·rintro ⟨⟨-,h24⟩,hs⟩
     exact ⟨⟨h24,decide_eq_true h2.1,decide_eq_true h2.2⟩,this,htw.1 (by omega)⟩
    ·rintro ⟨⟨h24,-⟩,-,hi⟩
     have:=htw.2 hi
     exact ⟨⟨by omega,h24⟩,by omega⟩
   ·rw [if_neg hc]
    constructor
    ·rintro ⟨-,hs⟩; omega
    ·rintro ⟨⟨-,h2⟩,-⟩; exact absurd (hsm'.2 ⟨of_decide_eq_true h2.1,of_decide_eq_true h2.2⟩) hc
theorem a5P {s : ByteArray} (h : s.size=3) : fV s.data.toList=(((decide (65≤(s[0].toNat : Int)) && decide ((s[0].toNat : Int)≤90)) && (decide (65≤(s[1].toNat : Int)) && decide ((s[1].toNat : Int)≤90))) && (decide (65≤(s[2].toNat : Int)) && decide ((s[2].toNat : Int)≤90))):=by
 unfold fV
 have hl : s.data.toList.length=3:=by simpa using h
 rw [decide_eq_true hl]
 have e : s.data.toList=[s[0],s[1],s[2]]:=by
  have:=x9 (s:=s) (k:=0) (by omega)
  rw [List.drop_zero,x9 (s:=s) (k:=1) (by omega),x9 (s:=s) (k:=2) (by omega),aK (s:=s) (k:=3) (by omega)] at this
  exact this
 rw [e]
 simp only [List.all_cons,List.all_nil,wG,Bool.and_true,Bool.true_and,Bool.and_assoc]
 rfl
theorem a0U (s : ByteArray) (w : World) (hs : s.size≤maxLen) :
 Calls Tryz.prog 73 #[.string s] w fun e w' => e=.returned (.bool (fV s.data.toList))∧w=w':=by
 have hm:=hs
 unfold maxLen at hm
 by_cases h3 : s.size=3
 ·have e:=hid (a5P h3)
  go_enter Tryz.func73,Tryz.ntmps73
  go_wp2
  go_loop [3] (fun i => ∃ k : Nat,k≤3∧i=.int .i64 k∧Hid (∀ j (h : j<s.size),j<k→65≤(s[j].toNat : Int)∧(s[j].toNat : Int)≤90)) (fun i => 3 - (intOf i).toNat)
  case atStart => exact ⟨0,by omega,rfl,fun j h hj => by omega⟩
  case round =>
   obtain ⟨k,hk,rfl,HK⟩:=hrel
   by_cases hlt : k<3
   ·have hks : k<s.size:=by omega
    have hF : Hid (¬ (65≤(s[k].toNat : Int)∧(s[k].toNat : Int)≤90)→fV s.data.toList=false):=by
     intro hb
     rw [e.out]
     have hk3 : k=0∨k=1∨k=2:=by omega
     rw [Bool.eq_false_iff]
     intro hh
     simp only [Bool.and_eq_true,decide_eq_true_eq] at hh
     rcases hk3 with rfl | rfl | rfl
     ·exact hb hh.1.1
     ·exact hb hh.1.2
     ·exact hb hh.2
    go_wp2
    all_goals first
     | (go_round
        case rel =>
         refine ⟨k + 1,by omega,by go_num,fun j h hj => ?_⟩
         by_cases ej : j=k
         ·subst ej; exact ⟨by omega,by omega⟩
         ·exact HK.out j h (by omega)
        case measure => simp [intOf]; omega)
     | (go_ret
        exact ⟨R8 (hF.out (by omega)).symm,rfl⟩)
   ·have E:=hid (show fV s.data.toList=true by
     rw [e.out]
     simp only [Bool.and_eq_true,decide_eq_true_eq]
     exact ⟨⟨HK.out 0 (by omega) (by omega),HK.out 1 (by omega) (by omega)⟩,HK.out 2 (by omega) (by omega)⟩)
    go_wp2
    go_ret
    exact ⟨R8 E.out.symm,rfl⟩
 ·have e:=hid (show fV s.data.toList=false by unfold fV; rw [decide_eq_false (by simpa using h3)]; rfl)
  go_enter Tryz.func73,Tryz.ntmps73
  go_wp2
  go_ret
  exact ⟨R8 e.out.symm,rfl⟩
end
section
open Go.RowKit
def a6Z : Value→Nat
 | .string s => s.size
 | _ => 0
theorem a4H (a : Int) : aH a=(if aI a<0 then [45] else []) ++ O7 (aI a).natAbs:=rfl
theorem yT (a : Int) : -1000000000000000≤aI a∧aI a≤1000000000000000:=by unfold aI; (repeat' split) <;> omega
theorem jO {s : ByteArray} {l : List UInt8} (h : l=s.data.toList) : (⟨l.toArray⟩ : ByteArray)=s:=by
 subst h; cases s; simp
end
structure Tk where
 kind : Int
 text : List UInt8
 n : Int
 pos : Int
def Y3 (l : List UInt8) : Nat:=(l.takeWhile dgC).length
def grC (c : UInt8) : Bool:=decide (65≤(c.toNat : Int)) && decide ((c.toNat : Int)≤90)
def bB (l : List UInt8) (pos : Int) : Except Int (Tk × Nat) :=
 let n:=m6 l
 if (l.drop n).headD 0=46 then
  let m:=m6 (l.drop (n + 1))
  if 24<n∨m<1∨24<m∨F7 (l.take n)=true∨F7 ((l.drop (n + 1)).take m)=true then .error 73
  else .ok (⟨3,l.take n ++ 46 :: (l.drop (n + 1)).take m,0,pos⟩,n + 1 + m)
 else if 24<n then .error 73 else .ok (⟨if F7 (l.take n)=true then 2 else 1,l.take n,0,pos⟩,n)
def rS (l : List UInt8) : Option Int :=
 if l.length=10∧(∀ j (hj : j<l.length),Cal.fits j l[j]=true)∧Cal.ok (Cal.val (Cal.seg l 0 4)) (Cal.val (Cal.seg l 5 7)) (Cal.val (Cal.seg l 8 10))
 then some (Cal.num (Cal.val (Cal.seg l 0 4)) (Cal.val (Cal.seg l 5 7)) (Cal.val (Cal.seg l 8 10))) else none
def aJ (r : List UInt8) : Bool:=match r with
 | [] => true
 | c :: p => c == 46 && (decide (1≤p.length) && decide (p.length≤6) && p.all dgC)
def V8 (l : List UInt8) : Option Int :=
 let w:=l.takeWhile dgC
 let r:=l.drop w.length
 if 1≤w.length∧w.length≤10∧(w.length=1∨l.headD 0≠48)∧aJ r=true then some (Cal.val (w ++ r.tail ++ List.replicate (6 - r.tail.length) 48)) else none
def gL (l : List UInt8) : Option Int :=
 if l.headD 0=45 then (match V8 l.tail with | some n => if 1000000000000000<n∨n=0 then none else some (-n) | none => none)
 else match V8 l with | some n => if 1000000000000000<n then none else some n | none => none
def p6 (l : List UInt8) : Bool:=decide (10≤l.length) && (decide (∀ j (hj : j<(l.take 10).length),Cal.fits j (l.take 10)[j]=true) && !dgC ((l.drop 10).headD 0))
def U8 (c : UInt8) : Bool:=!(smC c || grC c || c == 95 || c == 46)
def cT (l : List UInt8) : Nat:=if (l.drop (Y3 l)).headD 0=46∧dgC ((l.drop (Y3 l + 1)).headD 0)=true then Y3 l + 1 + Y3 (l.drop (Y3 l + 1)) else Y3 l
def aX (l : List UInt8) (pos : Int) : Except Int (Tk × Nat) :=
 if p6 l=true then
  match rS (l.take 10) with
  | none => .error 72
  | some v => if U8 ((l.drop 10).headD 0)=true then .ok (⟨5,[],v,pos⟩,10) else .error 72
 else
  match gL (l.take (cT l)) with
  | none => .error 72
  | some v => if U8 ((l.drop (cT l)).headD 0)=true then .ok (⟨6,[],v,pos⟩,cT l) else .error 72
def kY (c : UInt8) : Bool:=c != 34 && c != 10
def dC (l : List UInt8) : Nat:=(l.takeWhile kY).length
def aA (r : List UInt8) (pos : Int) : Except Int (Tk × Nat) :=
 if (r.drop (dC r)).headD 0≠34 then .error 71
 else if r9 (r.take (dC r))=true then .ok (⟨7,r.take (dC r),0,pos⟩,dC r + 2) else .error 73
def vL (l : List UInt8) : Nat:=(l.takeWhile grC).length
def a3s (l : List UInt8) (pos : Int) : Except Int (Tk × Nat):=if vL l=3 then .ok (⟨4,l.take 3,0,pos⟩,3) else .error 73
def bO : List UInt8:=[40,41,44,59,61,60,43,45,42,47]
def kZ (c : UInt8) (r : List UInt8) (pos : Int) : Except Int (Tk × Nat) :=
 if c=60∧r.headD 0=61 then .ok (⟨8,[60,61],0,pos⟩,2)
 else if bO.contains c=true then .ok (⟨8,[c],0,pos⟩,1) else .error 71
def aY (c : UInt8) (r : List UInt8) (pos : Int) : Except Int (Tk × Nat) :=
 if smC c=true then bB (c :: r) pos
 else if dgC c=true then aX (c :: r) pos
 else if c=34 then aA r pos
 else if grC c=true then a3s (c :: r) pos
 else kZ c r pos
def gJ (l : List UInt8) : Nat:=(l.takeWhile (· != 10)).length
def s6 : List UInt8→Int→Nat→Nat→Except (Int × Int) (List Tk)
 | [],pos,_,_ => .ok [⟨0,[],0,pos⟩]
 | _ :: r,pos,k,s + 1 => s6 r (pos + 1) k s
 | c :: r,pos,k,0 =>
   if c.toNat≤32 then s6 r (pos + 1) k 0
   else if c=35 then s6 r (pos + 1) k (gJ r)
   else match aY c r pos with
    | .error e => .error (e,pos)
    | .ok (t,n) => if k=8192 then .error (76,pos) else match s6 r (pos + 1) (k + 1) (n - 1) with
      | .error e => .error e
      | .ok ts => .ok (t :: ts)
def r6 (l : List UInt8) : Except (Int × Int) (List Tk):=if 16384<l.length then .error (70,0) else s6 l 0 0 0
def hd (l : List Tk) : Tk:=l.headD ⟨0,[],0,0⟩
def isT (w : List UInt8) (l : List Tk) : Bool:=((hd l).kind == 2 || (hd l).kind == 8) && (hd l).text == w
def b9 (l : List Tk) : List Tk:=if (hd l).kind=0 then l else l.tail
abbrev Rd:=Except (Int × Int) (Nd × List Tk)
mutual
def c8 : Nd→Nat
 | .mk _ _ _ ks _ => i8 ks + 1
def i8 : List Nd→Nat
 | [] => 0
 | k :: ks => max (c8 k) (i8 ks)
end
def mkN (kind : Int) (s : List UInt8) (n : Int) (ks : List Nd) (p : Int) : Nd:=.mk kind ⟨s.toArray⟩ n ks p
def made (t : Nd) (r : List Tk) : Rd:=if 100<c8 t then .error (75,t.place) else .ok (t,r)
def Rd.then (x : Rd) (f : Nd→List Tk→Rd) : Rd:=match x with
 | .error e => .error e
 | .ok (t,r) => f t r
def d9 (w : List UInt8) (l : List Tk) (f : List Tk→Rd) : Rd:=if isT w l=true then f (b9 l) else .error (74,(hd l).pos)
def F0 (k : Int) (l : List Tk) (f : Tk→List Tk→Rd) : Rd:=if (hd l).kind=k then f (hd l) (b9 l) else .error (74,(hd l).pos)
inductive Md where
 | expr | chain (lv : Nat) | loop (lv : Nat) (t : Nd) | not | unary | atom | args (acc : List Nd)
def s9 (lv : Nat) : List (List UInt8):=if lv=0 then [[111,114]] else if lv=1 then [[97,110,100]] else if lv=2 then [[43],[45]] else [[42],[47]]
def kD : List (List UInt8):=[[60],[60,61],[61]]
def I6 (lv : Nat) : Md:=if lv=0 then .chain 1 else if lv=1 then .not else if lv=2 then .chain 3 else .unary
def U6 (ws : List (List UInt8)) (l : List Tk) : Bool:=ws.any fun w => isT w l
def tIf : List UInt8:=[105,102]
def fJ : List UInt8:=[116,104,101,110]
def eJ : List UInt8:=[101,108,115,101]
def fW : List UInt8:=[110,111,116]
def cI : List UInt8:=[45]
def o6 : List UInt8:=[40]
def m5 : List UInt8:=[41]
def l0 : List UInt8:=[44]
def t8 : List UInt8:=[59]
def tEq : List UInt8:=[61]
def bJ : List UInt8:=[116,114,117,101]
def U4 : List UInt8:=[102,97,108,115,101]
def bX : List UInt8:=[102,101,101,100]
def bY : List UInt8:=[112,105,99,107]
def gK : List UInt8:=[108,101,116]
def dN : List UInt8:=[109,111,100,117,108,101]
def aQ : List UInt8:=[105,109,112,111,114,116]
def U0 (nest : Nat) (l : List Tk) (x : Rd) : Rd:=if 300<nest + 1 then .error (75,(hd l).pos) else x
def rE (rd : Md→Nat→List Tk→Rd) : Md→Nat→List Tk→Rd
 | .expr,nest,l => U0 nest l <|
   if isT tIf l=true then
    (rd .expr (nest + 1) (b9 l)).then fun a r => d9 fJ r fun r => (rd .expr (nest + 1) r).then fun b r => d9 eJ r fun r => (rd .expr (nest + 1) r).then fun c r => made (mkN 14 [] 0 [a,b,c] (hd l).pos) r
   else rd (.chain 0) (nest + 1) l
 | .chain lv,nest,l => (rd (I6 lv) nest l).then fun t r => rd (.loop lv t) nest r
 | .loop lv t,nest,l =>
   if U6 (s9 lv) l=true then (rd (I6 lv) nest (b9 l)).then fun m r => (made (mkN 13 (hd l).text 0 [t,m] (hd l).pos) r).then fun t r => rd (.loop lv t) nest r
   else .ok (t,l)
 | .not,nest,l =>
   if isT fW l=true then U0 nest l <| (rd .not (nest + 1) (b9 l)).then fun t r => made (mkN 12 (hd l).text 0 [t] (hd l).pos) r
   else (rd (.chain 2) nest l).then fun a r => if U6 kD r=true then (rd (.chain 2) nest (b9 r)).then fun b r' => made (mkN 13 (hd r).text 0 [a,b] (hd r).pos) r' else .ok (a,r)
 | .unary,nest,l =>
   if isT cI l=true then U0 nest l <| (rd .unary (nest + 1) (b9 l)).then fun t r => made (mkN 12 (hd l).text 0 [t] (hd l).pos) r
   else rd .atom nest l
 | .atom,nest,l =>
   if (hd l).kind=6 then .ok (mkN 5 [] (hd l).n [] (hd l).pos,b9 l)
   else if (hd l).kind=5 then .ok (mkN 6 [] (hd l).n [] (hd l).pos,b9 l)
   else if (hd l).kind=4 then .ok (mkN 7 (hd l).text 0 [] (hd l).pos,b9 l)
   else if (hd l).kind=1∨(hd l).kind=3 then
    if isT o6 (b9 l)=true then (rd (.args []) nest (b9 (b9 l))).then fun a r => made (mkN 11 (hd l).text 0 a.kids (hd l).pos) r
    else .ok (mkN 10 (hd l).text 0 [] (hd l).pos,b9 l)
   else if isT bJ l=true then .ok (mkN 8 [] 1 [] (hd l).pos,b9 l)
   else if isT U4 l=true then .ok (mkN 8 [] 0 [] (hd l).pos,b9 l)
   else if isT bX l=true then F0 7 (b9 l) fun s r => .ok (mkN 9 s.text 0 [] (hd l).pos,r)
   else if isT bY l=true then F0 7 (b9 l) fun s r => d9 o6 r fun r => (rd .expr nest r).then fun a r => d9 l0 r fun r => (rd .expr nest r).then fun b r => d9 l0 r fun r => (rd .expr nest r).then fun c r =>
    d9 m5 r fun r => made (mkN 15 s.text 0 [a,b,c] (hd l).pos) r
   else if isT o6 l=true then (rd .expr nest (b9 l)).then fun x r => d9 m5 r fun r => .ok (x,r)
   else .error (74,(hd l).pos)
 | .args acc,nest,l =>
   if acc.length=8 then .error (76,(hd l).pos)
   else (rd .expr nest l).then fun t r => if isT l0 r=true then rd (.args (acc ++ [t])) nest (b9 r) else d9 m5 r fun r => .ok (mkN 0 [] 0 (acc ++ [t]) 0,r)
def a7s : Rd:=.error (-1,-1)
def a6j : Nat→Md→Nat→List Tk→Rd
 | 0 => fun _ _ _ => a7s
 | f + 1 => rE (a6j f)
def eV : Md→Nat
 | .args _ => 10 | .expr => 9 | .chain lv => if lv=0 then 8 else if lv=1 then 7 else if lv=2 then 5 else 4
 | .not => 6 | .unary => 3 | .atom => 2 | .loop _ _ => 1
def eB (m : Md) (l : List Tk) : Nat:=11 * l.length + eV m + 1
def rd (m : Md) (nest : Nat) (l : List Tk) : Rd:=a6j (eB m l) m nest l
theorem oL (c : UInt8) : dgC c=Cal.isDig c:=by
 have:=bQ (p:=fun c => dgC c == Cal.isDig c) (by decide +kernel) c
 exact eq_of_beq this
theorem bL (c : UInt8) : dgC c=dgI c.toNat:=by
 have:=bQ (p:=fun c => dgC c == dgI c.toNat) (by decide +kernel) c
 exact eq_of_beq this
theorem a2Q (l : List UInt8) : l.all dgC=l.all Cal.isDig:=by rw [show dgC=Cal.isDig from funext oL]
theorem uZ {d : List UInt8} {k : Nat} (hk : k≤d.length) (h : ∀ j (hj : j<d.length),j<k→dgC d[j]=true) (h' : ∀ (hk : k<d.length),dgC d[k]=false) : Y3 d=k:=E0 dgC d k hk h h'
theorem rP {α : Type} (p : α→Bool) (l : List α) : l.takeWhile p=l.take (l.takeWhile p).length:=(List.prefix_iff_eq_take.1 (List.takeWhile_prefix p))
theorem a56 {d : List UInt8} {k : Nat} (h : Y3 d=k) : V8 d=if 1≤k∧k≤10∧(k=1∨d.headD 0≠48)∧aJ (d.drop k)=true then some (Cal.val (d.take k ++ d.drop (k + 1) ++ List.replicate (6 - (d.drop (k + 1)).length) 48)) else none:=by
 unfold Y3 at h
 unfold V8
 simp only
 rw [h,List.tail_drop,rP,h]
def bT (d : List UInt8) (k : Nat) : List UInt8:=d.drop (k + 1) ++ List.replicate (6 - (d.drop (k + 1)).length) 48
theorem yU {d : List UInt8} {k : Nat} (h : d.length - (k + 1)≤6) : (bT d k).length=6:=by
 unfold bT
 rw [List.length_append,List.length_replicate,List.length_drop]; omega
theorem a1x {d : List UInt8} {k i : Nat} (h : k + 1 + i<d.length) (hi : i<(bT d k).length) : (bT d k)[i]=d[k + 1 + i]:=by
 unfold bT at hi ⊢
 rw [List.getElem_append_left (by rw [List.length_drop]; omega),List.getElem_drop]
theorem a36 {d : List UInt8} {k i : Nat} (h : ¬ k + 1 + i<d.length) (hi : i<(bT d k).length) : (bT d k)[i]=48:=by
 unfold bT at hi ⊢
 rw [List.getElem_append_right (by rw [List.length_drop]; omega),List.getElem_replicate]
theorem xV {l q : List UInt8} {i : Nat} (hi : i<q.length) : Cal.val (l ++ q.take (i + 1))=10 * Cal.val (l ++ q.take i) + ((q[i].toNat : Int) - 48):=by
 rw [List.take_succ_eq_append_getElem hi,← List.append_assoc,Cal.val_snoc]
theorem sO {d : List UInt8} {i : Nat} (hi : i<d.length) : Cal.val (d.take (i + 1))=10 * Cal.val (d.take i) + ((d[i].toNat : Int) - 48):=by
 rw [List.take_succ_eq_append_getElem hi,Cal.val_snoc]
theorem hY {l : List UInt8} {n : Nat} (h : l.all dgC=true) (hn : l.length≤n) : 0≤Cal.val l∧Cal.val l<10 ^ n:=by
 have:=Cal.val_bd (l:=l) (by rw [← a2Q]; exact h)
 exact ⟨this.1,Int.lt_of_lt_of_le this.2 (by exact_mod_cast Nat.pow_le_pow_right (by decide) hn)⟩
theorem fA {c : UInt8} (h : dgC c=true) : 48≤(c.toNat : Int)∧(c.toNat : Int)≤57:=by
 unfold dgC at h
 simp only [Bool.and_eq_true,decide_eq_true_eq] at h
 omega
def sD (l : List UInt8) : Int:=(gL l).getD 0
def rQ (l : List UInt8) : Bool:=(gL l).isSome
theorem jY {d : List UInt8} (h : d.headD 0≠45) : gL d=match V8 d with | some n => if 1000000000000000<n then none else some n | none => none:=if_neg h
theorem bI {d : List UInt8} (h : d.headD 0≠45) (hu : V8 d=none) : sD d=0∧rQ d=false:=by
 unfold sD rQ
 rw [jY h,hu]
 exact ⟨rfl,rfl⟩
theorem tB {d : List UInt8} {n : Int} (h : d.headD 0≠45) (hu : V8 d=some n) (hn : ¬ 1000000000000000<n) : sD d=n∧rQ d=true:=by
 unfold sD rQ
 rw [jY h,hu]
 simp only [if_neg hn]
 exact ⟨rfl,rfl⟩
theorem xP {d : List UInt8} {n : Int} (h : d.headD 0≠45) (hu : V8 d=some n) (hn : 1000000000000000<n) : sD d=0∧rQ d=false:=by
 unfold sD rQ
 rw [jY h,hu]
 simp only [if_pos hn]
 exact ⟨rfl,rfl⟩
theorem wF {l : List UInt8} (h : l.headD 0≠0) : 0<l.length:=by
 cases l with
 | nil => exact absurd rfl h
 | cons a l => simp
theorem lA {l : List UInt8} {n : Nat} (h : (l.drop n).headD 0≠0) : n<l.length:=by
 have:=wF h
 rw [List.length_drop] at this; omega
theorem D7 {α : Type} (p : α→Bool) (l : List α) : (l.takeWhile p).length≤l.length:=(List.takeWhile_sublist (l:=l) p).length_le
theorem a09 {l : List UInt8} {pos : Int} {t : Tk} {n : Nat} (h : bB l pos=.ok (t,n)) (h1 : 1≤m6 l) : 1≤n∧n≤l.length:=by
 have hs:=kG l
 unfold bB at h
 simp only at h
 split at h
 ·rename_i hd
  have hd':=lA (l:=l) (n:=m6 l) (by rw [hd]; decide)
  have hs2:=kG (l.drop (m6 l + 1))
  rw [List.length_drop] at hs2
  split at h
  ·cases h
  ·simp only [Except.ok.injEq,Prod.mk.injEq] at h
   omega
 ·split at h
  ·cases h
  ·simp only [Except.ok.injEq,Prod.mk.injEq] at h
   omega
theorem xB {c : UInt8} {r : List UInt8} (h : dgC c=true) : 1≤Y3 (c :: r):=by
 unfold Y3
 rw [List.takeWhile_cons,if_pos h]; simp
theorem wI {l : List UInt8} (h : 1≤Y3 l) : 1≤cT l∧cT l≤l.length:=by
 have h1 : Y3 l≤l.length:=D7 dgC l
 unfold cT
 split
 ·rename_i hd
  have hd':=lA (l:=l) (n:=Y3 l) (by rw [hd.1]; decide)
  have h2 : Y3 (l.drop (Y3 l + 1))≤(l.drop (Y3 l + 1)).length:=D7 dgC _
  rw [List.length_drop] at h2
  omega
 ·omega
theorem a3R {l : List UInt8} {pos : Int} {t : Tk} {n : Nat} (h : aX l pos=.ok (t,n)) (h1 : 1≤Y3 l) : 1≤n∧n≤l.length:=by
 unfold aX at h
 split at h
 ·rename_i hd
  unfold p6 at hd
  rw [Bool.and_eq_true,decide_eq_true_eq] at hd
  split at h
  ·cases h
  ·split at h
   ·simp only [Except.ok.injEq,Prod.mk.injEq] at h; omega
   ·cases h
 ·have:=wI h1
  split at h
  ·cases h
  ·split at h
   ·simp only [Except.ok.injEq,Prod.mk.injEq] at h; omega
   ·cases h
theorem a2X {r : List UInt8} {pos : Int} {t : Tk} {n : Nat} (h : aA r pos=.ok (t,n)) : 1≤n∧n≤r.length + 1:=by
 unfold aA at h
 split at h
 ·cases h
 ·rename_i hd
  have:=lA (l:=r) (n:=dC r) (by rw [Decidable.not_not.1 hd]; decide)
  split at h
  ·simp only [Except.ok.injEq,Prod.mk.injEq] at h; omega
  ·cases h
theorem nS {c : UInt8} {r : List UInt8} {pos : Int} {t : Tk} {n : Nat} (h : aY c r pos=.ok (t,n)) : 1≤n∧n≤r.length + 1:=by
 unfold aY at h
 split at h
 ·rename_i hs
  exact a09 h (by show 1≤(if smC c=true then 1 + (r.takeWhile inC).length else 0); rw [if_pos hs]; omega)
 split at h
 ·rename_i hd
  exact a3R h (xB hd)
 split at h
 ·exact a2X h
 split at h
 ·unfold a3s at h
  split at h
  ·rename_i h3
   have : vL (c :: r)≤(c :: r).length:=D7 grC _
   simp only [Except.ok.injEq,Prod.mk.injEq] at h
   rw [List.length_cons] at this
   omega
  ·cases h
 ·unfold kZ at h
  split at h
  ·rename_i h2
   have:=wF (l:=r) (by rw [h2.2]; decide)
   simp only [Except.ok.injEq,Prod.mk.injEq] at h; omega
  ·split at h
   ·simp only [Except.ok.injEq,Prod.mk.injEq] at h; omega
   ·cases h
theorem mL : ∀ (l : List UInt8) (pos : Int) (k n : Nat),n≤l.length→s6 l pos k n=s6 (l.drop n) (pos + n) k 0
 | l,pos,k,0,_ => by rw [List.drop_zero]; congr 1; omega
 | [],_,_,n + 1,h => by simp at h
 | c :: r,pos,k,n + 1,h => by
   rw [s6,mL r (pos + 1) k n (by simpa using h),List.drop_succ_cons]
   congr 1; omega
def ahead (ts : List Tk) (x : Except (Int × Int) (List Tk)) : Except (Int × Int) (List Tk):=match x with
 | .error e => .error e
 | .ok r => .ok (ts ++ r)
theorem sG (x : Except (Int × Int) (List Tk)) : ahead [] x=x:=by cases x <;> rfl
theorem tE (a b : List Tk) (x : Except (Int × Int) (List Tk)) : ahead a (ahead b x)=ahead (a ++ b) x:=by
 cases x with
 | error e => rfl
 | ok r => simp [ahead]
theorem gB {c : UInt8} {r : List UInt8} {pos : Int} {k : Nat} (h : c.toNat≤32) : s6 (c :: r) pos k 0=s6 r (pos + 1) k 0:=by
 rw [s6,if_pos h]
theorem pZ {c : UInt8} {r : List UInt8} {pos : Int} {k : Nat} (h : c=35) : s6 (c :: r) pos k 0=s6 (r.drop (gJ r)) (pos + 1 + gJ r) k 0:=by
 rw [s6,if_neg (by rw [h]; decide),if_pos h]
 exact mL _ _ _ _ (D7 _ r)
theorem kF {c : UInt8} {r : List UInt8} {pos : Int} {k : Nat} {e : Int} (h : ¬ c.toNat≤32) (h' : c≠35) (ht : aY c r pos=.error e) : s6 (c :: r) pos k 0=.error (e,pos):=by
 rw [s6,if_neg h,if_neg h',ht]
theorem iE {c : UInt8} {r : List UInt8} {pos : Int} {k : Nat} {t : Tk} {n : Nat} (h : ¬ c.toNat≤32) (h' : c≠35) (ht : aY c r pos=.ok (t,n)) (hk : k=8192) : s6 (c :: r) pos k 0=.error (76,pos):=by
 rw [s6,if_neg h,if_neg h',ht]
 simp only
 rw [if_pos hk]
theorem kP {c : UInt8} {r : List UInt8} {pos : Int} {k : Nat} {t : Tk} {n : Nat} (h : ¬ c.toNat≤32) (h' : c≠35) (ht : aY c r pos=.ok (t,n)) (hk : k≠8192) : s6 (c :: r) pos k 0=ahead [t] (s6 ((c :: r).drop n) (pos + n) (k + 1) 0):=by
 have hl:=nS ht
 obtain ⟨m,rfl⟩ : ∃ m,n=m + 1:=⟨n - 1,by omega⟩
 rw [s6,if_neg h,if_neg h',ht]
 simp only
 rw [if_neg hk,Nat.add_sub_cancel,mL r _ _ m (by omega),List.drop_succ_cons,show pos + 1 + (m : Int)=pos + ((m + 1 : Nat) : Int) by omega]
 cases s6 (r.drop m) (pos + ((m + 1 : Nat) : Int)) (k + 1) 0 <;> rfl
theorem a5X {l : List Tk} {k : Int} (h : (hd l).kind=k) (hk : k≠0) : l≠[]:=by
 rintro rfl; exact hk h.symm
theorem cZ {l : List Tk} {k : Int} (h : (hd l).kind=k) (hk : k≠0) : (b9 l).length + 1=l.length:=by
 have hne:=a5X h hk
 unfold b9
 rw [if_neg (by rw [h]; exact hk)]
 cases l with
 | nil => exact absurd rfl hne
 | cons a l => rfl
theorem kS {w : List UInt8} {l : List Tk} (h : isT w l=true) : ((hd l).kind=2∨(hd l).kind=8)∧(hd l).text=w:=by
 unfold isT at h
 simpa using h
theorem n5 {w : List UInt8} {l : List Tk} (h : isT w l=true) : (b9 l).length + 1=l.length:=by
 rcases (kS h).1 with g | g
 ·exact cZ g (by decide)
 ·exact cZ g (by decide)
theorem kC {ws : List (List UInt8)} {l : List Tk} (h : U6 ws l=true) : (b9 l).length + 1=l.length:=by
 unfold U6 at h
 obtain ⟨w,-,hw⟩:=List.any_eq_true.1 h
 exact n5 hw
theorem Y7 (l : List Tk) : (b9 l).length≤l.length:=by
 unfold b9
 split
 ·exact Nat.le_refl _
 ·simp
def j8 (n : Nat) (x y : Rd) : Prop:=x=y∧∀ t r,x=.ok (t,r)→r.length≤n
theorem j8.error (n : Nat) (e : Int × Int) : j8 n (.error e) (.error e):=⟨rfl,fun _ _ h => by cases h⟩
theorem j8.ok {n : Nat} (t : Nd) {r : List Tk} (h : r.length≤n) : j8 n (.ok (t,r)) (.ok (t,r)):=⟨rfl,fun _ _ e => by cases e; exact h⟩
theorem j8.made {n : Nat} (t : Nd) {r : List Tk} (h : r.length≤n) : j8 n (made t r) (made t r):=by
 unfold Proofs.YtibiccacafjjfaaGreatDoor.made
 split
 ·exact j8.error n _
 ·exact j8.ok t h
theorem j8.then {n m : Nat} {x y : Rd} {f g : Nd→List Tk→Rd} (h : j8 n x y) (hf : ∀ t r,r.length≤n→j8 m (f t r) (g t r)) : j8 m (x.then f) (y.then g):=by
 obtain ⟨rfl,hl⟩:=h
 cases x with
 | error e => exact j8.error m e
 | ok p => obtain ⟨t,r⟩:=p; exact hf t r (hl t r rfl)
theorem j8.want {m : Nat} {w : List UInt8} {l : List Tk} {f g : List Tk→Rd} (h : (b9 l).length + 1=l.length→j8 m (f (b9 l)) (g (b9 l))) : j8 m (d9 w l f) (d9 w l g):=by
 unfold d9
 split
 ·rename_i c; exact h (n5 c)
 ·exact j8.error m _
theorem j8.kind {m : Nat} {k : Int} {l : List Tk} {f g : Tk→List Tk→Rd} (hk : k≠0) (h : (b9 l).length + 1=l.length→j8 m (f (hd l) (b9 l)) (g (hd l) (b9 l))) : j8 m (F0 k l f) (F0 k l g):=by
 unfold F0
 split
 ·rename_i c; exact h (cZ c hk)
 ·exact j8.error m _
theorem j8.nest {m nest : Nat} {l : List Tk} {x y : Rd} (h : j8 m x y) : j8 m (U0 nest l x) (U0 nest l y):=by
 unfold U0
 split
 ·exact j8.error m _
 ·exact h
theorem j8.ite {m : Nat} {c : Prop} [Decidable c] {x x' y y' : Rd} (h : c→j8 m x x') (h' : ¬ c→j8 m y y') : j8 m (if c then x else y) (if c then x' else y'):=by
 split
 ·rename_i g; exact h g
 ·rename_i g; exact h' g
theorem j8.mono {n m : Nat} {x y : Rd} (h : j8 n x y) (hn : n≤m) : j8 m x y:=⟨h.1,fun t r e => Nat.le_trans (h.2 t r e) hn⟩
theorem a0x (lv : Nat) : eV (I6 lv) + 1≤eV (.chain lv):=by
 unfold I6
 split
 ·rename_i h; subst h; decide
 split
 ·rename_i h; subst h; decide
 split
 ·rename_i h; subst h; decide
 ·rename_i h0 h1 h2
  show 3 + 1≤(if lv=0 then 8 else if lv=1 then 7 else if lv=2 then 5 else 4)
  rw [if_neg h0,if_neg h1,if_neg h2]
  exact Nat.le_refl _
theorem pR (lv : Nat) : eV (.chain lv)≤8∧4≤eV (.chain lv):=by
 show (if lv=0 then 8 else if lv=1 then 7 else if lv=2 then 5 else 4)≤8∧4≤(if lv=0 then 8 else if lv=1 then 7 else if lv=2 then 5 else 4)
 split
 ·omega
 split
 ·omega
 split <;> omega
theorem a6p (m : Md) : eV m≤10:=by
 cases m with
 | chain lv => have:=pR lv; omega
 | expr => exact (by decide : (9 : Nat)≤10)
 | loop lv t => exact (by decide : (1 : Nat)≤10)
 | not => exact (by decide : (6 : Nat)≤10)
 | unary => exact (by decide : (3 : Nat)≤10)
 | atom => exact (by decide : (2 : Nat)≤10)
 | args acc => exact Nat.le_refl 10
theorem rG {g h : Md→Nat→List Tk→Rd} (m : Md) (nest : Nat) (l : List Tk) (ih : ∀ m' nest' l',eB m' l'<eB m l→j8 l'.length (g m' nest' l') (h m' nest' l')) : j8 l.length (rE g m nest l) (rE h m nest l):=by
 have rk:=a6p
 unfold eB at ih
 cases m with
 | expr =>
   refine j8.nest (j8.ite (fun c => ?_) fun c => ?_)
   ·have:=n5 c
    have e : eV .expr=9:=rfl
    refine (ih _ _ _ (by rw [e]; omega)).then fun t r hr => j8.want fun h1 => (ih _ _ _ (by rw [e]; omega)).then fun t r hr => j8.want fun h1 => (ih _ _ _ (by rw [e]; omega)).then fun t r hr => j8.made _ (by omega)
   ·exact ih _ _ _ (by have : eV (.chain 0)=8:=rfl; have e : eV .expr=9:=rfl; omega)
 | chain lv =>
   have:=a0x lv
   have h2:=pR lv
   refine (ih _ _ _ (by omega)).then fun t r hr => (ih _ _ _ ?_).mono hr
   show 11 * r.length + 1 + 1<_
   omega
 | loop lv t =>
   have e : eV (.loop lv t)=1:=rfl
   refine j8.ite (fun c => ?_) fun c => j8.ok _ (Nat.le_refl _)
   have:=kC c
   have:=rk (I6 lv)
   refine (ih _ _ _ (by rw [e]; omega)).then fun u r hr => (j8.made _ hr).then fun u r hr => (ih _ _ _ ?_).mono (by omega)
   show 11 * r.length + 1 + 1<11 * l.length + 1 + 1
   omega
 | not =>
   have e : eV .not=6:=rfl
   refine j8.ite (fun c => ?_) fun c => ?_
   ·have:=n5 c
    exact j8.nest ((ih _ _ _ (by omega)).then fun u r hr => j8.made _ (by omega))
   ·have e2 : eV (.chain 2)=5:=rfl
    refine (ih _ _ _ (by rw [e,e2]; omega)).then fun a r hr => j8.ite (fun c => ?_) fun c => j8.ok _ hr
    have:=kC c
    exact (ih _ _ _ (by rw [e,e2]; omega)).then fun u r hr => j8.made _ (by omega)
 | unary =>
   have e : eV .unary=3:=rfl
   refine j8.ite (fun c => ?_) fun c => ?_
   ·have:=n5 c
    exact j8.nest ((ih _ _ _ (by omega)).then fun u r hr => j8.made _ (by omega))
   ·have e2 : eV .atom=2:=rfl
    exact ih _ _ _ (by omega)
 | atom =>
   have e : eV .atom=2:=rfl
   have e2 : eV .expr=9:=rfl
   have hl:=Y7 l
   refine j8.ite (fun c => j8.ok _ hl) fun _ => j8.ite (fun c => j8.ok _ hl) fun _ => j8.ite (fun c => j8.ok _ hl) fun _ => j8.ite (fun c => ?_) fun _ => j8.ite (fun c => j8.ok _ hl) fun _ => j8.ite (fun c => j8.ok _ hl) fun _ =>
    j8.ite (fun c => j8.kind (by decide) fun h1 => j8.ok _ (by omega)) fun _ => j8.ite (fun c => ?_) fun _ => j8.ite (fun c => ?_) fun _ => j8.error _ _
   ·refine j8.ite (fun c' => ?_) fun c => j8.ok _ hl
    have h0 : (b9 l).length + 1=l.length:=by rcases c with c | c <;> exact cZ c (by decide)
    have h1:=n5 c'
    have e3 : eV (.args [])=10:=rfl
    exact (ih _ _ _ (by rw [e,e3]; omega)).then fun a r hr => j8.made _ (by omega)
   ·have h0:=n5 c
    exact j8.kind (by decide) fun h1 => j8.want fun h2 => (ih _ _ _ (by rw [e,e2]; omega)).then fun t r hr => j8.want fun h3 => (ih _ _ _ (by rw [e,e2]; omega)).then fun t r hr => j8.want fun h3 => (ih _ _ _ (by rw [e,e2]; omega)).then fun t r hr => j8.want fun h3 => j8.made _ (by omega)
   ·have h0:=n5 c
    exact (ih _ _ _ (by rw [e,e2]; omega)).then fun t r hr => j8.want fun h3 => j8.ok _ (by omega)
 | args acc =>
   have e : eV (.args acc)=10:=rfl
   have e2 : eV .expr=9:=rfl
   refine j8.ite (fun c => j8.error _ _) fun c => ?_
   refine (ih _ _ _ (by rw [e,e2]; omega)).then fun t r hr => j8.ite (fun c => ?_) fun c => j8.want fun h1 => j8.ok _ (by omega)
   have:=n5 c
   exact (ih _ _ _ (by show 11 * (b9 r).length + 10 + 1<11 * l.length + 10 + 1; omega)).mono (by omega)
theorem nX : ∀ (n : Nat) (m : Md) (nest : Nat) (l : List Tk),eB m l≤n→∀ f,eB m l≤f→j8 l.length (a6j f m nest l) (rd m nest l)
 | 0,m,_,l,h,_,_ => by unfold eB at h; omega
 | n + 1,m,nest,l,h,f,hf => by
   unfold rd
   obtain ⟨f',rfl⟩ : ∃ f',f=f' + 1:=⟨f - 1,by unfold eB at hf; omega⟩
   obtain ⟨g,hg⟩ : ∃ g,eB m l=g + 1:=⟨11 * l.length + eV m,rfl⟩
   rw [hg]
   refine rG m nest l fun m' nest' l' hl => ?_
   have h1:=nX n m' nest' l' (by omega) f' (by omega)
   have h2:=nX n m' nest' l' (by omega) g (by omega)
   exact ⟨h1.1.trans h2.1.symm,h1.2⟩
theorem t7 (m : Md) (nest : Nat) (l : List Tk) : rd m nest l=rE rd m nest l:=by
 have h : rd m nest l=rE (a6j (11 * l.length + eV m)) m nest l:=rfl
 rw [h]
 refine (rG m nest l fun m' nest' l' hl => ?_).1
 exact nX _ m' nest' l' (Nat.le_refl _) _ (by unfold eB at hl; unfold eB; omega)
theorem aZ (m : Md) (nest : Nat) (l : List Tk) {t : Nd} {r : List Tk} (h : rd m nest l=.ok (t,r)) : r.length≤l.length:=(nX _ m nest l (Nat.le_refl _) _ (Nat.le_refl _)).2 t r h
mutual
def o0 (b : Bool) : Nd→Nd
 | .mk k s n ks p => .mk k s n (x6 b ks) (if b=true then p else 0)
def x6 (b : Bool) : List Nd→List Nd
 | [] => []
 | k :: ks => o0 b k :: x6 b ks
end
def a7i (b : Bool) (t : Tk) : Tk:=⟨t.kind,t.text,t.n,if b=true then t.pos else 0⟩
theorem iF (b : Bool) : ∀ ks,x6 b ks=ks.map (o0 b)
 | [] => by rw [x6]; rfl
 | k :: ks => by rw [x6,iF b ks]; rfl
mutual
theorem uA : ∀ t,o0 true t=t
 | .mk k s n ks p => by rw [o0,pT ks]; rfl
theorem pT : ∀ ks,x6 true ks=ks
 | [] => by rw [x6]
 | k :: ks => by rw [x6,uA k,pT ks]
end
mutual
theorem mD (b : Bool) : ∀ t,c8 (o0 b t)=c8 t
 | .mk k s n ks p => by rw [o0,c8,c8,pS b ks]
theorem pS (b : Bool) : ∀ ks,i8 (x6 b ks)=i8 ks
 | [] => by rw [x6]
 | k :: ks => by rw [x6,i8,i8,mD b k,pS b ks]
end
mutual
theorem fH : ∀ (t u : Nd),aM t u=true↔o0 false t=o0 false u
 | .mk k s n ks p,u => by
   rw [kB]
   cases u with
   | mk k' s' n' ks' p' =>
   rw [o0,o0]
   simp only [Nd.kind,Nd.text,Nd.n,Nd.kids,Bool.and_eq_true,beq_iff_eq,Nd.mk.injEq,and_true,Bool.false_eq_true,if_false]
   rw [sE ks ks',Lib.toList_data,Lib.toList_data]
   constructor
   ·rintro ⟨⟨⟨h1,h2⟩,h3⟩,h4⟩; exact ⟨h1,yR h2,h3,h4⟩
   ·rintro ⟨h1,h2,h3,h4⟩; exact ⟨⟨⟨h1,by rw [h2]⟩,h3⟩,h4⟩
theorem sE : ∀ (l r : List Nd),D6 l r=true↔x6 false l=x6 false r
 | [],r => by
   rw [D6,x6]
   cases r with
   | nil => rw [x6]; simp
   | cons a r => rw [x6]; simp
 | a :: l,[] => by rw [D6,x6,x6]; simp
 | a :: l,c :: r => by rw [D6,x6,x6,Bool.and_eq_true,fH a c,sE l r,List.cons.injEq]
end
section
variable {b : Bool} {d : Nat} {x x' : List Tk}
end
def tW (w : List UInt8) : Tk:=⟨2,w,0,0⟩
def tS (w : List UInt8) : Tk:=⟨8,w,0,0⟩
def a2U (s : List UInt8) : Tk:=if s=[111,114]∨s=[97,110,100] then tW s else tS s
def dY (s : List UInt8) : Tk:=⟨if (Lib.cut s [46]).2.2=true then 3 else 1,s,0,0⟩
def bA : List (List Tk)→List Tk
 | [] => []
 | f :: r => tS l0 :: (f ++ bA r)
def qT : List (List Tk)→List Tk
 | [] => [tS m5]
 | f :: r => f ++ (bA r ++ [tS m5])
def pU (l : List (List Tk)) : List Tk:=tS o6 :: qT l
def cW (kind : Int) (f : List Tk) : List Tk:=if I9 kind=true then tS o6 :: (f ++ [tS m5]) else f
def uV (kind n : Int) (s : List UInt8) (l : List (Int × List Tk)) : List Tk :=
 if kind=5 then [⟨6,[],n,0⟩]
 else if kind=6 then [⟨5,[],n,0⟩]
 else if kind=7 then [⟨4,s,0,0⟩]
 else if kind=8 then [tW (if n=1 then bJ else U4)]
 else if kind=9 then [tW bX,⟨7,s,0,0⟩]
 else if kind=10 then [dY s]
 else if kind=11 then dY s :: pU (l.map (·.2))
 else if kind=15 then tW bY :: ⟨7,s,0,0⟩ :: pU (l.map (·.2))
 else if kind=12 then match l with
  | [a] => (if s=[45] then tS cI else tW fW) :: cW a.1 a.2
  | _ => []
 else if kind=13 then match l with
  | [a,b] => cW a.1 a.2 ++ a2U s :: cW b.1 b.2
  | _ => []
 else match l with
  | [a,b,c] => tW tIf :: (a.2 ++ tW fJ :: (b.2 ++ tW eJ :: c.2))
  | _ => []
mutual
def n9 : Nd→List Tk
 | .mk kind s n ks _ => uV kind n s.data.toList (fX ks)
def fX : List Nd→List (Int × List Tk)
 | [] => []
 | k :: ks => (k.kind,n9 k) :: fX ks
end
theorem vB (t : Nd) : n9 t=uV t.kind t.n t.text.data.toList (fX t.kids):=by cases t; rw [n9]; rfl
theorem dV : ∀ ks,fX ks=ks.map fun k => (k.kind,n9 k)
 | [] => by rw [fX]; rfl
 | k :: ks => by rw [fX,dV ks]; rfl
theorem fT (ks : List Nd) : (fX ks).map (·.2)=ks.map n9:=by rw [dV,List.map_map]; rfl
mutual
theorem eN : ∀ (t : Nd) (d : Int),d7 t d=true→d + c8 t≤101
 | .mk k s n ks p,d,h => by
   rw [d7] at h
   simp only [Bool.and_eq_true,decide_eq_true_eq] at h
   have:=kI ks (d + 1) h.2 (by omega)
   rw [c8]
   omega
theorem kI : ∀ (ks : List Nd) (d : Int),m9 ks d=true→d≤101→d + i8 ks≤101
 | [],d,_,hd => by rw [i8]; omega
 | k :: ks,d,h,hd => by
   rw [m9,Bool.and_eq_true] at h
   have h1:=eN k d h.1
   have h2:=kI ks d h.2 hd
   rw [i8]
   omega
end
theorem L3 : ∀ (ks : List Nd) (k : Nd),k∈ks→c8 k≤i8 ks
 | a :: r,k,h => by
   rw [i8]
   rcases List.mem_cons.1 h with rfl | h
   ·omega
   ·have:=L3 r k h; omega
 | [],_,h => by cases h
theorem pM (t : Nd) : c8 t=i8 t.kids + 1:=by cases t; rw [c8]; rfl
def Sp (T l x : List Tk) : Prop:=∃ t,l=t ++ x∧t.map (a7i false)=T
theorem Sp.nil {l x : List Tk} (h : Sp [] l x) : l=x:=by
 obtain ⟨t,rfl,h⟩:=h
 rw [List.map_eq_nil_iff] at h
 rw [h]; rfl
theorem Sp.head {a : Tk} {T l x : List Tk} (h : Sp (a :: T) l x) : (hd l).kind=a.kind∧(hd l).text=a.text∧(hd l).n=a.n∧(a.kind≠0→Sp T (b9 l) x):=by
 obtain ⟨t,rfl,h⟩:=h
 cases t with
 | nil => cases h
 | cons c t =>
   rw [List.map_cons,List.cons.injEq] at h
   obtain ⟨rfl,h⟩:=h
   refine ⟨rfl,rfl,rfl,fun k => ⟨t,?_,h⟩⟩
   show (if c.kind=0 then _ else _)=_
   rw [if_neg (show ¬ c.kind=0 from k)]; rfl
theorem Sp.app {T U l x : List Tk} (h : Sp (T ++ U) l x) : ∃ y,Sp T l y∧Sp U y x:=by
 obtain ⟨t,rfl,h⟩:=h
 obtain ⟨a,c,rfl,ha,hc⟩:=List.map_eq_append_iff.1 h
 exact ⟨c ++ x,⟨a,by rw [List.append_assoc],ha⟩,⟨c,rfl,hc⟩⟩
theorem Sp.word {w : List UInt8} {T l x : List Tk} (h : Sp (tW w :: T) l x) (v : List UInt8) : isT v l=(w == v):=by
 obtain ⟨h1,h2,-⟩:=h.head
 unfold isT
 rw [h1,h2]; rfl
theorem Sp.sign {w : List UInt8} {T l x : List Tk} (h : Sp (tS w :: T) l x) (v : List UInt8) : isT v l=(w == v):=by
 obtain ⟨h1,h2,-⟩:=h.head
 unfold isT
 rw [h1,h2]; rfl
theorem Sp.none {a : Tk} {T l x : List Tk} (h : Sp (a :: T) l x) (h2 : a.kind≠2) (h8 : a.kind≠8) (v : List UInt8) : isT v l=false:=by
 obtain ⟨h1,-⟩:=h.head
 unfold isT
 rw [h1,beq_eq_false_iff_ne.2 h2,beq_eq_false_iff_ne.2 h8]; rfl
theorem Sp.wordStep {w : List UInt8} {T l x : List Tk} (h : Sp (tW w :: T) l x) : Sp T (b9 l) x:=h.head.2.2.2 (show (2 : Int)≠0 by decide)
theorem Sp.signStep {w : List UInt8} {T l x : List Tk} (h : Sp (tS w :: T) l x) : Sp T (b9 l) x:=h.head.2.2.2 (show (8 : Int)≠0 by decide)
theorem fP {k : Int} {l : List Tk} {f : Tk→List Tk→Rd} (h : (hd l).kind=k) : F0 k l f=f (hd l) (b9 l):=if_pos h
theorem Q9 {w : List UInt8} {T l x : List Tk} {f : List Tk→Rd} (h : Sp (tS w :: T) l x) : d9 w l f=f (b9 l):=by
 unfold d9
 rw [if_pos (by rw [h.sign]; exact beq_self_eq_true w)]
theorem iR {w : List UInt8} {T l x : List Tk} {f : List Tk→Rd} (h : Sp (tW w :: T) l x) : d9 w l f=f (b9 l):=by
 unfold d9
 rw [if_pos (by rw [h.word]; exact beq_self_eq_true w)]
theorem r5 (t : Nd) (r : List Tk) (f : Nd→List Tk→Rd) : Rd.then (.ok (t,r)) f=f t r:=rfl
theorem cN {t : Nd} {r : List Tk} (h : c8 t≤100) : made t r=.ok (t,r):=if_neg (by omega)
def m8 (m : Md) (nest : Nat) (l x : List Tk) (u : Nd) : Prop:=∃ t,rd m nest l=.ok (t,x)∧o0 false t=o0 false u
theorem aS {t u : Nd} (h : o0 false t=o0 false u) : c8 t=c8 u:=by rw [← mD false t,h,mD]
section
variable {nest : Nat} {l x : List Tk} {u : Nd}
theorem m8.unary (h : m8 .atom nest l x u) (hl : isT cI l=false) : m8 .unary nest l x u:=by
 obtain ⟨t,ht,hs⟩:=h
 exact ⟨t,by rw [t7]; show (if _ then _ else _)=_; rw [hl,if_neg (by decide)]; exact ht,hs⟩
theorem m8.chain {lv : Nat} (h : m8 (I6 lv) nest l x u) (hx : U6 (s9 lv) x=false) : m8 (.chain lv) nest l x u:=by
 obtain ⟨t,ht,hs⟩:=h
 refine ⟨t,?_,hs⟩
 rw [t7]
 show (rd (I6 lv) nest l).then _=_
 rw [ht,r5,t7]
 show (if _ then _ else _)=_
 rw [hx,if_neg (by decide)]
theorem m8.not (h : m8 (.chain 2) nest l x u) (hl : isT fW l=false) (hx : U6 kD x=false) : m8 .not nest l x u:=by
 obtain ⟨t,ht,hs⟩:=h
 refine ⟨t,?_,hs⟩
 rw [t7]
 show (if _ then _ else _)=_
 rw [hl,if_neg (by decide),ht,r5,hx,if_neg (by decide)]
theorem nT {n : Nat} (h : n + 1≤300) (l : List Tk) (r : Rd) : U0 n l r=r:=if_neg (by omega)
theorem m8.expr (h : m8 (.chain 0) (nest + 1) l x u) (hl : isT tIf l=false) (hn : nest + 1≤300) : m8 .expr nest l x u:=by
 obtain ⟨t,ht,hs⟩:=h
 refine ⟨t,?_,hs⟩
 rw [t7]
 show U0 nest l _=_
 rw [nT hn,hl,if_neg (by decide),ht]
end
def a4A : List (List UInt8):=[[111,114],[97,110,100],[43],[45],[42],[47],[60],[60,61],[61],o6]
def gH (x : List Tk) : Prop:=∀ w∈a4A,isT w x=false
theorem gH.any {x : List Tk} (h : gH x) {ws : List (List UInt8)} (hw : ∀ w∈ws,w∈a4A) : U6 ws x=false:=by
 unfold U6
 rw [List.any_eq_false]
 exact fun w h1 => by rw [h w (hw w h1)]; decide
theorem p7 (lv : Nat) : ∀ w∈s9 lv,w∈a4A:=by
 unfold s9
 split
 ·decide
 split
 ·decide
 split <;> decide
theorem m8.climb {nest : Nat} {l x : List Tk} {u : Nd} (h : m8 .atom (nest + 1) l x u) (h1 : isT cI l=false) (h2 : isT fW l=false) (h3 : isT tIf l=false) (hx : gH x) (hn : nest + 1≤300) : m8 .expr nest l x u :=
 (m8.chain (lv:=0) (m8.chain (lv:=1) (m8.not (m8.chain (lv:=2) (m8.chain (lv:=3) (h.unary h1) (hx.any (p7 3))) (hx.any (p7 2))) h2 (hx.any (by decide))) (hx.any (p7 1))) (hx.any (p7 0))).expr h3 hn
def RE (u : Nd) : Prop:=∀ (nest : Nat) (l x : List Tk),Sp (n9 u) l x→gH x→nest + 2 * c8 u≤300→m8 .expr nest l x u
def RA (u : Nd) : Prop:=¬ I9 u.kind=true→∀ (nest : Nat) (l x : List Tk),Sp (n9 u) l x→isT o6 x=false→nest + 2 * c8 u≤301→m8 .atom nest l x u
theorem cC {w : List UInt8} (h : w ∉ a4A) {T l x : List Tk} (hl : Sp (tS w :: T) l x) : gH l:=fun v hv => by
 rw [hl.sign,beq_eq_false_iff_ne]
 rintro rfl; exact h hv
theorem oW {w : List UInt8} (h : w ∉ a4A) {T l x : List Tk} (hl : Sp (tW w :: T) l x) : gH l:=fun v hv => by
 rw [hl.word,beq_eq_false_iff_ne]
 rintro rfl; exact h hv
theorem fO {u : Nd} (he : RE u) (ha : RA u) {nest : Nat} {l x : List Tk} (h : Sp (cW u.kind (n9 u)) l x) (hx : isT o6 x=false) (hn : nest + 2 * c8 u≤300) : m8 .atom nest l x u:=by
 unfold cW at h
 by_cases hw : I9 u.kind=true
 ·rw [if_pos hw] at h
  have hk:=h.head.1
  obtain ⟨y,h1,h2⟩:=h.signStep.app
  obtain ⟨t,ht,hs⟩:=he nest _ _ h1 (cC (by decide) h2) hn
  refine ⟨t,?_,hs⟩
  have hkk : (hd l).kind=8:=hk
  rw [t7]
  show (if _ then _ else _)=_
  rw [if_neg (by rw [hkk]; decide),if_neg (by rw [hkk]; decide),if_neg (by rw [hkk]; decide),if_neg (by rw [hkk]; decide),if_neg (by rw [h.sign]; decide),if_neg (by rw [h.sign]; decide),if_neg (by rw [h.sign]; decide),if_neg (by rw [h.sign]; decide),if_pos (by rw [h.sign]; decide),ht,r5,Q9 h2,h2.signStep.nil]
 ·rw [if_neg hw] at h
  exact ha hw nest l x h hx (by omega)
theorem pO : ∀ (ks acc : List Nd),(∀ k∈ks,RE k)→ks≠[]→acc.length + ks.length≤8→∀ (nest : Nat) (l x : List Tk),Sp (qT (ks.map n9)) l x→nest + 2 * i8 ks≤300 →
 ∃ ts,rd (.args acc) nest l=.ok (mkN 0 [] 0 (acc ++ ts) 0,x)∧ts.map (o0 false)=ks.map (o0 false)
 | [],_,_,h,_,_,_,_,_,_ => absurd rfl h
 | [k],acc,ih,_,hlen,nest,l,x,h,hn => by
   obtain ⟨y,h1,h2⟩:=Sp.app h
   have hd1:=L3 [k] k (List.mem_cons_self ..)
   obtain ⟨t,ht,hs⟩:=ih k (List.mem_cons_self ..) nest l y h1 (cC (by decide) h2) (by omega)
   refine ⟨[t],?_,by rw [List.map_cons,List.map_cons,hs]⟩
   rw [t7]
   show (if _ then _ else _)=_
   rw [if_neg (by simp at hlen; omega),ht,r5,if_neg (by rw [Sp.sign h2]; decide),Q9 h2,Sp.nil (Sp.signStep h2)]
 | k :: k' :: r,acc,ih,_,hlen,nest,l,x,h,hn => by
   obtain ⟨y,h1,h2⟩:=Sp.app h
   have hd1:=L3 (k :: k' :: r) k (List.mem_cons_self ..)
   have hd2 : i8 (k' :: r)≤i8 (k :: k' :: r):=by rw [i8]; exact Nat.le_max_right _ _
   have h2' : Sp (tS l0 :: qT ((k' :: r).map n9)) y x:=by
    have e : bA ((k' :: r).map n9) ++ [tS m5]=tS l0 :: qT ((k' :: r).map n9):=by
     rw [List.map_cons,bA,List.cons_append,List.append_assoc]; rfl
    rw [← e]; exact h2
   obtain ⟨t,ht,hs⟩:=ih k (List.mem_cons_self ..) nest l y h1 (cC (by decide) h2') (by omega)
   obtain ⟨ts,hts,hss⟩:=pO (k' :: r) (acc ++ [t]) (fun u hu => ih u (List.mem_cons_of_mem _ hu)) (by simp) (by simp at hlen ⊢; omega) nest (b9 y) x h2'.signStep (by omega)
   refine ⟨t :: ts,?_,by rw [List.map_cons,List.map_cons,hs,hss]⟩
   rw [t7]
   show (if _ then _ else _)=_
   rw [if_neg (by simp at hlen; omega),ht,r5,if_pos (by rw [h2'.sign]; decide),hts,List.append_assoc]; rfl
theorem I4 {u : Nd} {k n p : Int} {s : List UInt8} {ts : List Nd} (hk : u.kind=k) (hs : u.text.data.toList=s) (hn : u.n=n) (ht : ts.map (o0 false)=u.kids.map (o0 false)) : o0 false (mkN k s n ts p)=o0 false u:=by
 cases u with
 | mk k' s' n' ks' p' =>
 obtain rfl : k'=k:=hk
 obtain rfl : n'=n:=hn
 unfold mkN
 rw [o0,o0,iF,iF,ht]
 rw [show (⟨s.toArray⟩ : ByteArray)=s' from yR (by rw [← hs]; simp [Nd.text])]
 rfl
theorem a0a {u : Nd} {d : Int} (h : d7 u d=true) (hd0 : 1≤d) (ih : ∀ k∈u.kids,RE k) : RA u:=by
 intro hw nest l x hl hx hn
 obtain ⟨h1,h2,h3,h4⟩:=F5 h
 have ha:=a1G h1 hw
 have hdep:=eN u d h
 have hkd:=pM u
 rw [vB] at hl
 unfold uV at hl
 rcases rK ha with e | e | e | e | e | e | e | e
 ·rw [if_pos e] at hl
  obtain ⟨k1,k2,k3,k4⟩:=hl.head
  have hk0:=fZ h (by omega)
  refine ⟨_,by rw [t7]; show (if _ then _ else _)=_; rw [if_pos (by rw [k1]),(k4 (by decide : (6 : Int)≠0)).nil],I4 e ?_ k3.symm (by rw [hk0])⟩
  unfold y8 at h2
  rw [e] at h2
  simpa using h2
 ·rw [if_neg (by omega),if_pos e] at hl
  obtain ⟨k1,k2,k3,k4⟩:=hl.head
  have hk0:=fZ h (by omega)
  refine ⟨_,by rw [t7]; show (if _ then _ else _)=_; rw [if_neg (by rw [show (hd l).kind=5 from k1]; decide),if_pos (by rw [k1]),(k4 (by decide : (5 : Int)≠0)).nil],I4 e ?_ k3.symm (by rw [hk0])⟩
  unfold y8 at h2
  rw [e] at h2
  simpa using h2
 ·rw [if_neg (by omega),if_neg (by omega),if_pos e] at hl
  obtain ⟨k1,k2,k3,k4⟩:=hl.head
  have hk0:=fZ h (by omega)
  exact ⟨_,by rw [t7]; show (if _ then _ else _)=_; rw [if_neg (by rw [show (hd l).kind=4 from k1]; decide),if_neg (by rw [show (hd l).kind=4 from k1]; decide),if_pos (by rw [k1]),(k4 (by decide : (4 : Int)≠0)).nil],I4 e k2.symm (dI h3 (by omega)) (by rw [hk0])⟩
 ·rw [if_neg (by omega),if_neg (by omega),if_neg (by omega),if_pos e] at hl
  have hk0:=fZ h (by omega)
  have hk : (hd l).kind=2:=hl.head.1
  have ht : u.text.data.toList=[]:=by
   unfold y8 at h2
   rw [e] at h2
   simpa using h2
  have hnn : u.n=0∨u.n=1:=by
   unfold bD at h3
   rw [e] at h3
   simpa using h3
  rcases hnn with hnn | hnn
  ·rw [hnn] at hl
   exact ⟨_,by rw [t7]; show (if _ then _ else _)=_; rw [if_neg (by rw [hk]; decide),if_neg (by rw [hk]; decide),if_neg (by rw [hk]; decide),if_neg (by rw [hk]; decide),if_neg (by rw [hl.word]; decide),if_pos (by rw [hl.word]; decide),hl.wordStep.nil],I4 e ht hnn (by rw [hk0])⟩
  ·rw [hnn] at hl
   exact ⟨_,by rw [t7]; show (if _ then _ else _)=_; rw [if_neg (by rw [hk]; decide),if_neg (by rw [hk]; decide),if_neg (by rw [hk]; decide),if_neg (by rw [hk]; decide),if_pos (by rw [hl.word]; decide),hl.wordStep.nil],I4 e ht hnn (by rw [hk0])⟩
 ·rw [if_neg (by omega),if_neg (by omega),if_neg (by omega),if_neg (by omega),if_pos e] at hl
  have hk0:=fZ h (by omega)
  have hk : (hd l).kind=2:=hl.head.1
  have hl2:=hl.wordStep
  obtain ⟨k1,k2,k3,k4⟩:=hl2.head
  refine ⟨mkN 9 u.text.data.toList 0 [] (hd l).pos,?_,I4 e rfl (dI h3 (by omega)) (by rw [hk0])⟩
  rw [t7]; show (if _ then _ else _)=_
  rw [if_neg (by rw [hk]; decide),if_neg (by rw [hk]; decide),if_neg (by rw [hk]; decide),if_neg (by rw [hk]; decide),if_neg (by rw [hl.word]; decide),if_neg (by rw [hl.word]; decide),if_pos (by rw [hl.word]; decide)]
  rw [fP k1,(k4 (by decide : (7 : Int)≠0)).nil]
  show Except.ok (mkN 9 (hd (b9 l)).text 0 [] (hd l).pos,x)=_
  rw [k2]
 ·rw [if_neg (by omega),if_neg (by omega),if_neg (by omega),if_neg (by omega),if_neg (by omega),if_pos e] at hl
  have hk0:=fZ h (by omega)
  obtain ⟨k1,k2,k3,k4⟩:=hl.head
  have k5 : (hd l).kind=1∨(hd l).kind=3:=by rw [k1]; unfold dY; simp only; split <;> simp
  have hs:=(k4 (by rw [← k1]; omega)).nil
  refine ⟨mkN 10 (hd l).text 0 [] (hd l).pos,?_,I4 e k2.symm (dI h3 (by omega)) (by rw [hk0])⟩
  rw [t7]; show (if _ then _ else _)=_
  rw [if_neg (by omega),if_neg (by omega),if_neg (by omega),if_pos k5,if_neg (by rw [hs,hx]; decide),hs]
 ·rw [if_neg (by omega),if_neg (by omega),if_neg (by omega),if_neg (by omega),if_neg (by omega),if_neg (by omega),if_pos e,fT] at hl
  obtain ⟨k1,k2,k3,k4⟩:=hl.head
  have k5 : (hd l).kind=1∨(hd l).kind=3:=by rw [k1]; unfold dY; simp only; split <;> simp
  have hs:=k4 (by rw [← k1]; omega)
  have hlen : u.kids.length≤8:=by
   rw [e] at h1
   unfold z7 at h1
   have h1' : (decide (1≤u.kids.length) && decide (u.kids.length≤8))=true:=h1
   simp only [Bool.and_eq_true,decide_eq_true_eq] at h1'
   exact h1'.2
  obtain ⟨ts,hts,hss⟩:=pO u.kids [] ih (qO h (.inl e)) (by simpa using hlen) nest _ x hs.signStep (by omega)
  refine ⟨mkN 11 (hd l).text 0 ts (hd l).pos,?_,I4 e k2.symm (dI h3 (by omega)) hss⟩
  have hsm : o0 false (mkN 11 (hd l).text 0 ts (hd l).pos)=o0 false u:=I4 e k2.symm (dI h3 (by omega)) hss
  rw [t7]; show (if _ then _ else _)=_
  rw [if_neg (by omega),if_neg (by omega),if_neg (by omega),if_pos k5,if_pos (by rw [hs.sign]; decide),hts,r5]
  exact cN (by have:=aS hsm; show c8 (mkN 11 (hd l).text 0 ts (hd l).pos)≤100; omega)
 ·rw [if_neg (by omega),if_neg (by omega),if_neg (by omega),if_neg (by omega),if_neg (by omega),if_neg (by omega),if_neg (by omega),if_pos e,fT] at hl
  have hk : (hd l).kind=2:=hl.head.1
  have hl2:=hl.wordStep
  obtain ⟨k1,k2,k3,k4⟩:=hl2.head
  have hl3:=k4 (by decide : (7 : Int)≠0)
  have h3k : u.kids.length=3:=by
   rw [e] at h1
   unfold z7 at h1
   simpa using h1
  obtain ⟨a,b,c,hkk⟩:=a5z h3k
  rw [hkk] at hl3 ih hkd
  have d1:=L3 [a,b,c] a (by simp)
  have d2:=L3 [a,b,c] b (by simp)
  have d3:=L3 [a,b,c] c (by simp)
  have hl4:=hl3.signStep
  obtain ⟨y,g1,g2⟩:=Sp.app hl4
  have g2' : Sp (tS l0 :: (n9 b ++ tS l0 :: (n9 c ++ [tS m5]))) y x:=by
   have e' : bA ([b,c].map n9) ++ [tS m5]=tS l0 :: (n9 b ++ tS l0 :: (n9 c ++ [tS m5])):=by simp [bA]
   rw [← e']; exact g2
  obtain ⟨ta,ra,sa⟩:=ih a (by simp) nest _ _ g1 (cC (by decide) g2') (by omega)
  obtain ⟨z,g3,g4⟩:=Sp.app g2'.signStep
  obtain ⟨tb,rb,sb⟩:=ih b (by simp) nest _ _ g3 (cC (by decide) g4) (by omega)
  obtain ⟨v,g5,g6⟩:=Sp.app g4.signStep
  obtain ⟨tc,rc,sc⟩:=ih c (by simp) nest _ _ g5 (cC (by decide) g6) (by omega)
  have hsm : o0 false (mkN 15 (hd (b9 l)).text 0 [ta,tb,tc] (hd l).pos)=o0 false u:=I4 e k2.symm (dI h3 (by omega)) (by rw [hkk,List.map_cons,List.map_cons,List.map_cons,sa,sb,sc]; rfl)
  refine ⟨mkN 15 (hd (b9 l)).text 0 [ta,tb,tc] (hd l).pos,?_,hsm⟩
  rw [t7]; show (if _ then _ else _)=_
  rw [if_neg (by rw [hk]; decide),if_neg (by rw [hk]; decide),if_neg (by rw [hk]; decide),if_neg (by rw [hk]; decide),if_neg (by rw [hl.word]; decide),if_neg (by rw [hl.word]; decide),if_neg (by rw [hl.word]; decide),if_pos (by rw [hl.word]; decide)]
  rw [fP k1]
  show d9 o6 _ _=_
  rw [Q9 hl3,ra,r5,Q9 g2',rb,r5,Q9 g4,rc,r5,Q9 g6,g6.signStep.nil]
  exact cN (by have:=aS hsm; omega)
theorem fI {u : Nd} {d : Int} (h : d7 u d=true) {l x : List Tk} (hl : Sp (cW u.kind (n9 u)) l x) : isT cI l=false∧isT fW l=false∧isT tIf l=false:=by
 unfold cW at hl
 by_cases hw : I9 u.kind=true
 ·rw [if_pos hw] at hl
  rw [hl.sign,hl.sign,hl.sign]
  decide
 rw [if_neg hw,vB] at hl
 unfold uV at hl
 have hnm : ∀ s,(dY s).kind≠2∧(dY s).kind≠8:=fun s => by unfold dY; simp only; split <;> decide
 rcases rK (a1G (F5 h).1 hw) with e | e | e | e | e | e | e | e
 ·rw [if_pos e] at hl
  exact ⟨hl.none (show (6 : Int)≠2 by decide) (show (6 : Int)≠8 by decide) _,hl.none (show (6 : Int)≠2 by decide) (show (6 : Int)≠8 by decide) _,hl.none (show (6 : Int)≠2 by decide) (show (6 : Int)≠8 by decide) _⟩
 ·rw [if_neg (by omega),if_pos e] at hl
  exact ⟨hl.none (show (5 : Int)≠2 by decide) (show (5 : Int)≠8 by decide) _,hl.none (show (5 : Int)≠2 by decide) (show (5 : Int)≠8 by decide) _,hl.none (show (5 : Int)≠2 by decide) (show (5 : Int)≠8 by decide) _⟩
 ·rw [if_neg (by omega),if_neg (by omega),if_pos e] at hl
  exact ⟨hl.none (by show (4 : Int)≠2; decide) (by show (4 : Int)≠8; decide) _,hl.none (by show (4 : Int)≠2; decide) (by show (4 : Int)≠8; decide) _,hl.none (by show (4 : Int)≠2; decide) (by show (4 : Int)≠8; decide) _⟩
 ·rw [if_neg (by omega),if_neg (by omega),if_neg (by omega),if_pos e] at hl
  rw [hl.word,hl.word,hl.word]
  split <;> decide
 ·rw [if_neg (by omega),if_neg (by omega),if_neg (by omega),if_neg (by omega),if_pos e] at hl
  rw [hl.word,hl.word,hl.word]
  decide
 ·rw [if_neg (by omega),if_neg (by omega),if_neg (by omega),if_neg (by omega),if_neg (by omega),if_pos e] at hl
  exact ⟨hl.none (hnm _).1 (hnm _).2 _,hl.none (hnm _).1 (hnm _).2 _,hl.none (hnm _).1 (hnm _).2 _⟩
 ·rw [if_neg (by omega),if_neg (by omega),if_neg (by omega),if_neg (by omega),if_neg (by omega),if_neg (by omega),if_pos e] at hl
  exact ⟨hl.none (hnm _).1 (hnm _).2 _,hl.none (hnm _).1 (hnm _).2 _,hl.none (hnm _).1 (hnm _).2 _⟩
 ·rw [if_neg (by omega),if_neg (by omega),if_neg (by omega),if_neg (by omega),if_neg (by omega),if_neg (by omega),if_neg (by omega),if_pos e] at hl
  rw [hl.word,hl.word,hl.word]
  decide
end Go.Proofs.YtibiccacafjjfaaGreatDoor
