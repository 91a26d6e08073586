/-
  Laws that the proof rests on.
-/
import Derived.Test.YteefedkmgnepmaaGreatDoorE27
import Derived.Test.YteefedkmgnepmaaGreatDoorE08
import Derived.Test.YteefedkmgnepmaaGreatDoorE03
import Derived.Test.YteefedkmgnepmaaGreatDoorE14
import Derived.Test.YteefedkmgnepmaaGreatDoorE23
import Derived.Test.YteefedkmgnepmaaGreatDoorE22
import Derived.Test.YteefedkmgnepmaaGreatDoorE18
namespace Go.Proofs.YteefedkmgnepmaaGreatDoor
set_option maxRecDepth 100000
set_option maxHeartbeats 16000000
section
open Go.RowKit
structure TkG (t : Tk) : Prop where
 n : -1000000000000000≤t.n∧t.n≤1000000000000000
 len : t.text.length≤49
 z : TkZ t
theorem bG {k n p : Int} {s : List UInt8} (h8 : k≠8) (h2 : k≠2) (h4 : k=4→n=0) (hn : -1000000000000000≤n∧n≤1000000000000000) (hs : s.length≤49) : TkG ⟨k,s,n,p⟩ :=
 ⟨hn,hs,⟨fun h => by rcases h with h | h; exact h4 h; exact absurd h h2,fun h => absurd h h8,fun h => absurd h h2⟩⟩
theorem xY {s : List UInt8} {p : Int} (hs : s.length≤2) : TkG ⟨8,s,0,p⟩ :=
 ⟨⟨by show (-1000000000000000 : Int)≤0; decide,by show (0 : Int)≤1000000000000000; decide⟩,by show s.length≤49; omega,⟨fun _ => rfl,fun _ => ⟨fun e => by (have : s=fU:=e); subst this; exact absurd hs (by decide),fun e => by (have : s=bX:=e); subst this; exact absurd hs (by decide),fun e => by (have : s=fT:=e); subst this; exact absurd hs (by decide),fun e => by (have : s=eF:=e); subst this; exact absurd hs (by decide)⟩,fun h => absurd h (by show ¬ (8 : Int)=2; decide)⟩⟩
theorem a3x (c : UInt8) (h : smC c=true) : c≠40:=by
 rintro rfl; exact absurd h (by decide)
theorem a0h {c : UInt8} {r : List UInt8} {pos : Int} {t : Tk} {n : Nat} (hc : smC c=true) (h : bH (c :: r) pos=.ok (t,n)) : TkG t∧t.pos=pos:=by
 unfold bH at h
 simp only at h
 have h1 : 1≤x7 (c :: r):=by show 1≤(if smC c=true then 1 + (r.takeWhile inC).length else 0); rw [if_pos hc]; omega
 obtain ⟨m,hm⟩ : ∃ m,x7 (c :: r)=m + 1:=⟨x7 (c :: r) - 1,by omega⟩
 split at h
 ·split at h
  ·cases h
  ·rename_i hq
   cases h
   refine ⟨bG (by decide) (by decide) (fun e => rfl) (by decide) ?_,rfl⟩
   rw [List.length_append,List.length_cons]
   have a1:=List.length_take_le (x7 (c :: r)) (c :: r)
   have a2:=List.length_take_le (x7 ((c :: r).drop (x7 (c :: r) + 1))) ((c :: r).drop (x7 (c :: r) + 1))
   omega
 ·split at h
  ·cases h
  ·rename_i hq
   cases h
   have hl : ((c :: r).take (x7 (c :: r))).length≤49:=by
    have a1:=List.length_take_le (x7 (c :: r)) (c :: r)
    omega
   split
   ·refine ⟨⟨by show (-1000000000000000 : Int)≤0∧(0 : Int)≤1000000000000000; decide,hl,⟨fun _ => rfl,fun e => absurd e (by show ¬ (2 : Int)=8; decide),fun _ e => ?_⟩⟩,rfl⟩
    replace e : (c :: r).take (x7 (c :: r))=[40]:=e
    rw [hm,List.take_succ_cons] at e
    exact a3x c hc (List.cons.inj e).1
   ·exact ⟨bG (by decide) (by decide) (fun e => rfl) (by decide) hl,rfl⟩
theorem wM {l : List UInt8} {v : Int} (h : aU l=some v) : 0≤v:=by
 unfold aU at h
 simp only at h
 split at h
 ·rename_i hq
  cases h
  obtain ⟨h1,h2,h3,h4⟩:=hq
  have hw : (l.takeWhile dgC).all dgC=true:=List.all_takeWhile
  have ht : (l.drop (l.takeWhile dgC).length).tail.all dgC=true:=by
   cases hd : l.drop (l.takeWhile dgC).length with
   | nil => rfl
   | cons c p =>
     rw [hd] at h4
     unfold eA at h4
     simp only [Bool.and_eq_true] at h4
     exact h4.2.2
  refine (jE (n:=(l.takeWhile dgC ++ (l.drop (l.takeWhile dgC).length).tail ++ List.replicate (6 - (l.drop (l.takeWhile dgC).length).tail.length) 48).length) ?_ (Nat.le_refl _)).1
  rw [List.all_append,List.all_append,hw,ht,List.all_eq_true.2 fun x hx => by rw [List.eq_of_mem_replicate hx]; rfl]
  rfl
 ·cases h
theorem a6U {l : List UInt8} {v : Int} (h : jO l=some v) : -1000000000000000≤v∧v≤1000000000000000:=by
 unfold jO at h
 split at h
 ·split at h
  ·rename_i n hn
   have:=wM hn
   split at h
   ·cases h
   ·cases h; omega
  ·cases h
 ·split at h
  ·rename_i n hn
   have:=wM hn
   split at h
   ·cases h
   ·cases h; omega
  ·cases h
theorem a6I {l : List UInt8} {v : Int} (h : uL l=some v) : 0≤v∧v≤73048:=by
 unfold uL at h
 split at h
 ·rename_i hq
  cases h
  exact Cal.num_bd hq.2.2
 ·cases h
theorem a4x {c : UInt8} {r : List UInt8} {pos : Int} {t : Tk} {n : Nat} (h : X6 c r pos=.ok (t,n)) : TkG t∧t.pos=pos:=by
 unfold X6 at h
 split at h
 ·rename_i hs; exact a0h hs h
 split at h
 ·unfold aA at h
  split at h
  ·split at h
   ·cases h
   ·rename_i v hv
    have:=a6I hv
    split at h
    ·cases h; exact ⟨bG (by decide) (by decide) (fun e => by cases e) (by omega) (by decide),rfl⟩
    ·cases h
  ·split at h
   ·cases h
   ·rename_i v hv
    have:=a6U hv
    split at h
    ·cases h; exact ⟨bG (by decide) (by decide) (fun e => by cases e) (by omega) (by decide),rfl⟩
    ·cases h
 split at h
 ·unfold dO at h
  split at h
  ·cases h
  ·split at h
   ·rename_i hn
    cases h
    obtain ⟨c,r,-,-,-,hl⟩:=bC hn
    exact ⟨bG (by decide) (by decide) (fun e => by cases e) (by decide) (by omega),rfl⟩
   ·cases h
 split at h
 ·unfold a3p at h
  split at h
  ·cases h
   refine ⟨bG (by decide) (by decide) (fun e => rfl) (by decide) ?_,rfl⟩
   have:=List.length_take_le 3 (c :: r)
   omega
  ·cases h
 ·unfold iJ at h
  split at h
  ·cases h; exact ⟨xY (by decide),rfl⟩
  ·split at h
   ·cases h; exact ⟨xY (by show [c].length≤2; simp),rfl⟩
   ·cases h
theorem dI.cons {t : Tk} {ts : List Tk} (h : dI ts) (hne : ts≠[]) : dI (t :: ts):=by
 intro j hj hk
 have hp:=List.length_pos_iff.2 hne
 cases j with
 | zero => rw [List.length_cons]; omega
 | succ j =>
   have:=h j (by rw [List.length_cons] at hj; omega) hk
   rw [List.length_cons]; omega
theorem gR : ∀ (l : List UInt8) (pos : Int) (k s : Nat) (ts : List Tk),q7 l pos k s=.ok ts→(∀ t∈ts,TkG t∧pos≤t.pos∧t.pos≤pos + l.length)∧dI ts∧ts≠[]
 | [],pos,k,_,ts,h => by
   unfold q7 at h
   cases h
   refine ⟨fun t ht => ?_,fun j hj hk => ?_,by simp⟩
   ·obtain rfl:=List.mem_singleton.1 ht
    exact ⟨bG (by decide) (by decide) (fun e => rfl) (by decide) (by decide),Int.le_refl _,by simp⟩
   ·have : j=0:=by simp at hj; omega
    subst this; exact absurd (show (0 : Int)=0 from rfl) hk
 | c :: r,pos,k,s + 1,ts,h => by
   unfold q7 at h
   obtain ⟨h1,h2,h3⟩:=gR r (pos + 1) k s ts h
   refine ⟨fun t ht => ?_,h2,h3⟩
   obtain ⟨a,b,d⟩:=h1 t ht
   exact ⟨a,by omega,by rw [List.length_cons]; omega⟩
 | c :: r,pos,k,0,ts,h => by
   have go : ∀ s,q7 r (pos + 1) k s=.ok ts→(∀ t∈ts,TkG t∧pos≤t.pos∧t.pos≤pos + (c :: r).length)∧dI ts∧ts≠[]:=fun s hs => by
    obtain ⟨h1,h2,h3⟩:=gR r (pos + 1) k s ts hs
    refine ⟨fun t ht => ?_,h2,h3⟩
    obtain ⟨a,b,d⟩:=h1 t ht
    exact ⟨a,by omega,by rw [List.length_cons]; omega⟩
   unfold q7 at h
   split at h
   ·exact go 0 h
   split at h
   ·exact go _ h
   split at h
   ·cases h
   ·rename_i t n ht
    split at h
    ·cases h
    ·rename_i hk
     split at h
     ·cases h
     ·rename_i us hus
      cases h
      obtain ⟨h1,h2,h3⟩:=gR r (pos + 1) (k + 1) _ us hus
      refine ⟨fun u hu => ?_,h2.cons h3,by simp⟩
      rcases List.mem_cons.1 hu with rfl | hu
      ·obtain ⟨a,b⟩:=a4x ht
       exact ⟨a,by omega,by rw [List.length_cons]; omega⟩
      ·obtain ⟨a,b,d⟩:=h1 u hu
       exact ⟨a,by omega,by rw [List.length_cons]; omega⟩
theorem nS {l : List UInt8} {ts : List Tk} (h : Q6 l=.ok ts) : (∀ t∈ts,dD t)∧(∀ t∈ts,TkZ t)∧dI ts∧ts≠[]:=by
 unfold Q6 at h
 split at h
 ·cases h
 ·rename_i hl
  obtain ⟨h1,h2,h3⟩:=gR l 0 0 0 ts h
  refine ⟨fun t ht => ?_,fun t ht => (h1 t ht).1.z,h2,h3⟩
  obtain ⟨⟨hn,hs,-⟩,hp,hq⟩:=h1 t ht
  exact ⟨WalkArith.wf_i64 (by omega),WalkArith.wf_i64 (by omega),by omega⟩
end
section
open Go.RowKit
structure AllC (P g cap : Nat) (ts l : List Tk) : Prop where
 e : CE P g cap ts l
 c : ∀ lv,lv≤3→CC P g cap ts lv l
 n : CN P g cap ts l
 u : CU P g cap ts l
theorem xK (P g cap : Nat) (ts : List Tk) (he : dI ts) (htk : ∀ t∈ts,dD t) (htz : ∀ t∈ts,TkZ t) : ∀ (N : Nat) (l : List Tk),l.length<N→AllC P g cap ts l
 | 0,l,h => absurd h (Nat.not_lt_zero _)
 | N + 1,l,h => by
   have ih : ∀ r,r.length<l.length→AllC P g cap ts r:=fun r hr => xK P g cap ts he htk htz N r (by omega)
   have q : ∀ lv r,lv≤3→AllC P g cap ts r→CL P g cap ts lv r:=fun lv r hlv a => dA P g cap ts lv hlv r (fun _ => a.c 1 (by decide)) (fun _ => a.n) (fun _ => a.c 3 (by decide)) (fun _ => a.u)
   have hA:=a2U P g cap ts he htk htz l fun r hr => (ih r hr).e
   have hU:=a1b P g cap ts he htk l hA fun ht => (ih _ (by have:=H6 ht; omega)).u
   have hL3:=dA P g cap ts 3 (by decide) l (fun h => absurd h (by decide)) (fun h => absurd h (by decide)) (fun h => absurd h (by decide)) (fun _ => hU)
   have hC3:=fQ P g cap ts he htk 3 (by decide) l hL3 fun r hr => q 3 r (by decide) (ih r hr)
   have hL2:=dA P g cap ts 2 (by decide) l (fun h => absurd h (by decide)) (fun h => absurd h (by decide)) (fun _ => hC3) (fun h => absurd h (by decide))
   have hC2:=fQ P g cap ts he htk 2 (by decide) l hL2 fun r hr => q 2 r (by decide) (ih r hr)
   have hN:=a4p P g cap ts he htk l hC2 (fun r hr => (ih r hr).c 2 (by decide)) fun ht => (ih _ (by have:=H6 ht; omega)).n
   have hL1:=dA P g cap ts 1 (by decide) l (fun h => absurd h (by decide)) (fun _ => hN) (fun h => absurd h (by decide)) (fun h => absurd h (by decide))
   have hC1:=fQ P g cap ts he htk 1 (by decide) l hL1 fun r hr => q 1 r (by decide) (ih r hr)
   have hL0:=dA P g cap ts 0 (by decide) l (fun _ => hC1) (fun h => absurd h (by decide)) (fun h => absurd h (by decide)) (fun h => absurd h (by decide))
   have hC0:=fQ P g cap ts he htk 0 (by decide) l hL0 fun r hr => q 0 r (by decide) (ih r hr)
   exact ⟨a3E P g cap ts he htk l hC0 fun r hr => (ih r hr).e,fun lv hlv => by
    have hc : lv=0∨lv=1∨lv=2∨lv=3:=by omega
    rcases hc with rfl | rfl | rfl | rfl
    ·exact hC0
    ·exact hC1
    ·exact hC2
    ·exact hC3,hN,hU⟩
theorem tI (P g cap : Nat) (ts : List Tk) (he : dI ts) (htk : ∀ t∈ts,dD t) (htz : ∀ t∈ts,TkZ t) (l : List Tk) : CE P g cap ts l:=(xK P g cap ts he htk htz _ l (Nat.lt_succ_self _)).e
def a4E (x : Rd) : Except (Int × Int) Nd:=match x with
 | .error e => .error e
 | .ok (t,r) => if (hd r).kind=0 then .ok t else .error (74,(hd r).pos)
def mE (l : List UInt8) : Except (Int × Int) Nd:=match Q6 l with
 | .error e => .error e
 | .ok ts => a4E (rd .expr 0 ts)
def gK (x : Except (Int × Int) Nd) (w : World) (e : Ending) (w' : World) : Prop :=
 ∃ (t : Nd) (a : Option Addr) (cp : Nat) (f k : Int),e=.returned (.tuple #[t.val a cp,.int .i64 f,.int .i64 k])∧Below w.heap.size w w'∧match x with
  | .ok u => u=t∧f=0∧k=0∧t.lies (Fr w.heap.size w'.heap.size) w' a cp∧d9 t≤100
  | .error (c,p) => k=c∧f=p∧c≠0
end
theorem a2Z {u : Nd} (h : d5 u 1=true) {l : List Tk} (hl : Q6 (d7 u)=.ok l) : ∃ t,mE (d7 u)=.ok t∧fW t u=true:=by
 obtain ⟨t,e,he,hr,hs⟩:=a2Y h hl
 refine ⟨t,?_,(jN t u).2 hs⟩
 unfold mE
 rw [hl]
 show a4E (rd .expr 0 l)=_
 rw [hr]
 show (if e.kind=0 then Except.ok t else _)=_
 rw [if_pos he]
theorem rJ (b : Bool) : ∀ ks,(y8 b ks).length=ks.length
 | [] => by rw [y8]
 | k :: ks => by rw [y8,List.length_cons,List.length_cons,rJ b ks]
mutual
theorem a3J (b : Bool) : ∀ t : Nd,j3 (F5 b t)=j3 t
 | .mk k s n ks p => by rw [F5,j3,j3,pX b ks]
theorem pX (b : Bool) : ∀ ks : List Nd,l5 (y8 b ks)=l5 ks
 | [] => by rw [y8]
 | k :: ks => by rw [y8,l5,l5,a3J b k,pX b ks]
end
mutual
theorem kP (b : Bool) : ∀ (t : Nd) (d : Int),d5 (F5 b t) d=d5 t d
 | .mk k s n ks p,d => by rw [F5,d5,d5,rJ,qG b ks]
theorem qG (b : Bool) : ∀ (ks : List Nd) (d : Int),m7 (y8 b ks) d=m7 ks d
 | [],d => by rw [y8]
 | k :: ks,d => by rw [y8,m7,m7,kP b k,qG b ks]
end
theorem a0p {a b : Nd} (h : fW a b=true) (d : Int) : d5 a d=d5 b d:=by
 rw [← kP false a,← kP false b,(jN a b).1 h]
mutual
theorem lL (b : Bool) : ∀ t : Nd,n5 (F5 b t)=n5 t
 | .mk k s n ks p => by rw [F5,n5,n5,oH b ks]
theorem oH (b : Bool) : ∀ ks : List Nd,r6 (y8 b ks)=r6 ks
 | [] => by rw [y8]
 | k :: ks => by rw [y8,r6,r6,lL b k,oH b ks]
end
theorem a0K {a b : Nd} (h : fW a b=true) : n5 a=n5 b:=by
 rw [← lL false a,← lL false b,(jN a b).1 h]
def eS (t : Int) : Nd :=
 if t=0 then mkN 5 [] 1000000 [] 0 else if t=1 then mkN 8 [] 1 [] 0 else if t=2 then mkN 10 vN 0 [] 0
 else if t=3 then mkN 7 [69,85,82] 0 [] 0 else if t=4 then mkN 10 jU 0 [] 0 else mkN 5 [] 2000000 [] 0
def H8 (t : Int) : List UInt8 :=
 if t=0 then [49] else if t=1 then [116,114,117,101] else if t=2 then vN else if t=3 then [69,85,82] else if t=4 then jU else [50]
theorem dB (t : Int) : (t=0∧eS t=mkN 5 [] 1000000 [] 0∧H8 t=[49])∨(t=1∧eS t=mkN 8 [] 1 [] 0∧H8 t=[116,114,117,101])∨(t=2∧eS t=mkN 10 vN 0 [] 0∧H8 t=vN)∨(t=3∧eS t=mkN 7 [69,85,82] 0 [] 0∧H8 t=[69,85,82])∨(t=4∧eS t=mkN 10 jU 0 [] 0∧H8 t=jU)∨((t<0∨5≤t)∧eS t=mkN 5 [] 2000000 [] 0∧H8 t=[50]):=by
 unfold eS H8
 by_cases h0 : t=0
 ·exact .inl ⟨h0,if_pos h0,if_pos h0⟩
 by_cases h1 : t=1
 ·subst h1; exact .inr (.inl ⟨rfl,rfl,rfl⟩)
 by_cases h2 : t=2
 ·subst h2; exact .inr (.inr (.inl ⟨rfl,rfl,rfl⟩))
 by_cases h3 : t=3
 ·subst h3; exact .inr (.inr (.inr (.inl ⟨rfl,rfl,rfl⟩)))
 by_cases h4 : t=4
 ·subst h4; exact .inr (.inr (.inr (.inr (.inl ⟨rfl,rfl,rfl⟩))))
 rw [if_neg h0,if_neg h1,if_neg h2,if_neg h3,if_neg h4,if_neg h0,if_neg h1,if_neg h2,if_neg h3,if_neg h4]
 exact .inr (.inr (.inr (.inr (.inr ⟨by omega,rfl,rfl⟩))))
theorem a5m (t : Int) : d7 (eS t)=H8 t:=by
 rcases dB t with ⟨-,e,e'⟩ | ⟨-,e,e'⟩ | ⟨-,e,e'⟩ | ⟨-,e,e'⟩ | ⟨-,e,e'⟩ | ⟨-,e,e'⟩ <;> rw [e,e'] <;> rfl
theorem a3b (t d : Int) (hd : d≤100) : d5 (eS t) d=true:=by
 have h : ∀ (k n : Int) (s : List UInt8),(o2 k 0 && x9 k s && aZ k n)=true→d5 (mkN k s n [] 0) d=true:=fun k n s h => by
  unfold mkN
  rw [d5,m7,Bool.and_true,decide_eq_true hd,Bool.true_and]
  exact h
 rcases dB t with ⟨-,e,-⟩ | ⟨-,e,-⟩ | ⟨-,e,-⟩ | ⟨-,e,-⟩ | ⟨-,e,-⟩ | ⟨-,e,-⟩ <;> rw [e] <;> exact h _ _ _ (by decide +kernel)
theorem jM (t : Int) : (H8 t).length≤4:=by
 rcases dB t with ⟨-,-,e⟩ | ⟨-,-,e⟩ | ⟨-,-,e⟩ | ⟨-,-,e⟩ | ⟨-,-,e⟩ | ⟨-,-,e⟩ <;> rw [e] <;> decide
def nC (d : Sch) : Nd:=if d.params.length=0 then mkN 10 d.name 0 [] 0 else mkN 11 d.name 0 (d.params.map eS) 0
def iE (d : Sch) : List UInt8:=d.name ++ if d.params.length=0 then [] else U4 (d.params.map H8)
theorem yT (d : Sch) : d7 (nC d)=iE d:=by
 unfold nC iE
 split
 ·rw [List.append_nil]; unfold mkN; rw [d7,p8]; rfl
 ·unfold mkN
  rw [d7,fO,List.map_map]
  show d.name ++ U4 (((d.params.map ((fun k => (k.kind,d7 k)) ∘ eS))).map (·.2))=_
  rw [List.map_map]
  congr 2
  exact List.map_congr_left fun t _ => a5m t
theorem tH {d : Sch} (h : O8 d=true) : d5 (nC d) 1=true:=by
 unfold O8 at h
 simp only [Bool.and_eq_true,decide_eq_true_eq] at h
 have ha:=a5W h.1.1.1
 have h8:=h.1.2
 unfold nC
 split
 ·unfold mkN
  rw [d5,m7,Bool.and_true]
  show (true && true && x9 10 d.name && true)=true
  rw [show x9 10 d.name=eX d.name from rfl,ha]; rfl
 ·unfold mkN
  rw [d5,Z3,show x9 11 (⟨d.name.toArray⟩ : ByteArray).data.toList=eX d.name from rfl,ha,show o2 11 (d.params.map eS).length=true by rw [List.length_map]; show (decide (1≤_) && decide (_≤8))=true; rw [decide_eq_true (by omega),decide_eq_true h8]; rfl]
  show (true && ((d.params.map eS).all fun k => d5 k (1 + 1)))=true
  rw [Bool.true_and,List.all_eq_true]
  intro k hk
  obtain ⟨t,-,rfl⟩:=List.mem_map.1 hk
  exact a3b t _ (by decide)
def Su (bs : List UInt8) (m : Nat) (rest : List UInt8) : Prop:=∀ (pos : Int) (k : Nat),k + m≤8192→(∀ p,∃ l,q7 rest p (k + m) 0=.ok l)→∃ l,q7 (bs ++ rest) pos k 0=.ok l
theorem Su.app {a b r : List UInt8} {m n : Nat} (h : Su a m (b ++ r)) (h' : Su b n r) : Su (a ++ b) (m + n) r:=fun pos k hk hr => by
 rw [List.append_assoc]
 exact h pos k (by omega) fun p => h' p (k + m) (by omega) fun q => by rw [Nat.add_assoc]; exact hr q
theorem Su.blank {c : UInt8} (h : c.toNat≤32) (r : List UInt8) : Su [c] 0 r:=fun pos k _ hr => by
 show ∃ l,q7 (c :: r) pos k 0=.ok l
 rw [jF h]; exact hr _
theorem Su.tok {c : UInt8} {r rest : List UInt8} (hc : ¬ c.toNat≤32) (hc' : c≠35) (ht : ∀ pos,∃ t,X6 c (r ++ rest) pos=.ok (t,r.length + 1)) : Su (c :: r) 1 rest:=fun pos k hk hr => by
 obtain ⟨t,ht⟩:=ht pos
 rw [List.cons_append,nU hc hc' ht (by omega),show (c :: (r ++ rest)).drop (r.length + 1)=rest by simp]
 obtain ⟨l,hl⟩:=hr (pos + ((r.length + 1 : Nat) : Int))
 rw [hl]; exact ⟨_,rfl⟩
theorem uE {c : UInt8} (hc : c∈cG) (h60 : c≠60) (rest : List UInt8) : Su [c] 1 rest:=by
 obtain ⟨⟨h1,h2⟩,⟨h3,h4⟩,h5,h6,h7⟩:=wW c hc
 refine Su.tok h5 h6 fun pos => ⟨⟨8,[c],0,pos⟩,?_⟩
 rw [List.nil_append]
 unfold X6 iJ
 rw [if_neg (by rw [h1]; decide),if_neg (by rw [h2]; decide),if_neg h3,if_neg (by rw [h4]; decide),if_neg (fun e => h60 e.1),if_pos h7]
 rfl
theorem kE {s rest : List UInt8} (h : p6 s=true) (hr : brk rest) : Su s 1 rest:=by
 have hsp:=kF h (a0Z hr)
 have h46:=pY hr
 obtain ⟨c,t,rfl,hc,ht,hl⟩:=bC h
 refine Su.tok (bB c hc).1 (bB c hc).2 fun pos => ⟨⟨if X3 (c :: t)=true then 2 else 1,c :: t,0,pos⟩,?_⟩
 unfold X6
 rw [if_pos hc]
 unfold bH
 rw [← List.cons_append,hsp]
 simp only [aB,List.take_left']
 rw [if_neg h46,if_neg (by omega)]
 rfl
theorem a6t {r : List UInt8} (h : brk r) : O6 (r.headD 0)=true:=by
 cases r with
 | nil => rfl
 | cons c l =>
   have:=R8 (p:=fun c => fZ c || O6 c) (by decide +kernel) c
   rw [h c l rfl,Bool.false_or] at this
   exact this
theorem a4L {c : UInt8} (n : Nat) (he : I9 n=[c]) (hd : dgC c=true) (h45 : c≠45) (v : Int) (hv : jO [c]=some v) {rest : List UInt8} (hr : brk rest) : Su [c] 1 rest:=by
 have hR:=rV n hr
 have hD:=a1y (n:=n) (rest:=rest) (by rw [he]; intro h; exact h45 (List.mem_singleton.1 h).symm) hr
 rw [he] at hR hD
 refine Su.tok (cD c hd).1 (cD c hd).2.1 fun pos => ⟨⟨6,[],v,pos⟩,?_⟩
 unfold X6
 rw [if_neg (by rw [(cD c hd).2.2]; decide),if_pos hd]
 unfold aA
 replace hD : U3 (c :: ([] ++ rest))=false:=hD
 replace hR : dH (c :: ([] ++ rest))=1:=hR
 rw [hD,if_neg (by decide),hR]
 show (match jO [c] with
  | none => .error 72
  | some v => if O6 (rest.headD 0)=true then .ok (⟨6,[],v,pos⟩,1) else .error 72 : Except Int (Tk × Nat))=_
 rw [hv]
 show (if O6 (rest.headD 0)=true then .ok (⟨6,[],v,pos⟩,1) else .error 72 : Except Int (Tk × Nat))=_
 rw [if_pos (a6t hr)]
 rfl
theorem a79 {rest : List UInt8} (hr : brk rest) : Su [69,85,82] 1 rest:=by
 refine Su.tok (by decide) (by decide) fun pos => ⟨⟨4,[69,85,82],0,pos⟩,?_⟩
 unfold X6
 rw [if_neg (by decide),if_neg (by decide),if_neg (by decide),if_pos (by decide)]
 unfold a3p
 have : a3D (69 :: ([85,82] ++ rest))=3:=by
  show ((([69,85,82] : List UInt8) ++ rest).takeWhile grC).length=3
  rw [H9 (by decide) fun c l e => (dF c (hr c l e)).2.2.2]
  rfl
 rw [this,if_pos rfl]
 rfl
theorem a5k (t : Int) {rest : List UInt8} (hr : brk rest) : Su (H8 t) 1 rest:=by
 rcases dB t with ⟨-,-,e⟩ | ⟨-,-,e⟩ | ⟨-,-,e⟩ | ⟨-,-,e⟩ | ⟨-,-,e⟩ | ⟨-,-,e⟩ <;> rw [e]
 ·exact a4L 1000000 (by decide +kernel) (by decide) (by decide) 1000000 (by decide +kernel) hr
 ·exact kE (by decide +kernel) hr
 ·exact kE (by decide +kernel) hr
 ·exact a79 hr
 ·exact kE (by decide +kernel) hr
 ·exact a4L 2000000 (by decide +kernel) (by decide) (by decide) 2000000 (by decide +kernel) hr
theorem sM (l : List (List UInt8)) (rest : List UInt8) : brk ((J5 l ++ [41]) ++ rest):=by
 cases l with
 | nil => exact q9 (c:=41) rfl _
 | cons f r => exact q9 (c:=44) rfl _
theorem xM : ∀ (l : List Int) (rest : List UInt8),Su (J5 (l.map H8) ++ [41]) (2 * l.length + 1) rest
 | [],rest => uE (by decide) (by decide) rest
 | t :: l,rest => by
   have h:=Su.app (uE (c:=44) (by decide) (by decide) _) (Su.app (Su.blank (c:=32) (by decide) _) (Su.app (a5k t (sM (l.map H8) rest)) (xM l rest)))
   rw [List.map_cons,J5]
   have e : [44] ++ ([32] ++ (H8 t ++ (J5 (l.map H8) ++ [41])))=[44,32] ++ H8 t ++ J5 (l.map H8) ++ [41]:=by simp
   have e2 : 1 + (0 + (1 + (2 * l.length + 1)))=2 * (t :: l).length + 1:=by rw [List.length_cons]; omega
   rw [← e,← e2]
   exact h
theorem tO : ∀ l : List Int,(J5 (l.map H8)).length≤6 * l.length
 | [] => Nat.zero_le _
 | t :: l => by
   have h1:=tO l
   have h2:=jM t
   rw [List.map_cons,J5]
   simp only [List.length_append,List.length_cons,List.length_nil]
   omega
theorem a1q {d : Sch} (h : O8 d=true) : (iE d).length≤100:=by
 unfold O8 at h
 simp only [Bool.and_eq_true,decide_eq_true_eq] at h
 have h1:=s5 h.1.1.1
 have h8:=h.1.2
 unfold iE
 split
 ·rw [List.append_nil]; omega
 ·cases hp : d.params with
  | nil => rename_i h9; rw [hp] at h9; exact absurd rfl h9
  | cons t l =>
    rw [hp,List.length_cons] at h8
    have h2:=tO l
    have h3:=jM t
    rw [List.map_cons,U4]
    simp only [List.length_append,List.length_cons,List.length_nil]
    omega
theorem a4r {d : Sch} (h : O8 d=true) : ∃ l,Q6 (iE d)=.ok l:=by
 have hn : p6 d.name=true:=by
  unfold O8 l9 at h
  simp only [Bool.and_eq_true] at h
  exact h.1.1.1.1
 have hl:=a1q h
 have hp : d.params.length≤8:=by
  unfold O8 at h
  simp only [Bool.and_eq_true,decide_eq_true_eq] at h
  exact h.1.2
 have hfin : ∀ (m : Nat) (p : Int),∃ l,q7 [] p m 0=.ok l:=fun m p => ⟨_,rfl⟩
 have key : ∃ m,m≤20∧Su (iE d) m []:=by
  unfold iE
  split
  ·refine ⟨1,by decide,?_⟩
   rw [List.append_nil]
   exact kE hn a1m
  ·cases hps : d.params with
   | nil => rename_i h9; rw [hps] at h9; exact absurd rfl h9
   | cons t l =>
     rw [hps,List.length_cons] at hp
     refine ⟨1 + (1 + (1 + (2 * l.length + 1))),by omega,?_⟩
     have h2:=Su.app (uE (c:=40) (by decide) (by decide) _) (Su.app (a5k t (sM (l.map H8) [])) (xM l []))
     have e : U4 ((t :: l).map H8)=[40] ++ (H8 t ++ (J5 (l.map H8) ++ [41])):=by rw [List.map_cons,U4]; simp
     rw [e]
     exact Su.app (kE hn (q9 (c:=40) rfl _)) h2
 obtain ⟨m,hm,hs⟩:=key
 obtain ⟨l,hsl⟩:=hs 0 0 (by omega) (hfin _)
 rw [List.append_nil] at hsl
 refine ⟨l,?_⟩
 unfold Q6
 rw [if_neg (by omega)]
 exact hsl
theorem a2E {d : Sch} (h : O8 d=true) : ∃ u,mE (iE d)=.ok u∧fW u (nC d)=true:=by
 obtain ⟨l,hl⟩:=a4r h
 have:=a2Z (tH h) (l:=l) (by rw [yT]; exact hl)
 rw [yT] at this
 exact this
theorem zB {E : Env7} {kind p p' : Int} {s : List UInt8} {k : Nat} {S : List Int} {x : (List Int × Int) × List Int} (h : R7 E kind s k p S=.ok x) : R7 E kind s k p' S=.ok x:=by
 unfold R7 at h ⊢
 split at h
 ·rename_i c; rw [if_pos c]; exact h
 rename_i c; rw [if_neg c]
 split at h
 ·rename_i c; rw [if_pos c]; exact h
 rename_i c; rw [if_neg c]
 split at h
 ·rename_i c; rw [if_pos c]; exact h
 rename_i c; rw [if_neg c]
 split at h
 ·rename_i c; rw [if_pos c]; exact h
 rename_i c; rw [if_neg c]
 split at h
 ·rename_i c; rw [if_pos c]; exact h
 rename_i c; rw [if_neg c]
 split at h
 ·rename_i c; rw [if_pos c]; exact h
 rename_i c; rw [if_neg c]
 split at h
 ·rename_i c; rw [if_pos c]; exact h
 rename_i c; rw [if_neg c]
 split at h
 ·rename_i c; rw [if_pos c]; exact h
 rename_i c; rw [if_neg c]
 cases hp : aM E s with
 | some t =>
   rw [hp] at h
   simp only at h ⊢
   split at h
   ·rename_i c; rw [if_pos c]; exact h
   ·cases h
 | none =>
   rw [hp] at h
   simp only at h ⊢
   cases hm : y5 E s with
   | none => rw [hm] at h; cases h
   | some d =>
     rw [hm] at h
     simp only at h ⊢
     split at h
     ·rename_i c; rw [if_pos c]; exact h
     ·cases h
mutual
theorem tQ {E : Env7} : ∀ (t u : Nd) (S : List Int) (x : Int × List Int),fW t u=true→g9 E u S=.ok x→g9 E t S=.ok x
 | .mk k s n ks p,.mk k' s' n' ks' p',S,x,hs,h => by
   rw [fW] at hs
   simp only [Nd.kind,Nd.text,Nd.n,Nd.kids,Bool.and_eq_true,beq_iff_eq] at hs
   obtain ⟨⟨⟨rfl,hs2⟩,-⟩,hk⟩:=hs
   rw [Lib.toList_data,Lib.toList_data] at hs2
   rw [g9] at h ⊢
   obtain ⟨l,S1⟩:=x
   obtain ⟨lr,S2,h1,h2⟩:=cP h
   obtain ⟨u1,S3,h3,h4⟩:=cP h2
   rw [hs2,iF _ _ hk,zB h1]
   show ((l8 E ks lr.1 S2).then fun _ S => .ok (lr.2,S))=_
   rw [qQ ks ks' _ _ _ hk h3]
   exact h4
theorem qQ {E : Env7} : ∀ (ts us : List Nd) (l S : List Int) (x : Unit × List Int),Y3 ts us=true→l8 E us l S=.ok x→l8 E ts l S=.ok x
 | [],us,l,S,x,hs,h => by
   rw [Y3,List.isEmpty_iff] at hs
   subst hs
   exact h
 | t :: ts,[],l,S,x,hs,h => by rw [Y3] at hs; cases hs
 | t :: ts,u :: us,l,S,x,hs,h => by
   rw [Y3,Bool.and_eq_true] at hs
   rw [l8] at h ⊢
   obtain ⟨x,S'⟩:=x
   obtain ⟨a,S1,h1,h2⟩:=cP h
   rw [tQ t u _ _ hs.1 h1]
   show (match aT S1 a (l.headD 0) with
    | none => (Except.error (115,t.place) : Ty Unit)
    | some S => l8 E ts l.tail S)=_
   cases hu : aT S1 a (l.headD 0) with
   | none => rw [hu] at h2; cases h2
   | some S2 =>
     rw [hu] at h2
     exact qQ ts us _ _ _ hs.2 h2
end
def lkT (m : List (Int × Int)) (t : Int) : Int:=if t<5 then t else (m.lookup t).getD 0
structure OwnM (m : List (Int × Int)) (n : Nat) : Prop where
 range : ∀ t x,m.lookup t=some x→∃ i : Nat,i<n∧x=5 + (i : Int)
 inj : ∀ t t' x,m.lookup t=some x→m.lookup t'=some x→t=t'
 low : ∀ t x,m.lookup t=some x→5≤t
theorem kJ : ∀ (ts : List Int) (m : List (Int × Int)) (n : Nat),OwnM m n→∃ m' n',p5 ts m (l7 n)=(ts.map (lkT m'),l7 n')∧(∀ t x,m.lookup t=some x→m'.lookup t=some x)∧OwnM m' n'∧∀ t∈ts,¬ t<5→∃ x,m'.lookup t=some x
 | [],m,n,h => ⟨m,n,by rw [p5]; rfl,fun _ _ h => h,h,fun t ht => (List.not_mem_nil ht).elim⟩
 | t :: ts,m,n,h => by
   rw [p5]
   by_cases h5 : t<5
   ·obtain ⟨m',n',e1,e2,e3,e4⟩:=kJ ts m n h
    refine ⟨m',n',?_,e2,e3,fun x hx hx5 => ?_⟩
    ·rw [if_pos h5,e1,List.map_cons]
     unfold lkT
     rw [if_pos h5]
    ·rcases List.mem_cons.1 hx with rfl | hx
     ·exact absurd h5 hx5
     ·exact e4 x hx hx5
   ·rw [if_neg h5]
    cases hl : m.lookup t with
    | some y =>
      obtain ⟨m',n',e1,e2,e3,e4⟩:=kJ ts m n h
      refine ⟨m',n',?_,e2,e3,fun x hx hx5 => ?_⟩
      ·simp only []
       rw [e1,List.map_cons]
       have : lkT m' t=y:=by unfold lkT; rw [if_neg h5,e2 t y hl]; rfl
       rw [this]
      ·rcases List.mem_cons.1 hx with rfl | hx
       ·exact ⟨y,e2 _ y hl⟩
       ·exact e4 x hx hx5
    | none =>
      have hlk : ∀ x y,((t,5 + (n : Int)) :: m).lookup x=some y↔(x=t∧y=5 + (n : Int))∨(x≠t∧m.lookup x=some y):=fun x y => by
       rw [List.lookup_cons]
       by_cases hx : x=t
       ·subst hx
        simp [eq_comm]
       ·have : (x == t)=false:=beq_eq_false_iff_ne.2 hx
        rw [this]
        simp [hx]
      have hm : OwnM ((t,5 + (n : Int)) :: m) (n + 1):=by
       refine ⟨fun x y hxy => ?_,fun x x' y hxy hxy' => ?_,fun x y hxy => ?_⟩
       ·rcases (hlk x y).1 hxy with ⟨-,rfl⟩ | ⟨-,h2⟩
        ·exact ⟨n,by omega,rfl⟩
        ·obtain ⟨i,hi,e⟩:=h.range x y h2
         exact ⟨i,by omega,e⟩
       ·rcases (hlk x y).1 hxy with ⟨rfl,rfl⟩ | ⟨hx,h2⟩
        ·rcases (hlk x' _).1 hxy' with ⟨rfl,-⟩ | ⟨-,h3⟩
         ·rfl
         ·obtain ⟨i,hi,e⟩:=h.range x' _ h3
          omega
        ·rcases (hlk x' y).1 hxy' with ⟨rfl,rfl⟩ | ⟨-,h3⟩
         ·obtain ⟨i,hi,e⟩:=h.range x _ h2
          omega
         ·exact h.inj x x' y h2 h3
       ·rcases (hlk x y).1 hxy with ⟨rfl,-⟩ | ⟨-,h2⟩
        ·omega
        ·exact h.low x y h2
      obtain ⟨m',n',e1,e2,e3,e4⟩:=kJ ts ((t,5 + (n : Int)) :: m) (n + 1) hm
      have et:=e2 t _ ((hlk t (5 + (n : Int))).2 (.inl ⟨rfl,rfl⟩))
      refine ⟨m',n',?_,fun x y hxy => e2 x y ((hlk x y).2 (.inr ⟨fun e => (by subst e; rw [hl] at hxy; cases hxy),hxy⟩)),e3,fun x hx hx5 => ?_⟩
      ·simp only [U2,vD]
       rw [e1,List.map_cons]
       have : lkT m' t=5 + (n : Int):=by unfold lkT; rw [if_neg h5,et]; rfl
       rw [this]
      ·rcases List.mem_cons.1 hx with rfl | hx
       ·exact ⟨_,et⟩
       ·exact e4 x hx hx5
def StT (m : List (Int × Int)) (n : Nat) (seen : Int→Prop) (S : List Int) : Prop:=S.length=n∧∀ t x,m.lookup t=some x→(seen t→j6 S x=0)∧(¬ seen t→j6 S x=x)
theorem a3O (l r : List Sch) (s : List UInt8) : i8 (l ++ r) s=(i8 l s).or (i8 r s):=by unfold i8; exact List.find?_append
theorem a4m {E : Env7} (hp : E.params=[]) (h1 : i8 E.defs vN=none) (h2 : i8 E.defs jU=none) (t : Int) (h0 : 0≤t) (S : List Int) : g9 E (eS t) S=.ok (if t<5 then t else 0,S):=by
 have hpar : ∀ s,aM E s=none:=fun s => by unfold aM; rw [hp]; rfl
 have hm : ∀ s,(∀ j (hj : j<s.length),s[j]≠46)→i8 E.defs s=none→y5 E s=i8 m5 s:=fun s h h' => by rw [lY h,h']; rfl
 have leaf : ∀ (k n : Int) (s : List UInt8) (r : Int) (S' : List Int),R7 E k s 0 0 S=.ok (([],r),S')→g9 E (mkN k s n [] 0) S=.ok (r,S'):=fun k n s r S' h => by
  unfold mkN
  rw [g9]
  show ((R7 E k s 0 0 S).then fun l S => (l8 E [] l.1 S).then fun _ S => .ok (l.2,S))=_
  rw [h]
  show ((l8 E [] [] S').then fun _ S => .ok (r,S))=_
  rw [l8]
  rfl
 have name : ∀ (s : List UInt8) (r : Int),y5 E s=some ⟨s,[],r⟩→r<5→R7 E 10 s 0 0 S=.ok (([],r),S):=fun s r hs hr => by
  unfold R7
  rw [if_neg (by decide),if_neg (by decide),if_neg (by decide),if_neg (by decide),if_neg (by decide),if_neg (by decide),if_neg (by decide),if_neg (by decide),hpar,hs]
  show Except.ok (((p5 [r] [] S).1.dropLast,(p5 [r] [] S).1.getLastD 0),(p5 [r] [] S).2)=_
  rw [p5,if_pos hr,p5]
  rfl
 rcases dB t with ⟨rfl,e,-⟩ | ⟨rfl,e,-⟩ | ⟨rfl,e,-⟩ | ⟨rfl,e,-⟩ | ⟨rfl,e,-⟩ | ⟨h5,e,-⟩ <;> rw [e]
 ·exact leaf _ _ _ _ _ rfl
 ·exact leaf _ _ _ _ _ rfl
 ·refine leaf _ _ _ _ _ (name _ 2 ?_ (by decide))
  rw [hm _ (by decide) h1]
  rfl
 ·exact leaf _ _ _ _ _ rfl
 ·refine leaf _ _ _ _ _ (name _ 4 ?_ (by decide))
  rw [hm _ (by decide) h2]
  rfl
 ·rw [if_neg (by omega)]
  exact leaf _ _ _ _ _ rfl
theorem rN {E : Env7} (hp : E.params=[]) (h1 : i8 E.defs vN=none) (h2 : i8 E.defs jU=none) {m : List (Int × Int)} {n : Nat} (hm : OwnM m n) : ∀ (ts : List Int) (seen : Int→Prop) (S : List Int),(∀ t∈ts,0≤t)→(∀ t∈ts,¬ t<5→∃ x,m.lookup t=some x)→StT m n seen S →
 ∃ S',l8 E (ts.map eS) (ts.map (lkT m)) S=.ok ((),S')∧StT m n (fun t => seen t∨t∈ts) S'
 | [],seen,S,_,_,h => ⟨S,by rw [List.map_nil,l8],h.1,fun t x hx => ⟨fun hs => (h.2 t x hx).1 (hs.resolve_right List.not_mem_nil),fun hs => (h.2 t x hx).2 fun h => hs (.inl h)⟩⟩
 | t :: ts,seen,S,h0,hl,h => by
   rw [List.map_cons,List.map_cons,l8,a4m hp h1 h2 t (h0 t (List.mem_cons_self ..)) S]
   have key : ∃ S1,aT S (if t<5 then t else 0) (lkT m t)=some S1∧StT m n (fun x => seen x∨x=t) S1:=by
    by_cases h5 : t<5
    ·refine ⟨S,?_,h.1,fun t' x hx => ⟨fun hs => ?_,fun hs => (h.2 t' x hx).2 fun h => hs (.inl h)⟩⟩
     ·unfold lkT aT
      rw [if_pos h5,if_pos h5,if_pos rfl]
     ·rcases hs with hs | rfl
      ·exact (h.2 t' x hx).1 hs
      ·have:=hm.low _ _ hx
       omega
    ·obtain ⟨x,hx⟩:=hl t (List.mem_cons_self ..) h5
     obtain ⟨i,hi,hxi⟩:=hm.range t x hx
     have elk : lkT m t=x:=by unfold lkT; rw [if_neg h5,hx]; rfl
     have e0 : j6 S 0=0:=rfl
     rw [if_neg h5,elk]
     by_cases hse : seen t
     ·refine ⟨S,?_,h.1,fun t' y hy => ⟨fun hs => ?_,fun hs => (h.2 t' y hy).2 fun h => hs (.inl h)⟩⟩
      ·unfold aT
       rw [e0,(h.2 t x hx).1 hse,if_pos rfl]
      ·rcases hs with hs | rfl
       ·exact (h.2 t' y hy).1 hs
       ·exact (h.2 _ y hy).1 hse
     ·have hrx:=(h.2 t x hx).2 hse
      refine ⟨mU S x 0,?_,?_,fun t' y hy => ?_⟩
      ·unfold aT
       rw [e0,hrx,if_neg (by omega),if_neg (by decide),if_pos (by omega)]
      ·rw [kG]; exact h.1
      ·obtain ⟨i',hi',hyi⟩:=hm.range t' y hy
       have hv : bI S y:=⟨by omega,by rw [h.1]; omega⟩
       rw [oS (by omega) hv]
       refine ⟨fun hs => ?_,fun hs => ?_⟩
       ·rcases hs with hs | rfl
        ·rw [(h.2 t' y hy).1 hs]
         split <;> rfl
        ·rw [hx] at hy
         cases hy
         rw [if_pos hrx]
       ·have hns : ¬ seen t':=fun h => hs (.inl h)
        rw [(h.2 t' y hy).2 hns,if_neg fun e => hs (.inr (hm.inj t' t y hy (by rw [e]; exact hx)))]
   obtain ⟨S1,k1,k2⟩:=key
   obtain ⟨S',r1,r2⟩:=rN hp h1 h2 hm ts _ S1 (fun x hx => h0 x (List.mem_cons_of_mem _ hx)) (fun x hx => hl x (List.mem_cons_of_mem _ hx)) k2
   refine ⟨S',?_,r2.1,fun t' x hx => ⟨fun hs => (r2.2 t' x hx).1 ?_,fun hs => (r2.2 t' x hx).2 ?_⟩⟩
   ·show (match aT S (if t<5 then t else 0) (lkT m t) with
     | none => (Except.error (115,(eS t).place) : Ty Unit)
     | some S => l8 E (ts.map eS) (ts.map (lkT m)) S)=_
    rw [k1]
    exact r1
   ·rcases hs with hs | hs
    ·exact .inl (.inl hs)
    ·rcases List.mem_cons.1 hs with rfl | hs
     ·exact .inl (.inr rfl)
     ·exact .inr hs
   ·intro hs'
    rcases hs' with (hs' | rfl) | hs'
    ·exact hs (.inl hs')
    ·exact hs (.inr (List.mem_cons_self ..))
    ·exact hs (.inr (List.mem_cons_of_mem _ hs'))
end Go.Proofs.YteefedkmgnepmaaGreatDoor
