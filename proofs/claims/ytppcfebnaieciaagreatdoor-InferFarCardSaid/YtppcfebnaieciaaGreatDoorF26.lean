/-
  Laws that the proof rests on.
-/
import Derived.Test.YtppcfebnaieciaaGreatDoorF25
import Derived.Test.YtppcfebnaieciaaGreatDoorF07
import Derived.Test.YtppcfebnaieciaaGreatDoorF02
import Derived.Test.YtppcfebnaieciaaGreatDoorF12
import Derived.Test.YtppcfebnaieciaaGreatDoorF21
import Derived.Test.YtppcfebnaieciaaGreatDoorF20
import Derived.Test.YtppcfebnaieciaaGreatDoorF16
namespace Go.Proofs.YtppcfebnaieciaaGreatDoor
set_option maxRecDepth 100000
set_option maxHeartbeats 16000000
section
open Go.RowKit
structure TkG (t : Tk) : Prop where
 n : -1000000000000000≤t.n∧t.n≤1000000000000000
 len : t.text.length≤49
 z : TkZ t
theorem X8 {k n p : Int} {s : List UInt8} (h8 : k≠8) (h2 : k≠2) (h4 : k=4→n=0) (hn : -1000000000000000≤n∧n≤1000000000000000) (hs : s.length≤49) : TkG ⟨k,s,n,p⟩ :=
 ⟨hn,hs,⟨fun h => by rcases h with h | h; exact h4 h; exact absurd h h2,fun h => absurd h h8,fun h => absurd h h2⟩⟩
theorem rQ {s : List UInt8} {p : Int} (hs : s.length≤2) : TkG ⟨8,s,0,p⟩ :=
 ⟨⟨by show (-1000000000000000 : Int)≤0; decide,by show (0 : Int)≤1000000000000000; decide⟩,by show s.length≤49; omega,⟨fun _ => rfl,fun _ => ⟨fun e => by (have : s=fW:=e); subst this; exact absurd hs (by decide),fun e => by (have : s=cZ:=e); subst this; exact absurd hs (by decide),fun e => by (have : s=gU:=e); subst this; exact absurd hs (by decide),fun e => by (have : s=gL:=e); subst this; exact absurd hs (by decide)⟩,fun h => absurd h (by show ¬ (8 : Int)=2; decide)⟩⟩
theorem a0j (c : UInt8) (h : smC c=true) : c≠40:=by
 rintro rfl; exact absurd h (by decide)
theorem vK {c : UInt8} {r : List UInt8} {pos : Int} {t : Tk} {n : Nat} (hc : smC c=true) (h : cC (c :: r) pos=.ok (t,n)) : TkG t∧t.pos=pos:=by
 unfold cC at h
 simp only at h
 have h1 : 1≤x9 (c :: r):=by show 1≤(if smC c=true then 1 + (r.takeWhile inC).length else 0); rw [if_pos hc]; omega
 obtain ⟨m,hm⟩ : ∃ m,x9 (c :: r)=m + 1:=⟨x9 (c :: r) - 1,by omega⟩
 split at h
 ·split at h
  ·cases h
  ·rename_i hq
   cases h
   refine ⟨X8 (by decide) (by decide) (fun e => rfl) (by decide) ?_,rfl⟩
   rw [List.length_append,List.length_cons]
   have a1:=List.length_take_le (x9 (c :: r)) (c :: r)
   have a2:=List.length_take_le (x9 ((c :: r).drop (x9 (c :: r) + 1))) ((c :: r).drop (x9 (c :: r) + 1))
   omega
 ·split at h
  ·cases h
  ·rename_i hq
   cases h
   have hl : ((c :: r).take (x9 (c :: r))).length≤49:=by
    have a1:=List.length_take_le (x9 (c :: r)) (c :: r)
    omega
   split
   ·refine ⟨⟨by show (-1000000000000000 : Int)≤0∧(0 : Int)≤1000000000000000; decide,hl,⟨fun _ => rfl,fun e => absurd e (by show ¬ (2 : Int)=8; decide),fun _ e => ?_⟩⟩,rfl⟩
    replace e : (c :: r).take (x9 (c :: r))=[40]:=e
    rw [hm,List.take_succ_cons] at e
    exact a0j c hc (List.cons.inj e).1
   ·exact ⟨X8 (by decide) (by decide) (fun e => rfl) (by decide) hl,rfl⟩
theorem tH {l : List UInt8} {v : Int} (h : aP l=some v) : 0≤v:=by
 unfold aP at h
 simp only at h
 split at h
 ·rename_i hq
  cases h
  obtain ⟨h1,h2,h3,h4⟩:=hq
  have hw : (l.takeWhile dgC).all dgC=true:=List.all_takeWhile
  have ht : (l.drop (l.takeWhile dgC).length).tail.all dgC=true:=by
   cases hd : l.drop (l.takeWhile dgC).length with
   | nil => rfl
   | cons c p =>
     rw [hd] at h4
     unfold bY at h4
     simp only [Bool.and_eq_true] at h4
     exact h4.2.2
  refine (fH (n:=(l.takeWhile dgC ++ (l.drop (l.takeWhile dgC).length).tail ++ List.replicate (6 - (l.drop (l.takeWhile dgC).length).tail.length) 48).length) ?_ (Nat.le_refl _)).1
  rw [List.all_append,List.all_append,hw,ht,List.all_eq_true.2 fun x hx => by rw [List.eq_of_mem_replicate hx]; rfl]
  rfl
 ·cases h
theorem a4p {l : List UInt8} {v : Int} (h : nG l=some v) : -1000000000000000≤v∧v≤1000000000000000:=by
 unfold nG at h
 split at h
 ·split at h
  ·rename_i n hn
   have:=tH hn
   split at h
   ·cases h
   ·cases h; omega
  ·cases h
 ·split at h
  ·rename_i n hn
   have:=tH hn
   split at h
   ·cases h
   ·cases h; omega
  ·cases h
theorem a4o {l : List UInt8} {v : Int} (h : vS l=some v) : 0≤v∧v≤73048:=by
 unfold vS at h
 split at h
 ·rename_i hq
  cases h
  exact Cal.num_bd hq.2.2
 ·cases h
theorem a2o {c : UInt8} {r : List UInt8} {pos : Int} {t : Tk} {n : Nat} (h : eB c r pos=.ok (t,n)) : TkG t∧t.pos=pos:=by
 unfold eB at h
 split at h
 ·rename_i hs; exact vK hs h
 split at h
 ·unfold aA at h
  split at h
  ·split at h
   ·cases h
   ·rename_i v hv
    have:=a4o hv
    split at h
    ·cases h; exact ⟨X8 (by decide) (by decide) (fun e => by cases e) (by omega) (by decide),rfl⟩
    ·cases h
  ·split at h
   ·cases h
   ·rename_i v hv
    have:=a4p hv
    split at h
    ·cases h; exact ⟨X8 (by decide) (by decide) (fun e => by cases e) (by omega) (by decide),rfl⟩
    ·cases h
 split at h
 ·unfold cM at h
  split at h
  ·cases h
  ·split at h
   ·rename_i hn
    cases h
    obtain ⟨c,r,-,-,-,hl⟩:=kW hn
    exact ⟨X8 (by decide) (by decide) (fun e => by cases e) (by decide) (by omega),rfl⟩
   ·cases h
 split at h
 ·unfold a3o at h
  split at h
  ·cases h
   refine ⟨X8 (by decide) (by decide) (fun e => rfl) (by decide) ?_,rfl⟩
   have:=List.length_take_le 3 (c :: r)
   omega
  ·cases h
 ·unfold mH at h
  split at h
  ·cases h; exact ⟨rQ (by decide),rfl⟩
  ·split at h
   ·cases h; exact ⟨rQ (by show [c].length≤2; simp),rfl⟩
   ·cases h
theorem bJ.cons {t : Tk} {ts : List Tk} (h : bJ ts) (hne : ts≠[]) : bJ (t :: ts):=by
 intro j hj hk
 have hp:=List.length_pos_iff.2 hne
 cases j with
 | zero => rw [List.length_cons]; omega
 | succ j =>
   have:=h j (by rw [List.length_cons] at hj; omega) hk
   rw [List.length_cons]; omega
theorem eM : ∀ (l : List UInt8) (pos : Int) (k s : Nat) (ts : List Tk),v8 l pos k s=.ok ts→(∀ t∈ts,TkG t∧pos≤t.pos∧t.pos≤pos + l.length)∧bJ ts∧ts≠[]
 | [],pos,k,_,ts,h => by
   unfold v8 at h
   cases h
   refine ⟨fun t ht => ?_,fun j hj hk => ?_,by simp⟩
   ·obtain rfl:=List.mem_singleton.1 ht
    exact ⟨X8 (by decide) (by decide) (fun e => rfl) (by decide) (by decide),Int.le_refl _,by simp⟩
   ·have : j=0:=by simp at hj; omega
    subst this; exact absurd (show (0 : Int)=0 from rfl) hk
 | c :: r,pos,k,s + 1,ts,h => by
   unfold v8 at h
   obtain ⟨h1,h2,h3⟩:=eM r (pos + 1) k s ts h
   refine ⟨fun t ht => ?_,h2,h3⟩
   obtain ⟨a,b,d⟩:=h1 t ht
   exact ⟨a,by omega,by rw [List.length_cons]; omega⟩
 | c :: r,pos,k,0,ts,h => by
   have go : ∀ s,v8 r (pos + 1) k s=.ok ts→(∀ t∈ts,TkG t∧pos≤t.pos∧t.pos≤pos + (c :: r).length)∧bJ ts∧ts≠[]:=fun s hs => by
    obtain ⟨h1,h2,h3⟩:=eM r (pos + 1) k s ts hs
    refine ⟨fun t ht => ?_,h2,h3⟩
    obtain ⟨a,b,d⟩:=h1 t ht
    exact ⟨a,by omega,by rw [List.length_cons]; omega⟩
   unfold v8 at h
   split at h
   ·exact go 0 h
   split at h
   ·exact go _ h
   split at h
   ·cases h
   ·rename_i t n ht
    split at h
    ·cases h
    ·rename_i hk
     split at h
     ·cases h
     ·rename_i us hus
      cases h
      obtain ⟨h1,h2,h3⟩:=eM r (pos + 1) (k + 1) _ us hus
      refine ⟨fun u hu => ?_,h2.cons h3,by simp⟩
      rcases List.mem_cons.1 hu with rfl | hu
      ·obtain ⟨a,b⟩:=a2o ht
       exact ⟨a,by omega,by rw [List.length_cons]; omega⟩
      ·obtain ⟨a,b,d⟩:=h1 u hu
       exact ⟨a,by omega,by rw [List.length_cons]; omega⟩
theorem wR {l : List UInt8} {ts : List Tk} (h : aD l=.ok ts) : (∀ t∈ts,bG t)∧(∀ t∈ts,TkZ t)∧bJ ts∧ts≠[]:=by
 unfold aD at h
 split at h
 ·cases h
 ·rename_i hl
  obtain ⟨h1,h2,h3⟩:=eM l 0 0 0 ts h
  refine ⟨fun t ht => ?_,fun t ht => (h1 t ht).1.z,h2,h3⟩
  obtain ⟨⟨hn,hs,-⟩,hp,hq⟩:=h1 t ht
  exact ⟨WalkArith.wf_i64 (by omega),WalkArith.wf_i64 (by omega),by omega⟩
end
section
open Go.RowKit
structure AllC (P g cap : Nat) (ts l : List Tk) : Prop where
 e : CE P g cap ts l
 c : ∀ lv,lv≤3→CC P g cap ts lv l
 n : CN P g cap ts l
 u : CU P g cap ts l
theorem sQ (P g cap : Nat) (ts : List Tk) (he : bJ ts) (htk : ∀ t∈ts,bG t) (htz : ∀ t∈ts,TkZ t) : ∀ (N : Nat) (l : List Tk),l.length<N→AllC P g cap ts l
 | 0,l,h => absurd h (Nat.not_lt_zero _)
 | N + 1,l,h => by
   have ih : ∀ r,r.length<l.length→AllC P g cap ts r:=fun r hr => sQ P g cap ts he htk htz N r (by omega)
   have q : ∀ lv r,lv≤3→AllC P g cap ts r→CL P g cap ts lv r:=fun lv r hlv a => aZ P g cap ts lv hlv r (fun _ => a.c 1 (by decide)) (fun _ => a.n) (fun _ => a.c 3 (by decide)) (fun _ => a.u)
   have hA:=a07 P g cap ts he htk htz l fun r hr => (ih r hr).e
   have hU:=wG P g cap ts he htk l hA fun ht => (ih _ (by have:=A9 ht; omega)).u
   have hL3:=aZ P g cap ts 3 (by decide) l (fun h => absurd h (by decide)) (fun h => absurd h (by decide)) (fun h => absurd h (by decide)) (fun _ => hU)
   have hC3:=cX P g cap ts he htk 3 (by decide) l hL3 fun r hr => q 3 r (by decide) (ih r hr)
   have hL2:=aZ P g cap ts 2 (by decide) l (fun h => absurd h (by decide)) (fun h => absurd h (by decide)) (fun _ => hC3) (fun h => absurd h (by decide))
   have hC2:=cX P g cap ts he htk 2 (by decide) l hL2 fun r hr => q 2 r (by decide) (ih r hr)
   have hN:=a2l P g cap ts he htk l hC2 (fun r hr => (ih r hr).c 2 (by decide)) fun ht => (ih _ (by have:=A9 ht; omega)).n
   have hL1:=aZ P g cap ts 1 (by decide) l (fun h => absurd h (by decide)) (fun _ => hN) (fun h => absurd h (by decide)) (fun h => absurd h (by decide))
   have hC1:=cX P g cap ts he htk 1 (by decide) l hL1 fun r hr => q 1 r (by decide) (ih r hr)
   have hL0:=aZ P g cap ts 0 (by decide) l (fun _ => hC1) (fun h => absurd h (by decide)) (fun h => absurd h (by decide)) (fun h => absurd h (by decide))
   have hC0:=cX P g cap ts he htk 0 (by decide) l hL0 fun r hr => q 0 r (by decide) (ih r hr)
   exact ⟨a0F P g cap ts he htk l hC0 fun r hr => (ih r hr).e,fun lv hlv => by
    have hc : lv=0∨lv=1∨lv=2∨lv=3:=by omega
    rcases hc with rfl | rfl | rfl | rfl
    ·exact hC0
    ·exact hC1
    ·exact hC2
    ·exact hC3,hN,hU⟩
theorem a1h (P g cap : Nat) (ts : List Tk) (he : bJ ts) (htk : ∀ t∈ts,bG t) (htz : ∀ t∈ts,TkZ t) (l : List Tk) : CE P g cap ts l:=(sQ P g cap ts he htk htz _ l (Nat.lt_succ_self _)).e
def a5m (x : Rd) : Except (Int × Int) Nd:=match x with
 | .error e => .error e
 | .ok (t,r) => if (hd r).kind=0 then .ok t else .error (74,(hd r).pos)
def kY (x : Except (Int × Int) Nd) (w : World) (e : Ending) (w' : World) : Prop :=
 ∃ (t : Nd) (a : Option Addr) (cp : Nat) (f k : Int),e=.returned (.tuple #[t.val a cp,.int .i64 f,.int .i64 k])∧Below w.heap.size w w'∧match x with
  | .ok u => u=t∧f=0∧k=0∧t.lies (Fr w.heap.size w'.heap.size) w' a cp∧i8 t≤100
  | .error (c,p) => k=c∧f=p∧c≠0
end
theorem a0K (l r : List Sch) (s : List UInt8) : j4 (l ++ r) s=(j4 l s).or (j4 r s):=by unfold j4; exact List.find?_append
def bZz : List UInt8:=[122,122]
theorem xN {s : List UInt8} (h : l3 s=true) : ∀ j (hj : j<s.length),s[j]≠46:=by
 have hn : x8 s=true:=by unfold l3 at h; rw [Bool.and_eq_true] at h; exact h.1
 obtain ⟨c,r,rfl,hc,ht,-⟩:=kW hn
 have h1 : ∀ c,smC c=true→c≠46:=fun c h => by
  have:=fY (p:=fun c => !smC c || c != 46) (by decide +kernel) c
  rw [h] at this
  simpa using this
 have h2 : ∀ c,inC c=true→c≠46:=fun c h => by
  have:=fY (p:=fun c => !inC c || c != 46) (by decide +kernel) c
  rw [h] at this
  simpa using this
 intro j hj
 cases j with
 | zero => exact h1 _ hc
 | succ j => exact h2 _ (List.all_eq_true.1 ht _ (List.getElem_mem _))
theorem a3P {sheets : List Sht} {defs : List Sch} {t : Nd} {d : Sch} (h : Y1 sheets defs t=.ok d) : j4 l6 d.name=none∧j4 defs d.name=none:=by
 unfold Y1 at h
 split at h
 ·cases h
 rename_i hno
 rw [Bool.or_eq_true,not_or] at hno
 have hn : ∀ x : Option Sch,¬ x.isSome=true→x=none:=fun x h => by cases x with
  | none => rfl
  | some _ => exact (h rfl).elim
 cases hp : F7 t.kids.dropLast [] with
 | error e => rw [hp] at h; cases h
 | ok ps =>
   rw [hp] at h
   simp only at h
   cases hty : g9 ⟨sheets,defs,ps⟩ (D6 t) (l5 ps.length) with
   | error e => rw [hty] at h; cases h
   | ok q =>
     rw [hty] at h
     cases h
     exact ⟨hn _ hno.1,hn _ hno.2⟩
theorem oV {own : List UInt8} {all sheets : List Sht} : ∀ (ks : List Nd) (defs ds : List Sch),(∀ k∈ks,k.kind=3)→(∀ d∈defs,j4 defs d.name=some d∧j4 l6 d.name=none)→n6 own all ks sheets defs=.ok ds→∀ d∈ds,j4 ds d.name=some d∧j4 l6 d.name=none
 | [],defs,ds,_,hd,h => by
   rw [n6] at h
   cases h
   exact hd
 | k :: ks,defs,ds,hk,hd,h => by
   rw [n6,if_neg (by rw [hk k (List.mem_cons_self ..)]; decide)] at h
   cases hl : Y1 sheets defs k with
   | error e => rw [hl] at h; cases h
   | ok d =>
     rw [hl] at h
     have hnew:=a3P hl
     refine oV ks (defs ++ [d]) ds (fun x hx => hk x (List.mem_cons_of_mem _ hx)) (fun x hx => ?_) h
     rw [a0K]
     rcases List.mem_append.1 hx with hx | hx
     ·rw [(hd x hx).1]; exact ⟨rfl,(hd x hx).2⟩
     ·obtain rfl:=List.mem_singleton.1 hx
      rw [hnew.2]
      refine ⟨?_,hnew.1⟩
      show j4 [x] x.name=some x
      unfold j4
      simp
theorem oD {own : List UInt8} {all sheets : List Sht} {k : Nd} {d : Sch} : ∀ (ks : List Nd) (defs ds : List Sch),(∀ x∈ks,x.kind=3)→k.kind=3→n6 own all ks sheets defs=.ok ds→Y1 sheets ds k=.ok d→n6 own all (ks ++ [k]) sheets defs=.ok (ds ++ [d])
 | [],defs,ds,_,h3,h,hl => by
   rw [n6] at h
   cases h
   rw [List.nil_append,n6,if_neg (by rw [h3]; decide),hl]
   show n6 own all [] sheets _=_
   rw [n6]
 | x :: ks,defs,ds,hk,h3,h,hl => by
   have hx:=hk x (List.mem_cons_self ..)
   rw [n6,if_neg (by rw [hx]; decide)] at h
   rw [List.cons_append,n6,if_neg (by rw [hx]; decide)]
   cases hlt : Y1 sheets defs x with
   | error e => rw [hlt] at h; cases h
   | ok y =>
     rw [hlt] at h
     exact oD ks _ ds (fun x hx => hk x (List.mem_cons_of_mem _ hx)) h3 h hl
def aH (k : Nat) : List UInt8:=[120,UInt8.ofNat (97 + k / 20),UInt8.ofNat (97 + k % 20)]
def a5N (l : List UInt8) : Nat:=((l.getD 1 0).toNat - 97) * 20 + ((l.getD 2 0).toNat - 97)
theorem eO : ∀ k,k<200→a5N (aH k)=k∧l3 (aH k)=true∧j4 l6 (aH k)=none:=by decide +kernel
theorem a3C {j k : Nat} (hj : j<200) (hk : k<200) (h : aH j=aH k) : j=k:=by rw [← (eO j hj).1,← (eO k hk).1,h]
def U4 (nm : List UInt8) (d : Sch) : List UInt8:=nm ++ [46] ++ d.name
def p5 (nm : List UInt8) (k : Nat) (d : Sch) : Nd:=mkN 3 (aH k) 0 [mkN 10 (U4 nm d) 0 [] 0] 0
def aG (nm : List UInt8) (ds : List Sch) : Nd:=mkN 1 bZz 0 (mkN 2 nm 0 [] 0 :: ds.mapIdx fun k d => p5 nm k d) 0
def dX (ds : List Sch) : List Sch:=ds.mapIdx fun k d => ⟨aH k,[],d.result⟩
structure FarOk (s : Sht) (d : Sch) : Prop where
 found : j4 s.defs d.name=some d
 near : l3 d.name=true
 pars : d.params=[]
 res : d.result<5∨d.result=5
theorem yK {nm : List UInt8} (h : l3 nm=true) (d : Sch) : Lib.cut (U4 nm d) [46]=(nm,d.name,true):=by
 have hi : nm.length<(U4 nm d).length:=by unfold U4; simp
 rw [a5G hi (by unfold U4; simp) (fun j hj h' => by
  have:=xN h j h'
  simp only [U4,List.append_assoc,List.getElem_append_left h']
  exact this)]
 unfold U4
 simp
theorem a2y {s : Sht} {d : Sch} {defs : List Sch} (hn : l3 s.name=true) (h : FarOk s d) : ∃ r S',g9 ⟨[s],defs,[]⟩ (mkN 10 (U4 s.name d) 0 [] 0) []=.ok (r,S')∧r7 ([r].map (j3 S')) []=[d.result]:=by
 have hm : E8 ⟨[s],defs,[]⟩ (U4 s.name d)=some d:=by
  unfold E8
  rw [yK hn,if_pos rfl]
  show (j8 [s] s.name).bind _=_
  have : j8 [s] s.name=some s:=by unfold j8; simp
  rw [this]
  exact h.found
 have hw : bX ⟨[s],defs,[]⟩ 10 (U4 s.name d) 0 0 []=.ok (([],(o5 [d.result] [] []).1.getLastD 0),(o5 [d.result] [] []).2):=by
  unfold bX
  rw [if_neg (by omega),if_neg (by omega),if_neg (by omega),if_neg (by omega),if_neg (by omega),if_neg (by omega),if_neg (by omega),if_neg (by omega),hm,show cG ⟨[s],defs,[]⟩ (U4 s.name d)=none from rfl]
  show (if d.params.length=0 then Except.ok (((o5 (d.params ++ [d.result]) [] []).1.dropLast,(o5 (d.params ++ [d.result]) [] []).1.getLastD 0),(o5 (d.params ++ [d.result]) [] []).2) else _)=_
  rw [h.pars,if_pos (show ([] : List Int).length=0 from rfl),List.nil_append]
  congr 3
  rw [o5]
  split
  ·rw [o5]; rfl
  ·rw [o5]; rfl
 have ht : g9 ⟨[s],defs,[]⟩ (mkN 10 (U4 s.name d) 0 [] 0) []=.ok ((o5 [d.result] [] []).1.getLastD 0,(o5 [d.result] [] []).2):=by
  unfold mkN
  rw [g9]
  show ((bX _ 10 (U4 s.name d) 0 0 []).then fun l S => (o4 _ [] l.1 S).then fun _ S => .ok (l.2,S))=_
  rw [hw]
  rfl
 refine ⟨_,_,ht,?_⟩
 rcases h.res with h5 | h5
 ·rw [o5,if_pos h5,o5]
  show r7 [j3 [] d.result] []=_
  have e : j3 [] d.result=d.result:=by unfold j3; rw [if_pos h5]
  rw [e,r7,if_pos h5,r7]
 ·rw [h5]
  decide
theorem a3u {s : Sht} {ds : List Sch} {d : Sch} (hn : l3 s.name=true) (h : FarOk s d) (hl : ds.length<200) : Y1 [s] (dX ds) (p5 s.name ds.length d)=.ok ⟨aH ds.length,[],d.result⟩:=by
 obtain ⟨-,-,f3⟩:=eO _ hl
 have hno : j4 (dX ds) (aH ds.length)=none:=mE fun j hj e => by
  unfold dX at hj e
  rw [List.length_mapIdx] at hj
  rw [List.getElem_mapIdx] at e
  exact absurd (a3C (by omega) hl e) (by omega)
 obtain ⟨r,S',ht,hnum⟩:=a2y (defs:=dX ds) hn h
 unfold Y1
 have e0 : (p5 s.name ds.length d).text.data.toList=aH ds.length:=rfl
 rw [e0,hno,f3]
 show (match F7 [] [] with
  | .error e => .error e
  | .ok ps => match g9 ⟨[s],dX ds,ps⟩ (mkN 10 (U4 s.name d) 0 [] 0) (l5 ps.length) with
    | .error e => .error e
    | .ok (r,S) => .ok ⟨aH ds.length,(r7 ((l5 ps.length ++ [r]).map (j3 S)) []).dropLast,(r7 ((l5 ps.length ++ [r]).map (j3 S)) []).getLastD 0⟩ : Except (Int × Int) Sch)=_
 rw [F7]
 show (match g9 ⟨[s],dX ds,[]⟩ (mkN 10 (U4 s.name d) 0 [] 0) [] with
  | .error e => .error e
  | .ok (r,S) => .ok ⟨aH ds.length,(r7 (([] ++ [r]).map (j3 S)) []).dropLast,(r7 (([] ++ [r]).map (j3 S)) []).getLastD 0⟩ : Except (Int × Int) Sch)=_
 rw [ht]
 show Except.ok (⟨aH ds.length,(r7 (([] ++ [r]).map (j3 S')) []).dropLast,(r7 (([] ++ [r]).map (j3 S')) []).getLastD 0⟩ : Sch)=_
 rw [List.nil_append,hnum]
 rfl
theorem rX {own : List UInt8} {all : List Sht} {s : Sht} (hn : l3 s.name=true) : ∀ (n : Nat) (ds : List Sch),ds.length=n→n≤200→(∀ d∈ds,FarOk s d)→n6 own all (ds.mapIdx fun k d => p5 s.name k d) [s] []=.ok (dX ds)
 | 0,ds,hl,_,_ => by
   obtain rfl:=List.length_eq_zero_iff.1 hl
   show n6 own all [] [s] []=_
   rw [n6]; rfl
 | n + 1,ds,hl,h2,h => by
   obtain ⟨es,d,rfl⟩ : ∃ es d,ds=es ++ [d]:=⟨ds.dropLast,ds.getLast (by intro e; rw [e] at hl; cases hl),(List.dropLast_concat_getLast _).symm⟩
   rw [List.length_append,List.length_singleton] at hl
   have ih:=rX (own:=own) (all:=all) hn n es (by omega) (by omega) fun d hd => h d (List.mem_append_left _ hd)
   have hlet:=a3u (ds:=es) (d:=d) hn (h d (by simp)) (by omega)
   rw [List.mapIdx_concat,dX,List.mapIdx_concat]
   exact oD _ [] _ (fun x hx => by
    obtain ⟨j,hj,rfl⟩:=List.getElem_of_mem hx
    rw [List.getElem_mapIdx]; rfl) rfl ih hlet
theorem a1a (nm : List UInt8) (l : List Sch) (f : Nat→Nat) : ∀ (k : Nat),j7 (l.mapIdx fun j d => p5 nm (f (j + k)) d)=2 * l.length:=by
 induction l with
 | nil => intro k; rfl
 | cons d l ih =>
   intro k
   rw [List.mapIdx_cons,j7]
   have e : i7 (p5 nm (f (0 + k)) d)=2:=by unfold p5 mkN; simp [i7,j7]
   rw [e]
   have:=ih (k + 1)
   have e2 : (l.mapIdx fun i d => p5 nm (f (i + 1 + k)) d)=l.mapIdx fun j d => p5 nm (f (j + (k + 1))) d:=by
    congr 1; funext i d; rw [Nat.add_assoc,Nat.add_comm 1 k]
   rw [e2,this,List.length_cons]
   omega
theorem a0X (nm : List UInt8) {ds : List Sch} (h : ds.length≤200) : O5 (aG nm ds)=true:=by
 rw [cP,decide_eq_true_eq]
 unfold aG mkN
 rw [i7,j7]
 have:=a1a nm ds id 0
 simp only [id,Nat.add_zero] at this
 rw [this]
 have e : i7 (.mk 2 ⟨nm.toArray⟩ 0 [] 0)=1:=by simp [i7,j7]
 rw [e]
 omega
theorem a0A {s : Sht} {d : Sch} (hn : l3 s.name=true) (h : FarOk s d) {k : Nat} (hk : k<200) : H6 (p5 s.name k d)=true:=by
 rw [aR]
 have e1 : l3 (p5 s.name k d).text.data.toList=true:=(eO k hk).2.1
 have e2 : d9 (D6 (p5 s.name k d)) 1=true:=by
  show d9 (mkN 10 (U4 s.name d) 0 [] 0) 1=true
  unfold mkN
  rw [d9,o9,Bool.and_true]
  show (true && true && G0 10 (U4 s.name d) && true)=true
  rw [show G0 10 (U4 s.name d)=eV (U4 s.name d) from rfl]
  have : eV (U4 s.name d)=true:=by unfold eV; rw [yK hn]; simp only [hn,h.near]; rfl
  rw [this]
  rfl
 rw [e1,e2]
 rfl
theorem a3l {s : Sht} {ds : List Sch} (hs : o7 s=true) (hz : s.name≠bZz) (hl : ds.length≤200) (h : ∀ d∈ds,FarOk s d) : r9 (aG s.name ds) [s]=.ok ⟨bZz,dX ds⟩:=by
 have hn : l3 s.name=true:=by unfold o7 at hs; simp only [Bool.and_eq_true] at hs; exact hs.1.1
 have hb2 : m5 2 (mkN 2 s.name 0 [] 0)=true:=by unfold m5; show (true && l3 s.name && true && true)=true; rw [hn]; rfl
 have him : q9 (aG s.name ds).kids=1:=by
  show q9 (mkN 2 s.name 0 [] 0 :: ds.mapIdx fun k d => p5 s.name k d)=1
  unfold q9
  rw [List.takeWhile_cons,if_pos hb2]
  cases ds with
  | nil => rfl
  | cons d l =>
    rw [List.mapIdx_cons,List.takeWhile_cons,if_neg (fun e => by
     have e2 : (p5 s.name 0 d).kind=2:=(E0 e).2.1
     have e3 : (3 : Int)=2:=e2
     exact absurd e3 (by decide))]
    rfl
 have hmod : J4 (aG s.name ds)=true:=by
  have e : J4 (aG s.name ds)=((aG s.name ds).kind == 1 && l3 (aG s.name ds).text.data.toList && (aG s.name ds).n == 0 && O5 (aG s.name ds) && (decide (q9 (aG s.name ds).kids≤100) && decide ((aG s.name ds).kids.length - q9 (aG s.name ds).kids≤200) && ((aG s.name ds).kids.drop (q9 (aG s.name ds).kids)).all H6)):=rfl
  rw [e,him,a0X _ hl]
  have e1 : l3 (aG s.name ds).text.data.toList=true:=by show l3 bZz=true; decide +kernel
  have e2 : ((aG s.name ds).kids.drop 1).all H6=true:=by
   show (ds.mapIdx fun k d => p5 s.name k d).all H6=true
   rw [List.all_eq_true]
   intro x hx
   obtain ⟨j,hj,rfl⟩:=List.getElem_of_mem hx
   rw [List.length_mapIdx] at hj
   rw [List.getElem_mapIdx]
   exact a0A hn (h _ (List.getElem_mem _)) (by omega)
  have e3 : (aG s.name ds).kids.length - 1≤200:=by
   show (mkN 2 s.name 0 [] 0 :: ds.mapIdx fun k d => p5 s.name k d).length - 1≤200
   simp only [List.length_cons,List.length_mapIdx]; omega
  rw [e1,e2,decide_eq_true e3]
  rfl
 unfold r9
 rw [if_pos ⟨hmod,by simp [hs]⟩]
 show (match n6 bZz [s] (mkN 2 s.name 0 [] 0 :: ds.mapIdx fun k d => p5 s.name k d) [] [] with
  | .error e => (.error e : Except (Int × Int) Sht)
  | .ok ds => .ok ⟨bZz,ds⟩)=_
 rw [n6,if_pos (show (mkN 2 s.name 0 [] 0).kind=2 from rfl)]
 have hbr : p8 bZz [s] [] (mkN 2 s.name 0 [] 0)=.ok s:=by
  unfold p8
  show (if (decide (s.name=bZz) || (j8 [] s.name).isSome)=true then _ else match j8 [s] s.name with
   | none => _
   | some s => _)=_
  have e1 : j8 [s] s.name=some s:=by unfold j8; simp
  rw [e1,decide_eq_false hz]
  rfl
 rw [hbr]
 show (match n6 bZz [s] (ds.mapIdx fun k d => p5 s.name k d) [s] [] with
  | .error e => (.error e : Except (Int × Int) Sht)
  | .ok ds => .ok ⟨bZz,ds⟩)=_
 rw [rX hn _ ds rfl hl h]
theorem a4r {sheets : List Sht} {defs : List Sch} {t : Nd} {d : Sch} (h : Y1 sheets defs t=.ok d) (hp : d.params=[]) : d.result<5∨d.result=5:=by
 unfold Y1 at h
 split at h
 ·cases h
 cases hpp : F7 t.kids.dropLast [] with
 | error e => rw [hpp] at h; cases h
 | ok ps =>
   rw [hpp] at h
   simp only at h
   cases hty : g9 ⟨sheets,defs,ps⟩ (D6 t) (l5 ps.length) with
   | error e => rw [hty] at h; cases h
   | ok q =>
     obtain ⟨r,S⟩:=q
     rw [hty] at h
     cases h
     have h0 : (r7 ((l5 ps.length ++ [r]).map (j3 S)) []).dropLast.length=0:=by rw [show (r7 ((l5 ps.length ++ [r]).map (j3 S)) []).dropLast=[] from hp]; rfl
     rw [List.length_dropLast,kB,List.length_map,List.length_append,Y8] at h0
     have : ps.length=0:=by simpa using h0
     show (r7 ((l5 ps.length ++ [r]).map (j3 S)) []).getLastD 0<5∨(r7 ((l5 ps.length ++ [r]).map (j3 S)) []).getLastD 0=5
     rw [this]
     show (r7 [j3 S r] []).getLastD 0<5∨(r7 [j3 S r] []).getLastD 0=5
     rw [r7]
     split
     ·rename_i h5; rw [r7]; exact .inl h5
     ·rw [if_neg (by simp),r7]; exact .inr rfl
theorem tU {own : List UInt8} {all sheets : List Sht} : ∀ (ks : List Nd) (defs ds : List Sch),(∀ k∈ks,k.kind=3)→(∀ d∈defs,d.params=[]→d.result<5∨d.result=5)→n6 own all ks sheets defs=.ok ds→∀ d∈ds,d.params=[]→d.result<5∨d.result=5
 | [],defs,ds,_,hd,h => by
   rw [n6] at h
   cases h
   exact hd
 | k :: ks,defs,ds,hk,hd,h => by
   rw [n6,if_neg (by rw [hk k (List.mem_cons_self ..)]; decide)] at h
   cases hl : Y1 sheets defs k with
   | error e => rw [hl] at h; cases h
   | ok d =>
     rw [hl] at h
     exact tU ks (defs ++ [d]) ds (fun x hx => hk x (List.mem_cons_of_mem _ hx)) (fun x hx => by
      rcases List.mem_append.1 hx with hx | hx
      ·exact hd x hx
      ·obtain rfl:=List.mem_singleton.1 hx
       exact a4r hl) h
theorem a4S {t : Nd} {s : Sht} (h : r9 t []=.ok s) {d : Sch} (hd : d∈s.defs) (hp : d.params=[]) : FarOk s d:=by
 have h3:=a1M h
 obtain ⟨-,hsht,-⟩:=eJ h
 obtain ⟨-,-,-,hks⟩:=a03 h
 have hok : aK d=true:=by
  unfold o7 at hsht
  simp only [Bool.and_eq_true,List.all_eq_true] at hsht
  exact hsht.2 d hd
 unfold aK at hok
 simp only [Bool.and_eq_true] at hok
 exact ⟨(oV t.kids [] s.defs h3 (fun x hx => (List.not_mem_nil hx).elim) hks d hd).1,hok.1.1.1,hp,tU t.kids [] s.defs h3 (fun x hx => (List.not_mem_nil hx).elim) hks d hd hp⟩
def O1 (d : Sch) : Bool:=d.params.isEmpty
theorem a0M {t : Nd} {s : Sht} (h : r9 t []=.ok s) (hz : t.text.data.toList≠bZz) : r9 (aG s.name (s.defs.filter O1)) [s]=.ok ⟨bZz,dX (s.defs.filter O1)⟩:=by
 obtain ⟨-,hsht,hn,-⟩:=eJ h
 have hl : s.defs.length≤200:=by unfold o7 at hsht; simp only [Bool.and_eq_true,decide_eq_true_eq] at hsht; exact hsht.1.2
 refine a3l hsht (by rw [hn]; exact hz) (Nat.le_trans (List.length_filter_le ..) hl) fun d hd => ?_
 rw [List.mem_filter] at hd
 exact a4S h hd.1 (List.isEmpty_iff.1 hd.2)
section
open Go.RowKit
theorem aQ {w W : World} {P : Nat} (h : w.grownBy W (some P)) (hP : w.heap.size≤P) : Below w.heap.size w W:=⟨h.os,h.tape,h.output,h.size,fun k hk => h.block k hk (fun e => by have:=Option.some.inj e; omega)⟩
theorem SP.make {g cap : Nat} {ts : List Tk} {base : Nat} {w : World} {T : TypeId} (h : w.ownsRow base T 4 (.slice (some ⟨g,0,none⟩) ts.length cap) ts.length (D7 ts)) (hne : ts≠[]) :
 SP w.heap.size g cap ts 0 (.ok ts) (w.alloc (.cells #[.slice (some ⟨g,0,none⟩) ts.length cap,.int .i64 0,.int .i64 0,.int .i64 0,.int .i64 0] 105)):=by
 have hg:=h.lt g rfl
 have hb:=a7 w (.cells #[.slice (some ⟨g,0,none⟩) ts.length cap,.int .i64 0,.int .i64 0,.int .i64 0,.int .i64 0] 105)
 refine ⟨0,0,0,0,⟨by show (w.heap.push _)[w.heap.size]?=_; simp,(xJ.of_row h).below hb hg.2,by omega,Nat.lt_of_lt_of_le hg.2 hb.size,?_,?_,List.length_pos_iff.2 hne⟩,rfl,rfl,rfl,rfl⟩
 ·rcases h.2 with ⟨e,-⟩ | ⟨g',cap2,cur,e,-,-,h1,-⟩
  ·cases e
  ·cases e; exact h1
 ·rcases h.2 with ⟨e,-⟩ | ⟨g',cap2,cur,e,-,-,-,h1,-⟩
  ·cases e
  ·cases e; exact h1
theorem a2n {c p : Int} {x : Except (Int × Int) Nd} {w W : World} {P : Nat} (hx : x=.error (c,p)) (hc : c≠0) (h : w.grownBy W (some P)) (hP : w.heap.size≤P) : kY x w (.returned (.tuple #[nd0.val none 0,.int .i64 p,.int .i64 c])) (Q7 W w.heap.size nd0 none 0):=by
 subst hx
 exact ⟨nd0,none,0,p,c,rfl,aQ (t6 h (Nat.le_refl _) nd0 none 0) hP,rfl,rfl,hc⟩
theorem pJ {c p : Int} {x : Except (Int × Int) Nd} {w W : World} {P : Nat} (hx : x=.error (c,p)) (hc : c≠0) (h : w.grownBy W (some P)) (hP : w.heap.size≤P) : kY x w (.returned (.tuple #[nd0.val none 0,.int .i64 p,.int .i64 c])) (Q7 W w.heap.size nd0 none 0).drew:=by
 subst hx
 exact ⟨nd0,none,0,p,c,rfl,r8 (aQ (t6 h (Nat.le_refl _) nd0 none 0) hP),rfl,rfl,hc⟩
theorem a3w (k n p : Int) (s : ByteArray) (w : World) : (Instr.field 108 (.agg #[.int .i64 k,.string s,.int .i64 n,.int .i64 p]) 0).run Tryz.prog w=.ok (.int .i64 k) w:=by kernel_rfl
end
section
open Go.RowKit
theorem fI {w w' : World} {B T k n g cap : Nat} {xs : List Value} (h : w.ownsRow B T k (.slice (some ⟨g,0,none⟩) n cap) n xs) (hk : w'.heap[g]?=w.heap[g]?) : w'.ownsRow B T k (.slice (some ⟨g,0,none⟩) n cap) n xs:=by
 obtain ⟨h1,h2⟩:=h
 refine ⟨h1,?_⟩
 rcases h2 with h | ⟨g',cap',cur,e,hb,hg,h3⟩
 ·exact .inl h
 ·cases e
  exact .inr ⟨g,cap,cur,rfl,hb,hk.trans hg,h3⟩
structure LB (P g cap : Nat) (ts : List Tk) (nb : Nat) (k : Int) (s : ByteArray) (p : Int) (ao : Option Addr) (cp : Nat) (L : List Ent) (σ : Sx) (w0 W : World) : Prop where
 box : W.heap[nb]?=some (.cells #[.int .i64 k,.string s,.int .i64 0,.slice ao L.length cp,.int .i64 p] 24 (0,0))
 row : W.ownsRow (nb + 1) 24 5 (.slice ao L.length cp) L.length (bH L)
 lie : ∀ r,σ=.ok r→∀ e∈L,e.1.lies (fun d => nb + 1≤d∧d<W.heap.size∧(Value.slice ao L.length cp).ownBlock≠some d) W e.2.1 e.2.2
 sp : SP P g cap ts 0 σ W
 gr : w0.grownBy W (some P)
 lt : P<nb∧g<nb∧w0.heap.size≤nb
section
variable {P g cap : Nat} {ts : List Tk} {nb : Nat} {k : Int} {s : ByteArray} {p : Int} {ao : Option Addr} {cp : Nat} {L : List Ent} {σ σ' : Sx} {w0 W W' : World}
theorem LB.make (h : SP P g cap ts 0 σ W) (hg : w0.grownBy W (some P)) (hP : P<w0.heap.size∧g<w0.heap.size) (hW : W'=W.alloc (.cells #[.int .i64 k,.string s,.int .i64 0,.slice none 0 0,.int .i64 p] 24)) : LB P g cap ts W.heap.size k s p none 0 [] σ w0 W':=by
 have hb : Below W.heap.size W W':=hW ▸ a7 _ _
 have:=hg.size
 exact ⟨by rw [hW]; show (W.heap.push _)[W.heap.size]?=_; simp,⟨rfl,.inl ⟨rfl,rfl⟩⟩,(fun _ _ e he => by cases he),h.below hb,c8 hg (hb.mono hg.size),by omega,by omega,by omega⟩
theorem LB.blt (h : LB P g cap ts nb k s p ao cp L σ w0 W) : nb<W.heap.size:=(Array.getElem?_eq_some_iff.1 h.box).1
theorem LB.cells (h : LB P g cap ts nb k s p ao cp L σ w0 W) : (W.cell? ⟨nb,0,none⟩=some (.int .i64 k)∧W.cell? ⟨nb,1,none⟩=some (.string s)∧W.cell? ⟨nb,2,none⟩=some (.int .i64 0)∧W.cell? ⟨nb,3,none⟩=some (.slice ao L.length cp)∧W.cell? ⟨nb,4,none⟩=some (.int .i64 p))∧W.frozen? ⟨nb,3,none⟩=false:=by
 have hb:=h.box
 exact ⟨⟨by simp [World.cell?,hb],by simp [World.cell?,hb],by simp [World.cell?,hb],by simp [World.cell?,hb],by simp [World.cell?,hb]⟩,by simp [World.frozen?,hb]⟩
theorem LB.own (h : LB P g cap ts nb k s p ao cp L σ w0 W) : ∀ c,(Value.slice ao L.length cp).ownBlock=some c→nb + 1≤c∧c<W.heap.size:=fun c e => h.row.lt c e
theorem LB.step (h : LB P g cap ts nb k s p ao cp L σ w0 W) (hs : SP P g cap ts 0 σ' W') (hg : W.grownBy W' (some P)) (ho : ∀ r',σ'=.ok r'→∃ r,σ=.ok r) : LB P g cap ts nb k s p ao cp L σ' w0 W':=by
 have hl:=h.lt
 have hk : ∀ d,d<W.heap.size→d≠P→W'.heap[d]?=W.heap[d]?:=fun d h1 h2 => hg.block d h1 (fun e => h2 (Option.some.inj e))
 refine ⟨(hk _ h.blt (by omega)).trans h.box,h.row.kept hg ?_,fun r' hr' e he => ?_,hs,a6 h.gr hg,hl⟩
 ·cases hv : (Value.slice ao L.length cp).ownBlock with
  | none => exact .inl rfl
  | some c => exact .inr (fun e => by have:=(h.own c hv).1; have:=Option.some.inj e; omega)
 ·obtain ⟨r,hr⟩:=ho r' hr'
  exact d6 (h.lie r hr e he) (fun d hd => hk d hd.2.1 (by have:=hd.1; omega)) fun d hd => ⟨hd.1,Nat.lt_of_lt_of_le hd.2.1 hg.size,hd.2.2⟩
theorem LB.below (h : LB P g cap ts nb k s p ao cp L σ w0 W) (hb : Below W.heap.size W W') : LB P g cap ts nb k s p ao cp L σ w0 W':=h.step (h.sp.below hb) (c9 hb) fun r hr => ⟨r,hr⟩
theorem LB.app {W1 W2 : World} {t : Nd} {a : Option Addr} {c gb cq : Nat} (h : LB P g cap ts nb k s p ao cp L σ w0 W) (hW1 : Below W.heap.size W W1) (hgrow : W1.grownBy W2 (Value.slice ao L.length cp).ownBlock) (hat : (Value.slice ao L.length cp).ownBlock=some gb∨gb=W1.heap.size) (hrow : W2.ownsRow (nb + 1) 24 5 (.slice (some ⟨gb,0,none⟩) (L.length + 1) cq) (L.length + 1) (bH L ++ ndC (t,a,c)))
 (hl : ∀ r,σ=.ok r→t.lies (fun d => nb + 1≤d∧d<W.heap.size∧(Value.slice ao L.length cp).ownBlock≠some d) W a c) :
 LB P g cap ts nb k s p (some ⟨gb,0,none⟩) cq (L ++ [(t,a,c)]) σ w0 (W2.setCell ⟨nb,3,none⟩ (.slice (some ⟨gb,0,none⟩) (L.length + 1) cq)):=by
 have hlt:=h.lt
 have hbl:=h.blt
 have h1:=hW1.size
 have h2:=hgrow.size
 have hgb:=hrow.lt gb rfl
 have hlen : (L ++ [(t,a,c)]).length=L.length + 1:=by simp
 have hk : ∀ d,d<W.heap.size→(Value.slice ao L.length cp).ownBlock≠some d→W2.heap[d]?=W.heap[d]?:=fun d h3 h4 => (hgrow.block d (by omega) (fun e => h4 e.symm)).trans (hW1.block d h3)
 have hlow : ∀ d,d<nb + 1→(Value.slice ao L.length cp).ownBlock≠some d:=fun d hd e => by have:=(h.own d e).1; omega
 have e2 : ∀ d,d≠nb→(W2.setCell ⟨nb,3,none⟩ (.slice (some ⟨gb,0,none⟩) (L.length + 1) cq)).heap[d]?=W2.heap[d]?:=fun d hd => Below.heap_setCell _ _ _ _ hd
 have hz : (W2.setCell ⟨nb,3,none⟩ (.slice (some ⟨gb,0,none⟩) (L.length + 1) cq)).heap.size=W2.heap.size:=by simp [World.setCell]
 have hbox:=j9 ((hk nb hbl (hlow nb (by omega))).trans h.box) 3 (.slice (some ⟨gb,0,none⟩) (L.length + 1) cq)
 have hne : ∀ d,nb + 1≤d∧d<W.heap.size∧(Value.slice ao L.length cp).ownBlock≠some d→gb≠d:=fun d hd e => by
  rcases hat with h9 | h9
  ·exact hd.2.2 (e ▸ h9)
  ·have:=hd.2.1; omega
 refine ⟨by rw [hlen]; exact hbox,?_,fun r hr e he => ?_,?_,?_,hlt⟩
 ·rw [hlen,fX]
  exact fI hrow (e2 gb (by omega))
 ·rw [hlen]
  have mv : ∀ (u : Nd) (b : Option Addr) (q : Nat),u.lies (fun d => nb + 1≤d∧d<W.heap.size∧(Value.slice ao L.length cp).ownBlock≠some d) W b q→u.lies (fun d => nb + 1≤d∧d<(W2.setCell ⟨nb,3,none⟩ (.slice (some ⟨gb,0,none⟩) (L.length + 1) cq)).heap.size∧(Value.slice (some ⟨gb,0,none⟩) (L.length + 1) cq).ownBlock≠some d) (W2.setCell ⟨nb,3,none⟩ (.slice (some ⟨gb,0,none⟩) (L.length + 1) cq)) b q:=fun u b q hu =>
   d6 hu (fun d hd => (e2 d (by have:=hd.1; omega)).trans (hk d hd.2.1 hd.2.2)) fun d hd => ⟨hd.1,by rw [hz]; have:=hd.2.1; omega,fun e => hne d hd (Option.some.inj (show some gb=some d from e))⟩
  rcases List.mem_append.1 he with he | he
  ·exact mv _ _ _ (h.lie r hr e he)
  ·obtain rfl:=List.mem_singleton.1 he
   exact mv _ _ _ (hl r hr)
 ·have hb:=h.sp.blocks
  exact h.sp.keeps (fun b hb' => by
   have hb2 : b<nb:=by rcases hb' with rfl | rfl <;> omega
   exact (e2 b (by omega)).trans (hk b (by omega) (hlow b (by omega)))) (by rw [hz]; omega)
 ·refine ⟨hgrow.os.trans (hW1.os.trans h.gr.os),hgrow.tape.trans (hW1.tape.trans h.gr.tape),hgrow.output.trans (hW1.output.trans h.gr.output),by rw [hz]; have:=h.gr.size; omega,fun d hd hP => ?_⟩
  exact (e2 d (by omega)).trans ((hk d (by have:=h.gr.size; omega) (hlow d (by omega))).trans (h.gr.block d hd hP))
theorem LB.tree (h : LB P g cap ts nb k s p ao cp L σ w0 W) {r : List Tk} (hr : σ=.ok r) (hk : (Lit.int .i64 k).wf=true) (hp : (Lit.int .i64 p).wf=true) (hs : s.size≤maxLen) : (Nd.mk k s 0 (L.map (·.1)) p).lies (fun d => nb + 1≤d∧d<W.heap.size) W ao cp:=by
 have hlie:=h.lie r hr
 rcases h.row.2 with ⟨e,h0⟩ | ⟨g',cap',cur,e,hb,hg,k1,k2,k3⟩
 ·have hL : L=[]:=List.length_eq_zero_iff.1 h0
  subst hL
  cases e
  exact Nd.lies.mk' hk hs rfl hp (Nat.le_refl _) (Nat.zero_le _) trivial
 ·cases e
  refine Nd.lies.mk' hk hs rfl hp (by rw [List.length_map]; exact k1) k2 (jY h.row ⟨hb,(Array.getElem?_eq_some_iff.1 hg).1⟩ fun e he => d6 (hlie e he) (fun _ _ => rfl) fun d hd => ⟨hd.1,hd.2.1⟩)
end
end
end Go.Proofs.YtppcfebnaieciaaGreatDoor
