/-
  Laws that the proof rests on.
-/
import Derived.Test.YteefedkmgnepmaaGreatDoorE07
import Derived.Test.YteefedkmgnepmaaGreatDoorE01
import Derived.Test.YteefedkmgnepmaaGreatDoorE04
import Derived.Test.YteefedkmgnepmaaGreatDoorE06
import Derived.Test.YteefedkmgnepmaaGreatDoorE03
import Derived.Test.YteefedkmgnepmaaGreatDoorE05
import Derived.Test.YteefedkmgnepmaaGreatDoorE02
import Derived.Deep.DrawnRows
namespace Go.Proofs.YteefedkmgnepmaaGreatDoor
set_option maxRecDepth 100000
set_option maxHeartbeats 16000000
def brk (r : List UInt8) : Prop:=∀ c l,r=c :: l→fZ c=false
theorem a1m : brk []:=fun _ _ h => by cases h
theorem q9 {c : UInt8} (h : fZ c=false) (r : List UInt8) : brk (c :: r):=fun _ _ e => (List.cons.inj e).1 ▸ h
def Sc (bs : List UInt8) (T : List Tk) (rest : List UInt8) : Prop:=∀ (pos : Int) (k : Nat) (l : List Tk),q7 (bs ++ rest) pos k 0=.ok l→∃ ts l',l=ts ++ l'∧ts.map (a7C false)=T∧∃ pos' k',q7 rest pos' k' 0=.ok l'
theorem Sc.nil (r : List UInt8) : Sc [] [] r:=fun pos k l h => ⟨[],l,rfl,rfl,pos,k,h⟩
theorem Sc.app {a b r : List UInt8} {T U : List Tk} (h : Sc a T (b ++ r)) (h' : Sc b U r) : Sc (a ++ b) (T ++ U) r:=by
 intro pos k l hl
 rw [List.append_assoc] at hl
 obtain ⟨ts,l',rfl,e,p,k',h2⟩:=h pos k l hl
 obtain ⟨us,l'',rfl,e',p',k'',h3⟩:=h' p k' l' h2
 exact ⟨ts ++ us,l'',by rw [List.append_assoc],by rw [List.map_append,e,e'],p',k'',h3⟩
theorem Sc.cons {c : UInt8} {b r : List UInt8} {T U : List Tk} (h : Sc [c] T (b ++ r)) (h' : Sc b U r) : Sc (c :: b) (T ++ U) r:=Sc.app (a:=[c]) h h'
theorem Sc.blank {c : UInt8} (h : c.toNat≤32) (r : List UInt8) : Sc [c] [] r:=fun pos k l hl => ⟨[],l,rfl,rfl,pos + 1,k,by rw [← jF h]; exact hl⟩
theorem Sc.skip {c : UInt8} {b r : List UInt8} {T : List Tk} (hc : c.toNat≤32) (h : Sc b T r) : Sc (c :: b) T r:=Sc.cons (T:=[]) (Sc.blank hc _) h
theorem Sc.tok {c : UInt8} {r rest : List UInt8} {T : Tk} (hc : ¬ c.toNat≤32) (hc' : c≠35) (ht : ∀ pos t n,X6 c (r ++ rest) pos=.ok (t,n)→a7C false t=T∧n=r.length + 1) : Sc (c :: r) [T] rest:=by
 intro pos k l hl
 rw [List.cons_append] at hl
 cases hx : X6 c (r ++ rest) pos with
 | error e => rw [xC hc hc' hx] at hl; cases hl
 | ok p =>
   obtain ⟨t,n⟩:=p
   obtain ⟨e1,rfl⟩:=ht pos t n hx
   by_cases hk : k=8192
   ·rw [tB hc hc' hx hk] at hl; cases hl
   ·rw [nU hc hc' hx hk] at hl
    have e : (c :: (r ++ rest)).drop (r.length + 1)=rest:=by simp
    rw [e] at hl
    cases hs : q7 rest (pos + ((r.length + 1 : Nat) : Int)) (k + 1) 0 with
    | error e => rw [hs] at hl; cases hl
    | ok l' =>
      rw [hs] at hl
      have : l=[t] ++ l':=(Except.ok.inj hl).symm
      subst this
      exact ⟨[t],l',rfl,by rw [List.map_singleton,e1],_,_,hs⟩
theorem wW : ∀ c∈cG,(smC c=false∧dgC c=false)∧(c≠34∧grC c=false)∧¬ c.toNat≤32∧c≠35∧cG.contains c=true:=by decide
theorem X9 {c : UInt8} (hc : c∈cG) {rest : List UInt8} (h : c=60→rest.headD 0≠61) : Sc [c] [tS [c]] rest:=by
 obtain ⟨⟨h1,h2⟩,⟨h3,h4⟩,h5,h6,h7⟩:=wW c hc
 refine Sc.tok h5 h6 fun pos t n ht => ?_
 rw [List.nil_append] at ht
 unfold X6 iJ at ht
 rw [if_neg (by rw [h1]; decide),if_neg (by rw [h2]; decide),if_neg h3,if_neg (by rw [h4]; decide),if_neg (fun e => h e.1 e.2),if_pos h7] at ht
 cases ht
 exact ⟨rfl,rfl⟩
theorem a38 (rest : List UInt8) : Sc [60,61] [tS [60,61]] rest:=by
 refine Sc.tok (by decide) (by decide) fun pos t n ht => ?_
 unfold X6 iJ at ht
 rw [if_neg (by decide),if_neg (by decide),if_neg (by decide),if_neg (by decide),if_pos ⟨rfl,rfl⟩] at ht
 cases ht
 exact ⟨rfl,rfl⟩
theorem bC {l : List UInt8} (h : p6 l=true) : ∃ c r,l=c :: r∧smC c=true∧r.all inC=true∧l.length≤24:=by
 have hn:=h
 rw [← xG] at hn
 unfold iM at hn
 simp only [Bool.and_eq_true,decide_eq_true_eq] at hn
 cases l with
 | nil => exact absurd hn.1.1 (by decide)
 | cons c r =>
   have hs : (if smC c=true then 1 + (r.takeWhile inC).length else 0)=r.length + 1:=hn.2
   by_cases hc : smC c=true
   ·rw [if_pos hc] at hs
    exact ⟨c,r,rfl,hc,(eC inC r).1 (by omega),hn.1.2⟩
   ·rw [if_neg hc] at hs; omega
theorem dF (c : UInt8) (h : fZ c=false) : inC c=false∧c≠46∧dgC c=false∧grC c=false:=by
 have:=R8 (p:=fun c => fZ c || (!inC c && (c != 46) && !dgC c && !grC c)) (by decide +kernel) c
 rw [h] at this
 simpa [and_assoc] using this
theorem H9 {p : UInt8→Bool} {a r : List UInt8} (ha : a.all p=true) (hr : ∀ c l,r=c :: l→p c=false) : (a ++ r).takeWhile p=a:=by
 induction a with
 | nil =>
   cases r with
   | nil => rfl
   | cons c l => rw [List.nil_append,List.takeWhile_cons,if_neg (by rw [hr c l rfl]; decide)]
 | cons c a ih =>
   rw [List.all_cons,Bool.and_eq_true] at ha
   rw [List.cons_append,List.takeWhile_cons,if_pos ha.1,ih ha.2]
theorem kF {s r : List UInt8} (h : p6 s=true) (hr : ∀ c l,r=c :: l→inC c=false) : x7 (s ++ r)=s.length:=by
 obtain ⟨c,t,rfl,hc,ht,-⟩:=bC h
 show (if smC c then 1 + ((t ++ r).takeWhile inC).length else 0)=t.length + 1
 rw [if_pos hc,H9 ht hr,Nat.add_comm]
theorem a0Z {r : List UInt8} (h : brk r) : ∀ c l,r=c :: l→inC c=false:=fun c l e => (dF c (h c l e)).1
theorem pY {r : List UInt8} (h : brk r) : r.headD 0≠46:=by
 cases r with
 | nil => decide
 | cons c l => exact (dF c (h c l rfl)).2.1
theorem aB {a r : List UInt8} : (a ++ r).drop a.length=r:=List.drop_left
theorem bB (c : UInt8) (h : smC c=true) : ¬ c.toNat≤32∧c≠35:=by
 have:=R8 (p:=fun c => !smC c || (!decide (c.toNat≤32) && (c != 35))) (by decide +kernel) c
 rw [h] at this
 simpa using this
theorem a1r {s rest : List UInt8} (h : p6 s=true) (hr : brk rest) : Sc s [⟨if X3 s=true then 2 else 1,s,0,0⟩] rest:=by
 have hsp:=kF h (a0Z hr)
 have h46:=pY hr
 obtain ⟨c,t,rfl,hc,ht,hl⟩:=bC h
 refine Sc.tok (bB c hc).1 (bB c hc).2 fun pos u n hu => ?_
 unfold X6 at hu
 rw [if_pos hc] at hu
 unfold bH at hu
 rw [← List.cons_append,hsp] at hu
 simp only [aB,List.take_left'] at hu
 rw [if_neg h46,if_neg (by omega)] at hu
 cases hu
 exact ⟨rfl,rfl⟩
theorem cE {s rest : List UInt8} (h : p6 s=true) (hw : X3 s=true) (hr : brk rest) : Sc s [tW s] rest:=by
 have:=a1r h hr
 rw [if_pos hw] at this
 exact this
theorem qJ {s : List UInt8} (h : l9 s=true) : ¬ X3 s=true:=by
 unfold l9 at h
 rw [Bool.and_eq_true] at h
 simpa using h.2
theorem a1W {s rest : List UInt8} (h : eX s=true) (hr : brk rest) : Sc s [dE s] rest:=by
 unfold dE
 unfold eX at h
 rw [Bool.and_eq_true] at h
 cases hc : (Lib.cut s [46]).2.2 with
 | false =>
   have h1:=h.1
   rw [a0r hc] at h1
   have:=a1r (gY h1) hr
   rw [if_neg (qJ h1)] at this
   rw [if_neg (by decide)]
   exact this
 | true =>
   rw [hc] at h
   have h2 : l9 (Lib.cut s [46]).2.1=true:=by simpa using h.2
   have h1:=h.1
   have e:=a6x hc
   rw [if_pos rfl]
   generalize (Lib.cut s [46]).1=x at *
   generalize (Lib.cut s [46]).2.1=y at *
   subst e
   have s1:=kF (gY h1) (r:=46 :: (y ++ rest)) (fun c l e => by rw [← (List.cons.inj e).1]; rfl)
   have s2:=kF (gY h2) (a0Z hr)
   have n1:=qJ h1
   have n2:=qJ h2
   obtain ⟨c,t,rfl,hc',ht,hl⟩:=bC (gY h1)
   refine Sc.tok (r:=t ++ 46 :: y) (bB c hc').1 (bB c hc').2 fun pos u n hu => ?_
   unfold X6 at hu
   rw [if_pos hc'] at hu
   unfold bH at hu
   rw [show c :: (t ++ 46 :: y ++ rest)=(c :: t) ++ 46 :: (y ++ rest) by simp,s1] at hu
   have hdd : ((c :: t) ++ 46 :: (y ++ rest)).drop ((c :: t).length + 1)=y ++ rest:=by rw [← List.drop_drop,aB]; rfl
   simp only [hdd,aB,List.take_left' rfl] at hu
   rw [if_pos (show (46 :: (y ++ rest)).headD 0=(46 : UInt8) from rfl),s2] at hu
   simp only [List.take_left' rfl] at hu
   split at hu
   ·cases hu
   ·cases hu
    refine ⟨rfl,?_⟩
    simp only [List.length_append,List.length_cons]
    omega
theorem a3W (c : UInt8) (h : O3 c=true) : qN c=true:=by
 have:=R8 (p:=fun c => !O3 c || qN c) (by decide +kernel) c
 rw [h] at this
 simpa using this
theorem a4Z {s : List UInt8} (h : p6 s=true) (rest : List UInt8) : Sc (34 :: (s ++ [34])) [⟨7,s,0,0⟩] rest:=by
 refine Sc.tok (by decide) (by decide) fun pos t n ht => ?_
 have hq : ((s ++ [34]) ++ rest).takeWhile qN=s:=by
  rw [List.append_assoc]
  exact H9 (List.all_eq_true.2 fun c hc => a3W c (jA h c hc)) (fun c l e => by rw [← (List.cons.inj e).1]; rfl)
 unfold X6 at ht
 rw [if_neg (by decide),if_neg (by decide),if_pos rfl] at ht
 unfold dO at ht
 have hr : mT ((s ++ [34]) ++ rest)=s.length:=by unfold mT; rw [hq]
 rw [hr,List.append_assoc] at ht
 simp only [aB,List.take_left' rfl] at ht
 rw [if_neg (fun hh => hh rfl),if_pos h] at ht
 cases ht
 exact ⟨rfl,by simp⟩
theorem a4O (c : UInt8) : dS c=grC c:=a4a c
theorem zY (c : UInt8) (h : dS c=true) : ¬ c.toNat≤32∧c≠35∧smC c=false∧dgC c=false∧c≠34∧grC c=true:=by
 have:=R8 (p:=fun c => !dS c || (!decide (c.toNat≤32) && (c != 35) && !smC c && !dgC c && (c != 34) && grC c)) (by decide +kernel) c
 rw [h] at this
 simpa [and_assoc] using this
theorem a7r {s rest : List UInt8} (h : oA s=true) (hr : brk rest) : Sc s [⟨4,s,0,0⟩] rest:=by
 unfold oA at h
 simp only [Bool.and_eq_true,decide_eq_true_eq] at h
 obtain ⟨h3,hg⟩:=h
 cases s with
 | nil => exact absurd h3 (by decide)
 | cons c s =>
   have hc:=zY c (List.all_eq_true.1 hg c (List.mem_cons_self ..))
   have hgr : (c :: s).all grC=true:=by rw [show grC=dS from funext fun c => (a4O c).symm]; exact hg
   have hq : ((c :: s) ++ rest).takeWhile grC=c :: s:=H9 hgr (fun c l e => (dF c (hr c l e)).2.2.2)
   refine Sc.tok hc.1 hc.2.1 fun pos t n ht => ?_
   unfold X6 at ht
   rw [if_neg (by rw [hc.2.2.1]; decide),if_neg (by rw [hc.2.2.2.1]; decide),if_neg hc.2.2.2.2.1,if_pos hc.2.2.2.2.2] at ht
   unfold a3p a3D at ht
   rw [← List.cons_append,hq,if_pos h3] at ht
   cases ht
   refine ⟨?_,by rw [← h3]; rfl⟩
   show (⟨4,((c :: s) ++ rest).take 3,0,0⟩ : Tk)=_
   rw [← h3,List.take_left' rfl]
theorem a50 : ∀ (l : List UInt8) (a : Int),l.all dgC=true→l.foldl (fun n c => 10 * n + ((c.toNat : Int) - 48)) a=a * 10 ^ l.length + vR l
 | [],a,_ => by simp [vR]
 | c :: l,a,h => by
   rw [List.all_cons,Bool.and_eq_true] at h
   rw [List.foldl_cons,a50 l _ h.2,vR,List.length_cons,Int.pow_succ]
   have:=eV h.1
   have e1 : (((c.toNat - 48) * 10 ^ l.length + vR l : Nat) : Int)=((c.toNat : Int) - 48) * 10 ^ l.length + vR l:=by
    rw [Int.natCast_add,Int.natCast_mul,Int.natCast_pow,Int.natCast_sub (by omega)]; rfl
   rw [e1,Int.add_mul,Int.mul_comm 10 a,Int.mul_assoc,Int.mul_comm 10,Int.add_assoc]
theorem a00 : ∀ (a b : List UInt8),vR (a ++ b)=vR a * 10 ^ b.length + vR b
 | [],b => by simp [vR]
 | c :: a,b => by
   rw [List.cons_append,vR,a00 a b,vR,List.length_append,Nat.pow_add,Nat.add_mul,Nat.mul_assoc,Nat.add_assoc]
theorem a6z {k : Nat} (hk : k<10 ^ 20) : vR (fI k)=k:=by
 unfold fI
 rw [a4S 20 _ _ (by omega)]
 show k / 10 * 10 ^ 1 + ((dig k).toNat - 48) * 10 ^ 0 + 0=k
 rw [nK]
 omega
theorem a3Z : ∀ (k n : Nat),vR (U1 k n [])=n % 10 ^ k
 | 0,n => by rw [U1,vR]; simp [Nat.mod_one]
 | k + 1,n => by
   rw [U1,gM k _ [dig n],a00,a3Z k]
   show n / 10 % 10 ^ k * 10 ^ 1 + ((dig n).toNat - 48) * 10 ^ 0 + 0=_
   rw [nK,show (10 : Nat) ^ (k + 1)=10 * 10 ^ k by rw [Nat.pow_succ,Nat.mul_comm],Nat.mod_mul]
   omega
theorem a3u {v : Int} {n : Nat} (hn : n<10 ^ 20) (h : aU (I9 n)=some v) : v=n:=by
 have e : I9 n=fI (n / 1000000) ++ gE n:=rfl
 have hw : (I9 n).takeWhile dgC=fI (n / 1000000):=by
  rw [e]
  exact H9 (List.all_eq_true.2 (nG _)) (nY n)
 unfold aU at h
 rw [hw] at h
 have hdr : (I9 n).drop (fI (n / 1000000)).length=gE n:=by rw [e,aB]
 simp only [hdr] at h
 split at h
 ·have h:=Option.some.inj h
  rw [← h]
  obtain ⟨k,hk⟩:=rX (U1 6 n [])
  have hlen:=congrArg List.length hk
  rw [bV,List.length_append,List.length_replicate] at hlen
  have ht : (gE n).tail=aX (U1 6 n []):=by
   unfold gE
   split
   ·rename_i c; rw [c]; rfl
   ·rfl
  rw [ht,show 6 - (aX (U1 6 n [])).length=k by have : ([] : List UInt8).length=0:=rfl; omega,List.append_assoc,← hk]
  unfold Cal.val
  rw [a50 _ _ (List.all_eq_true.2 fun c hc => by
   rcases List.mem_append.1 hc with hc | hc
   ·exact nG _ c hc
   ·exact nI 6 _ c hc),a00,a6z (by omega),a3Z,bV]
  show (0 : Int) * _ + ((n / 1000000 * 1000000 + n % 1000000 : Nat) : Int)=n
  omega
 ·cases h
theorem a47 {a r : List UInt8} (h : a≠[]) : (a ++ r).headD 0=a.headD 0:=by
 cases a with
 | nil => exact absurd rfl h
 | cons c a => rfl
theorem rV (n : Nat) {rest : List UInt8} (hr : brk rest) : dH (I9 n ++ rest)=(I9 n).length:=by
 have e : I9 n=fI (n / 1000000) ++ gE n:=rfl
 have hd : ∀ r,(∀ c l,r=c :: l→dgC c=false)→bY (fI (n / 1000000) ++ r)=(fI (n / 1000000)).length:=fun r h => by
  unfold bY
  rw [H9 (List.all_eq_true.2 (nG _)) h]
 have hs : ∀ c l,gE n ++ rest=c :: l→dgC c=false:=fun c l h => by
  cases ht : gE n with
  | nil => rw [ht] at h; exact (dF c (hr c l h)).2.2.1
  | cons a b =>
    rw [ht] at h
    rw [← (List.cons.inj h).1]
    exact nY n a b ht
 unfold dH
 rw [e,List.append_assoc,hd _ hs,aB]
 cases ht : gE n with
 | nil =>
   rw [List.nil_append,if_neg (fun h => pY hr h.1),List.append_nil]
 | cons a b =>
   have hab : a=46∧b=aX (U1 6 n [])∧b≠[]:=by
    unfold gE at ht
    split at ht
    ·cases ht
    ·rename_i hne
     obtain ⟨rfl,rfl⟩:=List.cons.inj ht
     exact ⟨rfl,rfl,hne⟩
   obtain ⟨rfl,hb,hne⟩:=hab
   have hbd : b.all dgC=true:=List.all_eq_true.2 fun c hc => nI 6 n c (tM _ c (hb ▸ hc))
   have hdd : (fI (n / 1000000) ++ (46 :: b ++ rest)).drop ((fI (n / 1000000)).length + 1)=b ++ rest:=by
    rw [← List.drop_drop,aB]; rfl
   have hbh : dgC ((b ++ rest).headD 0)=true:=by
    rw [a47 hne]
    cases b with
    | nil => exact absurd rfl hne
    | cons c b => exact List.all_eq_true.1 hbd c (List.mem_cons_self ..)
   rw [hdd,if_pos ⟨rfl,hbh⟩]
   unfold bY
   rw [H9 hbd (fun c l e => (dF c (hr c l e)).2.2.1),List.length_append,List.length_cons]
   omega
theorem a1y {n : Nat} {rest : List UInt8} (h : (45 : UInt8) ∉ I9 n) (hr : brk rest) : U3 (I9 n ++ rest)=false:=by
 rw [Bool.eq_false_iff]
 intro hd
 unfold U3 at hd
 simp only [Bool.and_eq_true,decide_eq_true_eq] at hd
 obtain ⟨h10,hf,-⟩:=hd
 have hl : ((I9 n ++ rest).take 10).length=10:=by rw [List.length_take]; omega
 have at' : ∀ j (hj : j<10),Cal.fits j ((I9 n ++ rest)[j]'(by omega))=true:=fun j hj => by
  have:=hf j (by omega)
  rw [List.getElem_take] at this
  exact this
 rcases Nat.lt_or_ge 4 (I9 n).length with g | g
 ·have h4:=at' 4 (by omega)
  rw [Cal.fits_dash (.inl rfl),decide_eq_true_eq] at h4
  rw [List.getElem_append_left g] at h4
  have : (I9 n)[4]=45:=UInt8.toNat_inj.1 (Int.ofNat.inj h4)
  exact h (this ▸ List.getElem_mem g)
 ·have hm:=at' (I9 n).length (by omega)
  rw [List.getElem_append_right (Nat.le_refl _)] at hm
  simp only [Nat.sub_self] at hm
  cases hrest : rest with
  | nil => rw [hrest,List.append_nil] at h10; omega
  | cons c l =>
    have hw:=hr c l hrest
    subst hrest
    replace hm : Cal.fits (I9 n).length c=true:=hm
    rcases Nat.lt_or_ge (I9 n).length 4 with g' | g'
    ·rw [Cal.fits_dig (by omega) (by omega)] at hm
     have:=vG c (pS c hm)
     rw [hw] at this; cases this
    ·rw [Cal.fits_dash (.inl (by omega)),decide_eq_true_eq] at hm
     have : c=45:=UInt8.toNat_inj.1 (Int.ofNat.inj hm)
     subst this
     cases hw
theorem cD (c : UInt8) (h : dgC c=true) : ¬ c.toNat≤32∧c≠35∧smC c=false:=by
 have:=R8 (p:=fun c => !dgC c || (!decide (c.toNat≤32) && (c != 35) && !smC c)) (by decide +kernel) c
 rw [h] at this
 simpa [and_assoc] using this
theorem a7L {n : Int} {rest : List UInt8} (h : 0≤n) (h' : n≤1000000000000000) (hr : brk rest) : Sc (V5 n) [⟨6,[],n,0⟩] rest:=by
 obtain ⟨hd,hne,hw,h45⟩:=a2b h h'
 rw [sB h h'] at hd hne hw h45 ⊢
 have hR:=rV n.natAbs hr
 have hD:=a1y h45 hr
 have hv:=a3u (n:=n.natAbs) (v:=(aU (I9 n.natAbs)).getD 0) (by omega)
 generalize I9 n.natAbs=s at *
 cases s with
 | nil => exact absurd rfl hne
 | cons c s =>
   replace hd : dgC c=true:=hd
   refine Sc.tok (cD c hd).1 (cD c hd).2.1 fun pos t k ht => ?_
   unfold X6 at ht
   rw [if_neg (by rw [(cD c hd).2.2]; decide),if_pos hd] at ht
   unfold aA at ht
   rw [← List.cons_append,hD,if_neg (by decide),hR,List.take_left' rfl] at ht
   have hp : ∀ v,jO (c :: s)=some v→v=n:=fun v hv' => by
    rw [jS (show (c :: s).headD 0≠45 from a8u hd)] at hv'
    cases hu : aU (c :: s) with
    | none => rw [hu] at hv'; cases hv'
    | some u =>
      rw [hu] at hv' hv
      have hun:=hv rfl
      replace hun : u=(n.natAbs : Int):=hun
      replace hv' : (if 1000000000000000<u then none else some u)=some v:=hv'
      by_cases hu' : 1000000000000000<u
      ·rw [if_pos hu'] at hv'; cases hv'
      ·rw [if_neg hu'] at hv'
       have:=Option.some.inj hv'
       omega
   cases hn : jO (c :: s) with
   | none => rw [hn] at ht; cases ht
   | some v =>
     rw [hn] at ht
     have:=hp v hn
     subst this
     replace ht : (if O6 ((List.drop (c :: s).length ((c :: s) ++ rest)).headD 0)=true then Except.ok (⟨6,[],v,pos⟩,(c :: s).length) else .error 72 : Except Int (Tk × Nat))=Except.ok (t,k):=ht
     split at ht
     ·cases ht
      exact ⟨rfl,rfl⟩
     ·cases ht
theorem a62 {n : Int} {rest : List UInt8} (h : 0≤n) (h' : n≤73048) (hr : brk rest) : Sc (bO n) [⟨5,[],n,0⟩] rest:=by
 obtain ⟨hd,hne,hw,-⟩:=a2F h h'
 obtain ⟨y,m,d,ho,hnum,et⟩:=nQ h h'
 have hlen : (bO n).length=10:=by rw [et]; exact Cal.text_len y m d
 have hf : ∀ j (hj : j<(bO n).length),Cal.fits j (bO n)[j]=true:=by rw [et]; exact Cal.text_form ho
 have hvals:=Cal.text_vals ho
 rw [← et] at hvals
 generalize bO n=s at *
 have hD : U3 (s ++ rest)=true:=by
  unfold U3
  rw [show (s ++ rest).take 10=s by rw [← hlen,List.take_left' rfl],show (s ++ rest).drop 10=rest by rw [← hlen,aB]]
  rw [decide_eq_true (show 10≤(s ++ rest).length by rw [List.length_append]; omega),decide_eq_true hf]
  have : dgC (rest.headD 0)=false:=by
   cases rest with
   | nil => rfl
   | cons c l => exact (dF c (hr c l rfl)).2.2.1
  rw [this]; rfl
 have hP : uL s=some n:=by
  unfold uL
  rw [hvals.1,hvals.2.1,hvals.2.2,if_pos ⟨hlen,hf,ho⟩,hnum]
 cases s with
 | nil => exact absurd rfl hne
 | cons c s =>
   replace hd : dgC c=true:=hd
   refine Sc.tok (cD c hd).1 (cD c hd).2.1 fun pos t k ht => ?_
   unfold X6 at ht
   rw [if_neg (by rw [(cD c hd).2.2]; decide),if_pos hd] at ht
   unfold aA at ht
   rw [← List.cons_append,hD,if_pos rfl,show ((c :: s) ++ rest).take 10=c :: s by rw [← hlen,List.take_left' rfl],hP] at ht
   replace ht : (if O6 ((List.drop 10 ((c :: s) ++ rest)).headD 0)=true then Except.ok (⟨5,[],n,pos⟩,10) else .error 72 : Except Int (Tk × Nat))=Except.ok (t,k):=ht
   split at ht
   ·cases ht
    exact ⟨rfl,hlen.symm⟩
   ·cases ht
def FS (u : Nd) : Prop:=∀ rest,brk rest→Sc (d7 u) (n9 u) rest
theorem FS.part {u : Nd} (h : FS u) {rest : List UInt8} (hr : brk rest) : Sc (U7 u.kind (d7 u)) (bT u.kind (n9 u)) rest:=by
 unfold U7 bT
 split
 ·show Sc (40 :: (d7 u ++ [41])) ([tS x6] ++ (n9 u ++ [tS y7])) rest
  exact Sc.cons (X9 (by decide) (fun e => by cases e)) (Sc.app (h _ (q9 rfl _)) (X9 (by decide) (fun e => by cases e)))
 ·exact h rest hr
theorem oI : ∀ (ks : List Nd) (rest : List UInt8),(∀ k∈ks,FS k)→Sc (J5 (ks.map d7) ++ [41]) (fP (ks.map n9) ++ [tS y7]) rest
 | [],rest,_ => X9 (by decide) (fun e => by cases e)
 | k :: ks,rest,h => by
   show Sc (44 :: (32 :: (d7 k ++ J5 (ks.map d7))) ++ [41]) (([tS q6] ++ (n9 k ++ fP (ks.map n9))) ++ [tS y7]) rest
   have hk:=h k (List.mem_cons_self ..)
   have hc:=oI ks rest fun k hk => h k (List.mem_cons_of_mem _ hk)
   rw [List.append_assoc,List.append_assoc,show 44 :: (32 :: (d7 k ++ J5 (ks.map d7))) ++ [41]=44 :: (32 :: (d7 k ++ (J5 (ks.map d7) ++ [41]))) by simp]
   refine Sc.cons (X9 (by decide) (fun e => by cases e)) (Sc.skip (by decide) (Sc.app (hk _ ?_) hc))
   cases ks with
   | nil => exact q9 rfl _
   | cons k ks => exact q9 (c:=44) rfl _
theorem rT {ks : List Nd} (hne : ks≠[]) (rest : List UInt8) (h : ∀ k∈ks,FS k) : Sc (U4 (ks.map d7)) (wL (ks.map n9)) rest:=by
 cases ks with
 | nil => exact absurd rfl hne
 | cons k ks =>
   have hc:=oI ks rest fun k hk => h k (List.mem_cons_of_mem _ hk)
   show Sc ([40] ++ d7 k ++ J5 (ks.map d7) ++ [41]) ([tS x6] ++ (n9 k ++ (fP (ks.map n9) ++ [tS y7]))) rest
   rw [List.append_assoc,List.append_assoc]
   refine Sc.app (X9 (by decide) (fun e => by cases e)) (Sc.app (h k (List.mem_cons_self ..) _ ?_) hc)
   cases ks with
   | nil => exact q9 rfl _
   | cons k ks => exact q9 (c:=44) rfl _
theorem oY {s w : List UInt8} (hn : p6 s=true) (hw : X3 w=true) (hw' : p6 w=true) {bs rest : List UInt8} {T : List Tk} (h : Sc bs T rest) : Sc (w ++ (32 :: 34 :: (s ++ [34]) ++ bs)) (tW w :: ⟨7,s,0,0⟩ :: T) rest:=by
 show Sc (w ++ (32 :: (34 :: (s ++ [34])) ++ bs)) ([tW w] ++ ([⟨7,s,0,0⟩] ++ T)) rest
 exact Sc.app (cE hw' hw (q9 rfl _)) (Sc.skip (by decide) (Sc.app (a4Z hn _) h))
theorem a6f {s : List UInt8} (h : eW s=true) {c : UInt8} (hc : c.toNat≤32) (rest : List UInt8) : Sc s [a3j s] (c :: rest):=by
 have hb : fZ c=false:=by
  have:=R8 (p:=fun c => !decide (c.toNat≤32) || !fZ c) (by decide +kernel) c
  rw [decide_eq_true hc] at this
  simpa using this
 have h61 : ∀ d : UInt8,d=60→(c :: rest).headD 0≠61:=fun d _ e => by
  replace e : c=61:=e
  subst e
  exact absurd hc (by decide)
 rcases nM h with rfl | rfl | rfl | rfl | rfl | rfl | rfl | rfl | rfl
 ·exact cE (by decide) (by decide) (q9 hb _)
 ·exact cE (by decide) (by decide) (q9 hb _)
 ·exact X9 (by decide) (h61 _)
 ·exact a38 _
 ·exact X9 (by decide) (h61 _)
 ·exact X9 (by decide) (h61 _)
 ·exact X9 (by decide) (h61 _)
 ·exact X9 (by decide) (h61 _)
 ·exact X9 (by decide) (h61 _)
theorem a04 (N : Nat) : ∀ (u : Nd) (d : Int),SizeOf.sizeOf u<N→d5 u d=true→FS u:=by
 induction N with
 | zero => intro u d h; omega
 | succ N ih =>
 intro u d hu h rest hr
 have hkids : ∀ k∈u.kids,FS k:=fun k hk => by
  have hp:=(y9 h).2.2.2
  rw [Z3] at hp
  exact ih k (d + 1) (zJ hu hk) (List.all_eq_true.1 hp k hk)
 obtain ⟨hk,ht,hn,-⟩:=y9 h
 have hkk:=tN hk
 have ef:=uH u
 have et:=uG u
 rcases (show u.kind=5∨u.kind=6∨u.kind=7∨u.kind=8∨u.kind=9∨u.kind=10∨u.kind=11∨u.kind=12∨u.kind=13∨u.kind=14∨u.kind=15 by omega) with e | e | e | e | e | e | e | e | e | e | e
 ·rw [e] at ef et hn
  replace ef : d7 u=V5 u.n:=ef
  replace et : n9 u=[⟨6,[],u.n,0⟩]:=et
  have hb : 0≤u.n∧u.n≤1000000000000000:=by unfold aZ at hn; simpa using hn
  rw [ef,et]
  exact a7L hb.1 hb.2 hr
 ·rw [e] at ef et hn
  replace ef : d7 u=bO u.n:=ef
  replace et : n9 u=[⟨5,[],u.n,0⟩]:=et
  have hb : 0≤u.n∧u.n≤73048:=by unfold aZ at hn; simpa using hn
  rw [ef,et]
  exact a62 hb.1 hb.2 hr
 ·rw [fH h (by omega)] at ef et
  rw [e] at ef et ht
  replace ef : d7 u=u.text.data.toList:=ef
  replace et : n9 u=[⟨4,u.text.data.toList,0,0⟩]:=et
  rw [ef,et]
  exact a7r ht hr
 ·rw [e] at ef et
  replace ef : d7 u=if u.n=1 then fU else bX:=ef
  replace et : n9 u=[tW (if u.n=1 then fU else bX)]:=et
  rw [ef,et]
  split
  ·exact cE (by decide) (by decide) hr
  ·exact cE (by decide) (by decide) hr
 ·rw [e] at ef et ht
  replace ef : d7 u=[102,101,101,100,32,34] ++ u.text.data.toList ++ [34]:=ef
  replace et : n9 u=[tW fT,⟨7,u.text.data.toList,0,0⟩]:=et
  rw [ef,et]
  have:=oY (s:=u.text.data.toList) (w:=fT) ht (by decide) (by decide) (Sc.nil rest)
  rw [List.append_nil] at this
  exact this
 ·rw [fH h (by omega)] at ef et
  rw [e] at ef et ht
  replace ef : d7 u=u.text.data.toList:=ef
  replace et : n9 u=[dE u.text.data.toList]:=et
  rw [ef,et]
  exact a1W ht hr
 ·have hp:=pF h (.inl e)
  rw [e] at ef et ht
  replace ef : d7 u=u.text.data.toList ++ U4 ((p8 u.kids).map (·.2)):=ef
  replace et : n9 u=[dE u.text.data.toList] ++ wL ((fA u.kids).map (·.2)):=et
  rw [ef,et,qS,fL]
  refine Sc.app (a1W ht ?_) (rT hp rest hkids)
  obtain ⟨x,hx⟩:=a2H (u.kids.map d7)
  rw [hx]
  exact q9 rfl _
 ·obtain ⟨s,k,p,rfl,hs,hrk⟩:=tA h e
  have hK:=hkids k (by simp [Nd.kids])
  rw [wR,et]
  show Sc _ ((if s.data.toList=[45] then tS eD else tW iR) :: bT k.kind (n9 k)) rest
  have hP:=hK.part hr
  rcases hs with hs | hs
  ·rw [hs,if_pos rfl,if_pos rfl]
   exact Sc.app (T:=[tS eD]) (X9 (by decide) (fun e => by cases e)) hP
  ·rw [hs,if_neg (by decide),if_neg (by decide)]
   exact Sc.app (a:=iR) (T:=[tW iR]) (cE (by decide) (by decide) (q9 rfl _)) (Sc.skip (by decide) hP)
 ·obtain ⟨s,k,v,p,rfl,hs,hrk,hrv⟩:=tF h e
  have hK:=(hkids k (by simp [Nd.kids])).part (rest:=32 :: (s.data.toList ++ 32 :: U7 v.kind (d7 v)) ++ rest) (q9 rfl _)
  have hV:=(hkids v (by simp [Nd.kids])).part hr
  rw [xN,et]
  show Sc _ (bT k.kind (n9 k) ++ ([a3j s.data.toList] ++ bT v.kind (n9 v))) rest
  exact Sc.app hK (Sc.skip (by decide) (Sc.app (a6f hs (by decide) _) (Sc.skip (by decide) hV)))
 ·obtain ⟨s,a,b,c,p,rfl,hs,-⟩:=yV h e
  have hA:=hkids a (by simp [Nd.kids])
  have hB:=hkids b (by simp [Nd.kids])
  have hC:=hkids c (by simp [Nd.kids])
  rw [a1J,et]
  show Sc (tIf ++ 32 :: (d7 a ++ 32 :: (qE ++ 32 :: (d7 b ++ 32 :: (oQ ++ 32 :: d7 c))))) ([tW tIf] ++ (n9 a ++ ([tW qE] ++ (n9 b ++ ([tW oQ] ++ n9 c))))) rest
  exact Sc.app (cE (by decide) (by decide) (q9 rfl _)) (Sc.skip (by decide) (Sc.app (hA _ (q9 rfl _)) (Sc.skip (by decide) (Sc.app (cE (by decide) (by decide) (q9 rfl _)) (Sc.skip (by decide)
   (Sc.app (hB _ (q9 rfl _)) (Sc.skip (by decide) (Sc.app (cE (by decide) (by decide) (q9 rfl _)) (Sc.skip (by decide) (hC _ hr))))))))))
 ·have hp:=pF h (.inr e)
  rw [e] at ef et ht
  replace ef : d7 u=[112,105,99,107,32,34] ++ u.text.data.toList ++ [34] ++ U4 ((p8 u.kids).map (·.2)):=ef
  replace et : n9 u=tW eF :: ⟨7,u.text.data.toList,0,0⟩ :: wL ((fA u.kids).map (·.2)):=et
  rw [ef,et,qS,fL]
  have:=oY (s:=u.text.data.toList) (w:=eF) ht (by decide) (by decide) (rT hp rest hkids)
  simpa [eF] using this
theorem a2W {u : Nd} {d : Int} (h : d5 u d=true) : FS u:=a04 _ u d (Nat.lt_succ_self _) h
theorem a2N {u : Nd} (h : d5 u 1=true) {l : List Tk} (hl : Q6 (d7 u)=.ok l) : ∃ t,Sp (n9 u) l [t]∧t.kind=0:=by
 unfold Q6 at hl
 split at hl
 ·cases hl
 ·have:=a2W h [] a1m 0 0 l (by rw [List.append_nil]; exact hl)
  obtain ⟨ts,l',rfl,e,p,k,hs⟩:=this
  replace hs : Except.ok [(⟨0,[],0,p⟩ : Tk)]=Except.ok (ε:=Int × Int) l':=hs
  cases hs
  exact ⟨⟨0,[],0,p⟩,⟨ts,rfl,e⟩,rfl⟩
theorem a2Y {u : Nd} (h : d5 u 1=true) {l : List Tk} (hl : Q6 (d7 u)=.ok l) : ∃ t e,e.kind=0∧rd .expr 0 l=.ok (t,[e])∧F5 false t=F5 false u:=by
 obtain ⟨e,hs,he⟩:=a2N h hl
 obtain ⟨t,ht,hst⟩:=a1i h hs (fun w hw => by unfold isT hd; simp [he])
 exact ⟨t,e,he,ht,hst⟩
section
open Lib (hid)
open Go.RowKit
theorem uP (ks : List Nd) (k : Nat) (h : k<ks.length) : j7 (ks.drop k)=max (d9 ks[k]) (j7 (ks.drop (k + 1))):=by
 rw [List.drop_eq_getElem_cons h,j7]
theorem vW (ks : List Nd) (k : Nat) (h : ¬ k<ks.length) : j7 (ks.drop k)=0:=by
 rw [List.drop_eq_nil_of_le (by omega),j7]
theorem xF (N : Nat) : ∀ (t : Nd),SizeOf.sizeOf t<N→∀ (a : Option Addr) (cap n₀ : Nat) (w : World),t.hold n₀ w a cap→n₀≤w.heap.size→d9 t≤1000 →
 Calls Tryz.prog 100 #[.agg #[.int .i64 t.kind,.string t.text,.int .i64 t.n,.slice a t.kids.length cap,.int .i64 t.place]] w fun e w' => e=.returned (.int .i64 (d9 t))∧Below w.heap.size w w':=by
 induction N with
 | zero => intro t ht; omega
 | succ N ih =>
 intro t ht
 cases t with
 | mk kind s n ks p =>
 intro a cap n₀ w hh hn h0
 show Calls Tryz.prog 100 #[.agg #[.int .i64 kind,.string s,.int .i64 n,.slice a ks.length cap,.int .i64 p]] w _
 have hkl : ks.length≤cap∧cap≤maxLen:=⟨hh.2.2.2.2.1,hh.2.2.2.2.2.1⟩
 have hm:=hkl
 unfold maxLen at hm
 have HH:=hid hh
 have IH:=hid ih
 have HT:=hid ht
 clear hh ih ht
 have E:=hid (show d9 (.mk kind s n ks p)=j7 ks + 1 by rw [d9])
 have h9 : j7 ks≤999:=by rw [E.out] at h0; omega
 clear h0
 go_enter Tryz.func100,Tryz.ntmps100
 go_wp2
 obtain ⟨W1,hW1⟩ : ∃ W1,W1=w.alloc (.cells #[.int .i64 kind,.string s,.int .i64 n,.slice a ks.length cap,.int .i64 p] 24):=⟨_,rfl⟩
 have HB:=hid (show Below w.heap.size w W1 from hW1 ▸ a7 _ _)
 have hsz : W1.heap.size=w.heap.size + 1:=by rw [hW1]; simp
 have D3:=hid (show W1.cell? ⟨w.heap.size,3,none⟩=some (.slice a ks.length cap) from hW1 ▸ (a7Q w _ _ _ _ _).2.2.2.1)
 rw [← hW1]
 clear hW1
 go_loopw [3,4] (fun x i wr => ∃ (k y : Nat),k≤ks.length∧i=.int .i64 k∧x=.int .i64 y∧y≤999∧Hid (max y (j7 (ks.drop k))=j7 ks)∧Hid (Below W1.heap.size W1 wr)) (fun _ i _ => (ks.length - (intOf i).toNat))
 case atStart => exact ⟨0,0,Nat.zero_le _,rfl,rfl,by omega,by show _=_; rw [Nat.zero_max]; rfl,Below.refl _ _⟩
 case round =>
  obtain ⟨k,y,hk,rfl,rfl,hy0,HI,HBr⟩:=hrel
  have d3:=(HBr.out.cell (p:=⟨w.heap.size,3,none⟩) (by show w.heap.size<W1.heap.size; omega)).trans D3
  have HW:=hid (HB.out.trans (HBr.out.mono HB.out.size))
  by_cases hlt : k<ks.length
  ·obtain ⟨b,off,a',cap',A⟩:=(HH.out.below (HW.out.mono hn)).kid k hlt
   obtain ⟨rfl,hb,c0,c1,c2,c3,c4,hk1⟩:=A
   have HK:=hid hk1
   clear hk1
   have S:=hid (uP ks k hlt)
   have hd : d9 ks[k]≤999:=by
    have:=HI.out
    rw [S.out] at this
    omega
   go_wp2_with (go_at_call 100; refine (IH.out _ (eR hlt HT) a' cap' n₀ _ HK (Nat.le_trans hn HW.out.size) (by omega)).mono ?_; rintro e w' ⟨rfl,hb⟩)
   go_roundw
   case rel => exact ⟨k + 1,max y (d9 ks[k]),by omega,by go_num,by go_num,by omega,by show _=_; rw [← HI.out,S.out,Nat.max_assoc],HBr.out.trans (hb.mono HBr.out.size)⟩
   case measure => simp [intOf]; omega
  ·have S:=hid (vW ks k hlt)
   go_wp2
   go_ret
   exact ⟨dV (by rw [E.out,← HI.out,S.out]; omega),HW⟩
theorem a0t (t : Nd) (a : Option Addr) (cap n₀ : Nat) (w : World) (hh : t.hold n₀ w a cap) (hn : n₀≤w.heap.size) (hd : d9 t≤1000) :
 Calls Tryz.prog 100 #[.agg #[.int .i64 t.kind,.string t.text,.int .i64 t.n,.slice a t.kids.length cap,.int .i64 t.place]] w fun e w' => e=.returned (.int .i64 (d9 t))∧Below w.heap.size w w' :=
 xF _ t (Nat.lt_succ_self _) a cap n₀ w hh hn hd
end
def rM (rdr : List Tk→Rd) : Nat→List Nd→List Tk→Rd
 | 0,_,l => .error (76,(hd l).pos)
 | f + 1,acc,l => (rdr l).then fun t r => if isT q6 r=true then rM rdr f (acc ++ [t]) (b8 r) else o8 y7 r fun r => .ok (mkN 0 [] 0 (acc ++ [t]) 0,r)
def oR (l : List Tk) : Rd:=V9 1 l fun t r => .ok (mkN 4 t.text 0 [] t.pos,r)
def aI (l : List Tk) : Rd:=if isT x6 l=true then rM oR 8 [] (b8 l) else .ok (mkN 0 [] 0 [] 0,l)
def jH (l : List Tk) : Rd:=o8 mX l fun r => V9 1 r fun t r => (aI r).then fun ps r => o8 tEq r fun r => (rd .expr 0 r).then fun x r => o8 aY r fun r => .ok (mkN 3 t.text 0 (ps.kids ++ [x]) t.pos,r)
def X7 : Nat→List Nd→List Tk→Rd
 | 0,acc,l => if isT gS l=true then .error (76,(hd l).pos) else .ok (mkN 0 [] 0 acc 0,l)
 | f + 1,acc,l => if isT gS l=true then V9 1 (b8 l) fun t r => o8 aY r fun r => X7 f (acc ++ [mkN 2 t.text 0 [] t.pos]) r else .ok (mkN 0 [] 0 acc 0,l)
def iP : Nat→List Nd→List Tk→Rd
 | 0,acc,l => if isT mX l=true then .error (76,(hd l).pos) else .ok (mkN 0 [] 0 acc 0,l)
 | f + 1,acc,l => if isT mX l=true then (jH l).then fun t r => iP f (acc ++ [t]) r else .ok (mkN 0 [] 0 acc 0,l)
def mR (l : List Tk) : Rd:=o8 cM l fun r => V9 1 r fun t r => o8 aY r fun r => (X7 100 [] r).then fun is r => (iP 200 is.kids r).then fun ls r => .ok (mkN 1 t.text 0 ls.kids (hd l).pos,r)
section
variable {Q Q' : Nd→List Tk→Prop}
end
theorem a5W {s : List UInt8} (h : l9 s=true) : eX s=true:=by rw [← a7T,h]; rfl
section
open Lib (hid)
open Go.RowKit Go.Shelf
theorem a0I (a : Int) (w : World) : Calls Tryz.prog 156 #[.int .i64 a] w fun e w' => e=.returned (.int .i64 (V6 a))∧w=w':=by
 go_enter Tryz.func156,Tryz.ntmps156
 go_wp2
 go_ret
 exact ⟨dV (by unfold V6; (repeat' split) <;> omega),by first | rfl | trivial⟩
theorem a5f {a : Int} {b : Nat} {c d : Bool} (h : a=b) (h' : c=d) : Ending.returned (.tuple #[.int .u64 a,.bool c])=.returned (.tuple #[.int .u64 b,.bool d]):=by rw [h,h']
theorem zP (a : Int) (w : World) : Calls Tryz.prog 144 #[.int .i64 a] w fun e w' => e=.returned (.tuple #[.int .u64 ((V6 a).natAbs : Nat),.bool (decide (V6 a<0))])∧w=w':=by
 obtain ⟨b1,b2⟩:=wD a
 go_enter Tryz.func144,Tryz.ntmps144
 go_wp2_with (go_at_call 156; refine (a0I a _).mono ?_; rintro e w' ⟨rfl,rfl⟩)
 go_wp2
 all_goals go_ret2
 ·exact ⟨a5f (by omega) (decide_eq_true (by omega)).symm,by first | rfl | trivial⟩
 ·exact ⟨a5f (by omega) (decide_eq_false (by omega)).symm,by first | rfl | trivial⟩
structure Dg (h : Nat) (s : ByteArray) (n : Nat) (w : World) : Prop where
 lt : h<w.heap.size
 c0 : w.cell? ⟨h,0,none⟩=some (.string s)
 c1 : w.cell? ⟨h,1,none⟩=some (.int .u64 n)
 f0 : w.frozen? ⟨h,0,none⟩=false
 f1 : w.frozen? ⟨h,1,none⟩=false
theorem a1n (n : Nat) : Utf8.encode (48 + (n : Int) % 10)=⟨#[dig n]⟩:=by
 have h : n % 10<10:=Nat.mod_lt _ (by decide)
 have : ∀ d : Fin 10,Utf8.encode (48 + ((d.val : Nat) : Int))=⟨#[UInt8.ofNat (48 + d.val)]⟩:=by decide +kernel
 have e : (n : Int) % 10=((n % 10 : Nat) : Int):=by omega
 rw [e]
 exact this ⟨n % 10,h⟩
theorem lA (h : Nat) (s : ByteArray) (n : Nat) (hn : n≤1000000000000000) (hs : s.size≤100) (w : World) (D : Dg h s n w) : Calls Tryz.prog 145 #[.pointer (some ⟨h,0,none⟩)] w fun e w' => e=.returned (.tuple #[])∧Dg h (⟨#[dig n]⟩ ++ s) (n / 10) w'∧Below h w w':=by
 obtain ⟨lt,c0,c1,f0,f1⟩:=D
 have mixed : Tryz.prog.follows .mixedOrders=true:=by kernel_rfl
 go_enter Tryz.func145,Tryz.ntmps145
 have hz : (Utf8.encode (48 + (n : Int) % 10)).size=1:=by rw [a1n]; rfl
 go_wp2
 go_region
 rw [a1n]
 have ND : Dg h (⟨#[dig n]⟩ ++ s) n (w.setCell ⟨h,0,none⟩ (.string (⟨#[dig n]⟩ ++ s))).drew :=
  ⟨by simpa [World.setCell] using lt,World.cell?_setCell_same' _ _ _ (by rw [c0]; rfl),(World.cell?_setCell_other _ _ _ _ (by simp)).trans c1,(World.frozen?_setCell _ _ _ _).trans f0,(World.frozen?_setCell _ _ _ _).trans f1⟩
 have NB:=hid (show Below h w (w.setCell ⟨h,0,none⟩ (.string (⟨#[dig n]⟩ ++ s))).drew from (fun b => ⟨b.os,b.tape,b.output,b.size,b.block⟩ : Below h w (w.setCell ⟨h,0,none⟩ (.string (⟨#[dig n]⟩ ++ s)))→_) ((Below.refl h w).setCell (p:=⟨h,0,none⟩) (Nat.le_refl _) _))
 generalize (w.setCell ⟨h,0,none⟩ (.string (⟨#[dig n]⟩ ++ s))).drew=W1 at ND NB ⊢
 clear c0 c1 f0 f1 lt hz
 have HD:=hid ND
 obtain ⟨lt,c0,c1,f0,f1⟩:=ND
 go_wp2
 refine bodyPost_end (results_none rfl _ _ _) rfl ?_
 have ed : Value.int IntKind.u64 ((n : Int) / 10)=.int .u64 ((n / 10 : Nat) : Int):=by congr 1
 rw [ed]
 refine ⟨rfl,⟨by simpa [World.setCell] using lt,(World.cell?_setCell_other _ _ _ _ (by simp)).trans c0,World.cell?_setCell_same' _ _ _ (by rw [c1]; rfl),(World.frozen?_setCell _ _ _ _).trans f0,(World.frozen?_setCell _ _ _ _).trans f1⟩,?_⟩
 exact NB.out.setCell (p:=⟨h,1,none⟩) (Nat.le_refl _) _
theorem a16 (a : Int) (w : World) : Calls Tryz.prog 128 #[.int .i64 a] w fun e w' => e=.returned (.string ⟨(V5 a).toArray⟩)∧Below w.heap.size w w':=by
 have E:=hid (a4W a)
 obtain ⟨b1,b2⟩:=wD a
 have eg:=enters_of Tryz.func145 (by kernel_rfl) rfl
 go_enter Tryz.func128,Tryz.ntmps128
 go_wp2_with fail
 refine Calls.mono (zP a _) ?_
 rintro e w' ⟨rfl,rfl⟩
 generalize hc : V6 a=c at b1 b2 E ⊢
 generalize hx : c.natAbs=x at E ⊢
 have hxb : x≤1000000000000000:=by omega
 go_wp2_with fail
 have D0 : Dg w.heap.size ⟨#[]⟩ x (w.alloc (.cells #[.string ⟨#[]⟩,.int .u64 x] 203)):=by
  refine ⟨?_,?_,?_,?_,?_⟩ <;> simp
 have HB:=hid (a7 w (.cells #[.string ⟨#[]⟩,.int .u64 x] 203))
 have HD:=hid D0
 clear D0
 generalize (w.alloc (.cells #[.string ⟨#[]⟩,.int .u64 x] 203))=W1 at HB HD ⊢
 go_loopw [19] (fun i wr => ∃ (k : Nat) (s : ByteArray) (n : Nat),i=.int .i64 k∧k≤6∧s.size≤6∧s.size=k∧n≤1000000000000000∧Hid (n=x / 10 ^ k∧U1 (6 - k) n s.data.toList=U1 6 x [])∧Hid (Dg w.heap.size s n wr)∧Hid (Below w.heap.size w wr)) (fun i _ => (6 - (intOf i).toNat))
 case atStart => exact ⟨0,⟨#[]⟩,x,rfl,by omega,by decide,rfl,hxb,⟨by simp,rfl⟩,HD,HB⟩
 case round =>
  obtain ⟨k,s,n,rfl,hk,hs6,hsk,hn,HI,DR,BR⟩:=hrel
  by_cases hlt : k<6
  ·go_wp2_with fail
   refine Calls.mono (lA w.heap.size s n hn (by omega) _ DR) ?_
   rintro e w' ⟨rfl,hd,hb⟩
   have D2:=hid hd
   have B2:=hid (BR.out.trans hb)
   clear hd hb
   go_wp2_with fail
   go_roundw
   case rel =>
    refine ⟨k + 1,⟨#[dig n]⟩ ++ s,n / 10,by go_num,by omega,by rw [ByteArray.size_append]; show 1 + s.size≤6; omega,by rw [ByteArray.size_append]; show 1 + s.size=k + 1; omega,by omega,⟨?_,?_⟩,D2,B2⟩
    ·rw [HI.out.1,Nat.div_div_eq_div_mul,Nat.pow_succ]
    ·rw [← HI.out.2,show 6 - k=(6 - (k + 1)) + 1 by omega,U1]
     simp
   case measure => simp [intOf]; omega
  ·obtain rfl : k=6:=by omega
   have HX:=hid (show s.data.toList=U1 6 x [] from HI.out.2)
   have HN:=hid (show n=x / 1000000 from HI.out.1)
   clear HI
   obtain ⟨lt,c0,c1,f0,f1⟩:=DR.out
   go_wp2_with fail
   refine Calls.mono (Tryz.strings_TrimRight_one s 48 (by decide) _ (by omega)) ?_
   rintro e w' ⟨rfl,rfl⟩
   obtain ⟨T,hTe,hTl,hTs⟩ : ∃ T : ByteArray,T=⟨(Lib.trimRightB s.data.toList 48).toArray⟩∧Hid (T.data.toList=aX (U1 6 x []))∧T.size≤6:=by
    have e1 : Lib.trimRightB s.data.toList 48=aX (U1 6 x []):=by rw [HX.out]; rfl
    refine ⟨_,rfl,e1,?_⟩
    show (Lib.trimRightB s.data.toList 48).toArray.size≤6
    rw [e1,List.size_toArray]
    have:=sQ (U1 6 x [])
    rw [bV] at this
    exact this
   rw [show (⟨(Lib.trimRightB s.data.toList (48 : UInt8)).toArray⟩ : ByteArray)=T from hTe.symm]
   clear hTe
   have ND : Hid (Dg w.heap.size ⟨#[]⟩ n (w'.setCell ⟨w.heap.size,0,none⟩ (.string ⟨#[]⟩))) :=
    ⟨by simpa [World.setCell] using lt,World.cell?_setCell_same' _ _ _ (by rw [c0]; rfl),(World.cell?_setCell_other _ _ _ _ (by simp)).trans c1,(World.frozen?_setCell _ _ _ _).trans f0,(World.frozen?_setCell _ _ _ _).trans f1⟩
   have NB:=hid (BR.out.setCell (p:=⟨w.heap.size,0,none⟩) (Nat.le_refl _) (.string ⟨#[]⟩))
   clear DR BR HX hs6 hsk hlt hk
   go_wp2_with fail
   generalize (w'.setCell ⟨w.heap.size,0,none⟩ (.string ⟨#[]⟩))=W2 at ND NB ⊢
   clear c0 c1 f0 f1 lt
   go_loopw [32] (fun _ wr => ∃ (k : Nat) (s : ByteArray) (f : Nat),k≤n∧k<10 ^ f∧s.size + f≤18∧Hid ((s=⟨#[]⟩∧k=n∧f=17)∨(0<s.size∧cL 20 k s.data.toList=fI n))∧Hid (Dg w.heap.size s k wr)∧Hid (Below w.heap.size w wr)) (fun _ wr => 20 - a7S ((wr.cell? ⟨w.heap.size,0,none⟩).getD undef))
   case atStart => exact ⟨n,⟨#[]⟩,17,Nat.le_refl _,by omega,by decide,.inl ⟨rfl,rfl,rfl⟩,ND,NB⟩
   case round =>
    obtain ⟨k,s,f,hkn,hk,hsf,HI,DR,BR⟩:=hrel
    obtain ⟨lt,c0,c1,f0,f1⟩:=DR.out
    by_cases he : s=⟨#[]⟩
    ·have HE : Hid (k=n∧f=17):=by
      rcases HI.out with h | h
      ·exact h.2
      ·rw [he] at h; exact absurd h.1 (by decide)
     subst he
     clear HI
     go_wp2_with fail
     refine Calls.mono (lA w.heap.size ⟨#[]⟩ k (by omega) (by decide) _ DR) ?_
     rintro e w3 ⟨rfl,hd,hb⟩
     have D2:=hid hd
     have B2:=hid (BR.out.trans hb)
     clear hd hb
     go_wp2_with fail
     go_roundw
     case rel =>
      obtain ⟨rfl,rfl⟩:=HE.out
      exact ⟨k / 10,⟨#[dig k]⟩ ++ ⟨#[]⟩,16,by omega,by omega,by rw [ByteArray.size_append]; show 1 + 0 + 16≤18; decide,.inr ⟨by rw [ByteArray.size_append]; show 0<1 + 0; decide,rfl⟩,D2,B2⟩
     case measure =>
      rw [D2.out.c0,c0]
      show 20 - (⟨#[dig k]⟩ ++ ⟨#[]⟩ : ByteArray).size<20 - 0
      rw [ByteArray.size_append]
      show 20 - (1 + 0)<20 - 0
      decide
    ·have h0 : 0<s.size:=by
      rcases Nat.eq_zero_or_pos s.size with h | h
      ·exact absurd (by cases s with | mk d => simp only [ByteArray.mk.injEq]; exact Array.eq_empty_of_size_eq_zero h) he
      ·exact h
     have HD : Hid (cL 20 k s.data.toList=fI n):=by
      rcases HI.out with h | h
      ·exact absurd h.1 he
      ·exact h.2
     have e1 : ¬ s.toList=[]:=fun e => by
      rw [Lib.toList_data] at e; have:=f8 s; rw [e] at this; simp at this; omega
     have e2 : s.toList.isEmpty=false:=by simpa using e1
     clear he HI
     by_cases hz : k=0
     ·subst hz
      have E3 : Hid (s.data.toList=fI (x / 1000000)):=by
       show _=_
       have:=HD.out
       rw [a2k] at this
       rw [this,HN.out]
      have tn:=a5B x
      have hsl : s.size≤18:=by omega
      clear hk hsf HD
      by_cases ht : T.toList=[]
      ·have EE : Hid (V5 a=(if c<0 then [45] else []) ++ s.data.toList):=by
        show _=_
        rw [E.out,E3.out]
        unfold I9
        have : aX (U1 6 x [])=[]:=by rw [← hTl.out,← Lib.toList_data,ht]
        simp only [if_pos this,List.append_nil]
       have ht2 : T.toList.isEmpty=true:=by rw [ht]; rfl
       clear tn
       by_cases hcn : c<0
       ·have ER:=hid (jB (s:=(⟨#[45]⟩ : ByteArray) ++ s) (show V5 a=_ by rw [EE.out,if_pos hcn]; simp))
        go_wp2_with fail
        go_ret
        exact ⟨by rw [ER.out]; rfl,BR⟩
       ·have ER:=hid (jB (s:=s) (show V5 a=_ by rw [EE.out,if_neg hcn]; rfl))
        go_wp2_with fail
        go_ret
        exact ⟨by rw [ER.out]; rfl,BR⟩
      ·have EE : Hid (V5 a=(if c<0 then [45] else []) ++ (s.data.toList ++ 46 :: T.data.toList)):=by
        show _=_
        rw [E.out,E3.out,hTl.out]
        unfold I9
        have : ¬ aX (U1 6 x [])=[]:=by rw [← hTl.out,← Lib.toList_data]; exact ht
        simp only [if_neg this]
       have ht2 : T.toList.isEmpty=false:=by simpa using ht
       clear tn
       by_cases hcn : c<0
       ·have ER:=hid (jB (s:=(⟨#[45]⟩ : ByteArray) ++ (s ++ (⟨#[46]⟩ ++ T))) (show V5 a=_ by rw [EE.out,if_pos hcn]; simp))
        go_wp2_with fail
        go_ret
        exact ⟨by rw [ER.out]; rfl,BR⟩
       ·have ER:=hid (jB (s:=s ++ (⟨#[46]⟩ ++ T)) (show V5 a=_ by rw [EE.out,if_neg hcn]; simp))
        go_wp2_with fail
        go_ret
        exact ⟨by rw [ER.out]; rfl,BR⟩
     ·cases f with
      | zero => omega
      | succ f =>
      have hk' : k / 10<10 ^ f:=by rw [Nat.pow_succ] at hk; omega
      have hz2 : k<10 ^ 20:=by omega
      clear hk
      go_wp2_with fail
      refine Calls.mono (lA w.heap.size s k (by omega) (by omega) _ DR) ?_
      rintro e w3 ⟨rfl,hd,hb⟩
      have D2:=hid hd
      have B2:=hid (BR.out.trans hb)
      clear hd hb
      go_wp2_with fail
      go_roundw
      case rel =>
       refine ⟨k / 10,⟨#[dig k]⟩ ++ s,f,by omega,hk',by rw [ByteArray.size_append]; show 1 + s.size + f≤18; omega,.inr ⟨by rw [ByteArray.size_append]; show 0<1 + s.size; omega,?_⟩,D2,B2⟩
       rw [← HD.out,a2u k _ hz hz2]
       simp
      case measure =>
       rw [D2.out.c0,c0]
       show 20 - (⟨#[dig k]⟩ ++ s : ByteArray).size<20 - s.size
       rw [ByteArray.size_append]
       show 20 - (1 + s.size)<20 - s.size
       omega
end
end Go.Proofs.YteefedkmgnepmaaGreatDoor
