/-
  Laws that the proof rests on.
-/
import Derived.Test.YtibiccacafjjfaaGreatDoorE06
import Derived.Test.YtibiccacafjjfaaGreatDoorE05
import Derived.Test.YtibiccacafjjfaaGreatDoorE01
import Derived.Test.YtibiccacafjjfaaGreatDoorE03
namespace Go.Proofs.YtibiccacafjjfaaGreatDoor
set_option maxRecDepth 100000
set_option maxHeartbeats 16000000
def brk (r : List UInt8) : Prop:=∀ c l,r=c :: l→gC c=false
theorem a4l : brk []:=fun _ _ h => by cases h
theorem v8 {c : UInt8} (h : gC c=false) (r : List UInt8) : brk (c :: r):=fun _ _ e => (List.cons.inj e).1 ▸ h
def Sc (bs : List UInt8) (T : List Tk) (rest : List UInt8) : Prop:=∀ (pos : Int) (k : Nat) (l : List Tk),p9 (bs ++ rest) pos k 0=.ok l→∃ ts l',l=ts ++ l'∧ts.map (a5j false)=T∧∃ pos' k',p9 rest pos' k' 0=.ok l'
theorem Sc.nil (r : List UInt8) : Sc [] [] r:=fun pos k l h => ⟨[],l,rfl,rfl,pos,k,h⟩
theorem Sc.app {a b r : List UInt8} {T U : List Tk} (h : Sc a T (b ++ r)) (h' : Sc b U r) : Sc (a ++ b) (T ++ U) r:=by
 intro pos k l hl
 rw [List.append_assoc] at hl
 obtain ⟨ts,l',rfl,e,p,k',h2⟩:=h pos k l hl
 obtain ⟨us,l'',rfl,e',p',k'',h3⟩:=h' p k' l' h2
 exact ⟨ts ++ us,l'',by rw [List.append_assoc],by rw [List.map_append,e,e'],p',k'',h3⟩
theorem Sc.cons {c : UInt8} {b r : List UInt8} {T U : List Tk} (h : Sc [c] T (b ++ r)) (h' : Sc b U r) : Sc (c :: b) (T ++ U) r:=Sc.app (a:=[c]) h h'
theorem Sc.blank {c : UInt8} (h : c.toNat≤32) (r : List UInt8) : Sc [c] [] r:=fun pos k l hl => ⟨[],l,rfl,rfl,pos + 1,k,by rw [← eP h]; exact hl⟩
theorem Sc.skip {c : UInt8} {b r : List UInt8} {T : List Tk} (hc : c.toNat≤32) (h : Sc b T r) : Sc (c :: b) T r:=Sc.cons (T:=[]) (Sc.blank hc _) h
theorem Sc.tok {c : UInt8} {r rest : List UInt8} {T : Tk} (hc : ¬ c.toNat≤32) (hc' : c≠35) (ht : ∀ pos t n,V9 c (r ++ rest) pos=.ok (t,n)→a5j false t=T∧n=r.length + 1) : Sc (c :: r) [T] rest:=by
 intro pos k l hl
 rw [List.cons_append] at hl
 cases hx : V9 c (r ++ rest) pos with
 | error e => rw [iK hc hc' hx] at hl; cases hl
 | ok p =>
   obtain ⟨t,n⟩:=p
   obtain ⟨e1,rfl⟩:=ht pos t n hx
   by_cases hk : k=8192
   ·rw [fT hc hc' hx hk] at hl; cases hl
   ·rw [iF hc hc' hx hk] at hl
    have e : (c :: (r ++ rest)).drop (r.length + 1)=rest:=by simp
    rw [e] at hl
    cases hs : p9 rest (pos + ((r.length + 1 : Nat) : Int)) (k + 1) 0 with
    | error e => rw [hs] at hl; cases hl
    | ok l' =>
      rw [hs] at hl
      have : l=[t] ++ l':=(Except.ok.inj hl).symm
      subst this
      exact ⟨[t],l',rfl,by rw [List.map_singleton,e1],_,_,hs⟩
theorem a2s : ∀ c∈Y8,(smC c=false∧dgC c=false)∧(c≠34∧grC c=false)∧¬ c.toNat≤32∧c≠35∧Y8.contains c=true:=by decide
theorem V5 {c : UInt8} (hc : c∈Y8) {rest : List UInt8} (h : c=60→rest.headD 0≠61) : Sc [c] [tS [c]] rest:=by
 obtain ⟨⟨h1,h2⟩,⟨h3,h4⟩,h5,h6,h7⟩:=a2s c hc
 refine Sc.tok h5 h6 fun pos t n ht => ?_
 rw [List.nil_append] at ht
 unfold V9 iS at ht
 rw [if_neg (by rw [h1]; decide),if_neg (by rw [h2]; decide),if_neg h3,if_neg (by rw [h4]; decide),if_neg (fun e => h e.1 e.2),if_pos h7] at ht
 cases ht
 exact ⟨rfl,rfl⟩
theorem a3j (rest : List UInt8) : Sc [60,61] [tS [60,61]] rest:=by
 refine Sc.tok (by decide) (by decide) fun pos t n ht => ?_
 unfold V9 iS at ht
 rw [if_neg (by decide),if_neg (by decide),if_neg (by decide),if_neg (by decide),if_pos ⟨rfl,rfl⟩] at ht
 cases ht
 exact ⟨rfl,rfl⟩
theorem dW {l : List UInt8} (h : r6 l=true) : ∃ c r,l=c :: r∧smC c=true∧r.all inC=true∧l.length≤24:=by
 have hn:=h
 rw [← dP] at hn
 unfold cE at hn
 simp only [Bool.and_eq_true,decide_eq_true_eq] at hn
 cases l with
 | nil => exact absurd hn.1.1 (by decide)
 | cons c r =>
   have hs : (if smC c=true then 1 + (r.takeWhile inC).length else 0)=r.length + 1:=hn.2
   by_cases hc : smC c=true
   ·rw [if_pos hc] at hs
    exact ⟨c,r,rfl,hc,(dE inC r).1 (by omega),hn.1.2⟩
   ·rw [if_neg hc] at hs; omega
theorem dK (c : UInt8) (h : gC c=false) : inC c=false∧c≠46∧dgC c=false∧grC c=false:=by
 have:=Y4 (p:=fun c => gC c || (!inC c && (c != 46) && !dgC c && !grC c)) (by decide +kernel) c
 rw [h] at this
 simpa [and_assoc] using this
theorem L8 {p : UInt8→Bool} {a r : List UInt8} (ha : a.all p=true) (hr : ∀ c l,r=c :: l→p c=false) : (a ++ r).takeWhile p=a:=by
 induction a with
 | nil =>
   cases r with
   | nil => rfl
   | cons c l => rw [List.nil_append,List.takeWhile_cons,if_neg (by rw [hr c l rfl]; decide)]
 | cons c a ih =>
   rw [List.all_cons,Bool.and_eq_true] at ha
   rw [List.cons_append,List.takeWhile_cons,if_pos ha.1,ih ha.2]
theorem nS {s r : List UInt8} (h : r6 s=true) (hr : ∀ c l,r=c :: l→inC c=false) : l6 (s ++ r)=s.length:=by
 obtain ⟨c,t,rfl,hc,ht,-⟩:=dW h
 show (if smC c then 1 + ((t ++ r).takeWhile inC).length else 0)=t.length + 1
 rw [if_pos hc,L8 ht hr,Nat.add_comm]
theorem a3d {r : List UInt8} (h : brk r) : ∀ c l,r=c :: l→inC c=false:=fun c l e => (dK c (h c l e)).1
theorem tQ {r : List UInt8} (h : brk r) : r.headD 0≠46:=by
 cases r with
 | nil => decide
 | cons c l => exact (dK c (h c l rfl)).2.1
theorem bH {a r : List UInt8} : (a ++ r).drop a.length=r:=List.drop_left
theorem dV (c : UInt8) (h : smC c=true) : ¬ c.toNat≤32∧c≠35:=by
 have:=Y4 (p:=fun c => !smC c || (!decide (c.toNat≤32) && (c != 35))) (by decide +kernel) c
 rw [h] at this
 simpa using this
theorem zB {s rest : List UInt8} (h : r6 s=true) (hr : brk rest) : Sc s [⟨if A7 s=true then 2 else 1,s,0,0⟩] rest:=by
 have hsp:=nS h (a3d hr)
 have h46:=tQ hr
 obtain ⟨c,t,rfl,hc,ht,hl⟩:=dW h
 refine Sc.tok (dV c hc).1 (dV c hc).2 fun pos u n hu => ?_
 unfold V9 at hu
 rw [if_pos hc] at hu
 unfold X7 at hu
 rw [← List.cons_append,hsp] at hu
 simp only [bH,List.take_left'] at hu
 rw [if_neg h46,if_neg (by omega)] at hu
 cases hu
 exact ⟨rfl,rfl⟩
theorem bV {s rest : List UInt8} (h : r6 s=true) (hw : A7 s=true) (hr : brk rest) : Sc s [tW s] rest:=by
 have:=zB h hr
 rw [if_pos hw] at this
 exact this
theorem lR {s : List UInt8} (h : p5 s=true) : ¬ A7 s=true:=by
 unfold p5 at h
 rw [Bool.and_eq_true] at h
 simpa using h.2
theorem a0a {s rest : List UInt8} (h : fE s=true) (hr : brk rest) : Sc s [cG s] rest:=by
 unfold cG
 unfold fE at h
 rw [Bool.and_eq_true] at h
 cases hc : (Lib.cut s [46]).2.2 with
 | false =>
   have h1:=h.1
   rw [vH hc] at h1
   have:=zB (fW h1) hr
   rw [if_neg (lR h1)] at this
   rw [if_neg (by decide)]
   exact this
 | true =>
   rw [hc] at h
   have h2 : p5 (Lib.cut s [46]).2.1=true:=by simpa using h.2
   have h1:=h.1
   have e:=zJ hc
   rw [if_pos rfl]
   generalize (Lib.cut s [46]).1=x at *
   generalize (Lib.cut s [46]).2.1=y at *
   subst e
   have s1:=nS (fW h1) (r:=46 :: (y ++ rest)) (fun c l e => by rw [← (List.cons.inj e).1]; rfl)
   have s2:=nS (fW h2) (a3d hr)
   have n1:=lR h1
   have n2:=lR h2
   obtain ⟨c,t,rfl,hc',ht,hl⟩:=dW (fW h1)
   refine Sc.tok (r:=t ++ 46 :: y) (dV c hc').1 (dV c hc').2 fun pos u n hu => ?_
   unfold V9 at hu
   rw [if_pos hc'] at hu
   unfold X7 at hu
   rw [show c :: (t ++ 46 :: y ++ rest)=(c :: t) ++ 46 :: (y ++ rest) by simp,s1] at hu
   have hdd : ((c :: t) ++ 46 :: (y ++ rest)).drop ((c :: t).length + 1)=y ++ rest:=by rw [← List.drop_drop,bH]; rfl
   simp only [hdd,bH,List.take_left' rfl] at hu
   rw [if_pos (show (46 :: (y ++ rest)).headD 0=(46 : UInt8) from rfl),s2] at hu
   simp only [List.take_left' rfl] at hu
   split at hu
   ·cases hu
   ·cases hu
    refine ⟨rfl,?_⟩
    simp only [List.length_append,List.length_cons]
    omega
theorem a0H (c : UInt8) (h : I9 c=true) : iU c=true:=by
 have:=Y4 (p:=fun c => !I9 c || iU c) (by decide +kernel) c
 rw [h] at this
 simpa using this
theorem a3a {s : List UInt8} (h : r6 s=true) (rest : List UInt8) : Sc (34 :: (s ++ [34])) [⟨7,s,0,0⟩] rest:=by
 refine Sc.tok (by decide) (by decide) fun pos t n ht => ?_
 have hq : ((s ++ [34]) ++ rest).takeWhile iU=s:=by
  rw [List.append_assoc]
  exact L8 (List.all_eq_true.2 fun c hc => a0H c (gS h c hc)) (fun c l e => by rw [← (List.cons.inj e).1]; rfl)
 unfold V9 at ht
 rw [if_neg (by decide),if_neg (by decide),if_pos rfl] at ht
 unfold O1 at ht
 have hr : bL ((s ++ [34]) ++ rest)=s.length:=by unfold bL; rw [hq]
 rw [hr,List.append_assoc] at ht
 simp only [bH,List.take_left' rfl] at ht
 rw [if_neg (fun hh => hh rfl),if_pos h] at ht
 cases ht
 exact ⟨rfl,by simp⟩
theorem a2v (c : UInt8) : cR c=grC c:=uL c
theorem vK (c : UInt8) (h : cR c=true) : ¬ c.toNat≤32∧c≠35∧smC c=false∧dgC c=false∧c≠34∧grC c=true:=by
 have:=Y4 (p:=fun c => !cR c || (!decide (c.toNat≤32) && (c != 35) && !smC c && !dgC c && (c != 34) && grC c)) (by decide +kernel) c
 rw [h] at this
 simpa [and_assoc] using this
theorem a47 {s rest : List UInt8} (h : eO s=true) (hr : brk rest) : Sc s [⟨4,s,0,0⟩] rest:=by
 unfold eO at h
 simp only [Bool.and_eq_true,decide_eq_true_eq] at h
 obtain ⟨h3,hg⟩:=h
 cases s with
 | nil => exact absurd h3 (by decide)
 | cons c s =>
   have hc:=vK c (List.all_eq_true.1 hg c (List.mem_cons_self ..))
   have hgr : (c :: s).all grC=true:=by rw [show grC=cR from funext fun c => (a2v c).symm]; exact hg
   have hq : ((c :: s) ++ rest).takeWhile grC=c :: s:=L8 hgr (fun c l e => (dK c (hr c l e)).2.2.2)
   refine Sc.tok hc.1 hc.2.1 fun pos t n ht => ?_
   unfold V9 at ht
   rw [if_neg (by rw [hc.2.2.1]; decide),if_neg (by rw [hc.2.2.2.1]; decide),if_neg hc.2.2.2.2.1,if_pos hc.2.2.2.2.2] at ht
   unfold a1d sB at ht
   rw [← List.cons_append,hq,if_pos h3] at ht
   cases ht
   refine ⟨?_,by rw [← h3]; rfl⟩
   show (⟨4,((c :: s) ++ rest).take 3,0,0⟩ : Tk)=_
   rw [← h3,List.take_left' rfl]
theorem a16 : ∀ (l : List UInt8) (a : Int),l.all dgC=true→l.foldl (fun n c => 10 * n + ((c.toNat : Int) - 48)) a=a * 10 ^ l.length + vR l
 | [],a,_ => by simp [vR]
 | c :: l,a,h => by
   rw [List.all_cons,Bool.and_eq_true] at h
   rw [List.foldl_cons,a16 l _ h.2,vR,List.length_cons,Int.pow_succ]
   have:=dL h.1
   have e1 : (((c.toNat - 48) * 10 ^ l.length + vR l : Nat) : Int)=((c.toNat : Int) - 48) * 10 ^ l.length + vR l:=by
    rw [Int.natCast_add,Int.natCast_mul,Int.natCast_pow,Int.natCast_sub (by omega)]; rfl
   rw [e1,Int.add_mul,Int.mul_comm 10 a,Int.mul_assoc,Int.mul_comm 10,Int.add_assoc]
theorem xA : ∀ (a b : List UInt8),vR (a ++ b)=vR a * 10 ^ b.length + vR b
 | [],b => by simp [vR]
 | c :: a,b => by
   rw [List.cons_append,vR,xA a b,vR,List.length_append,Nat.pow_add,Nat.add_mul,Nat.mul_assoc,Nat.add_assoc]
theorem a4c {k : Nat} (hk : k<10 ^ 20) : vR (dY k)=k:=by
 unfold dY
 rw [a2U 20 _ _ (by omega)]
 show k / 10 * 10 ^ 1 + ((dig k).toNat - 48) * 10 ^ 0 + 0=k
 rw [lJ]
 omega
theorem a3H : ∀ (k n : Nat),vR (O6 k n [])=n % 10 ^ k
 | 0,n => by rw [O6,vR]; simp [Nat.mod_one]
 | k + 1,n => by
   rw [O6,eY k _ [dig n],xA,a3H k]
   show n / 10 % 10 ^ k * 10 ^ 1 + ((dig n).toNat - 48) * 10 ^ 0 + 0=_
   rw [lJ,show (10 : Nat) ^ (k + 1)=10 * 10 ^ k by rw [Nat.pow_succ,Nat.mul_comm],Nat.mod_mul]
   omega
theorem a1H {v : Int} {n : Nat} (hn : n<10 ^ 20) (h : J9 (H6 n)=some v) : v=n:=by
 have e : H6 n=dY (n / 1000000) ++ fC n:=rfl
 have hw : (H6 n).takeWhile dgC=dY (n / 1000000):=by
  rw [e]
  exact L8 (List.all_eq_true.2 (lL _)) (lQ n)
 unfold J9 at h
 rw [hw] at h
 have hdr : (H6 n).drop (dY (n / 1000000)).length=fC n:=by rw [e,bH]
 simp only [hdr] at h
 split at h
 ·have h:=Option.some.inj h
  rw [← h]
  obtain ⟨k,hk⟩:=qR (O6 6 n [])
  have hlen:=congrArg List.length hk
  rw [bF,List.length_append,List.length_replicate] at hlen
  have ht : (fC n).tail=aL (O6 6 n []):=by
   unfold fC
   split
   ·rename_i c; rw [c]; rfl
   ·rfl
  rw [ht,show 6 - (aL (O6 6 n [])).length=k by have : ([] : List UInt8).length=0:=rfl; omega,List.append_assoc,← hk]
  unfold Cal.val
  rw [a16 _ _ (List.all_eq_true.2 fun c hc => by
   rcases List.mem_append.1 hc with hc | hc
   ·exact lL _ c hc
   ·exact lI 6 _ c hc),xA,a4c (by omega),a3H,bF]
  show (0 : Int) * _ + ((n / 1000000 * 1000000 + n % 1000000 : Nat) : Int)=n
  omega
 ·cases h
theorem a3y {a r : List UInt8} (h : a≠[]) : (a ++ r).headD 0=a.headD 0:=by
 cases a with
 | nil => exact absurd rfl h
 | cons c a => rfl
theorem a1e (n : Nat) {rest : List UInt8} (hr : brk rest) : bJ (H6 n ++ rest)=(H6 n).length:=by
 have e : H6 n=dY (n / 1000000) ++ fC n:=rfl
 have hd : ∀ r,(∀ c l,r=c :: l→dgC c=false)→O8 (dY (n / 1000000) ++ r)=(dY (n / 1000000)).length:=fun r h => by
  unfold O8
  rw [L8 (List.all_eq_true.2 (lL _)) h]
 have hs : ∀ c l,fC n ++ rest=c :: l→dgC c=false:=fun c l h => by
  cases ht : fC n with
  | nil => rw [ht] at h; exact (dK c (hr c l h)).2.2.1
  | cons a b =>
    rw [ht] at h
    rw [← (List.cons.inj h).1]
    exact lQ n a b ht
 unfold bJ
 rw [e,List.append_assoc,hd _ hs,bH]
 cases ht : fC n with
 | nil =>
   rw [List.nil_append,if_neg (fun h => tQ hr h.1),List.append_nil]
 | cons a b =>
   have hab : a=46∧b=aL (O6 6 n [])∧b≠[]:=by
    unfold fC at ht
    split at ht
    ·cases ht
    ·rename_i hne
     obtain ⟨rfl,rfl⟩:=List.cons.inj ht
     exact ⟨rfl,rfl,hne⟩
   obtain ⟨rfl,hb,hne⟩:=hab
   have hbd : b.all dgC=true:=List.all_eq_true.2 fun c hc => lI 6 n c (pB _ c (hb ▸ hc))
   have hdd : (dY (n / 1000000) ++ (46 :: b ++ rest)).drop ((dY (n / 1000000)).length + 1)=b ++ rest:=by
    rw [← List.drop_drop,bH]; rfl
   have hbh : dgC ((b ++ rest).headD 0)=true:=by
    rw [a3y hne]
    cases b with
    | nil => exact absurd rfl hne
    | cons c b => exact List.all_eq_true.1 hbd c (List.mem_cons_self ..)
   rw [hdd,if_pos ⟨rfl,hbh⟩]
   unfold O8
   rw [L8 hbd (fun c l e => (dK c (hr c l e)).2.2.1),List.length_append,List.length_cons]
   omega
theorem a4v {n : Nat} {rest : List UInt8} (h : (45 : UInt8) ∉ H6 n) (hr : brk rest) : o4 (H6 n ++ rest)=false:=by
 rw [Bool.eq_false_iff]
 intro hd
 unfold o4 at hd
 simp only [Bool.and_eq_true,decide_eq_true_eq] at hd
 obtain ⟨h10,hf,-⟩:=hd
 have hl : ((H6 n ++ rest).take 10).length=10:=by rw [List.length_take]; omega
 have at' : ∀ j (hj : j<10),Cal.fits j ((H6 n ++ rest)[j]'(by omega))=true:=fun j hj => by
  have:=hf j (by omega)
  rw [List.getElem_take] at this
  exact this
 rcases Nat.lt_or_ge 4 (H6 n).length with g | g
 ·have h4:=at' 4 (by omega)
  rw [Cal.fits_dash (.inl rfl),decide_eq_true_eq] at h4
  rw [List.getElem_append_left g] at h4
  have : (H6 n)[4]=45:=UInt8.toNat_inj.1 (Int.ofNat.inj h4)
  exact h (this ▸ List.getElem_mem g)
 ·have hm:=at' (H6 n).length (by omega)
  rw [List.getElem_append_right (Nat.le_refl _)] at hm
  simp only [Nat.sub_self] at hm
  cases hrest : rest with
  | nil => rw [hrest,List.append_nil] at h10; omega
  | cons c l =>
    have hw:=hr c l hrest
    subst hrest
    replace hm : Cal.fits (H6 n).length c=true:=hm
    rcases Nat.lt_or_ge (H6 n).length 4 with g' | g'
    ·rw [Cal.fits_dig (by omega) (by omega)] at hm
     have:=rC c (nC c hm)
     rw [hw] at this; cases this
    ·rw [Cal.fits_dash (.inl (by omega)),decide_eq_true_eq] at hm
     have : c=45:=UInt8.toNat_inj.1 (Int.ofNat.inj hm)
     subst this
     cases hw
theorem fQ (c : UInt8) (h : dgC c=true) : ¬ c.toNat≤32∧c≠35∧smC c=false:=by
 have:=Y4 (p:=fun c => !dgC c || (!decide (c.toNat≤32) && (c != 35) && !smC c)) (by decide +kernel) c
 rw [h] at this
 simpa [and_assoc] using this
theorem a5o {n : Int} {rest : List UInt8} (h : 0≤n) (h' : n≤1000000000000000) (hr : brk rest) : Sc (U5 n) [⟨6,[],n,0⟩] rest:=by
 obtain ⟨hd,hne,hw,h45⟩:=a0g h h'
 rw [qF h h'] at hd hne hw h45 ⊢
 have hR:=a1e n.natAbs hr
 have hD:=a4v h45 hr
 have hv:=a1H (n:=n.natAbs) (v:=(J9 (H6 n.natAbs)).getD 0) (by omega)
 generalize H6 n.natAbs=s at *
 cases s with
 | nil => exact absurd rfl hne
 | cons c s =>
   replace hd : dgC c=true:=hd
   refine Sc.tok (fQ c hd).1 (fQ c hd).2.1 fun pos t k ht => ?_
   unfold V9 at ht
   rw [if_neg (by rw [(fQ c hd).2.2]; decide),if_pos hd] at ht
   unfold X3 at ht
   rw [← List.cons_append,hD,if_neg (by decide),hR,List.take_left' rfl] at ht
   have hp : ∀ v,eS (c :: s)=some v→v=n:=fun v hv' => by
    rw [gY (show (c :: s).headD 0≠45 from a5K hd)] at hv'
    cases hu : J9 (c :: s) with
    | none => rw [hu] at hv'; cases hv'
    | some u =>
      rw [hu] at hv' hv
      have hun:=hv rfl
      replace hun : u=(n.natAbs : Int):=hun
      replace hv' : (if 1000000000000000<u then none else some u)=some v:=hv'
      by_cases hu' : 1000000000000000<u
      ·rw [if_pos hu'] at hv'; cases hv'
      ·rw [if_neg hu'] at hv'
       have:=Option.some.inj hv'
       omega
   cases hn : eS (c :: s) with
   | none => rw [hn] at ht; cases ht
   | some v =>
     rw [hn] at ht
     have:=hp v hn
     subst this
     replace ht : (if J4 ((List.drop (c :: s).length ((c :: s) ++ rest)).headD 0)=true then Except.ok (⟨6,[],v,pos⟩,(c :: s).length) else .error 72 : Except Int (Tk × Nat))=Except.ok (t,k):=ht
     split at ht
     ·cases ht
      exact ⟨rfl,rfl⟩
     ·cases ht
theorem a4C {n : Int} {rest : List UInt8} (h : 0≤n) (h' : n≤73048) (hr : brk rest) : Sc (bB n) [⟨5,[],n,0⟩] rest:=by
 obtain ⟨hd,hne,hw,-⟩:=a1J h h'
 obtain ⟨y,m,d,ho,hnum,et⟩:=mZ h h'
 have hlen : (bB n).length=10:=by rw [et]; exact Cal.text_len y m d
 have hf : ∀ j (hj : j<(bB n).length),Cal.fits j (bB n)[j]=true:=by rw [et]; exact Cal.text_form ho
 have hvals:=Cal.text_vals ho
 rw [← et] at hvals
 generalize bB n=s at *
 have hD : o4 (s ++ rest)=true:=by
  unfold o4
  rw [show (s ++ rest).take 10=s by rw [← hlen,List.take_left' rfl],show (s ++ rest).drop 10=rest by rw [← hlen,bH]]
  rw [decide_eq_true (show 10≤(s ++ rest).length by rw [List.length_append]; omega),decide_eq_true hf]
  have : dgC (rest.headD 0)=false:=by
   cases rest with
   | nil => rfl
   | cons c l => exact (dK c (hr c l rfl)).2.2.1
  rw [this]; rfl
 have hP : oM s=some n:=by
  unfold oM
  rw [hvals.1,hvals.2.1,hvals.2.2,if_pos ⟨hlen,hf,ho⟩,hnum]
 cases s with
 | nil => exact absurd rfl hne
 | cons c s =>
   replace hd : dgC c=true:=hd
   refine Sc.tok (fQ c hd).1 (fQ c hd).2.1 fun pos t k ht => ?_
   unfold V9 at ht
   rw [if_neg (by rw [(fQ c hd).2.2]; decide),if_pos hd] at ht
   unfold X3 at ht
   rw [← List.cons_append,hD,if_pos rfl,show ((c :: s) ++ rest).take 10=c :: s by rw [← hlen,List.take_left' rfl],hP] at ht
   replace ht : (if J4 ((List.drop 10 ((c :: s) ++ rest)).headD 0)=true then Except.ok (⟨5,[],n,pos⟩,10) else .error 72 : Except Int (Tk × Nat))=Except.ok (t,k):=ht
   split at ht
   ·cases ht
    exact ⟨rfl,hlen.symm⟩
   ·cases ht
def FS (u : Nd) : Prop:=∀ rest,brk rest→Sc (d7 u) (n5 u) rest
theorem FS.part {u : Nd} (h : FS u) {rest : List UInt8} (hr : brk rest) : Sc (R8 u.kind (d7 u)) (bG u.kind (n5 u)) rest:=by
 unfold R8 bG
 split
 ·show Sc (40 :: (d7 u ++ [41])) ([tS o3] ++ (n5 u ++ [tS m5])) rest
  exact Sc.cons (V5 (by decide) (fun e => by cases e)) (Sc.app (h _ (v8 rfl _)) (V5 (by decide) (fun e => by cases e)))
 ·exact h rest hr
theorem mQ : ∀ (ks : List Nd) (rest : List UInt8),(∀ k∈ks,FS k)→Sc (dF (ks.map d7) ++ [41]) (dZ (ks.map n5) ++ [tS m5]) rest
 | [],rest,_ => V5 (by decide) (fun e => by cases e)
 | k :: ks,rest,h => by
   show Sc (44 :: (32 :: (d7 k ++ dF (ks.map d7))) ++ [41]) (([tS i8] ++ (n5 k ++ dZ (ks.map n5))) ++ [tS m5]) rest
   have hk:=h k (List.mem_cons_self ..)
   have hc:=mQ ks rest fun k hk => h k (List.mem_cons_of_mem _ hk)
   rw [List.append_assoc,List.append_assoc,show 44 :: (32 :: (d7 k ++ dF (ks.map d7))) ++ [41]=44 :: (32 :: (d7 k ++ (dF (ks.map d7) ++ [41]))) by simp]
   refine Sc.cons (V5 (by decide) (fun e => by cases e)) (Sc.skip (by decide) (Sc.app (hk _ ?_) hc))
   cases ks with
   | nil => exact v8 rfl _
   | cons k ks => exact v8 (c:=44) rfl _
theorem pK {ks : List Nd} (hne : ks≠[]) (rest : List UInt8) (h : ∀ k∈ks,FS k) : Sc (bD (ks.map d7)) (uH (ks.map n5)) rest:=by
 cases ks with
 | nil => exact absurd rfl hne
 | cons k ks =>
   have hc:=mQ ks rest fun k hk => h k (List.mem_cons_of_mem _ hk)
   show Sc ([40] ++ d7 k ++ dF (ks.map d7) ++ [41]) ([tS o3] ++ (n5 k ++ (dZ (ks.map n5) ++ [tS m5]))) rest
   rw [List.append_assoc,List.append_assoc]
   refine Sc.app (V5 (by decide) (fun e => by cases e)) (Sc.app (h k (List.mem_cons_self ..) _ ?_) hc)
   cases ks with
   | nil => exact v8 rfl _
   | cons k ks => exact v8 (c:=44) rfl _
theorem oK {s w : List UInt8} (hn : r6 s=true) (hw : A7 w=true) (hw' : r6 w=true) {bs rest : List UInt8} {T : List Tk} (h : Sc bs T rest) : Sc (w ++ (32 :: 34 :: (s ++ [34]) ++ bs)) (tW w :: ⟨7,s,0,0⟩ :: T) rest:=by
 show Sc (w ++ (32 :: (34 :: (s ++ [34])) ++ bs)) ([tW w] ++ ([⟨7,s,0,0⟩] ++ T)) rest
 exact Sc.app (bV hw' hw (v8 rfl _)) (Sc.skip (by decide) (Sc.app (a3a hn _) h))
theorem a3R {s : List UInt8} (h : bP s=true) {c : UInt8} (hc : c.toNat≤32) (rest : List UInt8) : Sc s [a0m s] (c :: rest):=by
 have hb : gC c=false:=by
  have:=Y4 (p:=fun c => !decide (c.toNat≤32) || !gC c) (by decide +kernel) c
  rw [decide_eq_true hc] at this
  simpa using this
 have h61 : ∀ d : UInt8,d=60→(c :: rest).headD 0≠61:=fun d _ e => by
  replace e : c=61:=e
  subst e
  exact absurd hc (by decide)
 rcases mH h with rfl | rfl | rfl | rfl | rfl | rfl | rfl | rfl | rfl
 ·exact bV (by decide) (by decide) (v8 hb _)
 ·exact bV (by decide) (by decide) (v8 hb _)
 ·exact V5 (by decide) (h61 _)
 ·exact a3j _
 ·exact V5 (by decide) (h61 _)
 ·exact V5 (by decide) (h61 _)
 ·exact V5 (by decide) (h61 _)
 ·exact V5 (by decide) (h61 _)
 ·exact V5 (by decide) (h61 _)
theorem wJ (N : Nat) : ∀ (u : Nd) (d : Int),SizeOf.sizeOf u<N→d6 u d=true→FS u:=by
 induction N with
 | zero => intro u d h; omega
 | succ N ih =>
 intro u d hu h rest hr
 have hkids : ∀ k∈u.kids,FS k:=fun k hk => by
  have hp:=(y7 h).2.2.2
  rw [cQ] at hp
  exact ih k (d + 1) (sP hu hk) (List.all_eq_true.1 hp k hk)
 obtain ⟨hk,ht,hn,-⟩:=y7 h
 have hkk:=pX hk
 have ef:=qZ u
 have et:=rF u
 rcases (show u.kind=5∨u.kind=6∨u.kind=7∨u.kind=8∨u.kind=9∨u.kind=10∨u.kind=11∨u.kind=12∨u.kind=13∨u.kind=14∨u.kind=15 by omega) with e | e | e | e | e | e | e | e | e | e | e
 ·rw [e] at ef et hn
  replace ef : d7 u=U5 u.n:=ef
  replace et : n5 u=[⟨6,[],u.n,0⟩]:=et
  have hb : 0≤u.n∧u.n≤1000000000000000:=by unfold Y0 at hn; simpa using hn
  rw [ef,et]
  exact a5o hb.1 hb.2 hr
 ·rw [e] at ef et hn
  replace ef : d7 u=bB u.n:=ef
  replace et : n5 u=[⟨5,[],u.n,0⟩]:=et
  have hb : 0≤u.n∧u.n≤73048:=by unfold Y0 at hn; simpa using hn
  rw [ef,et]
  exact a4C hb.1 hb.2 hr
 ·rw [eG h (by omega)] at ef et
  rw [e] at ef et ht
  replace ef : d7 u=u.text.data.toList:=ef
  replace et : n5 u=[⟨4,u.text.data.toList,0,0⟩]:=et
  rw [ef,et]
  exact a47 ht hr
 ·rw [e] at ef et
  replace ef : d7 u=if u.n=1 then Y2 else J8:=ef
  replace et : n5 u=[tW (if u.n=1 then Y2 else J8)]:=et
  rw [ef,et]
  split
  ·exact bV (by decide) (by decide) hr
  ·exact bV (by decide) (by decide) hr
 ·rw [e] at ef et ht
  replace ef : d7 u=[102,101,101,100,32,34] ++ u.text.data.toList ++ [34]:=ef
  replace et : n5 u=[tW aI,⟨7,u.text.data.toList,0,0⟩]:=et
  rw [ef,et]
  have:=oK (s:=u.text.data.toList) (w:=aI) ht (by decide) (by decide) (Sc.nil rest)
  rw [List.append_nil] at this
  exact this
 ·rw [eG h (by omega)] at ef et
  rw [e] at ef et ht
  replace ef : d7 u=u.text.data.toList:=ef
  replace et : n5 u=[cG u.text.data.toList]:=et
  rw [ef,et]
  exact a0a ht hr
 ·have hp:=lY h (.inl e)
  rw [e] at ef et ht
  replace ef : d7 u=u.text.data.toList ++ bD ((o9 u.kids).map (·.2)):=ef
  replace et : n5 u=[cG u.text.data.toList] ++ uH ((eF u.kids).map (·.2)):=et
  rw [ef,et,oH,eC]
  refine Sc.app (a0a ht ?_) (pK hp rest hkids)
  obtain ⟨x,hx⟩:=a0s (u.kids.map d7)
  rw [hx]
  exact v8 rfl _
 ·obtain ⟨s,k,p,rfl,hs,hrk⟩:=pJ h e
  have hK:=hkids k (by simp [Nd.kids])
  rw [uP,et]
  show Sc _ ((if s.data.toList=[45] then tS aQ else tW eE) :: bG k.kind (n5 k)) rest
  have hP:=hK.part hr
  rcases hs with hs | hs
  ·rw [hs,if_pos rfl,if_pos rfl]
   exact Sc.app (T:=[tS aQ]) (V5 (by decide) (fun e => by cases e)) hP
  ·rw [hs,if_neg (by decide),if_neg (by decide)]
   exact Sc.app (a:=eE) (T:=[tW eE]) (bV (by decide) (by decide) (v8 rfl _)) (Sc.skip (by decide) hP)
 ·obtain ⟨s,k,v,p,rfl,hs,hrk,hrv⟩:=pD h e
  have hK:=(hkids k (by simp [Nd.kids])).part (rest:=32 :: (s.data.toList ++ 32 :: R8 v.kind (d7 v)) ++ rest) (v8 rfl _)
  have hV:=(hkids v (by simp [Nd.kids])).part hr
  rw [sG,et]
  show Sc _ (bG k.kind (n5 k) ++ ([a0m s.data.toList] ++ bG v.kind (n5 v))) rest
  exact Sc.app hK (Sc.skip (by decide) (Sc.app (a3R hs (by decide) _) (Sc.skip (by decide) hV)))
 ·obtain ⟨s,a,b,c,p,rfl,hs,-⟩:=tV h e
  have hA:=hkids a (by simp [Nd.kids])
  have hB:=hkids b (by simp [Nd.kids])
  have hC:=hkids c (by simp [Nd.kids])
  rw [zG,et]
  show Sc (tIf ++ 32 :: (d7 a ++ 32 :: (dQ ++ 32 :: (d7 b ++ 32 :: (cO ++ 32 :: d7 c))))) ([tW tIf] ++ (n5 a ++ ([tW dQ] ++ (n5 b ++ ([tW cO] ++ n5 c))))) rest
  exact Sc.app (bV (by decide) (by decide) (v8 rfl _)) (Sc.skip (by decide) (Sc.app (hA _ (v8 rfl _)) (Sc.skip (by decide) (Sc.app (bV (by decide) (by decide) (v8 rfl _)) (Sc.skip (by decide)
   (Sc.app (hB _ (v8 rfl _)) (Sc.skip (by decide) (Sc.app (bV (by decide) (by decide) (v8 rfl _)) (Sc.skip (by decide) (hC _ hr))))))))))
 ·have hp:=lY h (.inr e)
  rw [e] at ef et ht
  replace ef : d7 u=[112,105,99,107,32,34] ++ u.text.data.toList ++ [34] ++ bD ((o9 u.kids).map (·.2)):=ef
  replace et : n5 u=tW aG :: ⟨7,u.text.data.toList,0,0⟩ :: uH ((eF u.kids).map (·.2)):=et
  rw [ef,et,oH,eC]
  have:=oK (s:=u.text.data.toList) (w:=aG) ht (by decide) (by decide) (pK hp rest hkids)
  simpa [aG] using this
theorem a1B {u : Nd} {d : Int} (h : d6 u d=true) : FS u:=wJ _ u d (Nat.lt_succ_self _) h
theorem a1r {u : Nd} (h : d6 u 1=true) {l : List Tk} (hl : o8 (d7 u)=.ok l) : ∃ t,Sp (n5 u) l [t]∧t.kind=0:=by
 unfold o8 at hl
 split at hl
 ·cases hl
 ·have:=a1B h [] a4l 0 0 l (by rw [List.append_nil]; exact hl)
  obtain ⟨ts,l',rfl,e,p,k,hs⟩:=this
  replace hs : Except.ok [(⟨0,[],0,p⟩ : Tk)]=Except.ok (ε:=Int × Int) l':=hs
  cases hs
  exact ⟨⟨0,[],0,p⟩,⟨ts,rfl,e⟩,rfl⟩
theorem a1m {u : Nd} (h : d6 u 1=true) {l : List Tk} (hl : o8 (d7 u)=.ok l) : ∃ t e,e.kind=0∧rd .expr 0 l=.ok (t,[e])∧E0 false t=E0 false u:=by
 obtain ⟨e,hs,he⟩:=a1r h hl
 obtain ⟨t,ht,hst⟩:=vZ h hs (fun w hw => by unfold isT hd; simp [he])
 exact ⟨t,e,he,ht,hst⟩
inductive Scan : List UInt8→Int→List Tk→Prop
 | fin (p : Int) : Scan [] p [⟨0,[],0,p⟩]
 | blank {c : UInt8} {r : List UInt8} {p : Int} {l : List Tk} (h : c.toNat≤32) (hl : Scan r (p + 1) l) : Scan (c :: r) p l
 | rem {r : List UInt8} {p : Int} {l : List Tk} (hl : Scan (r.drop (eT r)) (p + 1 + eT r) l) : Scan (35 :: r) p l
 | tok {c : UInt8} {r : List UInt8} {p : Int} {t : Tk} {n : Nat} {l : List Tk} (h : ¬ c.toNat≤32) (h' : c≠35) (ht : V9 c r p=.ok (t,n)) (hl : Scan ((c :: r).drop n) (p + n) l) : Scan (c :: r) p (t :: l)
theorem a3P (N : Nat) : ∀ (u : List UInt8),u.length≤N→∀ (p : Int) (k : Nat) (l : List Tk),p9 u p k 0=.ok l→Scan u p l∧k + l.length≤8193∨8192<k:=by
 induction N with
 | zero =>
   intro u hu p k l h
   cases u with
   | nil =>
     by_cases hk : 8192<k
     ·exact .inr hk
     ·cases h
      exact .inl ⟨.fin p,by simp; omega⟩
   | cons c r => simp at hu
 | succ N ih =>
   intro u hu p k l h
   cases u with
   | nil =>
     by_cases hk : 8192<k
     ·exact .inr hk
     ·cases h
      exact .inl ⟨.fin p,by simp; omega⟩
   | cons c r =>
     rw [List.length_cons] at hu
     by_cases h32 : c.toNat≤32
     ·rw [eP h32] at h
      rcases ih r (by omega) _ _ _ h with ⟨h1,h2⟩ | h1
      ·exact .inl ⟨.blank h32 h1,h2⟩
      ·exact .inr h1
     by_cases h35 : c=35
     ·rw [mD h35] at h
      subst h35
      rcases ih _ (by rw [List.length_drop]; omega) _ _ _ h with ⟨h1,h2⟩ | h1
      ·exact .inl ⟨.rem h1,h2⟩
      ·exact .inr h1
     cases hx : V9 c r p with
     | error e => rw [iK h32 h35 hx] at h; cases h
     | ok q =>
       obtain ⟨t,n⟩:=q
       have hn:=lH hx
       by_cases hk : k=8192
       ·rw [fT h32 h35 hx hk] at h; cases h
       rw [iF h32 h35 hx hk] at h
       cases hs : p9 ((c :: r).drop n) (p + n) (k + 1) 0 with
       | error e => rw [hs] at h; cases h
       | ok l' =>
         rw [hs] at h
         obtain rfl : [t] ++ l'=l:=Except.ok.inj h
         rcases ih _ (by rw [List.length_drop,List.length_cons]; omega) _ _ _ hs with ⟨h1,h2⟩ | h1
         ·exact .inl ⟨.tok h32 h35 hx h1,by simp; omega⟩
         ·exact .inr (by omega)
theorem a3K {u : List UInt8} {l : List Tk} (h : o8 u=.ok l) : Scan u 0 l∧l.length≤8193∧u.length≤16384:=by
 unfold o8 at h
 split at h
 ·cases h
 ·rename_i g
  rcases a3P _ u (Nat.le_refl _) 0 0 l h with ⟨h1,h2⟩ | h1
  ·exact ⟨h1,by omega,by omega⟩
  ·omega
theorem lX (l : List UInt8) : o4 l=true↔10≤l.length∧(∀ j (hj : j<(l.take 10).length),Cal.fits j (l.take 10)[j]=true)∧dgC ((l.drop 10).headD 0)=false:=by
 unfold o4
 rw [Bool.and_eq_true,Bool.and_eq_true,decide_eq_true_eq,decide_eq_true_eq,Bool.not_eq_true']
def bK : List Bool→List UInt8→Bool
 | [],u => !dgC (u.headD 0)
 | _ :: _,[] => false
 | b :: P,c :: u => (if b=true then dgC c else c == 45) && bK P u
def n9 : List Bool:=[true,true,true,true,false,true,true,false,true,true]
theorem a2V (l : List UInt8) : o4 l=bK n9 l:=by
 have hx : ∀ (a b : UInt8) (k : Nat),Cal.fits k a=if k=4∨k=7 then decide ((a.toNat : Int)=45) else dgC a:=fun a b k => by
  unfold Cal.fits
  split
  ·rfl
  ·rw [oL]
 have h45 : ∀ a : UInt8,decide ((a.toNat : Int)=45)=(a == 45):=fun a => by
  have:=gR (p:=fun c => decide ((c.toNat : Int)=45) == (c == 45)) (by decide +kernel) a
  simpa using this
 match l with
 | [] => rfl
 | [_] => simp [o4,bK,n9]
 | [_,_] => simp [o4,bK,n9]
 | [_,_,_] => simp [o4,bK,n9]
 | [_,_,_,_] => simp [o4,bK,n9]
 | [_,_,_,_,_] => simp [o4,bK,n9]
 | [_,_,_,_,_,_] => simp [o4,bK,n9]
 | [_,_,_,_,_,_,_] => simp [o4,bK,n9]
 | [_,_,_,_,_,_,_,_] => simp [o4,bK,n9]
 | [_,_,_,_,_,_,_,_,_] => simp [o4,bK,n9]
 | a0 :: a1 :: a2 :: a3 :: a4 :: a5 :: a6 :: a7 :: a8 :: a9 :: r =>
   rw [Bool.eq_iff_iff,lX]
   have e : (a0 :: a1 :: a2 :: a3 :: a4 :: a5 :: a6 :: a7 :: a8 :: a9 :: r).take 10=[a0,a1,a2,a3,a4,a5,a6,a7,a8,a9]:=rfl
   rw [e]
   simp only [bK,n9,if_true,Bool.false_eq_true,if_false,Bool.and_eq_true,Bool.not_eq_true']
   constructor
   ·rintro ⟨-,h,h'⟩
    have g : ∀ j (hj : j<10),(if j=4∨j=7 then ([a0,a1,a2,a3,a4,a5,a6,a7,a8,a9][j]'hj == 45) else dgC ([a0,a1,a2,a3,a4,a5,a6,a7,a8,a9][j]'hj))=true:=fun j hj => by
     have:=h j hj
     rwa [hx _ 0,h45] at this
    exact ⟨g 0 (by decide),g 1 (by decide),g 2 (by decide),g 3 (by decide),g 4 (by decide),g 5 (by decide),g 6 (by decide),g 7 (by decide),g 8 (by decide),g 9 (by decide),h'⟩
   ·rintro ⟨g0,g1,g2,g3,g4,g5,g6,g7,g8,g9,h'⟩
    refine ⟨by simp,fun j hj => ?_,h'⟩
    rw [hx _ 0,h45]
    match j,hj with
    | 0,_ => exact g0
    | 1,_ => exact g1
    | 2,_ => exact g2
    | 3,_ => exact g3
    | 4,_ => exact g4
    | 5,_ => exact g5
    | 6,_ => exact g6
    | 7,_ => exact g7
    | 8,_ => exact g8
    | 9,_ => exact g9
def iN (l : List UInt8) : Bool:=!l.isEmpty && l.all dgC
def F7 (a : List UInt8) : Bool:=iN a && (!decide (10<a.length) && !(decide (1<a.length) && a.headD 0 == 48))
def dX (point : Bool) (b : List UInt8) : Bool:=!point || (iN b && !decide (6<b.length))
def a4w (a b : List UInt8) : Int:=Cal.val (a ++ b ++ List.replicate (6 - b.length) 48)
def nU (c : List UInt8 × List UInt8 × Bool) : Option Int:=if F7 c.1=true∧dX c.2.2 c.2.1=true then some (a4w c.1 c.2.1) else none
theorem pY {p : UInt8→Bool} {l : List UInt8} (h : l.all p=true) (r : List UInt8) (hr : ∀ c q,r=c :: q→p c=false) : (l ++ r).takeWhile p=l:=by
 induction l with
 | nil =>
   cases r with
   | nil => rfl
   | cons c q => rw [List.nil_append,List.takeWhile_cons,if_neg (by rw [hr c q rfl]; decide)]
 | cons a l ih =>
   rw [List.all_cons,Bool.and_eq_true] at h
   rw [List.cons_append,List.takeWhile_cons,if_pos h.1,ih h.2]
theorem kE {p : UInt8→Bool} : ∀ {l : List UInt8},l.all p=false→∀ r,∃ c q,(l ++ r).drop ((l ++ r).takeWhile p).length=c :: q∧p c=false∧c∈l
 | [],h,_ => by cases h
 | a :: l,h,r => by
   rw [List.all_cons] at h
   cases ha : p a with
   | false => exact ⟨a,l ++ r,by rw [List.cons_append,List.takeWhile_cons,if_neg (by rw [ha]; decide)]; rfl,ha,List.mem_cons_self ..⟩
   | true =>
     rw [ha,Bool.true_and] at h
     obtain ⟨c,q,h1,h2,h3⟩:=kE h r
     exact ⟨c,q,by rw [List.cons_append,List.takeWhile_cons,if_pos ha,List.length_cons,List.drop_succ_cons]; exact h1,h2,List.mem_cons_of_mem _ h3⟩
theorem a14 {l : List UInt8} (h : (Lib.cut l [46]).2.2=true) : l=(Lib.cut l [46]).1 ++ 46 :: (Lib.cut l [46]).2.1:=zJ h
theorem nT : ∀ (l : List UInt8),∀ c∈(Lib.cut l [46]).1,c≠46
 | [],c,h => by
   have : (Lib.cut [] [46]).1=([] : List UInt8):=rfl
   rw [this] at h; cases h
 | a :: l,c,h => by
   have ih:=nT l
   by_cases ha : a=46
   ·subst ha
    have : (Lib.cut (46 :: l) [46]).1=([] : List UInt8):=by
     unfold Lib.cut
     have e : Lib.index (46 :: l) [46]=0:=by rw [Lib.index]; rfl
     rw [e]; rfl
    rw [this] at h; cases h
   ·have hp : [46].isPrefixOf (a :: l)=false:=by
     rw [List.isPrefixOf,beq_eq_false_iff_ne.2 (fun e => ha e.symm),Bool.false_and]
    have e : Lib.index (a :: l) [46]=if Lib.index l [46] == -1 then -1 else Lib.index l [46] + 1:=by
     rw [Lib.index,hp]; rfl
    have hge:=Lib.index_ge l [46]
    have key : (Lib.cut (a :: l) [46]).1=a :: (Lib.cut l [46]).1:=by
     by_cases hn : Lib.index l [46]=-1
     ·have e2 : Lib.index (a :: l) [46]=-1:=by rw [e,hn]; rfl
      unfold Lib.cut
      rw [e2,hn,if_neg (by decide),if_neg (by decide)]
     ·have e2 : Lib.index (a :: l) [46]=Lib.index l [46] + 1:=by rw [e,if_neg (by rw [beq_iff_eq]; exact hn)]
      unfold Lib.cut
      rw [e2,if_pos (by omega),if_pos (by omega)]
      show (a :: l).take _=a :: l.take _
      rw [show (Lib.index l [46] + 1).toNat=(Lib.index l [46]).toNat + 1 by omega,List.take_succ_cons]
    rw [key] at h
    rcases List.mem_cons.1 h with rfl | h
    ·exact ha
    ·exact ih c h
theorem gZ {l : List UInt8} (h : (Lib.cut l [46]).2.2=false) : Lib.cut l [46]=(l,[],false):=by
 unfold Lib.cut at h ⊢
 split
 ·rename_i g; rw [if_pos g] at h; cases h
 ·rfl
theorem a3i (l : List UInt8) : J9 l=nU (Lib.cut l [46]):=by
 have h46 : dgC 46=false:=by decide
 cases hpt : (Lib.cut l [46]).2.2 with
 | false =>
   rw [gZ hpt]
   unfold nU dX
   have e0 : (F7 l=true∧(!false || (iN [] && !decide (6<([] : List UInt8).length)))=true)↔F7 l=true:=by simp
   simp only [e0]
   cases hd : l.all dgC with
   | true =>
     have ew : l.takeWhile dgC=l:=by
      have:=pY hd [] (fun c q h => by cases h)
      rwa [List.append_nil] at this
     unfold J9
     simp only [ew,List.drop_length]
     have ec : (1≤l.length∧l.length≤10∧(l.length=1∨l.headD 0≠48)∧U7 []=true)↔F7 l=true:=by
      unfold F7 iN
      rw [hd]
      cases l with
      | nil => simp
      | cons a l => simp [U7]; try omega
     simp only [ec]
     rfl
   | false =>
     have hw : ¬ F7 l=true:=by unfold F7 iN; rw [hd]; simp
     rw [if_neg hw]
     obtain ⟨c,q,h1,h2,h3⟩:=kE hd []
     rw [List.append_nil] at h1
     unfold J9
     simp only
     rw [if_neg]
     rintro ⟨-,-,-,h⟩
     rw [h1] at h
     unfold U7 at h
     simp only [Bool.and_eq_true,beq_iff_eq] at h
     have:=nT l c (by rw [gZ hpt]; exact h3)
     exact this h.1
 | true =>
   have hl:=a14 hpt
   have hdots:=nT l
   rcases hcut : Lib.cut l [46] with ⟨a,b,f⟩
   rw [hcut] at hpt hl hdots
   replace hpt : f=true:=hpt
   subst hpt
   replace hl : l=a ++ 46 :: b:=hl
   replace hdots : ∀ c∈a,c≠46:=hdots
   unfold nU
   simp only
   cases hd : a.all dgC with
   | true =>
     have ew : l.takeWhile dgC=a:=by rw [hl]; exact pY hd _ (fun c q h => by cases h; exact h46)
     have er : l.drop a.length=46 :: b:=by rw [hl]; exact List.drop_left
     unfold J9
     simp only [ew,er]
     have ec : (1≤a.length∧a.length≤10∧(a.length=1∨l.headD 0≠48)∧U7 (46 :: b)=true)↔(F7 a=true∧dX true b=true):=by
      unfold F7 dX iN U7
      rw [hd]
      cases a with
      | nil => simp
      | cons x a =>
        rw [hl]
        cases b with
        | nil => simp
        | cons y b =>
          simp
          constructor
          ·rintro ⟨h1,h2,h3,h4,h5⟩; exact ⟨⟨h1,h2⟩,⟨h4,h5⟩,h3⟩
          ·rintro ⟨⟨h1,h2⟩,⟨h4,h5⟩,h3⟩; exact ⟨h1,h2,h3,h4,h5⟩
     simp only [ec]
     rfl
   | false =>
     have hw : ¬ F7 a=true:=by unfold F7 iN; rw [hd]; simp
     rw [if_neg (fun h => hw h.1)]
     obtain ⟨c,q,h1,h2,h3⟩:=kE hd (46 :: b)
     rw [← hl] at h1
     unfold J9
     simp only
     rw [if_neg]
     rintro ⟨-,-,-,h⟩
     rw [h1] at h
     unfold U7 at h
     simp only [Bool.and_eq_true,beq_iff_eq] at h
     exact hdots c h3 h.1
end Go.Proofs.YtibiccacafjjfaaGreatDoor
