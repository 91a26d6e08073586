/-
  Laws that the proof rests on.
-/
import Derived.WalkKit
import Derived.Lib.ItoaNum
import Derived.Test.YtppcfebnaieciaaGreatDoorRows
import Derived.Lib.LaidTab
import Derived.Deep.RegionHeld3

namespace Go.Proofs.YtppcfebnaieciaaGreatDoor.Cal
def lp (y : Int) : Bool:=y % 4 == 0 && (y % 100 != 0 || y % 400 == 0)
def lpI (y : Int) : Int:=if lp y then 1 else 0
theorem a43 (y : Int) : lpI y=0∨lpI y=1:=by unfold lpI; split <;> simp
theorem lpI_b (y : Int) : 0≤lpI y∧lpI y≤1:=by have:=a43 y; omega
def ahead (y : Int) : Int:=365 * (y - 1 - 1899) + (y - 1) / 4 - (y - 1) / 100 + (y - 1) / 400 - 460
theorem vR : ahead 1900=0:=by decide
theorem ahead_succ (y : Int) : ahead (y + 1)=ahead y + 365 + lpI y:=by
 unfold ahead lpI lp
 by_cases a : y % 4=0 <;> by_cases b : y % 100=0 <;> by_cases c : y % 400=0 <;> simp [a,b,c] <;> omega
theorem ahead_mono {a b : Int} (h : a≤b) : ahead a≤ahead b:=by unfold ahead; omega
theorem ahead_bd {y : Int} (h : 1900≤y) (h' : y≤2100) : 0≤ahead y∧ahead y≤73049:=by unfold ahead; omega
def mlen (y m : Int) : Int:=if m=2 then 28 + lpI y else if m=4∨m=6∨m=9∨m=11 then 30 else 31
theorem mlen_bd (y m : Int) : 28≤mlen y m∧mlen y m≤31:=by unfold mlen; have:=lpI_b y; split <;> (try split) <;> omega
def cum (y m : Int) : Int :=
 if m≤1 then 0 else if m≤2 then 31 else lpI y + (if m≤3 then 59 else if m≤4 then 90 else if m≤5 then 120 else if m≤6 then 151 else if m≤7 then 181 else if m≤8 then 212 else if m≤9 then 243 else if m≤10 then 273 else if m≤11 then 304 else if m≤12 then 334 else 365)
theorem months_cases {m : Int} (h : 1≤m) (h' : m≤12) : m=1∨m=2∨m=3∨m=4∨m=5∨m=6∨m=7∨m=8∨m=9∨m=10∨m=11∨m=12:=by omega
theorem cum_1 (y : Int) : cum y 1=0:=by simp [cum]
theorem uW (y : Int) : cum y 13=365 + lpI y:=by simp [cum]; omega
theorem cum_succ (y : Int) {m : Int} (h : 1≤m) (h' : m≤12) : cum y (m + 1)=cum y m + mlen y m:=by
 rcases months_cases h h' with e | e | e | e | e | e | e | e | e | e | e | e <;> subst e <;> simp [cum,mlen] <;> omega
theorem a3L (y : Int) (k : Nat) : ∀ m : Int,1≤m→m + k≤13→cum y m≤cum y (m + k):=by
 induction k with
 | zero => intro m _ _; have e : m + ((0 : Nat) : Int)=m:=by omega
           rw [e]; exact Int.le_refl _
 | succ k ih =>
   intro m h h'
   have a:=ih m h (by omega)
   have b:=cum_succ y (show 1≤m + k by omega) (by omega)
   have c:=mlen_bd y (m + k)
   have e : m + ((k + 1 : Nat) : Int)=m + k + 1:=by omega
   rw [e]; omega
theorem cum_mono (y : Int) {m n : Int} (h0 : 1≤m) (h : m≤n) (h1 : n≤13) : cum y m≤cum y n:=by
 have a:=a3L y (n - m).toNat m h0 (by omega)
 have e : m + ((n - m).toNat : Int)=n:=by omega
 rwa [e] at a
theorem cum_bd (y : Int) {m : Int} (h : 1≤m) (h' : m≤13) : 0≤cum y m∧cum y m≤366:=by
 have a:=cum_mono y (Int.le_refl 1) h h'
 have b:=cum_mono y h h' (Int.le_refl 13)
 have c:=lpI_b y
 rw [cum_1] at a
 rw [uW] at b
 omega
def ok (y m d : Int) : Prop:=1900≤y∧y≤2099∧1≤m∧m≤12∧1≤d∧d≤mlen y m
instance (y m d : Int) : Decidable (ok y m d):=by unfold ok; infer_instance
def num (y m d : Int) : Int:=ahead y + cum y m + d - 1
theorem yP {y m d : Int} (h : ok y m d) : 0≤cum y m + d - 1∧cum y m + d - 1<365 + lpI y:=by
 obtain ⟨_,_,h3,h4,h5,h6⟩:=h
 have c:=cum_succ y h3 h4
 have b:=cum_bd y h3 (by omega)
 have e:=cum_mono y (show 1≤m + 1 by omega) (show m + 1≤13 by omega) (Int.le_refl 13)
 rw [uW] at e
 omega
theorem num_bd {y m d : Int} (h : ok y m d) : 0≤num y m d∧num y m d≤73048:=by
 have i:=yP h
 obtain ⟨h1,h2,-⟩:=h
 have a:=ahead_bd h1 (by omega)
 have b:=ahead_bd (show 1900≤y + 1 by omega) (by omega)
 have s:=ahead_succ y
 unfold num
 omega
theorem num_lt_year {y m d : Int} (h : ok y m d) : ahead y≤num y m d∧num y m d<ahead (y + 1):=by
 have i:=yP h
 have s:=ahead_succ y
 unfold num
 omega
theorem year_le {y z k : Int} (h : ahead y≤k) (h' : k<ahead (z + 1)) : y≤z:=by
 refine Int.not_lt.1 fun c => ?_
 have:=ahead_mono (show z + 1≤y by omega)
 omega
theorem tM {y m n k : Int} (hn0 : 1≤n) (hm : m≤12) (h : cum y m≤k) (h' : k<cum y (n + 1)) : m≤n:=by
 refine Int.not_lt.1 fun c => ?_
 have:=cum_mono y (show 1≤n + 1 by omega) (show n + 1≤m by omega) (by omega)
 omega
theorem num_inj {y m d z n e : Int} (h : ok y m d) (h' : ok z n e) (k : num y m d=num z n e) : y=z∧m=n∧d=e:=by
 have a:=num_lt_year h
 have b:=num_lt_year h'
 have i : y=z:=Int.le_antisymm (year_le a.1 (by omega)) (year_le b.1 (by omega))
 subst i
 obtain ⟨_,_,h3,h4,h5,h6⟩:=h
 obtain ⟨_,_,g3,g4,g5,g6⟩:=h'
 unfold num at k
 have c1:=cum_succ y h3 h4
 have c2:=cum_succ y g3 g4
 have j : m=n:=Int.le_antisymm (tM (y:=y) (k:=cum y m + d - 1) g3 h4 (by omega) (by omega)) (tM (y:=y) (k:=cum y n + e - 1) h3 g4 (by omega) (by omega))
 subst j
 exact ⟨rfl,rfl,by omega⟩
theorem a38 (k : Int) (h : 0≤k) (h' : k≤73048) : ∃ y,1900≤y∧y≤2099∧ahead y≤k∧k<ahead (y + 1):=by
 have step : ∀ n : Nat,(∃ y,1900≤y∧y≤2099∧ahead y≤k∧k<ahead (y + 1))∨ahead (1900 + n)≤k∨200<n:=by
  intro n
  induction n with
  | zero => right; left; show ahead 1900≤k; rw [vR]; exact h
  | succ n ih =>
    rcases ih with a | a | a
    ·exact .inl a
    ·by_cases c : n≤199
     ·by_cases b : k<ahead (1900 + n + 1)
      ·exact .inl ⟨1900 + n,by omega,by omega,a,b⟩
      ·right; left; have : (1900 + ((n + 1 : Nat) : Int))=1900 + n + 1:=by omega
       rw [this]; omega
     ·right; right; omega
    ·right; right; omega
 rcases step 200 with a | a | a
 ·exact a
 ·have : ahead (1900 + ((200 : Nat) : Int))=73049:=by decide
  omega
 ·omega
theorem a2B (y k : Int) (h : 0≤k) (h' : k<365 + lpI y) : ∃ m,1≤m∧m≤12∧cum y m≤k∧k<cum y (m + 1):=by
 have step : ∀ n : Nat,(∃ m,1≤m∧m≤12∧cum y m≤k∧k<cum y (m + 1))∨cum y (1 + n)≤k∨12<n:=by
  intro n
  induction n with
  | zero => right; left; show cum y 1≤k; rw [cum_1]; exact h
  | succ n ih =>
    rcases ih with a | a | a
    ·exact .inl a
    ·by_cases c : n≤11
     ·by_cases b : k<cum y (1 + n + 1)
      ·exact .inl ⟨1 + n,by omega,by omega,a,b⟩
      ·right; left; have : (1 + ((n + 1 : Nat) : Int))=1 + n + 1:=by omega
       rw [this]; omega
     ·right; right; omega
    ·right; right; omega
 rcases step 12 with a | a | a
 ·exact a
 ·have : cum y (1 + ((12 : Nat) : Int))=365 + lpI y:=uW y
  omega
 ·omega
theorem date_of (k : Int) (h : 0≤k) (h' : k≤73048) : ∃ y m d,ok y m d∧num y m d=k:=by
 obtain ⟨y,h1,h2,h3,h4⟩:=a38 k h h'
 have s:=ahead_succ y
 obtain ⟨m,g1,g2,g3,g4⟩:=a2B y (k - ahead y) (by omega) (by omega)
 have c:=cum_succ y g1 g2
 exact ⟨y,m,k - ahead y - cum y m + 1,⟨h1,h2,g1,g2,by omega,by omega⟩,by unfold num; omega⟩
def rnd (q r b : Int) : Int:=if b - r<r∨r=b - r∧q % 2=1 then q + 1 else q
def dv (a b : Int) : Int:=if a<0 then -(rnd (-a * 1000000 / b) (-a * 1000000 % b) b) else rnd (a * 1000000 / b) (a * 1000000 % b) b
end Go.Proofs.YtppcfebnaieciaaGreatDoor.Cal

namespace Go.Proofs.YtppcfebnaieciaaGreatDoor.Cal
end Go.Proofs.YtppcfebnaieciaaGreatDoor.Cal

namespace Go.Proofs.YtppcfebnaieciaaGreatDoor.Cal
def dig2 (n : Nat) : List UInt8:=[UInt8.ofNat (48 + n / 10),UInt8.ofNat (48 + n % 10)]
def text (y m d : Int) : List UInt8:=dig2 (y.toNat / 100) ++ dig2 (y.toNat % 100) ++ [45] ++ dig2 m.toNat ++ [45] ++ dig2 d.toNat
theorem a5M {u : Nat} (h : 1000≤u) (h' : u<10000) : Lib.decDigits u=dig2 (u / 100) ++ dig2 (u % 100):=by
 rw [Lib.decDigits,dif_neg (by omega),Lib.decDigits,dif_neg (by omega),Lib.decDigits,dif_neg (by omega),Lib.decDigits,dif_pos (by omega)]
 simp only [dig2,List.cons_append,List.nil_append]
 rw [show u / 10 / 10 / 10=u / 100 / 10 by omega,show u / 10 / 10 % 10=u / 100 % 10 by omega,show u / 10 % 10=u % 100 / 10 by omega,show u % 10=u % 100 % 10 by omega]
theorem itoa4 {y : Int} (h : 1000≤y) (h' : y<10000) : Lib.itoa y=dig2 (y.toNat / 100) ++ dig2 (y.toNat % 100):=by
 unfold Lib.itoa
 rw [if_neg (by omega),a5M (by omega) (by omega)]
theorem a5F {n : Nat} (h : n<100) : (Lib.decDigits (100 + n)).drop 1=dig2 n:=by
 rw [Lib.decDigits,dif_neg (by omega),Lib.decDigits,dif_neg (by omega),Lib.decDigits,dif_pos (by omega)]
 simp only [dig2,List.cons_append,List.nil_append,List.drop_succ_cons,List.drop_zero]
 rw [show (100 + n) / 10 % 10=n / 10 by omega,show (100 + n) % 10=n % 10 by omega]
theorem itoa3 {n : Int} (h : 0≤n) (h' : n<100) : (Lib.itoa (100 + n)).drop 1=dig2 n.toNat:=by
 unfold Lib.itoa
 rw [if_neg (by omega),show (100 + n).toNat=100 + n.toNat by omega,a5F (by omega)]
theorem itoa3_len {n : Int} (h : 0≤n) (h' : n<100) : (Lib.itoa (100 + n)).length=3:=by
 unfold Lib.itoa
 rw [if_neg (by omega),show (100 + n).toNat=100 + n.toNat by omega]
 rw [Lib.decDigits,dif_neg (by omega),Lib.decDigits,dif_neg (by omega),Lib.decDigits,dif_pos (by omega)]
 rfl
def isDig (c : UInt8) : Bool:=decide (48≤(c.toNat : Int)) && decide ((c.toNat : Int)≤57)
def val (l : List UInt8) : Int:=l.foldl (fun n c => 10 * n + ((c.toNat : Int) - 48)) 0
def numL (l : List UInt8) : Int:=if l.all isDig then val l else -1
theorem val_snoc (l : List UInt8) (c : UInt8) : val (l ++ [c])=10 * val l + ((c.toNat : Int) - 48):=by unfold val; rw [List.foldl_append]; rfl
theorem val_bd {l : List UInt8} : l.all isDig=true→0≤val l∧val l<10 ^ l.length:=by
 suffices h : ∀ (l : List UInt8) (k : Nat) (n : Int),l.all isDig=true→0≤n→n<10 ^ k→0≤l.foldl (fun n c => 10 * n + ((c.toNat : Int) - 48)) n∧l.foldl (fun n c => 10 * n + ((c.toNat : Int) - 48)) n<10 ^ (k + l.length) by
  intro h0
  have:=h l 0 0 h0 (by decide) (by decide)
  simpa [val] using this
 intro l
 induction l with
 | nil => intro k n _ h0 h1; simpa using ⟨h0,h1⟩
 | cons c l ih =>
   intro k n ha h0 h1
   simp only [List.all_cons,Bool.and_eq_true] at ha
   have hc : 48≤(c.toNat : Int)∧(c.toNat : Int)≤57:=by have:=ha.1; unfold isDig at this; simpa using this
   have:=ih (k + 1) (10 * n + ((c.toNat : Int) - 48)) ha.2 (by omega) (by rw [Int.pow_succ]; omega)
   rw [show k + 1 + l.length=k + (c :: l).length by simp; omega] at this
   exact this
def seg (l : List UInt8) (lo hi : Nat) : List UInt8:=(l.drop lo).take (hi - lo)
theorem seg_all (l : List UInt8) {lo hi : Nat} (hd : ∀ j (hj : j<l.length),lo≤j→j<hi→isDig l[j]=true) : (seg l lo hi).all isDig=true:=by
 rw [List.all_eq_true]
 intro x hx
 unfold seg at hx
 obtain ⟨i,hi',rfl⟩:=List.getElem_of_mem hx
 rw [List.getElem_take,List.getElem_drop]
 simp only [List.length_take,List.length_drop] at hi'
 exact hd _ (by omega) (by omega) (by omega)
theorem seg_not (l : List UInt8) {lo hi k : Nat} (h : lo≤k) (h' : k<hi) (hk : k<l.length) (hd : isDig l[k]=false) : numL (seg l lo hi)=-1:=by
 unfold numL
 rw [if_neg]
 intro a
 rw [List.all_eq_true] at a
 have : l[k]∈seg l lo hi:=by
  unfold seg
  rw [List.mem_iff_getElem]
  refine ⟨k - lo,by simp; omega,?_⟩
  rw [List.getElem_take,List.getElem_drop]
  congr 1
  omega
 rw [a _ this] at hd
 cases hd
def fits (k : Nat) (c : UInt8) : Bool:=if k=4∨k=7 then decide ((c.toNat : Int)=45) else isDig c
theorem fits_dig {k : Nat} {c : UInt8} (h4 : k≠4) (h7 : k≠7) : fits k c=isDig c:=by unfold fits; rw [if_neg (by omega)]
theorem fits_dash {k : Nat} {c : UInt8} (h : k=4∨k=7) : fits k c=decide ((c.toNat : Int)=45):=by unfold fits; rw [if_pos h]
end Go.Proofs.YtppcfebnaieciaaGreatDoor.Cal

namespace Go.Proofs.YtppcfebnaieciaaGreatDoor.Cal
theorem sZ {a b : Nat} (ha : a<10) (hb : b<10) : (UInt8.ofNat (48 + a) == UInt8.ofNat (48 + b))=decide (a=b):=by
 rw [Bool.eq_iff_iff,beq_iff_eq,decide_eq_true_iff]
 constructor
 ·intro h
  have:=congrArg UInt8.toNat h
  rw [UInt8.toNat_ofNat',UInt8.toNat_ofNat'] at this
  omega
 ·rintro rfl; rfl
end Go.Proofs.YtppcfebnaieciaaGreatDoor.Cal

namespace Go.Proofs.YtppcfebnaieciaaGreatDoor
open Go.RowKit
inductive Nd where
 | mk (kind : Int) (text : ByteArray) (n : Int) (kids : List Nd) (place : Int)
def Nd.kind : Nd→Int | .mk k _ _ _ _ => k
def Nd.text : Nd→ByteArray | .mk _ s _ _ _ => s
def Nd.n : Nd→Int | .mk _ _ n _ _ => n
def Nd.kids : Nd→List Nd | .mk _ _ _ ks _ => ks
def Nd.place : Nd→Int | .mk _ _ _ _ p => p
mutual
def Nd.hold (n₀ : Nat) (W : World) : Nd→Option Addr→Nat→Prop
 | .mk kind s n ks p,a,cap => (Lit.int .i64 kind).wf=true∧s.size≤maxLen∧(Lit.int .i64 n).wf=true∧(Lit.int .i64 p).wf=true∧ks.length≤cap∧cap≤maxLen∧Nd.holds n₀ W ks a 0
def Nd.holds (n₀ : Nat) (W : World) : List Nd→Option Addr→Nat→Prop
 | [],_,_ => True
 | .mk kind s n ks p :: r,a,i => (∃ b off a' cap',a=some ⟨b,off,none⟩∧b < n₀∧W.cell? ⟨b,off + i * 5,none⟩=some (.int .i64 kind)∧W.cell? ⟨b,off + i * 5 + 1,none⟩=some (.string s) ∧
    W.cell? ⟨b,off + i * 5 + 2,none⟩=some (.int .i64 n)∧W.cell? ⟨b,off + i * 5 + 3,none⟩=some (.slice a' ks.length cap')∧W.cell? ⟨b,off + i * 5 + 4,none⟩=some (.int .i64 p)∧Nd.hold n₀ W (.mk kind s n ks p) a' cap')∧Nd.holds n₀ W r a (i + 1)
end
mutual
theorem Nd.hold.below {n₀ : Nat} {A B : World} (h : Below n₀ A B) : ∀ (t : Nd) {a : Option Addr} {cap : Nat},t.hold n₀ A a cap→t.hold n₀ B a cap
 | .mk _ _ _ ks _,_,_,⟨h1,h2,h3,h4,h5,h6,h7⟩ => ⟨h1,h2,h3,h4,h5,h6,Nd.holds.below h ks h7⟩
theorem Nd.holds.below {n₀ : Nat} {A B : World} (h : Below n₀ A B) : ∀ (ts : List Nd) {a : Option Addr} {i : Nat},Nd.holds n₀ A ts a i→Nd.holds n₀ B ts a i
 | [],_,_,_ => trivial
 | .mk kind s n ks p :: r,_,i,⟨⟨b,off,a',cap',ha,hb,c0,c1,c2,c3,c4,hk⟩,hr⟩ =>
   ⟨⟨b,off,a',cap',ha,hb,(h.cell (p:=⟨b,off + i * 5,none⟩) hb).trans c0,(h.cell (p:=⟨b,off + i * 5 + 1,none⟩) hb).trans c1,(h.cell (p:=⟨b,off + i * 5 + 2,none⟩) hb).trans c2,(h.cell (p:=⟨b,off + i * 5 + 3,none⟩) hb).trans c3,(h.cell (p:=⟨b,off + i * 5 + 4,none⟩) hb).trans c4,Nd.hold.below h (.mk kind s n ks p) hk⟩,Nd.holds.below h r hr⟩
end
def Nd.val (t : Nd) (a : Option Addr) (cap : Nat) : Value:=.agg #[.int .i64 t.kind,.string t.text,.int .i64 t.n,.slice a t.kids.length cap,.int .i64 t.place]
structure Nd.At (n₀ : Nat) (W : World) (a : Option Addr) (i : Nat) (t : Nd) (b off : Nat) (a' : Option Addr) (cap' : Nat) : Prop where
 addr : a=some ⟨b,off,none⟩
 lt : b<n₀
 c0 : W.cell? ⟨b,off + i * 5,none⟩=some (.int .i64 t.kind)
 c1 : W.cell? ⟨b,off + i * 5 + 1,none⟩=some (.string t.text)
 c2 : W.cell? ⟨b,off + i * 5 + 2,none⟩=some (.int .i64 t.n)
 c3 : W.cell? ⟨b,off + i * 5 + 3,none⟩=some (.slice a' t.kids.length cap')
 c4 : W.cell? ⟨b,off + i * 5 + 4,none⟩=some (.int .i64 t.place)
 held : t.hold n₀ W a' cap'
theorem Nd.holds.at {n₀ : Nat} {W : World} {a : Option Addr} : ∀ (ts : List Nd) (i : Nat),Nd.holds n₀ W ts a i→∀ j (hj : j<ts.length),∃ b off a' cap',Nd.At n₀ W a (i + j) ts[j] b off a' cap'
 | .mk kind s n ks p :: r,i,⟨⟨b,off,a',cap',ha,hb,c0,c1,c2,c3,c4,hk⟩,hr⟩,j,hj => by
   cases j with
   | zero => exact ⟨b,off,a',cap',ha,hb,c0,c1,c2,c3,c4,hk⟩
   | succ j =>
     have:=Nd.holds.at r (i + 1) hr j (by simpa using hj)
     rw [show i + (j + 1)=i + 1 + j by omega]
     exact this
theorem Nd.holds.of {n₀ : Nat} {W : World} {a : Option Addr} : ∀ (ts : List Nd) (i : Nat),(∀ j (hj : j<ts.length),∃ b off a' cap',Nd.At n₀ W a (i + j) ts[j] b off a' cap')→Nd.holds n₀ W ts a i
 | [],_,_ => trivial
 | .mk kind s n ks p :: r,i,h => by
   obtain ⟨b,off,a',cap',ha,hb,c0,c1,c2,c3,c4,hk⟩:=h 0 (by simp)
   refine ⟨⟨b,off,a',cap',ha,hb,c0,c1,c2,c3,c4,hk⟩,Nd.holds.of r (i + 1) fun j hj => ?_⟩
   have:=h (j + 1) (by simpa using hj)
   rw [show i + (j + 1)=i + 1 + j by omega] at this
   exact this
theorem Nd.hold.kid {n₀ : Nat} {W : World} {t : Nd} {a : Option Addr} {cap : Nat} (h : t.hold n₀ W a cap) (j : Nat) (hj : j<t.kids.length) : ∃ b off a' cap',Nd.At n₀ W a j t.kids[j] b off a' cap':=by
 cases t with
 | mk kind s n ks p =>
   have:=Nd.holds.at ks 0 h.2.2.2.2.2.2 j hj
   rw [Nat.zero_add] at this
   exact this
theorem Nd.hold.bounds {n₀ : Nat} {W : World} {t : Nd} {a : Option Addr} {cap : Nat} (h : t.hold n₀ W a cap) : (Lit.int .i64 t.kind).wf=true∧t.text.size≤maxLen∧(Lit.int .i64 t.n).wf=true∧(Lit.int .i64 t.place).wf=true∧t.kids.length≤cap∧cap≤maxLen:=by
 cases t with
 | mk kind s n ks p => exact ⟨h.1,h.2.1,h.2.2.1,h.2.2.2.1,h.2.2.2.2.1,h.2.2.2.2.2.1⟩
theorem sF {α : Type} {R : Nat→α→Prop} : ∀ (n : Nat),(∀ i,i<n→∃ t,R i t)→∃ l : List α,l.length=n∧∀ i (h : i<l.length),R i l[i]
 | 0,_ => ⟨[],rfl,fun i h => absurd h (by simp)⟩
 | n + 1,h => by
   obtain ⟨l,hl,hr⟩:=sF n fun i hi => h i (by omega)
   obtain ⟨t,ht⟩:=h n (by omega)
   refine ⟨l ++ [t],by simp [hl],fun i hi => ?_⟩
   by_cases c : i<l.length
   ·rw [List.getElem_append_left c]; exact hr i c
   ·have : i=l.length:=by simp at hi; omega
    subst this
    rw [List.getElem_append_right (by omega)]
    simp only [Nat.sub_self,List.getElem_cons_zero]
    rw [hl]; exact ht
theorem a4s : Tryz.prog.cellsOf 24=5:=by kernel_rfl
theorem a5h : Tryz.prog.cellsOf 3=1:=by kernel_rfl
theorem a3Z : Tryz.prog.cellsOf 2=1:=by kernel_rfl
theorem a2M : Tryz.prog.cellsOf 9=1:=by kernel_rfl
theorem vB : Tryz.prog.cellsOf 22=1:=by kernel_rfl
theorem a4z {α : Type} {l : List α} (h : l.length=5) : ∃ a b c d e,l=[a,b,c,d,e]:=by
 match l,h with
 | [a,b,c,d,e],_ => exact ⟨a,b,c,d,e,rfl⟩
end Go.Proofs.YtppcfebnaieciaaGreatDoor

namespace Go.Proofs.YtppcfebnaieciaaGreatDoor
mutual
def Q2 : Nd→Int→Int
 | .mk _ _ _ ks _,m => y8 ks (m - 1)
def y8 : List Nd→Int→Int
 | [],m => m
 | k :: ks,m => if 0≤m then y8 ks (Q2 k m) else m
end
def O5 (t : Nd) : Bool:=decide (0≤Q2 t 8192)
mutual
def i7 : Nd→Nat
 | .mk _ _ _ ks _ => j7 ks + 1
def j7 : List Nd→Nat
 | [] => 0
 | k :: ks => i7 k + j7 ks
end
theorem fJ (ks : List Nd) {m : Int} (h : ¬ 0≤m) : y8 ks m=m:=by
 cases ks with
 | nil => rw [y8]
 | cons k ks => rw [y8,if_neg h]
theorem tS (ks : List Nd) (k : Nat) (hk : k<ks.length) (m : Int) : y8 (ks.drop k) m=if 0≤m then y8 (ks.drop (k + 1)) (Q2 ks[k] m) else m:=by
 rw [List.drop_eq_getElem_cons hk,y8]
theorem vM (ks : List Nd) (k : Nat) (hk : ¬ k<ks.length) (m : Int) : y8 (ks.drop k) m=m:=by
 rw [List.drop_of_length_le (by omega),y8]
theorem eD {kind n p : Int} {s : ByteArray} {ks : List Nd} {N k : Nat} (hk : k<ks.length) (h : SizeOf.sizeOf (Nd.mk kind s n ks p)<N + 1) : SizeOf.sizeOf ks[k]<N:=by
 have:=List.sizeOf_lt_of_mem (List.getElem_mem hk)
 simp only [Nd.mk.sizeOf_spec] at h
 omega
mutual
theorem lG : ∀ (t : Nd) (m : Int),0≤m→Q2 t m=if (i7 t : Int)≤m then m - i7 t else -1
 | .mk _ _ _ ks _,m,h => by
   rw [Q2,oH ks (m - 1) (by omega),i7]
   split <;> split <;> omega
theorem oH : ∀ (ks : List Nd) (m : Int),-1≤m→y8 ks m=if (j7 ks : Int)≤m then m - j7 ks else -1
 | [],m,h => by
   rw [y8,j7]
   split <;> omega
 | k :: ks,m,h => by
   rw [y8,j7]
   by_cases h0 : 0≤m
   ·rw [if_pos h0,lG k m h0]
    by_cases hk : (i7 k : Int)≤m
    ·rw [if_pos hk,oH ks _ (by omega)]
     split <;> split <;> omega
    ·rw [if_neg hk,fJ _ (by decide),if_neg (by omega)]
   ·rw [if_neg h0,if_neg (by omega)]
    omega
end
theorem tV (t : Nd) (m : Int) (h : 0≤m) : -1≤Q2 t m∧Q2 t m≤m:=by
 rw [lG t m h]
 split <;> omega
theorem cP (t : Nd) : O5 t=decide (i7 t≤8192):=by
 unfold O5
 rw [lG t 8192 (by decide),Bool.eq_iff_iff]
 simp only [decide_eq_true_eq]
 split <;> omega
end Go.Proofs.YtppcfebnaieciaaGreatDoor

namespace Go.Proofs.YtppcfebnaieciaaGreatDoor
open Go.RowKit
mutual
def Nd.lies (av : Nat→Prop) (W : World) : Nd→Option Addr→Nat→Prop
 | .mk kind s n ks p,a,cap => (Lit.int .i64 kind).wf=true∧s.size≤maxLen∧(Lit.int .i64 n).wf=true∧(Lit.int .i64 p).wf=true∧ks.length≤cap∧cap≤maxLen∧Nd.lie av W ks a 0
def Nd.lie (av : Nat→Prop) (W : World) : List Nd→Option Addr→Nat→Prop
 | [],_,_ => True
 | .mk kind s n ks p :: r,a,i => (∃ b off a' cap',a=some ⟨b,off,none⟩∧av b∧W.cell? ⟨b,off + i * 5,none⟩=some (.int .i64 kind)∧W.cell? ⟨b,off + i * 5 + 1,none⟩=some (.string s) ∧
    W.cell? ⟨b,off + i * 5 + 2,none⟩=some (.int .i64 n)∧W.cell? ⟨b,off + i * 5 + 3,none⟩=some (.slice a' ks.length cap')∧W.cell? ⟨b,off + i * 5 + 4,none⟩=some (.int .i64 p)∧Nd.lies av W (.mk kind s n ks p) a' cap')∧Nd.lie av W r a (i + 1)
end
mutual
theorem Nd.lies.kept {av av' : Nat→Prop} {A B : World} (h : ∀ b,av b→av' b∧∀ o,B.cell? ⟨b,o,none⟩=A.cell? ⟨b,o,none⟩) : ∀ (t : Nd) {a : Option Addr} {cap : Nat},t.lies av A a cap→t.lies av' B a cap
 | .mk _ _ _ ks _,_,_,⟨h1,h2,h3,h4,h5,h6,h7⟩ => ⟨h1,h2,h3,h4,h5,h6,Nd.lie.kept h ks h7⟩
theorem Nd.lie.kept {av av' : Nat→Prop} {A B : World} (h : ∀ b,av b→av' b∧∀ o,B.cell? ⟨b,o,none⟩=A.cell? ⟨b,o,none⟩) : ∀ (ts : List Nd) {a : Option Addr} {i : Nat},Nd.lie av A ts a i→Nd.lie av' B ts a i
 | [],_,_,_ => trivial
 | .mk kind s n ks p :: r,_,_,⟨⟨b,off,a',cap',ha,hb,c0,c1,c2,c3,c4,hk⟩,hr⟩ =>
   ⟨⟨b,off,a',cap',ha,(h b hb).1,((h b hb).2 _).trans c0,((h b hb).2 _).trans c1,((h b hb).2 _).trans c2,((h b hb).2 _).trans c3,((h b hb).2 _).trans c4,Nd.lies.kept h (.mk kind s n ks p) hk⟩,Nd.lie.kept h r hr⟩
end
mutual
theorem Nd.lies.hold {n₀ : Nat} {W : World} : ∀ (t : Nd) {a : Option Addr} {cap : Nat},t.lies (· < n₀) W a cap→t.hold n₀ W a cap
 | .mk _ _ _ ks _,_,_,⟨h1,h2,h3,h4,h5,h6,h7⟩ => ⟨h1,h2,h3,h4,h5,h6,Nd.lie.holds ks h7⟩
theorem Nd.lie.holds {n₀ : Nat} {W : World} : ∀ (ts : List Nd) {a : Option Addr} {i : Nat},Nd.lie (· < n₀) W ts a i→Nd.holds n₀ W ts a i
 | [],_,_,_ => trivial
 | .mk kind s n ks p :: r,_,_,⟨⟨b,off,a',cap',ha,hb,c0,c1,c2,c3,c4,hk⟩,hr⟩ =>
   ⟨⟨b,off,a',cap',ha,hb,c0,c1,c2,c3,c4,Nd.lies.hold (.mk kind s n ks p) hk⟩,Nd.lie.holds r hr⟩
end
structure Nd.LieAt (av : Nat→Prop) (W : World) (a : Option Addr) (i : Nat) (t : Nd) (b off : Nat) (a' : Option Addr) (cap' : Nat) : Prop where
 addr : a=some ⟨b,off,none⟩
 ok : av b
 c0 : W.cell? ⟨b,off + i * 5,none⟩=some (.int .i64 t.kind)
 c1 : W.cell? ⟨b,off + i * 5 + 1,none⟩=some (.string t.text)
 c2 : W.cell? ⟨b,off + i * 5 + 2,none⟩=some (.int .i64 t.n)
 c3 : W.cell? ⟨b,off + i * 5 + 3,none⟩=some (.slice a' t.kids.length cap')
 c4 : W.cell? ⟨b,off + i * 5 + 4,none⟩=some (.int .i64 t.place)
 held : t.lies av W a' cap'
theorem Nd.lie.of {av : Nat→Prop} {W : World} {a : Option Addr} : ∀ (ts : List Nd) (i : Nat),(∀ j (hj : j<ts.length),∃ b off a' cap',Nd.LieAt av W a (i + j) ts[j] b off a' cap')→Nd.lie av W ts a i
 | [],_,_ => trivial
 | .mk kind s n ks p :: r,i,h => by
   obtain ⟨b,off,a',cap',ha,hb,c0,c1,c2,c3,c4,hk⟩:=h 0 (by simp)
   refine ⟨⟨b,off,a',cap',ha,hb,c0,c1,c2,c3,c4,hk⟩,Nd.lie.of r (i + 1) fun j hj => ?_⟩
   have:=h (j + 1) (by simpa using hj)
   rw [show i + (j + 1)=i + 1 + j by omega] at this
   exact this
theorem Nd.lies.mk' {av : Nat→Prop} {W : World} {k n p : Int} {s : ByteArray} {ks : List Nd} {a : Option Addr} {cap : Nat} (hk : (Lit.int .i64 k).wf=true) (hs : s.size≤maxLen) (hn : (Lit.int .i64 n).wf=true) (hp : (Lit.int .i64 p).wf=true) (hl : ks.length≤cap) (hc : cap≤maxLen) (h : Nd.lie av W ks a 0) :
 Nd.lies av W (.mk k s n ks p) a cap:=⟨hk,hs,hn,hp,hl,hc,h⟩
end Go.Proofs.YtppcfebnaieciaaGreatDoor

namespace Go.Proofs.YtppcfebnaieciaaGreatDoor
section
variable {Pr : Program} {ops : Array Oper} {Q : Exit→Act→World→Prop} {md : Region.Mode} {S : World→Prop}
theorem a8 {n : Nat} {oi : Oper} {v : Value} {listed l' : Array Bool} {a a' : Act} {w : World} (i : Nat) (h : wpAnyH Pr md ops Q S n l' a' w) (hi : ops[i]?=some oi:=by exact r6 rfl) (hs : Region.noSelect ops=true:=by kernel_rfl) (hf : Region.free md ops listed i=true:=by kernel_rfl)
 (hr : (Region.ready md ops listed).contains i=true:=by kernel_rfl) (hQ : ∀ c a w,Q (.panic c) (a.put oi.dst v) w→Q (.panic c) a w:=by exact fun _ _ _ h => h)
 (hy : YieldsIf Pr ops S oi v a:=by exact Or.inl ⟨by rfl,by intro w hSw; (try dsimp only at hSw); go_simp; try with_reducible rfl⟩) (hS : S w:=by assumption)
 (hl : listed.setIfInBounds i true=l':=by first | (simp only [List.setIfInBounds_toArray,List.set_cons_zero,List.set_cons_succ]; try rfl) | rfl) (ha : a.put oi.dst v=a':=by first | (simp only [Act.put,List.setIfInBounds_toArray,List.set_cons_zero,List.set_cons_succ]; try rfl) | rfl) : wpAnyH Pr md ops Q S (n + 1) listed a w :=
 wpAnyH_take hi hs hf hr hQ hy hS (hl ▸ ha ▸ h)
theorem D9 {n : Nat} {oi : Oper} {listed l' : Array Bool} {a a' : Act} {w : World} (i : Nat) (h : wpAnyH Pr md ops Q S n l' a' w) (hi : ops[i]?=some oi:=by exact r6 rfl) (hs : Region.noSelect ops=true:=by kernel_rfl) (hf : Region.free md ops listed i=true:=by kernel_rfl)
 (hr : (Region.ready md ops listed).contains i=true:=by kernel_rfl) (hQ : ∀ c a w,Q (.panic c) (a.put oi.dst undef) w→Q (.panic c) a w:=by exact fun _ _ _ h => h)
 (hy : Region.wanted oi (yielded ops a.tmps)=false:=by rfl) (hS : S w:=by assumption)
 (hl : listed.setIfInBounds i true=l':=by first | (simp only [List.setIfInBounds_toArray,List.set_cons_zero,List.set_cons_succ]; try rfl) | rfl) (ha : a.put oi.dst undef=a':=by first | (simp only [Act.put,List.setIfInBounds_toArray,List.set_cons_zero,List.set_cons_succ]; try rfl) | rfl) : wpAnyH Pr md ops Q S (n + 1) listed a w :=
 wpAnyH_take hi hs hf hr hQ (Or.inr ⟨hy,rfl⟩) hS (hl ▸ ha ▸ h)
end
theorem j6 {α : Type} {l : List α} {i : Nat} {a : α} : l.toArray.setIfInBounds i a=(l.set i a).toArray:=List.setIfInBounds_toArray ..
theorem v6 {α : Type} {x a : α} {l : List α} : (x :: l).set 0 a=a :: l:=List.set_cons_zero ..
theorem v7 {α : Type} {x a : α} {l : List α} {n : Nat} : (x :: l).set (n + 1) a=x :: l.set n a:=List.set_cons_succ ..
end Go.Proofs.YtppcfebnaieciaaGreatDoor

namespace Go.Proofs.YtppcfebnaieciaaGreatDoor
section
variable {Pr : Program} {ops : Array Oper} {Q : Exit→Act→World→Prop} {md : Region.Mode} {S : World→Prop}
def b8 (Pr : Program) (md : Region.Mode) (ops : Array Oper) (Q : Exit→Act→World→Prop) (S : World→Prop) (z : Nat) : Nat→Array Bool→Act→World→Prop
 | 0,listed,a,w => Region.ready md ops listed=[]∧Q .normal a w
 | n + 1,listed,a,w => (Region.ready md ops listed=[]→Q .normal a w) ∧
   ∀ i∈Region.ready md ops listed,wpOp Pr ops Q i (fun a' w' => (i≠z→S w')∧b8 Pr md ops Q S z n (listed.setIfInBounds i true) a' w') a w
theorem b8.any {z : Nat} : ∀ (n : Nat) (listed : Array Bool) (a : Act) (w : World),b8 Pr md ops Q S z n listed a w→wpAny Pr md ops Q n listed a w
 | 0,_,_,_,h => h
 | n + 1,_,_,_,h => ⟨h.1,fun i hi => wpOp_mono (fun a' w' h' => b8.any n _ a' w' h'.2) (h.2 i hi)⟩
def fB (md : Region.Mode) (ops : Array Oper) (z i : Nat) : Bool:=match ops[z]? with
 | some o => o.after.any fun e => Region.binds md e && e.on == i
 | none => false
theorem fB.not_ready {z i : Nat} {listed : Array Bool} (h : fB md ops z i=true) (hi : listed.getD i true=false) : z ∉ Region.ready md ops listed:=by
 intro hz
 obtain ⟨-,o,ho,hall⟩:=mem_ready.1 hz
 unfold fB at h
 rw [ho] at h
 simp only [Array.any_eq_true,Bool.and_eq_true,beq_iff_eq] at h
 obtain ⟨j,hj,hb,he⟩:=h
 have h2:=hall _ (Array.getElem_mem hj) hb
 rw [he] at h2
 rcases Nat.lt_or_ge i listed.size with g | g
 ·simp [g] at hi h2
  rw [hi] at h2; cases h2
 ·simp [Array.getElem?_eq_none g] at h2
theorem b8.first {i z : Nat} {oi : Oper} {v : Value} (hi : ops[i]?=some oi) (hsel : ∀ (j : Nat) (o : Oper) cs b,ops[j]?=some o→o.op≠.select cs b) (hiz : i≠z) (hz : fB md ops z i=true)
 (hQ : ∀ c a w,Q (.panic c) (a.put oi.dst v) w→Q (.panic c) a w) : ∀ (n : Nat) (listed : Array Bool) (a : Act) (w : World),
   (∀ j oj,ops[j]?=some oj→j≠i→listed.getD j true=false→(∀ e∈oj.after,Region.binds md e=true→e.on≠i)→oi.apart ops oj=true) →
   i∈Region.ready md ops listed→YieldsIf Pr ops S oi v a→S w →
   b8 Pr md ops Q S z n (listed.setIfInBounds i true) (a.put oi.dst v) w→b8 Pr md ops Q S z (n + 1) listed a w
 | 0,listed,a,w,_,hr,hy,hS,H => by
   refine ⟨fun h => (by rw [h] at hr; cases hr),fun j hj => ?_⟩
   by_cases hji : j=i
   ·subst hji; exact hy.wpOp hi hS ⟨fun _ => hS,H⟩
   ·have:=ready_mono hj hji
    rw [H.1] at this
    cases this
 | n + 1,listed,a,w,hfree,hr,hy,hS,H => by
   have hun:=(mem_ready.1 hr).1
   refine ⟨fun h => (by rw [h] at hr; cases hr),fun j hj => ?_⟩
   by_cases hji : j=i
   ·subst hji; exact hy.wpOp hi hS ⟨fun _ => hS,H⟩
   ·have hjz : j≠z:=fun e => fB.not_ready hz hun (e ▸ hj)
    obtain ⟨hjun,oj,hoj,hall⟩:=mem_ready.1 hj
    have hno : ∀ e∈oj.after,Region.binds md e=true→e.on≠i:=fun e he hb heq => by
     have h1:=hall e he hb
     rw [heq] at h1
     rcases Nat.lt_or_ge i listed.size with g | g
     ·simp [g] at hun h1; rw [hun] at h1; cases h1
     ·simp [Array.getElem?_eq_none g] at h1
    have h2:=wpOp_putIf hoj (hfree j oj hoj hji hjun hno) (fun cs b => hsel i oi cs b hi) (fun cs b => hsel j oj cs b hoj) hQ hy (H.2 j (ready_mono hj hji))
    refine wpOp_mono (fun a' w' h3 => ⟨h3.2.1,b8.first hi hsel hiz hz hQ n (listed.setIfInBounds j true) a' w' (fun k ok hk hki hku hkn => ?_) (ready_mono hr (Ne.symm hji)) h3.1 (h3.2.1 hjz) ?_⟩) h2
    ·refine hfree k ok hk hki ?_ hkn
     by_cases hjk : j=k
     ·subst hjk; exact hjun
     ·rw [getD_set_ne true hjk] at hku; exact hku
    ·rw [Array.setIfInBounds_comm _ _ hji]
     exact h3.2.2
theorem b8.take {i z : Nat} {oi : Oper} {v : Value} {n : Nat} {listed : Array Bool} {a : Act} {w : World} (hi : ops[i]?=some oi) (hs : Region.noSelect ops=true) (hf : Region.free md ops listed i=true) (hr : (Region.ready md ops listed).contains i=true) (hz : (decide (i≠z) && fB md ops z i)=true)
 (hQ : ∀ c a w,Q (.panic c) (a.put oi.dst v) w→Q (.panic c) a w) (hy : YieldsIf Pr ops S oi v a) (hS : S w) (h : b8 Pr md ops Q S z n (listed.setIfInBounds i true) (a.put oi.dst v) w) : b8 Pr md ops Q S z (n + 1) listed a w:=by
 simp only [Bool.and_eq_true,decide_eq_true_eq] at hz
 exact b8.first hi (Region.noSelect_spec hs) hz.1 hz.2 hQ n listed a w (Region.free_spec hi hf) (by simpa using hr) hy hS h
theorem b8.next {i z : Nat} {o : Oper} {n : Nat} {listed : Array Bool} {a : Act} {w : World} (hr : Region.ready md ops listed=[i]) (ho : ops[i]?=some o) (hiz : i≠z)
 (h : ∀ K' : Act→World→Prop,Shut (∀ a w,S w→(S w→b8 Pr md ops Q S z n (listed.setIfInBounds i true) a w)→K' a w)→if Region.wanted o (yielded ops a.tmps)=true then Oper.wp Pr o a w K' Q else K' (a.put o.dst undef) w) : b8 Pr md ops Q S z (n + 1) listed a w :=
 ⟨fun h0 => (by rw [h0] at hr; cases hr),fun j hj => by
  rw [hr] at hj
  obtain rfl:=List.mem_singleton.1 hj
  exact wpOp_step ho fun K' hK => h K' fun a w hS hW => hK a w ⟨fun _ => hS,hW hS⟩⟩
theorem b8.last {z : Nat} {o : Oper} {n : Nat} {listed : Array Bool} {a : Act} {w : World} (hr : Region.ready md ops listed=[z]) (ho : ops[z]?=some o) (he : Region.ready md ops (listed.setIfInBounds z true)=[])
 (h : ∀ K' : Act→World→Prop,Shut (∀ a w,Q .normal a w→K' a w)→if Region.wanted o (yielded ops a.tmps)=true then Oper.wp Pr o a w K' Q else K' (a.put o.dst undef) w) : b8 Pr md ops Q S z (n + 1) listed a w :=
 ⟨fun h0 => (by rw [h0] at hr; cases hr),fun j hj => by
  rw [hr] at hj
  obtain rfl:=List.mem_singleton.1 hj
  refine wpOp_step ho fun K' hK => h K' fun a w hq => hK a w ⟨fun e => absurd rfl e,?_⟩
  cases n with
  | zero => exact ⟨he,hq⟩
  | succ n => exact ⟨fun _ => hq,by rw [he]; simp⟩⟩
theorem b8.t {z n : Nat} {oi : Oper} {v : Value} {listed l' : Array Bool} {a a' : Act} {w : World} (i : Nat) (h : b8 Pr md ops Q S z n l' a' w) (hi : ops[i]?=some oi:=by exact r6 rfl) (hs : Region.noSelect ops=true:=by kernel_rfl) (hf : Region.free md ops listed i=true:=by kernel_rfl)
 (hr : (Region.ready md ops listed).contains i=true:=by kernel_rfl) (hz : (decide (i≠z) && fB md ops z i)=true:=by kernel_rfl) (hQ : ∀ c a w,Q (.panic c) (a.put oi.dst v) w→Q (.panic c) a w:=by exact fun _ _ _ h => h)
 (hy : YieldsIf Pr ops S oi v a:=by exact Or.inl ⟨by rfl,by intro w hSw; (try dsimp only at hSw); go_simp; try with_reducible rfl⟩) (hS : S w:=by assumption)
 (hl : listed.setIfInBounds i true=l':=by first | (simp only [List.setIfInBounds_toArray,List.set_cons_zero,List.set_cons_succ]; try rfl) | rfl) (ha : a.put oi.dst v=a':=by first | (simp only [Act.put,List.setIfInBounds_toArray,List.set_cons_zero,List.set_cons_succ]; try rfl) | rfl) : b8 Pr md ops Q S z (n + 1) listed a w :=
 b8.take hi hs hf hr hz hQ hy hS (hl ▸ ha ▸ h)
theorem b8.nx {z n : Nat} {o : Oper} {listed : Array Bool} {a : Act} {w : World} (i : Nat)
 (h : ∀ K' : Act→World→Prop,Shut (∀ a w,S w→(S w→b8 Pr md ops Q S z n (listed.setIfInBounds i true) a w)→K' a w)→if Region.wanted o (yielded ops a.tmps)=true then Oper.wp Pr o a w K' Q else K' (a.put o.dst undef) w)
 (hr : Region.ready md ops listed=[i]:=by kernel_rfl) (ho : ops[i]?=some o:=by exact r6 rfl) (hiz : i≠z:=by decide) : b8 Pr md ops Q S z (n + 1) listed a w:=b8.next hr ho hiz h
theorem b8.la {z n : Nat} {o : Oper} {listed : Array Bool} {a : Act} {w : World}
 (h : ∀ K' : Act→World→Prop,Shut (∀ a w,Q .normal a w→K' a w)→if Region.wanted o (yielded ops a.tmps)=true then Oper.wp Pr o a w K' Q else K' (a.put o.dst undef) w)
 (hr : Region.ready md ops listed=[z]:=by kernel_rfl) (ho : ops[z]?=some o:=by exact r6 rfl) (he : Region.ready md ops (listed.setIfInBounds z true)=[]:=by kernel_rfl) : b8 Pr md ops Q S z (n + 1) listed a w:=b8.last hr ho he h
theorem s3 {id z : Nat} {a : Act} {w : World} (hm : Pr.follows .mixedOrders=true) (hS : S w.drew) (h : S w.drew→b8 Pr .any ops Q S z ops.size (Array.replicate ops.size false) a w.drew) : (Code.region id ops true).wp Pr Q a w :=
 wp_region_any hm (b8.any _ _ _ _ (h hS))
end
end Go.Proofs.YtppcfebnaieciaaGreatDoor
