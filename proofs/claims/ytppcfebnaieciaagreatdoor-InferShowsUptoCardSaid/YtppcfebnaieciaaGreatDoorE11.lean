/-
  Laws that the proof rests on.
-/
import Derived.Test.YtppcfebnaieciaaGreatDoorE10
import Derived.Test.YtppcfebnaieciaaGreatDoorE07
import Derived.Test.YtppcfebnaieciaaGreatDoorE08
import Derived.Test.YtppcfebnaieciaaGreatDoorE09
import Derived.Test.YtppcfebnaieciaaGreatDoorE02
namespace Go.Proofs.YtppcfebnaieciaaGreatDoor
set_option maxRecDepth 100000
set_option maxHeartbeats 16000000
section
open Lib (hid)
open Go.RowKit
theorem a4H (c : UInt8) : vC c=((c.toNat : Int) != 34 && (c.toNat : Int) != 10):=by
 unfold vC bne
 rw [show ((c.toNat : Int) == 34)=(c == 34) from tO c 34 (by decide),show ((c.toNat : Int) == 10)=(c == 10) from tO c 10 (by decide)]
theorem rD {s : ByteArray} {a n : Nat} (h1 : 1≤n) (hk : a + n≤s.size) (h : ∀ j (hj : a + j<s.size),1≤j→j<n→vC s[a + j]=true) (h' : ∀ (hk : a + n<s.size),vC s[a + n]=false) : oU (s.data.toList.drop (a + 1))=n - 1:=by
 have hl : (s.data.toList.drop (a + 1)).length=s.size - (a + 1):=by rw [List.length_drop,d6]
 refine y5 vC _ _ (by rw [hl]; omega) (fun j hj hjk => ?_) fun hj => ?_
 ·rw [List.getElem_drop]
  have:=h (1 + j) (by rw [hl] at hj; omega) (by omega) (by omega)
  simp only [show a + (1 + j)=a + 1 + j by omega] at this
  exact this
 ·rw [List.getElem_drop]
  have:=h' (by rw [hl] at hj; omega)
  simp only [show a + n=a + 1 + (n - 1) by omega] at this
  exact this
theorem tA (s : ByteArray) (a : Nat) (w : World) (hs : s.size≤16384) (ha : a<s.size) :
 Calls Tryz.prog 134 #[.string s,.int .i64 a] w (a0V (dE (s.data.toList.drop (a + 1)) a) w):=by
 have Q:=hid (show dE (s.data.toList.drop (a + 1)) a=if ((s.data.toList.drop (a + 1)).drop (oU (s.data.toList.drop (a + 1)))).headD 0≠34 then .error 71
  else if z7 ((s.data.toList.drop (a + 1)).take (oU (s.data.toList.drop (a + 1))))=true then .ok (⟨7,(s.data.toList.drop (a + 1)).take (oU (s.data.toList.drop (a + 1))),0,a⟩,oU (s.data.toList.drop (a + 1)) + 2) else .error 73 from rfl)
 obtain ⟨W,hW⟩ : ∃ W,W=w.alloc (.cells #[.int .i64 0,.string ⟨#[]⟩,.int .i64 0,.int .i64 0] 108):=⟨_,rfl⟩
 have HB:=hid (show Below w.heap.size w W from hW ▸ a7 _ _)
 have Z0:=hid (show bU w.heap.size W from hW ▸ bU.make w)
 go_enter Tryz.func134,Tryz.ntmps134
 go_wp2_with fail
 rw [← hW]
 clear hW
 obtain ⟨c0,c1,c2,c3,f0,f1,f2,f3⟩:=Z0.out.cells
 go_loop [7] (fun n => ∃ k : Nat,1≤k∧a + k≤s.size∧n=.int .i64 k∧Hid (∀ j (hj : a + j<s.size),1≤j→j<k→vC s[a + j]=true)) (fun n => s.size - (intOf n).toNat)
 case atStart => exact ⟨1,by omega,by omega,rfl,fun j hj h h' => by omega⟩
 case round =>
  obtain ⟨k,hk1,hk,rfl,HAll⟩:=hrel
  by_cases hlt : a + k<s.size
  case neg =>
   have HR:=hid (rD hk1 hk HAll (fun h => absurd h hlt))
   have R:=hid (show dE (s.data.toList.drop (a + 1)) a=.error 71 by
    rw [Q.out,HR.out,if_pos]
    rw [List.drop_drop,V5 (by omega)]; decide)
   have e1 : (((a : Int) + k) == s.size)=true:=by rw [beq_iff_eq]; omega
   clear HAll
   go_wp2_with fail
   exact bodyPost_ret (v:=.tuple #[.agg #[.int .i64 0,.string ⟨#[]⟩,.int .i64 0,.int .i64 0],.int .i64 0,.int .i64 71]) (by simp [results,Tryz.results134,go_sem,c0,c1,c2,c3]) rfl (f9 R (by decide) (d9 HB _ _ _ _))
  have e1 : (((a : Int) + k) == s.size)=false:=by rw [beq_eq_false_iff_ne]; omega
  have HQ:=hid (a4H s[a + k])
  have hcase : ((s[a + k].toNat : Int)=34)∨((s[a + k].toNat : Int)=10)∨(¬ (s[a + k].toNat : Int)=34∧¬ (s[a + k].toNat : Int)=10):=by omega
  rcases hcase with h34 | h10 | ⟨h34,h10⟩
  ·have q1 : ((s[a + k].toNat : Int) != 34)=false:=by rw [h34]; rfl
   have q2 : ((s[a + k].toNat : Int) == 10)=false:=by rw [h34]; rfl
   have HR:=hid (rD hk1 hk HAll (fun h => by rw [HQ.out,q1]; rfl))
   have T:=hid (show (s.extract (a + 1) (a + k)).data.toList=(s.data.toList.drop (a + 1)).take (k - 1) by rw [I9]; congr 1; omega)
   have hte:=X7 s (a + 1) (a + k) (by omega)
   have CN:=hid (cG (s.extract (a + 1) (a + k)) W (by unfold maxLen; omega))
   rw [T.out,eN] at CN
   have H34:=hid (show ((s.data.toList.drop (a + 1)).drop (k - 1)).headD 0=34 by
    rw [List.drop_drop,show a + 1 + (k - 1)=a + k by omega,p6 hlt]; exact UInt8.toNat_inj.1 (Int.ofNat.inj h34))
   clear HAll h34 hte
   go_wp2_with fail
   (with_reducible refine Calls.mono CN.out ?_)
   rintro e w1 ⟨rfl,rfl⟩
   cases hnm : z7 ((s.data.toList.drop (a + 1)).take (k - 1))
   ·have R:=hid (show dE (s.data.toList.drop (a + 1)) a=.error 73 by
     rw [Q.out,HR.out,if_neg (by rw [H34.out]; decide),if_neg (by rw [hnm]; decide)])
    go_wp2_with fail
    exact bodyPost_ret (v:=.tuple #[.agg #[.int .i64 0,.string ⟨#[]⟩,.int .i64 0,.int .i64 0],.int .i64 0,.int .i64 73]) (by simp [results,Tryz.results134,go_sem,c0,c1,c2,c3]) rfl (f9 R (by decide) (d9 HB _ _ _ _))
   ·have R:=hid (show dE (s.data.toList.drop (a + 1)) a=.ok (⟨7,(s.data.toList.drop (a + 1)).take (k - 1),0,a⟩,k - 1 + 2) by
     rw [Q.out,HR.out,if_neg (by rw [H34.out]; decide),if_pos hnm])
    go_wp2_with fail
    exact bodyPost_ret (v:=.tuple #[.agg #[.int .i64 7,.string (s.extract (a + 1) (a + k)),.int .i64 0,.int .i64 a],.int .i64 ((k : Int) + 1),.int .i64 0]) (by simp [results,Tryz.results134,go_sem,c0,c1,c2,c3]) rfl (t6 R (d9 HB _ _ _ _) rfl T rfl rfl (by omega))
  ·have q1 : ((s[a + k].toNat : Int) != 34)=true:=by rw [h10]; rfl
   have q2 : ((s[a + k].toNat : Int) != 10)=false:=by rw [h10]; rfl
   have q3 : ((s[a + k].toNat : Int) == 10)=true:=by rw [h10]; rfl
   have HR:=hid (rD hk1 hk HAll (fun h => by rw [HQ.out,q2]; simp))
   have R:=hid (show dE (s.data.toList.drop (a + 1)) a=.error 71 by
    rw [Q.out,HR.out,if_pos]
    rw [List.drop_drop,show a + 1 + (k - 1)=a + k by omega,p6 hlt]
    intro e
    rw [e] at h10; exact absurd h10 (by decide))
   clear HAll h10
   go_wp2_with fail
   exact bodyPost_ret (v:=.tuple #[.agg #[.int .i64 0,.string ⟨#[]⟩,.int .i64 0,.int .i64 0],.int .i64 0,.int .i64 71]) (by simp [results,Tryz.results134,go_sem,c0,c1,c2,c3]) rfl (f9 R (by decide) (d9 HB _ _ _ _))
  ·have q1 : ((s[a + k].toNat : Int) != 34)=true:=by rw [bne_iff_ne]; exact h34
   have q2 : ((s[a + k].toNat : Int) != 10)=true:=by rw [bne_iff_ne]; exact h10
   have HK:=hid (show vC s[a + k]=true by rw [HQ.out,q1,q2]; rfl)
   clear h34 h10
   go_wp2_with fail
   go_round
   case rel =>
    refine ⟨k + 1,by omega,by omega,by go_num,fun j hj h h' => ?_⟩
    by_cases e : j=k
    ·subst e; exact HK
    ·exact HAll.out j hj h (by omega)
   case measure => simp [intOf]; omega
end
section
open Lib (hid)
open Go.RowKit
theorem a0a {s : ByteArray} {a n : Nat} (hk : a + n≤s.size) (h : ∀ j (hj : a + j<s.size),j<n→grC s[a + j]=true) (h' : ∀ (hk : a + n<s.size),grC s[a + n]=false) : a4x (s.data.toList.drop a)=n:=by
 have hl : (s.data.toList.drop a).length=s.size - a:=by rw [List.length_drop,d6]
 exact y5 grC _ _ (by rw [hl]; omega) (fun j hj hjk => by rw [List.getElem_drop]; exact h j (by rw [hl] at hj; omega) hjk) fun hj => by rw [List.getElem_drop]; exact h' (by rw [hl] at hj; omega)
def eH : ByteArray:=⟨#[40,41,44,59,61,60,43,45,42,47]⟩
theorem a1H : ∀ (k : Nat) (h : k<10),(eH.extract k (k + 1)).data.toList=[eH[k]'h]:=by decide
theorem a45 {c : UInt8} (h : ∀ j (hj : j<10),(eH[j]'hj)≠c) : gT.contains c=false:=by
 rw [Bool.eq_false_iff]
 intro e
 obtain ⟨i,hi,he⟩:=List.getElem_of_mem (List.contains_iff_mem.1 e)
 exact h i hi he
theorem a1U {c : UInt8} {k : Nat} (h : k<10) (e : (eH[k]'h)=c) : gT.contains c=true:=by
 rw [List.contains_iff_mem,← e]
 exact List.getElem_mem (l:=gT) (n:=k) h
theorem a5P (c : UInt8) (r : List UInt8) (pos : Int) : dW c r pos=if smI c.toNat=true then cQ (c :: r) pos else if dgI c.toNat=true then aL (c :: r) pos else if (c.toNat : Int)=34 then dE r pos else if grI c.toNat=true then a4L (c :: r) pos else nU c r pos:=by
 unfold dW
 rw [cA]
 have e : (c=34)=((c.toNat : Int)=34):=propext ((sF (c:=c) (n:=34) (by decide)).symm)
 simp only [e]
 rfl
theorem a4K (c : UInt8) (r : List UInt8) (pos : Int) : nU c r pos=if (c.toNat : Int)=60∧((r.headD 0).toNat : Int)=61 then .ok (⟨8,[60,61],0,pos⟩,2) else if gT.contains c=true then .ok (⟨8,[c],0,pos⟩,1) else .error 71:=by
 unfold nU
 have e : (c=60)=((c.toNat : Int)=60):=propext ((sF (c:=c) (n:=60) (by decide)).symm)
 have e' : (r.headD 0=61)=(((r.headD 0).toNat : Int)=61):=propext ((sF (c:=r.headD 0) (n:=61) (by decide)).symm)
 simp only [e,e']
theorem wF (s : ByteArray) (a : Nat) (w : World) (hs : s.size≤16384) (ha : a<s.size) :
 Calls Tryz.prog 96 #[.string s,.int .i64 a] w (a0V (dW s[a] (s.data.toList.drop (a + 1)) a) w):=by
 have D:=hid (z8 ha)
 have K:=hid (a5P s[a] (s.data.toList.drop (a + 1)) a)
 rw [← D.out] at K
 obtain ⟨W,hW⟩ : ∃ W,W=w.alloc (.cells #[.int .i64 0,.string ⟨#[]⟩,.int .i64 0,.int .i64 0] 108):=⟨_,rfl⟩
 have HB:=hid (show Below w.heap.size w W from hW ▸ a7 _ _)
 have Z0:=hid (show bU w.heap.size W from hW ▸ bU.make w)
 cases h1 : smI s[a].toNat
 case true =>
  have R0:=hid (show dW s[a] (s.data.toList.drop (a + 1)) a=cQ (s.data.toList.drop a) a by rw [K.out,if_pos h1])
  have C:=hid (yX s a W hs ha)
  go_enter Tryz.func96,Tryz.ntmps96
  go_wp2_with fail
  rw [← hW]
  clear hW
  go_wp2_with (first | (go_at_call 130; refine (d7 _ _).mono ?_; rintro e w' ⟨rfl,rfl⟩; rw [h1]))
  (with_reducible refine Calls.mono C.out ?_)
  rintro e w1 ⟨hb,hr⟩
  have HC:=hid (HB.out.trans (hb.mono HB.out.size))
  obtain ⟨c0,c1,c2,c3,f0,f1,f2,f3⟩:=(Z0.out.below hb).cells
  cases hx : cQ (s.data.toList.drop a) a with
  | error c =>
    rw [hx] at hr R0
    obtain ⟨hc,k',s',x',p',rfl⟩:=hr
    have HC0:=hid hc
    clear hb hc hx
    go_wp2_with fail
    exact bodyPost_ret (v:=.tuple #[.agg #[.int .i64 k',.string s',.int .i64 x',.int .i64 p'],.int .i64 0,.int .i64 c]) (by simp [results,Tryz.results96,go_sem,c0,c1,c2,c3]) rfl (f9 R0 HC0 (d9 HC _ _ _ _))
  | ok q =>
    obtain ⟨t,n⟩:=q
    rw [hx] at hr R0
    replace hr : e=.returned (.tuple #[.agg #[.int .i64 t.kind,.string ⟨t.text.toArray⟩,.int .i64 t.n,.int .i64 t.pos],.int .i64 n,.int .i64 0]):=hr
    subst hr
    clear hb hx
    go_wp2_with fail
    exact bodyPost_ret (v:=.tuple #[.agg #[.int .i64 t.kind,.string ⟨t.text.toArray⟩,.int .i64 t.n,.int .i64 t.pos],.int .i64 n,.int .i64 0]) (by simp [results,Tryz.results96,go_sem,c0,c1,c2,c3]) rfl (t6 R0 (d9 HC _ _ _ _) rfl rfl rfl rfl rfl)
 have n1:=hid (show ¬ smI s[a].toNat=true by rw [h1]; decide)
 cases h2 : dgI s[a].toNat
 case true =>
  have R0:=hid (show dW s[a] (s.data.toList.drop (a + 1)) a=aL (s.data.toList.drop a) a by rw [K.out,if_neg n1.out,if_pos h2])
  have C:=hid (sO s a W hs ha (by rw [cA]; exact h2))
  go_enter Tryz.func96,Tryz.ntmps96
  go_wp2_with fail
  rw [← hW]
  clear hW
  go_wp2_with (first | (go_at_call 130; refine (d7 _ _).mono ?_; rintro e w' ⟨rfl,rfl⟩; rw [h1]) | (go_at_call 132; refine (n5 _ _).mono ?_; rintro e w' ⟨rfl,rfl⟩; rw [h2]))
  (with_reducible refine Calls.mono C.out ?_)
  rintro e w1 ⟨hb,hr⟩
  have HC:=hid (HB.out.trans (hb.mono HB.out.size))
  obtain ⟨c0,c1,c2,c3,f0,f1,f2,f3⟩:=(Z0.out.below hb).cells
  cases hx : aL (s.data.toList.drop a) a with
  | error c =>
    rw [hx] at hr R0
    obtain ⟨hc,k',s',x',p',rfl⟩:=hr
    have HC0:=hid hc
    clear hb hc hx
    go_wp2_with fail
    exact bodyPost_ret (v:=.tuple #[.agg #[.int .i64 k',.string s',.int .i64 x',.int .i64 p'],.int .i64 0,.int .i64 c]) (by simp [results,Tryz.results96,go_sem,c0,c1,c2,c3]) rfl (f9 R0 HC0 (d9 HC _ _ _ _))
  | ok q =>
    obtain ⟨t,n⟩:=q
    rw [hx] at hr R0
    replace hr : e=.returned (.tuple #[.agg #[.int .i64 t.kind,.string ⟨t.text.toArray⟩,.int .i64 t.n,.int .i64 t.pos],.int .i64 n,.int .i64 0]):=hr
    subst hr
    clear hb hx
    go_wp2_with fail
    exact bodyPost_ret (v:=.tuple #[.agg #[.int .i64 t.kind,.string ⟨t.text.toArray⟩,.int .i64 t.n,.int .i64 t.pos],.int .i64 n,.int .i64 0]) (by simp [results,Tryz.results96,go_sem,c0,c1,c2,c3]) rfl (t6 R0 (d9 HC _ _ _ _) rfl rfl rfl rfl rfl)
 have n2:=hid (show ¬ dgI s[a].toNat=true by rw [h2]; decide)
 cases h3 : ((s[a].toNat : Int) == 34)
 case true =>
  have h3':=hid (beq_iff_eq.1 h3)
  have R0:=hid (show dW s[a] (s.data.toList.drop (a + 1)) a=dE (s.data.toList.drop (a + 1)) a by rw [K.out,if_neg n1.out,if_neg n2.out,if_pos h3'.out])
  have C:=hid (tA s a W hs ha)
  go_enter Tryz.func96,Tryz.ntmps96
  go_wp2_with fail
  rw [← hW]
  clear hW
  go_wp2_with (first | (go_at_call 130; refine (d7 _ _).mono ?_; rintro e w' ⟨rfl,rfl⟩; rw [h1]) | (go_at_call 132; refine (n5 _ _).mono ?_; rintro e w' ⟨rfl,rfl⟩; rw [h2]))
  (with_reducible refine Calls.mono C.out ?_)
  rintro e w1 ⟨hb,hr⟩
  have HC:=hid (HB.out.trans (hb.mono HB.out.size))
  obtain ⟨c0,c1,c2,c3,f0,f1,f2,f3⟩:=(Z0.out.below hb).cells
  cases hx : dE (s.data.toList.drop (a + 1)) a with
  | error c =>
    rw [hx] at hr R0
    obtain ⟨hc,k',s',x',p',rfl⟩:=hr
    have HC0:=hid hc
    clear hb hc hx
    go_wp2_with fail
    exact bodyPost_ret (v:=.tuple #[.agg #[.int .i64 k',.string s',.int .i64 x',.int .i64 p'],.int .i64 0,.int .i64 c]) (by simp [results,Tryz.results96,go_sem,c0,c1,c2,c3]) rfl (f9 R0 HC0 (d9 HC _ _ _ _))
  | ok q =>
    obtain ⟨t,n⟩:=q
    rw [hx] at hr R0
    replace hr : e=.returned (.tuple #[.agg #[.int .i64 t.kind,.string ⟨t.text.toArray⟩,.int .i64 t.n,.int .i64 t.pos],.int .i64 n,.int .i64 0]):=hr
    subst hr
    clear hb hx
    go_wp2_with fail
    exact bodyPost_ret (v:=.tuple #[.agg #[.int .i64 t.kind,.string ⟨t.text.toArray⟩,.int .i64 t.n,.int .i64 t.pos],.int .i64 n,.int .i64 0]) (by simp [results,Tryz.results96,go_sem,c0,c1,c2,c3]) rfl (t6 R0 (d9 HC _ _ _ _) rfl rfl rfl rfl rfl)
 have n3:=hid (show ¬ (s[a].toNat : Int)=34 from beq_eq_false_iff_ne.1 h3)
 cases h4 : grI s[a].toNat
 case true =>
  have R0:=hid (show dW s[a] (s.data.toList.drop (a + 1)) a=if a4x (s.data.toList.drop a)=3 then .ok (⟨4,(s.data.toList.drop a).take 3,0,a⟩,3) else .error 73 by rw [K.out,if_neg n1.out,if_neg n2.out,if_neg n3.out,if_pos h4]; rfl)
  have H4:=hid (show grC s[a]=true from h4)
  obtain ⟨c0,c1,c2,c3,f0,f1,f2,f3⟩:=Z0.out.cells
  go_enter Tryz.func96,Tryz.ntmps96
  go_wp2_with fail
  rw [← hW]
  clear hW
  go_wp2_with (first | (go_at_call 130; refine (d7 _ _).mono ?_; rintro e w' ⟨rfl,rfl⟩; rw [h1]) | (go_at_call 132; refine (n5 _ _).mono ?_; rintro e w' ⟨rfl,rfl⟩; rw [h2]) | (go_at_call 135; refine (j7 _ _).mono ?_; rintro e w' ⟨rfl,rfl⟩; rw [h4]))
  clear h1 h2 h3
  go_loop [8] (fun n => ∃ k : Nat,1≤k∧a + k≤s.size∧n=.int .i64 k∧Hid (∀ j (hj : a + j<s.size),j<k→grC s[a + j]=true)) (fun n => s.size - (intOf n).toNat)
  case atStart => exact ⟨1,by omega,by omega,rfl,fun j hj h => by obtain rfl : j=0:=(by omega); exact H4⟩
  case round =>
   obtain ⟨k,hk1,hk,rfl,HAll⟩:=hrel
   have hgo : (∃ hlt : a + k<s.size,grC s[a + k]=true)∨(∃ hlt : a + k<s.size,grC s[a + k]=false)∨¬ a + k<s.size:=by
    by_cases h : a + k<s.size
    ·cases h' : grC s[a + k]
     ·exact .inr (.inl ⟨h,h'⟩)
     ·exact .inl ⟨h,h'⟩
    ·exact .inr (.inr h)
   rcases hgo with ⟨hlt,hg⟩ | ⟨hlt,hg⟩ | hlt
   ·have h5 : grI s[a + k].toNat=true:=hg
    have HG:=hid hg
    clear hg h4
    go_wp2_with (first | (go_at_call 135; refine (j7 _ _).mono ?_; rintro e w' ⟨rfl,rfl⟩; rw [h5]))
    go_round
    case rel =>
     refine ⟨k + 1,by omega,by omega,by go_num,fun j hj h => ?_⟩
     by_cases e : j=k
     ·subst e; exact HG
     ·exact HAll.out j hj (by omega)
    case measure => simp [intOf]; omega
   case' inr.inl =>
    have h5 : grI s[a + k].toNat=false:=hg
    have HR:=hid (a0a hk HAll (fun _ => hg))
    clear hg
   case' inr.inr =>
    have h5 : True:=trivial
    have HR:=hid (a0a hk HAll (fun h => absurd h hlt))
   all_goals
    by_cases hk3 : (k : Int)=3
    ·have hk' : k=3:=by omega
     have e3 : ((k : Int) != 3)=false:=by rw [hk3]; rfl
     have R:=hid (R0.out.trans (if_pos (by rw [HR.out]; exact hk')))
     have T:=hid (show (s.extract a (a + k)).data.toList=(s.data.toList.drop a).take 3 by rw [I9,Nat.add_sub_cancel_left,hk'])
     have HK3:=hid hk3
     clear hk3 h4 hk'
     go_wp2_with (first | (go_at_call 135; refine (j7 _ _).mono ?_; rintro e w' ⟨rfl,rfl⟩; rw [h5]))
     exact bodyPost_ret (v:=.tuple #[.agg #[.int .i64 4,.string (s.extract a (a + k)),.int .i64 0,.int .i64 a],.int .i64 k,.int .i64 0]) (by simp [results,Tryz.results96,go_sem,c0,c1,c2,c3]) rfl (t6 R (d9 HB _ _ _ _) rfl T rfl rfl HK3)
    ·have R:=hid (R0.out.trans (if_neg (by rw [HR.out]; omega)))
     have e3 : ((k : Int) != 3)=true:=by rw [bne_iff_ne]; exact hk3
     clear hk3 h4
     go_wp2_with (first | (go_at_call 135; refine (j7 _ _).mono ?_; rintro e w' ⟨rfl,rfl⟩; rw [h5]))
     exact bodyPost_ret (v:=.tuple #[.agg #[.int .i64 0,.string ⟨#[]⟩,.int .i64 0,.int .i64 0],.int .i64 0,.int .i64 73]) (by simp [results,Tryz.results96,go_sem,c0,c1,c2,c3]) rfl (f9 R (by decide) (d9 HB _ _ _ _))
 have R0:=hid (show dW s[a] (s.data.toList.drop (a + 1)) a=nU s[a] (s.data.toList.drop (a + 1)) a by rw [K.out,if_neg n1.out,if_neg n2.out,if_neg n3.out,if_neg (by rw [h4]; decide)])
 rw [a4K] at R0
 obtain ⟨c0,c1,c2,c3,f0,f1,f2,f3⟩:=Z0.out.cells
 by_cases hle : (s[a].toNat : Int)=60∧∃ h : a + 1<s.size,(s[a + 1].toNat : Int)=61
 ·obtain ⟨h60,hlt,h61⟩:=hle
  have R:=hid (R0.out.trans (if_pos ⟨h60,by rw [p6 hlt]; exact h61⟩))
  have e60 : ((s[a].toNat : Int) == 60)=true:=by rw [h60]; rfl
  have e61 : ((s[a + 1].toNat : Int) == 61)=true:=by rw [h61]; rfl
  clear h60 h61
  go_enter Tryz.func96,Tryz.ntmps96
  go_wp2_with fail
  rw [← hW]
  clear hW
  go_wp2_with (first | (go_at_call 130; refine (d7 _ _).mono ?_; rintro e w' ⟨rfl,rfl⟩; rw [h1]) | (go_at_call 132; refine (n5 _ _).mono ?_; rintro e w' ⟨rfl,rfl⟩; rw [h2]) | (go_at_call 135; refine (j7 _ _).mono ?_; rintro e w' ⟨rfl,rfl⟩; rw [h4]))
  exact bodyPost_ret (v:=.tuple #[.agg #[.int .i64 8,.string ⟨#[60,61]⟩,.int .i64 0,.int .i64 a],.int .i64 2,.int .i64 0]) (by simp [results,Tryz.results96,go_sem,c0,c1,c2,c3]) rfl (t6 R (d9 HB _ _ _ _) rfl rfl rfl rfl rfl)
 have R1:=hid (R0.out.trans (if_neg fun h => hle ⟨h.1,by
  by_cases g : a + 1<s.size
  ·refine ⟨g,?_⟩
   have:=h.2
   rwa [p6 g] at this
  ·have:=h.2
   rw [V5 (by omega)] at this
   exact absurd this (by decide)⟩))
 have hways : ((s[a].toNat : Int) == 60)=false∨(((s[a].toNat : Int) == 60)=true∧¬ a + 1<s.size)∨(((s[a].toNat : Int) == 60)=true∧∃ h : a + 1<s.size,((s[a + 1].toNat : Int) == 61)=false):=by
  cases h : ((s[a].toNat : Int) == 60)
  ·exact .inl rfl
  ·by_cases g : a + 1<s.size
   ·exact .inr (.inr ⟨rfl,g,by rw [beq_eq_false_iff_ne]; exact fun e => hle ⟨beq_iff_eq.1 h,g,e⟩⟩)
   ·exact .inr (.inl ⟨rfl,g⟩)
 clear hle
 go_enter Tryz.func96,Tryz.ntmps96
 go_wp2_with fail
 rw [← hW]
 clear hW
 rcases hways with e60 | ⟨e60,hg⟩ | ⟨e60,hg,e61⟩
 all_goals
  go_wp2_with (first | (go_at_call 130; refine (d7 _ _).mono ?_; rintro e w' ⟨rfl,rfl⟩; rw [h1]) | (go_at_call 132; refine (n5 _ _).mono ?_; rintro e w' ⟨rfl,rfl⟩; rw [h2]) | (go_at_call 135; refine (j7 _ _).mono ?_; rintro e w' ⟨rfl,rfl⟩; rw [h4]))
  clear h1 h2 h3 h4
  go_loop [10] (fun i => ∃ k : Nat,k≤10∧i=.int .i64 k∧Hid (∀ j (hj : j<10),j<k→(eH[j]'hj)≠s[a])) (fun i => 10 - (intOf i).toNat)
  case atStart => exact ⟨0,by omega,rfl,fun j hj h => by omega⟩
  case round =>
   obtain ⟨k,hk,rfl,HAll⟩:=hrel
   by_cases hlt : k<10
   ·by_cases hm : (eH[k]'hlt)=s[a]
    ·have q : (((eH[k]'hlt).toNat : Int) == s[a].toNat)=true:=by rw [hm,beq_self_eq_true]
     have R:=hid (R1.out.trans (if_pos (a1U hlt hm)))
     have T:=hid (show (eH.extract k (k + 1)).data.toList=[s[a]] by rw [a1H k hlt,hm])
     unfold eH at q T
     clear hm
     go_wp2_with fail
     exact bodyPost_ret (v:=.tuple #[.agg #[.int .i64 8,.string ((⟨#[40,41,44,59,61,60,43,45,42,47]⟩ : ByteArray).extract k (k + 1)),.int .i64 0,.int .i64 a],.int .i64 1,.int .i64 0]) (by simp [results,Tryz.results96,go_sem,c0,c1,c2,c3]) rfl (t6 R (d9 HB _ _ _ _) rfl T rfl rfl rfl)
    ·have q : (((eH[k]'hlt).toNat : Int) == s[a].toNat)=false:=by rw [beq_eq_false_iff_ne]; exact fun e => hm (UInt8.toNat_inj.1 (Int.ofNat.inj e))
     have HM:=hid hm
     unfold eH at q
     clear hm
     go_wp2_with fail
     go_round
     case rel =>
      refine ⟨k + 1,by omega,by go_num,fun j hj h => ?_⟩
      by_cases e : j=k
      ·subst e; exact HM
      ·exact HAll.out j hj (by omega)
     case measure => simp [intOf]; omega
   ·have R:=hid (R1.out.trans (if_neg (by rw [a45 fun j hj => HAll.out j hj (by omega)]; decide)))
    go_wp2_with fail
    exact bodyPost_ret (v:=.tuple #[.agg #[.int .i64 0,.string ⟨#[]⟩,.int .i64 0,.int .i64 0],.int .i64 0,.int .i64 71]) (by simp [results,Tryz.results96,go_sem,c0,c1,c2,c3]) rfl (f9 R (by decide) (d9 HB _ _ _ _))
end
section
open Lib (hid)
open Go.RowKit
def a5m (T : TypeId) (r : Except (Int × Int) (List Tk)) (w : World) (e : Ending) (w' : World) : Prop :=
 Below w.heap.size w w'∧match r with
  | .ok ts => ∃ g cap,e=.returned (.tuple #[.slice (some ⟨g,0,none⟩) ts.length cap,.int .i64 0,.int .i64 0])∧w'.ownsRow w.heap.size T 4 (.slice (some ⟨g,0,none⟩) ts.length cap) ts.length (F5 ts)
  | .error (c,p) => c≠0∧e=.returned (.tuple #[.slice none 0 0,.int .i64 p,.int .i64 c])
theorem iL {T : TypeId} {r : Except (Int × Int) (List Tk)} {w w' : World} {c p : Int} (h : r=.error (c,p)) (hc : c≠0) (hb : Below w.heap.size w w') : a5m T r w (.returned (.tuple #[.slice none 0 0,.int .i64 p,.int .i64 c])) w':=by
 subst h; exact ⟨hb,hc,rfl⟩
theorem zE {s : ByteArray} {a b : Nat} (h1 : a + 1≤b) (hb : b≤s.size) (h : ∀ j (hj : j<s.size),a≤j→j<b→s[j]≠10) (h' : ∀ (hk : b<s.size),s[b]=10) : uJ (s.data.toList.drop (a + 1))=b - (a + 1):=by
 have hl : (s.data.toList.drop (a + 1)).length=s.size - (a + 1):=by rw [List.length_drop,d6]
 obtain ⟨d,rfl⟩ : ∃ d,b=a + 1 + d:=⟨b - (a + 1),by omega⟩
 rw [Nat.add_sub_cancel_left]
 refine y5 (· != 10) _ _ (by rw [hl]; omega) (fun j hj hjk => ?_) fun hj => ?_
 ·rw [List.getElem_drop,bne_iff_ne]
  exact h (a + 1 + j) (by rw [hl] at hj; omega) (by omega) (by omega)
 ·rw [List.getElem_drop]
  have:=h' (by rw [hl] at hj; omega)
  rw [show s.data.toList[a + 1 + d]'(by rw [d6]; rw [hl] at hj; omega)=10 from this]; rfl
theorem a5h (c : UInt8) : (c.toNat≤32)↔((c.toNat : Int)≤32):=by omega
theorem a1d (s : ByteArray) (w : World) (hs : s.size≤maxLen) :
 Calls Tryz.prog 62 #[.string s] w (a5m 108 (aC s.data.toList) w):=by
 have hm:=hs
 unfold maxLen at hm
 have HL:=hid (d6 s)
 by_cases hbig : 16384<(s.size : Int)
 ·have R:=hid (show aC s.data.toList=.error (70,0) by unfold aC; rw [if_pos (by rw [HL.out]; omega)])
  go_enter Tryz.func62,Tryz.ntmps62
  go_wp2_with fail
  go_ret3
  exact iL R (by decide) (Below.refl _ _)
 have hs2 : s.size≤16384:=by omega
 have R:=hid (show aC s.data.toList=x7 s.data.toList 0 0 0 by unfold aC; rw [if_neg (by rw [HL.out]; omega)])
 obtain ⟨i0,hi,hz0,hz1,hz2⟩:=info_parts (show (Tryz.prog.info? 108).map (fun i => (i.zero,i.size,i.bytes))=some (some (.agg #[.int .i64 0,.string ⟨#[]⟩,.int .i64 0,.int .i64 0]),4,40) by kernel_rfl)
 have HI0:=hid (show _∧_∧_∧_ from ⟨hi,hz0,hz1,hz2⟩)
 clear hi hz0 hz1 hz2
 go_enter Tryz.func62,Tryz.ntmps62
 go_wp2_with fail
 clear hbig
 go_loopw [5,6,7,8,9] (fun v i _ _ _ wr => ∃ (a : Nat) (ts : List Tk),a≤s.size∧i=.int .i64 a∧ts.length≤8192∧Hid (wr.ownsRow w.heap.size 108 4 v ts.length (F5 ts))∧(∃ ao cap,v=.slice ao ts.length cap)∧Hid (Below w.heap.size w wr)∧Hid (aC s.data.toList=ahead ts (x7 (s.data.toList.drop a) a ts.length 0))) (fun _ i _ _ _ _ => s.size - (intOf i).toNat)
 case atStart => exact ⟨0,[],by omega,rfl,by decide,World.ownsRow_nil _ _ _ _,⟨none,0,rfl⟩,Below.refl _ _,by show _=_; rw [a0H]; exact R⟩
 case round =>
  obtain ⟨a,ts,ha,rfl,htl,HOW,⟨ao,cp,rfl⟩,HBr,HSC⟩:=hrel
  by_cases hlt : a<s.size
  ·have D:=hid (z8 hlt)
   have HC:=hid HSC
   rw [D.out] at HC
   by_cases h32 : (s[a].toNat : Int)≤32
   ·have X:=hid (show aC s.data.toList=ahead ts (x7 (s.data.toList.drop (a + 1)) ((a + 1 : Nat) : Int) ts.length 0) by
     rw [HC.out,xU ((a5h _).2 h32),show (a : Int) + 1=((a + 1 : Nat) : Int) by omega])
    go_wp2_with fail
    go_roundw
    case rel => exact ⟨a + 1,ts,by omega,by go_num,htl,HOW,⟨ao,cp,rfl⟩,HBr,X⟩
    case measure => simp [intOf]; omega
   have h32':=hid (show ¬ s[a].toNat≤32 from fun h => h32 ((a5h _).1 h))
   by_cases h35 : (s[a].toNat : Int)=35
   ·have e35 : ((s[a].toNat : Int) == 35)=true:=by rw [h35]; rfl
    have e35' : s[a]=35:=UInt8.toNat_inj.1 (Int.ofNat.inj h35)
    have X:=hid (show aC s.data.toList=ahead ts (x7 (s.data.toList.drop (a + 1 + uJ (s.data.toList.drop (a + 1)))) ((a + 1 + uJ (s.data.toList.drop (a + 1)) : Nat) : Int) ts.length 0) by
     rw [HC.out,a3F e35',List.drop_drop,show (a : Int) + 1 + (uJ (s.data.toList.drop (a + 1)) : Nat)=((a + 1 + uJ (s.data.toList.drop (a + 1)) : Nat) : Int) by omega])
    have e10 : ((s[a].toNat : Int) != 10)=true:=by rw [h35]; rfl
    have E10:=hid e10
    clear h35 e35' e10
    go_wp2_with fail
    have HOW':=HOW
    have HBr':=HBr
    clear HOW HBr
    generalize wr=wo at HOW' HBr' ⊢
    go_loop [6] (fun i => ∃ b : Nat,a≤b∧b≤s.size∧i=.int .i64 b∧Hid (∀ j (hj : j<s.size),a≤j→j<b→s[j]≠10)) (fun i => s.size - (intOf i).toNat)
    case atStart => exact ⟨a,Nat.le_refl _,by omega,rfl,fun j hj h h' => by omega⟩
    case round =>
     obtain ⟨b,hab,hb,rfl,HAll⟩:=hrel
     have hgo : (∃ hlt : b<s.size,s[b]≠10)∨(∃ hlt : b<s.size,s[b]=10)∨¬ b<s.size:=by
      by_cases h : b<s.size
      ·by_cases h' : s[b]=10
       ·exact .inr (.inl ⟨h,h'⟩)
       ·exact .inl ⟨h,h'⟩
      ·exact .inr (.inr h)
     rcases hgo with ⟨hlb,hg⟩ | ⟨hlb,hg⟩ | hlb
     ·have q : ((s[b].toNat : Int) != 10)=true:=by rw [bne_iff_ne]; exact fun e => hg (UInt8.toNat_inj.1 (Int.ofNat.inj e))
      have HG:=hid hg
      clear hg
      go_wp2_with fail
      go_round
      case rel =>
       refine ⟨b + 1,by omega,by omega,by go_num,fun j hj h h' => ?_⟩
       by_cases e : j=b
       ·subst e; exact HG
       ·exact HAll.out j hj h (by omega)
      case measure => simp [intOf]; omega
     case' inr.inl =>
      have q : ((s[b].toNat : Int) != 10)=false:=by rw [hg]; rfl
      have hne : a + 1≤b:=by
       rcases Nat.lt_or_ge a b with g | g
       ·omega
       ·exfalso
        obtain rfl : a=b:=by omega
        have:=E10.out
        rw [hg] at this; exact absurd this (by decide)
      have HR:=hid (zE hne hb HAll fun _ => hg)
      clear hg
     case' inr.inr =>
      have q : True:=trivial
      have hne : a + 1≤b:=by omega
      have HR:=hid (zE hne hb HAll fun h => absurd h hlb)
     all_goals
      have X2:=hid (show aC s.data.toList=ahead ts (x7 (s.data.toList.drop b) ((b : Nat) : Int) ts.length 0) by
       have:=X.out
       rw [HR.out,show a + 1 + (b - (a + 1))=b by omega] at this
       exact this)
      clear X HR HAll
      go_wp2_with fail
      go_roundw
      case rel => exact ⟨b,ts,by omega,rfl,htl,HOW',⟨ao,cp,rfl⟩,HBr',X2⟩
      case measure => simp [intOf]; omega
   have e35 : ((s[a].toNat : Int) == 35)=false:=beq_eq_false_iff_ne.2 h35
   have e35':=hid (show s[a]≠35 from fun e => h35 (by rw [e]; rfl))
   have CT:=hid (wF s a wr hs2 hlt)
   clear h35
   go_wp2_with fail
   (with_reducible refine Calls.mono CT.out ?_)
   rintro e w1 ⟨hb,hr⟩
   have HB1:=hid (HBr.out.trans (hb.mono HBr.out.size))
   have HO1:=hid (show w1.ownsRow w.heap.size 108 4 (.slice ao ts.length cp) ts.length (F5 ts) from HOW.out.kept (row:=none) ⟨hb.os,hb.tape,hb.output,hb.size,fun k hk _ => hb.block k hk⟩ (by cases hv : (Value.slice ao ts.length cp).ownBlock <;> simp))
   have hz1 : w.heap.size≤w1.heap.size:=HB1.out.size
   cases hx : dW s[a] (s.data.toList.drop (a + 1)) a with
   | error c =>
     rw [hx] at hr
     obtain ⟨hc,k',s',x',p',rfl⟩:=hr
     have X:=hid (show aC s.data.toList=.error (c,a) by rw [HC.out,a3w h32'.out e35'.out hx]; rfl)
     have HC0:=hid hc
     have hc' : (c != 0)=true:=by rw [bne_iff_ne]; exact hc
     have HB2:=hid (HB1.out.trans ((Below.refl w1.heap.size w1).mono hz1))
     clear hb hc hx
     go_wp2_with fail
     go_ret3
     exact iL X HC0 (HB2.out.alloc hz1 _)
   | ok q =>
     obtain ⟨t,n⟩:=q
     rw [hx] at hr
     have hln:=zD hx
     have hln2 : n≤s.size - a:=by
      have:=hln.2
      rw [List.length_drop,HL.out] at this; omega
     replace hr : e=.returned (.tuple #[.agg #[.int .i64 t.kind,.string ⟨t.text.toArray⟩,.int .i64 t.n,.int .i64 t.pos],.int .i64 n,.int .i64 0]):=hr
     subst hr
     by_cases hk : ts.length=8192
     ·have X:=hid (show aC s.data.toList=.error (76,a) by rw [HC.out,a08 h32'.out e35'.out hx hk]; rfl)
      have ek : ((ts.length : Int) == 8192)=true:=by rw [hk]; rfl
      clear hb hx hk
      go_wp2_with fail
      go_ret3
      exact iL X (by decide) (HB1.out.alloc hz1 _)
     ·have X:=hid (show aC s.data.toList=ahead (ts ++ [t]) (x7 (s.data.toList.drop (a + n)) ((a + n : Nat) : Int) (ts ++ [t]).length 0) by
       rw [HC.out,a2b h32'.out e35'.out hx hk,a0N,← D.out,List.drop_drop,List.length_append]
       congr 2)
      have ek : ((ts.length : Int) == 8192)=false:=by rw [beq_eq_false_iff_ne]; omega
      obtain ⟨hn1,-⟩:=hln
      have htl8 : ts.length + 1≤8192:=by omega
      clear hb hx hk
      have hs1 : (w1.alloc (.cells #[.int .i64 t.kind,.string ⟨t.text.toArray⟩,.int .i64 t.n,.int .i64 t.pos] 108)).heap.size=w1.heap.size + 1:=by simp
      have HB2:=hid (HB1.out.alloc hz1 (.cells #[.int .i64 t.kind,.string ⟨t.text.toArray⟩,.int .i64 t.n,.int .i64 t.pos] 108))
      have HO2:=hid (HO1.out.alloc (.cells #[.int .i64 t.kind,.string ⟨t.text.toArray⟩,.int .i64 t.n,.int .i64 t.pos] 108))
      have hz2 : w.heap.size≤w1.heap.size + 1:=by omega
      go_wp2_with (at_builtin; refine wpList_append_lies _ rfl _ _ 100 rfl w.heap.size 108 i0 (.agg #[.int .i64 0,.string ⟨#[]⟩,.int .i64 0,.int .i64 0]) 4 40 Tryz.underlying100 HI0.out.1 HI0.out.2.1 HI0.out.2.2.1 HI0.out.2.2.2 rfl (by decide) _ _ _ rfl (HO2.out.alloc _) ⟨w1.heap.size + 1,0,none⟩ 1 1 (Z8 t) rfl rfl (hs1 ▸ mW _ _ _ _ _ _) (a2a t) (by decide) (by unfold maxLen; omega) (by omega) (by simp; omega) _ rfl ?_; intro g cap' w5 hown' hgrow' hat hltg; have Z:=hid (lA (HB2.out.alloc (by rw [hs1]; exact hz2) _) (HO2.out.alloc _) hown' hgrow' (by simp; omega)); clear hown' hgrow' hat hltg)
      go_roundw
      case rel =>
       have el : (ts ++ [t]).length=ts.length + 1:=by rw [List.length_append]; rfl
       have z:=Z.out.2
       rw [el] at z
       refine ⟨a + n,ts ++ [t],by omega,by go_num,by rw [el]; exact htl8,by rw [el]; exact z,⟨some ⟨g,0,none⟩,cap',by rw [el]⟩,Z.out.1,X⟩
      case measure => simp [intOf]; omega
  ·obtain rfl : a=s.size:=by omega
   have X:=hid (show aC s.data.toList=.ok (ts ++ [⟨0,[],0,s.size⟩]) by
    have:=HSC.out
    rw [aJ (Nat.le_refl _)] at this
    exact this)
   have hz0 : w.heap.size≤wr.heap.size:=HBr.out.size
   go_wp2_with (at_builtin; refine wpList_append_lies _ rfl _ _ 100 rfl w.heap.size 108 i0 (.agg #[.int .i64 0,.string ⟨#[]⟩,.int .i64 0,.int .i64 0]) 4 40 Tryz.underlying100 HI0.out.1 HI0.out.2.1 HI0.out.2.2.1 HI0.out.2.2.2 rfl (by decide) _ _ _ rfl (HOW.out.alloc _) ⟨wr.heap.size,0,none⟩ 1 1 (Z8 ⟨0,[],0,s.size⟩) rfl rfl (mW _ _ _ _ _ _) (a2a _) (by decide) (by unfold maxLen; omega) (by omega) (by simp; omega) _ rfl ?_; intro g cap' w5 hown' hgrow' hat hltg; have Z:=hid (lA (HBr.out.alloc hz0 _) (HOW.out.alloc _) hown' hgrow' (by simp; omega)); clear hown' hgrow' hat hltg)
   go_ret3
   refine ⟨Z.out.1,?_⟩
   rw [X.out]
   exact ⟨g,cap',by rw [List.length_append]; rfl,Z.out.2⟩
end
section
open Lib (hid)
open Go.RowKit
theorem jF (t : Nd) (d : Int) : d5 t d=(decide (d≤100) && x6 t.kind t.kids.length && q6 t.kind t.text.data.toList && bM t.kind t.n && o6 t.kids (d + 1)):=by cases t; rw [d5]; rfl
theorem uS {ks : List Nd} {d : Int} (h : ∀ j (hj : j<ks.length),d5 ks[j] d=true) : o6 ks d=true:=by
 have:=gQ ks d ks.length fun j hj _ => h j hj
 rwa [List.take_length] at this
theorem uE (N : Nat) : ∀ t : Nd,SizeOf.sizeOf t<N→∀ (a : Option Addr) (cap n₀ : Nat) (d : Int) (w : World),t.hold n₀ w a cap→n₀≤w.heap.size→0≤d→d≤1000 →
 Calls Tryz.prog 111 #[.agg #[.int .i64 t.kind,.string t.text,.int .i64 t.n,.slice a t.kids.length cap,.int .i64 t.place],.int .i64 d] w fun e w' => e=.returned (.bool (d5 t d))∧Below w.heap.size w w':=by
 induction N with
 | zero => intro t ht; omega
 | succ N ih =>
 intro t ht a cap n₀ d w hh hn hd0 hd1
 have hts:=hh.bounds.2.1
 have hkc:=hh.bounds.2.2.2.2
 have hkl : t.kids.length≤9223372036854775807:=Nat.le_trans hkc.1 hkc.2
 have hkd : ∀ (k : Nat) (hk : k<t.kids.length),SizeOf.sizeOf t.kids[k]<N:=by
  cases t with
  | mk kind s n ks p => exact fun k hk => bJ hk ht
 have IH:=hid fun (k : Nat) (h : k<t.kids.length) => ih _ (hkd k h)
 have HH:=hid hh
 have R:=hid (jF t d)
 have KL:=hid (a0m t.kind t.kids.length)
 clear hh ih ht hkd
 have HB:=hid (a7 w (.cells #[.int .i64 t.kind,.string t.text,.int .i64 t.n,.slice a t.kids.length cap,.int .i64 t.place] 24))
 have B0:=hid (Boxed.make w t a cap)
 go_enter Tryz.func111,Tryz.ntmps111
 go_wp2_with fail
 refine Calls.mono (a0I t.kind _) ?_
 rintro e w1 ⟨rfl,rfl⟩
 go_wp2_with fail
 generalize hW : w.alloc (.cells #[.int .i64 t.kind,.string t.text,.int .i64 t.n,.slice a t.kids.length cap,.int .i64 t.place] 24)=W1 at HB B0 ⊢
 clear hW
 refine Calls.mono (uX t a cap W1 hts) ?_
 rintro e w2 ⟨rfl,hb⟩
 have HC:=hid (HB.out.trans (hb.mono HB.out.size))
 have B1:=hid (B0.out.below hb)
 clear hb HB B0
 have c0:=B1.out.c0
 have c1:=B1.out.c1
 have c2:=B1.out.c2
 have c3:=B1.out.c3
 have c4:=B1.out.c4
 go_wp2_with fail
 refine Calls.mono (oK t a cap w2) ?_
 rintro e w3 ⟨rfl,hb⟩
 have HD:=hid (HC.out.trans (hb.mono HC.out.size))
 have B2:=hid (B1.out.below hb)
 clear hb HC B1 c0 c1 c2 c3 c4
 have c3:=B2.out.c3
 by_cases hd : 100<d
 ·have F:=hid (show d5 t d=false by rw [R.out,decide_eq_false (by omega)]; rfl)
  go_wp2_with fail
  go_ret
  exact ⟨i7 F.out.symm,HD⟩
 by_cases hlo : (t.kids.length : Int)<fQ t.kind
 ·have F:=hid (show d5 t d=false by rw [R.out,KL.out,decide_eq_false (show ¬ fQ t.kind≤t.kids.length by omega)]; simp)
  go_wp2_with fail
  go_ret
  exact ⟨i7 F.out.symm,HD⟩
 by_cases hhi : fP t.kind<(t.kids.length : Int)
 ·have F:=hid (show d5 t d=false by rw [R.out,KL.out,decide_eq_false (show ¬ (t.kids.length : Int)≤fP t.kind by omega)]; simp)
  go_wp2_with fail
  go_ret
  exact ⟨i7 F.out.symm,HD⟩
 cases ht : q6 t.kind t.text.data.toList
 ·have F:=hid (show d5 t d=false by rw [R.out,ht]; simp)
  go_wp2_with fail
  go_ret
  exact ⟨i7 F.out.symm,HD⟩
 cases hnm : bM t.kind t.n
 ·have F:=hid (show d5 t d=false by rw [R.out,hnm]; simp)
  go_wp2_with fail
  go_ret
  exact ⟨i7 F.out.symm,HD⟩
 have F:=hid (show d5 t d=o6 t.kids (d + 1) by
  rw [R.out,KL.out,ht,hnm,decide_eq_true (show fQ t.kind≤t.kids.length by omega),decide_eq_true (show (t.kids.length : Int)≤fP t.kind by omega),decide_eq_true (show d≤100 by omega)]; simp)
 go_wp2_with fail
 clear c3 ht hnm hlo hhi
 go_loopw [9,10] (fun i _ wr => ∃ k : Nat,k≤t.kids.length∧i=.int .i64 k∧Hid (Below w.heap.size w wr)∧Hid (Boxed w.heap.size t a cap wr)∧Hid (∀ j (hj : j<t.kids.length),j<k→d5 t.kids[j] (d + 1)=true)) (fun i _ _ => t.kids.length - (intOf i).toNat)
 case atStart => exact ⟨0,Nat.zero_le _,rfl,HD,B2,fun j hj h => by omega⟩
 case round =>
  obtain ⟨k,hk,rfl,HBr,HBx,HAll⟩:=hrel
  clear B2 HD
  have c3:=HBx.out.c3
  by_cases hlt : k<t.kids.length
  ·obtain ⟨b,off,x,cx,A⟩:=(HH.out.below (HBr.out.mono hn)).kid k hlt
   obtain ⟨rfl,hb0,c0,c1,c2,c3',c4,hk1⟩:=A
   have C:=hid (IH.out k hlt x cx n₀ (d + 1) wr hk1 (Nat.le_trans hn HBr.out.size) (by omega) (by omega))
   clear hk1
   cases hr : d5 t.kids[k] (d + 1)
   ·have F':=hid (show d5 t d=false by rw [F.out,jX hlt hr])
    go_wp2_with fail
    refine Calls.mono C.out ?_
    rintro e w4 ⟨rfl,hb⟩
    rw [hr]
    have HE:=hid (HBr.out.trans (hb.mono HBr.out.size))
    clear hb
    go_wp2_with fail
    go_ret
    exact ⟨i7 F'.out.symm,HE⟩
   ·have HR:=hid hr
    go_wp2_with fail
    refine Calls.mono C.out ?_
    rintro e w4 ⟨rfl,hb⟩
    rw [hr]
    have HE:=hid (HBr.out.trans (hb.mono HBr.out.size))
    have HX:=hid (HBx.out.below hb)
    clear hb hr
    go_wp2_with fail
    go_roundw
    case rel =>
     refine ⟨k + 1,by omega,by go_num,HE,HX,fun j hj h => ?_⟩
     by_cases e : j=k
     ·subst e; exact HR
     ·exact HAll.out j hj (by omega)
    case measure => simp [intOf]; omega
  ·have F':=hid (show d5 t d=true by rw [F.out,uS fun j hj => HAll.out j hj (by omega)])
   go_wp2_with fail
   go_ret
   exact ⟨i7 F'.out.symm,HBr⟩
theorem xR (t : Nd) (a : Option Addr) (cap n₀ : Nat) (d : Int) (w : World) (hh : t.hold n₀ w a cap) (hn : n₀≤w.heap.size) (h0 : 0≤d) (h1 : d≤1000) :
 Calls Tryz.prog 111 #[.agg #[.int .i64 t.kind,.string t.text,.int .i64 t.n,.slice a t.kids.length cap,.int .i64 t.place],.int .i64 d] w fun e w' => e=.returned (.bool (d5 t d))∧Below w.heap.size w w' :=
 uE _ t (Nat.lt_succ_self _) a cap n₀ d w hh hn h0 h1
theorem lX (t : Nd) (a : Option Addr) (cap n₀ : Nat) (w : World) (hh : t.hold n₀ w a cap) (hn : n₀≤w.heap.size) :
 Calls Tryz.prog 74 #[.agg #[.int .i64 t.kind,.string t.text,.int .i64 t.n,.slice a t.kids.length cap,.int .i64 t.place]] w fun e w' => e=.returned (.bool (mD t))∧Below w.heap.size w w':=by
 have HH:=hid hh
 clear hh
 have HB:=hid (a7 w (.cells #[.int .i64 t.kind,.string t.text,.int .i64 t.n,.slice a t.kids.length cap,.int .i64 t.place] 24))
 have B0:=hid (Boxed.make w t a cap)
 go_enter Tryz.func74,Tryz.ntmps74
 go_wp2_with fail
 generalize hW : w.alloc (.cells #[.int .i64 t.kind,.string t.text,.int .i64 t.n,.slice a t.kids.length cap,.int .i64 t.place] 24)=W1 at HB B0 ⊢
 clear hW
 refine Calls.mono (lI t a cap n₀ W1 (HH.out.below (HB.out.mono hn)) (Nat.le_trans hn HB.out.size)) ?_
 rintro e w2 ⟨rfl,hb⟩
 have HC:=hid (HB.out.trans (hb.mono HB.out.size))
 have B1:=hid (B0.out.below hb)
 clear hb HB B0
 cases hs : y9 t
 ·go_wp2_with fail
  go_ret
  exact ⟨i7 (by unfold mD; rw [hs]; rfl),HC⟩
 ·have c0:=B1.out.c0
  have c1:=B1.out.c1
  have c2:=B1.out.c2
  have c3:=B1.out.c3
  have c4:=B1.out.c4
  have C:=hid (xR t a cap n₀ 1 w2 (HH.out.below (HC.out.mono hn)) (Nat.le_trans hn HC.out.size) (by decide) (by decide))
  go_wp2_with fail
  refine Calls.mono C.out ?_
  rintro e w3 ⟨rfl,hb⟩
  have HD:=hid (HC.out.trans (hb.mono HC.out.size))
  clear hb
  go_wp2_with fail
  go_ret
  exact ⟨i7 (by unfold mD; rw [hs]; rfl),HD⟩
end
end Go.Proofs.YtppcfebnaieciaaGreatDoor
