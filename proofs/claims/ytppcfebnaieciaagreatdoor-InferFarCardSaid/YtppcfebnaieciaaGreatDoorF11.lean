/-
  Laws that the proof rests on.
-/
import Derived.Test.YtppcfebnaieciaaGreatDoorF10
import Derived.Test.YtppcfebnaieciaaGreatDoorF07
import Derived.Test.YtppcfebnaieciaaGreatDoorF08
namespace Go.Proofs.YtppcfebnaieciaaGreatDoor
set_option maxRecDepth 100000
set_option maxHeartbeats 16000000
section
open Lib (hid)
open Go.RowKit
theorem a3J (c : UInt8) : sN c=((c.toNat : Int) != 34 && (c.toNat : Int) != 10):=by
 unfold sN bne
 rw [show ((c.toNat : Int) == 34)=(c == 34) from sZ c 34 (by decide),show ((c.toNat : Int) == 10)=(c == 10) from sZ c 10 (by decide)]
theorem pO {s : ByteArray} {a n : Nat} (h1 : 1≤n) (hk : a + n≤s.size) (h : ∀ j (hj : a + j<s.size),1≤j→j<n→sN s[a + j]=true) (h' : ∀ (hk : a + n<s.size),sN s[a + n]=false) : nP (s.data.toList.drop (a + 1))=n - 1:=by
 have hl : (s.data.toList.drop (a + 1)).length=s.size - (a + 1):=by rw [List.length_drop,d7]
 refine D8 sN _ _ (by rw [hl]; omega) (fun j hj hjk => ?_) fun hj => ?_
 ·rw [List.getElem_drop]
  have:=h (1 + j) (by rw [hl] at hj; omega) (by omega) (by omega)
  simp only [show a + (1 + j)=a + 1 + j by omega] at this
  exact this
 ·rw [List.getElem_drop]
  have:=h' (by rw [hl] at hj; omega)
  simp only [show a + n=a + 1 + (n - 1) by omega] at this
  exact this
theorem rJ (s : ByteArray) (a : Nat) (w : World) (hs : s.size≤16384) (ha : a<s.size) :
 Calls Tryz.prog 134 #[.string s,.int .i64 a] w (a0y (cM (s.data.toList.drop (a + 1)) a) w):=by
 have Q:=hid (show cM (s.data.toList.drop (a + 1)) a=if ((s.data.toList.drop (a + 1)).drop (nP (s.data.toList.drop (a + 1)))).headD 0≠34 then .error 71
  else if x8 ((s.data.toList.drop (a + 1)).take (nP (s.data.toList.drop (a + 1))))=true then .ok (⟨7,(s.data.toList.drop (a + 1)).take (nP (s.data.toList.drop (a + 1))),0,a⟩,nP (s.data.toList.drop (a + 1)) + 2) else .error 73 from rfl)
 obtain ⟨W,hW⟩ : ∃ W,W=w.alloc (.cells #[.int .i64 0,.string ⟨#[]⟩,.int .i64 0,.int .i64 0] 108):=⟨_,rfl⟩
 have HB:=hid (show Below w.heap.size w W from hW ▸ a7 _ _)
 have Z0:=hid (show bI w.heap.size W from hW ▸ bI.make w)
 go_enter Tryz.func134,Tryz.ntmps134
 go_wp2_with fail
 rw [← hW]
 clear hW
 obtain ⟨c0,c1,c2,c3,f0,f1,f2,f3⟩:=Z0.out.cells
 go_loop [7] (fun n => ∃ k : Nat,1≤k∧a + k≤s.size∧n=.int .i64 k∧Hid (∀ j (hj : a + j<s.size),1≤j→j<k→sN s[a + j]=true)) (fun n => s.size - (intOf n).toNat)
 case atStart => exact ⟨1,by omega,by omega,rfl,fun j hj h h' => by omega⟩
 case round =>
  obtain ⟨k,hk1,hk,rfl,HAll⟩:=hrel
  by_cases hlt : a + k<s.size
  case neg =>
   have HR:=hid (pO hk1 hk HAll (fun h => absurd h hlt))
   have R:=hid (show cM (s.data.toList.drop (a + 1)) a=.error 71 by
    rw [Q.out,HR.out,if_pos]
    rw [List.drop_drop,V3 (by omega)]; decide)
   have e1 : (((a : Int) + k) == s.size)=true:=by rw [beq_iff_eq]; omega
   clear HAll
   go_wp2_with fail
   exact bodyPost_ret (v:=.tuple #[.agg #[.int .i64 0,.string ⟨#[]⟩,.int .i64 0,.int .i64 0],.int .i64 0,.int .i64 71]) (by simp [results,Tryz.results134,go_sem,c0,c1,c2,c3]) rfl (e8 R (by decide) (d8 HB _ _ _ _))
  have e1 : (((a : Int) + k) == s.size)=false:=by rw [beq_eq_false_iff_ne]; omega
  have HQ:=hid (a3J s[a + k])
  have hcase : ((s[a + k].toNat : Int)=34)∨((s[a + k].toNat : Int)=10)∨(¬ (s[a + k].toNat : Int)=34∧¬ (s[a + k].toNat : Int)=10):=by omega
  rcases hcase with h34 | h10 | ⟨h34,h10⟩
  ·have q1 : ((s[a + k].toNat : Int) != 34)=false:=by rw [h34]; rfl
   have q2 : ((s[a + k].toNat : Int) == 10)=false:=by rw [h34]; rfl
   have HR:=hid (pO hk1 hk HAll (fun h => by rw [HQ.out,q1]; rfl))
   have T:=hid (show (s.extract (a + 1) (a + k)).data.toList=(s.data.toList.drop (a + 1)).take (k - 1) by rw [H9]; congr 1; omega)
   have hte:=V0 s (a + 1) (a + k) (by omega)
   have CN:=hid (rD (s.extract (a + 1) (a + k)) W (by unfold maxLen; omega))
   rw [T.out,tX] at CN
   have H34:=hid (show ((s.data.toList.drop (a + 1)).drop (k - 1)).headD 0=34 by
    rw [List.drop_drop,show a + 1 + (k - 1)=a + k by omega,p6 hlt]; exact UInt8.toNat_inj.1 (Int.ofNat.inj h34))
   clear HAll h34 hte
   go_wp2_with fail
   (with_reducible refine Calls.mono CN.out ?_)
   rintro e w1 ⟨rfl,rfl⟩
   cases hnm : x8 ((s.data.toList.drop (a + 1)).take (k - 1))
   ·have R:=hid (show cM (s.data.toList.drop (a + 1)) a=.error 73 by
     rw [Q.out,HR.out,if_neg (by rw [H34.out]; decide),if_neg (by rw [hnm]; decide)])
    go_wp2_with fail
    exact bodyPost_ret (v:=.tuple #[.agg #[.int .i64 0,.string ⟨#[]⟩,.int .i64 0,.int .i64 0],.int .i64 0,.int .i64 73]) (by simp [results,Tryz.results134,go_sem,c0,c1,c2,c3]) rfl (e8 R (by decide) (d8 HB _ _ _ _))
   ·have R:=hid (show cM (s.data.toList.drop (a + 1)) a=.ok (⟨7,(s.data.toList.drop (a + 1)).take (k - 1),0,a⟩,k - 1 + 2) by
     rw [Q.out,HR.out,if_neg (by rw [H34.out]; decide),if_pos hnm])
    go_wp2_with fail
    exact bodyPost_ret (v:=.tuple #[.agg #[.int .i64 7,.string (s.extract (a + 1) (a + k)),.int .i64 0,.int .i64 a],.int .i64 ((k : Int) + 1),.int .i64 0]) (by simp [results,Tryz.results134,go_sem,c0,c1,c2,c3]) rfl (t7 R (d8 HB _ _ _ _) rfl T rfl rfl (by omega))
  ·have q1 : ((s[a + k].toNat : Int) != 34)=true:=by rw [h10]; rfl
   have q2 : ((s[a + k].toNat : Int) != 10)=false:=by rw [h10]; rfl
   have q3 : ((s[a + k].toNat : Int) == 10)=true:=by rw [h10]; rfl
   have HR:=hid (pO hk1 hk HAll (fun h => by rw [HQ.out,q2]; simp))
   have R:=hid (show cM (s.data.toList.drop (a + 1)) a=.error 71 by
    rw [Q.out,HR.out,if_pos]
    rw [List.drop_drop,show a + 1 + (k - 1)=a + k by omega,p6 hlt]
    intro e
    rw [e] at h10; exact absurd h10 (by decide))
   clear HAll h10
   go_wp2_with fail
   exact bodyPost_ret (v:=.tuple #[.agg #[.int .i64 0,.string ⟨#[]⟩,.int .i64 0,.int .i64 0],.int .i64 0,.int .i64 71]) (by simp [results,Tryz.results134,go_sem,c0,c1,c2,c3]) rfl (e8 R (by decide) (d8 HB _ _ _ _))
  ·have q1 : ((s[a + k].toNat : Int) != 34)=true:=by rw [bne_iff_ne]; exact h34
   have q2 : ((s[a + k].toNat : Int) != 10)=true:=by rw [bne_iff_ne]; exact h10
   have HK:=hid (show sN s[a + k]=true by rw [HQ.out,q1,q2]; rfl)
   clear h34 h10
   go_wp2_with fail
   go_round
   case rel =>
    refine ⟨k + 1,by omega,by omega,by go_num,fun j hj h h' => ?_⟩
    by_cases e : j=k
    ·subst e; exact HK
    ·exact HAll.out j hj h (by omega)
   case measure => simp [intOf]; omega
end
section
open Lib (hid)
open Go.RowKit
theorem yC {s : ByteArray} {a n : Nat} (hk : a + n≤s.size) (h : ∀ j (hj : a + j<s.size),j<n→grC s[a + j]=true) (h' : ∀ (hk : a + n<s.size),grC s[a + n]=false) : a3N (s.data.toList.drop a)=n:=by
 have hl : (s.data.toList.drop a).length=s.size - a:=by rw [List.length_drop,d7]
 exact D8 grC _ _ (by rw [hl]; omega) (fun j hj hjk => by rw [List.getElem_drop]; exact h j (by rw [hl] at hj; omega) hjk) fun hj => by rw [List.getElem_drop]; exact h' (by rw [hl] at hj; omega)
def dR : ByteArray:=⟨#[40,41,44,59,61,60,43,45,42,47]⟩
theorem a0I : ∀ (k : Nat) (h : k<10),(dR.extract k (k + 1)).data.toList=[dR[k]'h]:=by decide
theorem a4n {c : UInt8} (h : ∀ j (hj : j<10),(dR[j]'hj)≠c) : fU.contains c=false:=by
 rw [Bool.eq_false_iff]
 intro e
 obtain ⟨i,hi,he⟩:=List.getElem_of_mem (List.contains_iff_mem.1 e)
 exact h i hi he
theorem a1I {c : UInt8} {k : Nat} (h : k<10) (e : (dR[k]'h)=c) : fU.contains c=true:=by
 rw [List.contains_iff_mem,← e]
 exact List.getElem_mem (l:=fU) (n:=k) h
theorem a4K (c : UInt8) (r : List UInt8) (pos : Int) : eB c r pos=if smI c.toNat=true then cC (c :: r) pos else if dgI c.toNat=true then aA (c :: r) pos else if (c.toNat : Int)=34 then cM r pos else if grI c.toNat=true then a3o (c :: r) pos else mH c r pos:=by
 unfold eB
 rw [bM]
 have e : (c=34)=((c.toNat : Int)=34):=propext ((qE (c:=c) (n:=34) (by decide)).symm)
 simp only [e]
 rfl
theorem a3v (c : UInt8) (r : List UInt8) (pos : Int) : mH c r pos=if (c.toNat : Int)=60∧((r.headD 0).toNat : Int)=61 then .ok (⟨8,[60,61],0,pos⟩,2) else if fU.contains c=true then .ok (⟨8,[c],0,pos⟩,1) else .error 71:=by
 unfold mH
 have e : (c=60)=((c.toNat : Int)=60):=propext ((qE (c:=c) (n:=60) (by decide)).symm)
 have e' : (r.headD 0=61)=(((r.headD 0).toNat : Int)=61):=propext ((qE (c:=r.headD 0) (n:=61) (by decide)).symm)
 simp only [e,e']
theorem vZ (s : ByteArray) (a : Nat) (w : World) (hs : s.size≤16384) (ha : a<s.size) :
 Calls Tryz.prog 96 #[.string s,.int .i64 a] w (a0y (eB s[a] (s.data.toList.drop (a + 1)) a) w):=by
 have D:=hid (J5 ha)
 have K:=hid (a4K s[a] (s.data.toList.drop (a + 1)) a)
 rw [← D.out] at K
 obtain ⟨W,hW⟩ : ∃ W,W=w.alloc (.cells #[.int .i64 0,.string ⟨#[]⟩,.int .i64 0,.int .i64 0] 108):=⟨_,rfl⟩
 have HB:=hid (show Below w.heap.size w W from hW ▸ a7 _ _)
 have Z0:=hid (show bI w.heap.size W from hW ▸ bI.make w)
 cases h1 : smI s[a].toNat
 case true =>
  have R0:=hid (show eB s[a] (s.data.toList.drop (a + 1)) a=cC (s.data.toList.drop a) a by rw [K.out,if_pos h1])
  have C:=hid (uV s a W hs ha)
  go_enter Tryz.func96,Tryz.ntmps96
  go_wp2_with fail
  rw [← hW]
  clear hW
  go_wp2_with (first | (go_at_call 130; refine (d5 _ _).mono ?_; rintro e w' ⟨rfl,rfl⟩; rw [h1]))
  (with_reducible refine Calls.mono C.out ?_)
  rintro e w1 ⟨hb,hr⟩
  have HC:=hid (HB.out.trans (hb.mono HB.out.size))
  obtain ⟨c0,c1,c2,c3,f0,f1,f2,f3⟩:=(Z0.out.below hb).cells
  cases hx : cC (s.data.toList.drop a) a with
  | error c =>
    rw [hx] at hr R0
    obtain ⟨hc,k',s',x',p',rfl⟩:=hr
    have HC0:=hid hc
    clear hb hc hx
    go_wp2_with fail
    exact bodyPost_ret (v:=.tuple #[.agg #[.int .i64 k',.string s',.int .i64 x',.int .i64 p'],.int .i64 0,.int .i64 c]) (by simp [results,Tryz.results96,go_sem,c0,c1,c2,c3]) rfl (e8 R0 HC0 (d8 HC _ _ _ _))
  | ok q =>
    obtain ⟨t,n⟩:=q
    rw [hx] at hr R0
    replace hr : e=.returned (.tuple #[.agg #[.int .i64 t.kind,.string ⟨t.text.toArray⟩,.int .i64 t.n,.int .i64 t.pos],.int .i64 n,.int .i64 0]):=hr
    subst hr
    clear hb hx
    go_wp2_with fail
    exact bodyPost_ret (v:=.tuple #[.agg #[.int .i64 t.kind,.string ⟨t.text.toArray⟩,.int .i64 t.n,.int .i64 t.pos],.int .i64 n,.int .i64 0]) (by simp [results,Tryz.results96,go_sem,c0,c1,c2,c3]) rfl (t7 R0 (d8 HC _ _ _ _) rfl rfl rfl rfl rfl)
 have n1:=hid (show ¬ smI s[a].toNat=true by rw [h1]; decide)
 cases h2 : dgI s[a].toNat
 case true =>
  have R0:=hid (show eB s[a] (s.data.toList.drop (a + 1)) a=aA (s.data.toList.drop a) a by rw [K.out,if_neg n1.out,if_pos h2])
  have C:=hid (tW s a W hs ha (by rw [bM]; exact h2))
  go_enter Tryz.func96,Tryz.ntmps96
  go_wp2_with fail
  rw [← hW]
  clear hW
  go_wp2_with (first | (go_at_call 130; refine (d5 _ _).mono ?_; rintro e w' ⟨rfl,rfl⟩; rw [h1]) | (go_at_call 132; refine (m6 _ _).mono ?_; rintro e w' ⟨rfl,rfl⟩; rw [h2]))
  (with_reducible refine Calls.mono C.out ?_)
  rintro e w1 ⟨hb,hr⟩
  have HC:=hid (HB.out.trans (hb.mono HB.out.size))
  obtain ⟨c0,c1,c2,c3,f0,f1,f2,f3⟩:=(Z0.out.below hb).cells
  cases hx : aA (s.data.toList.drop a) a with
  | error c =>
    rw [hx] at hr R0
    obtain ⟨hc,k',s',x',p',rfl⟩:=hr
    have HC0:=hid hc
    clear hb hc hx
    go_wp2_with fail
    exact bodyPost_ret (v:=.tuple #[.agg #[.int .i64 k',.string s',.int .i64 x',.int .i64 p'],.int .i64 0,.int .i64 c]) (by simp [results,Tryz.results96,go_sem,c0,c1,c2,c3]) rfl (e8 R0 HC0 (d8 HC _ _ _ _))
  | ok q =>
    obtain ⟨t,n⟩:=q
    rw [hx] at hr R0
    replace hr : e=.returned (.tuple #[.agg #[.int .i64 t.kind,.string ⟨t.text.toArray⟩,.int .i64 t.n,.int .i64 t.pos],.int .i64 n,.int .i64 0]):=hr
    subst hr
    clear hb hx
    go_wp2_with fail
    exact bodyPost_ret (v:=.tuple #[.agg #[.int .i64 t.kind,.string ⟨t.text.toArray⟩,.int .i64 t.n,.int .i64 t.pos],.int .i64 n,.int .i64 0]) (by simp [results,Tryz.results96,go_sem,c0,c1,c2,c3]) rfl (t7 R0 (d8 HC _ _ _ _) rfl rfl rfl rfl rfl)
 have n2:=hid (show ¬ dgI s[a].toNat=true by rw [h2]; decide)
 cases h3 : ((s[a].toNat : Int) == 34)
 case true =>
  have h3':=hid (beq_iff_eq.1 h3)
  have R0:=hid (show eB s[a] (s.data.toList.drop (a + 1)) a=cM (s.data.toList.drop (a + 1)) a by rw [K.out,if_neg n1.out,if_neg n2.out,if_pos h3'.out])
  have C:=hid (rJ s a W hs ha)
  go_enter Tryz.func96,Tryz.ntmps96
  go_wp2_with fail
  rw [← hW]
  clear hW
  go_wp2_with (first | (go_at_call 130; refine (d5 _ _).mono ?_; rintro e w' ⟨rfl,rfl⟩; rw [h1]) | (go_at_call 132; refine (m6 _ _).mono ?_; rintro e w' ⟨rfl,rfl⟩; rw [h2]))
  (with_reducible refine Calls.mono C.out ?_)
  rintro e w1 ⟨hb,hr⟩
  have HC:=hid (HB.out.trans (hb.mono HB.out.size))
  obtain ⟨c0,c1,c2,c3,f0,f1,f2,f3⟩:=(Z0.out.below hb).cells
  cases hx : cM (s.data.toList.drop (a + 1)) a with
  | error c =>
    rw [hx] at hr R0
    obtain ⟨hc,k',s',x',p',rfl⟩:=hr
    have HC0:=hid hc
    clear hb hc hx
    go_wp2_with fail
    exact bodyPost_ret (v:=.tuple #[.agg #[.int .i64 k',.string s',.int .i64 x',.int .i64 p'],.int .i64 0,.int .i64 c]) (by simp [results,Tryz.results96,go_sem,c0,c1,c2,c3]) rfl (e8 R0 HC0 (d8 HC _ _ _ _))
  | ok q =>
    obtain ⟨t,n⟩:=q
    rw [hx] at hr R0
    replace hr : e=.returned (.tuple #[.agg #[.int .i64 t.kind,.string ⟨t.text.toArray⟩,.int .i64 t.n,.int .i64 t.pos],.int .i64 n,.int .i64 0]):=hr
    subst hr
    clear hb hx
    go_wp2_with fail
    exact bodyPost_ret (v:=.tuple #[.agg #[.int .i64 t.kind,.string ⟨t.text.toArray⟩,.int .i64 t.n,.int .i64 t.pos],.int .i64 n,.int .i64 0]) (by simp [results,Tryz.results96,go_sem,c0,c1,c2,c3]) rfl (t7 R0 (d8 HC _ _ _ _) rfl rfl rfl rfl rfl)
 have n3:=hid (show ¬ (s[a].toNat : Int)=34 from beq_eq_false_iff_ne.1 h3)
 cases h4 : grI s[a].toNat
 case true =>
  have R0:=hid (show eB s[a] (s.data.toList.drop (a + 1)) a=if a3N (s.data.toList.drop a)=3 then .ok (⟨4,(s.data.toList.drop a).take 3,0,a⟩,3) else .error 73 by rw [K.out,if_neg n1.out,if_neg n2.out,if_neg n3.out,if_pos h4]; rfl)
  have H4:=hid (show grC s[a]=true from h4)
  obtain ⟨c0,c1,c2,c3,f0,f1,f2,f3⟩:=Z0.out.cells
  go_enter Tryz.func96,Tryz.ntmps96
  go_wp2_with fail
  rw [← hW]
  clear hW
  go_wp2_with (first | (go_at_call 130; refine (d5 _ _).mono ?_; rintro e w' ⟨rfl,rfl⟩; rw [h1]) | (go_at_call 132; refine (m6 _ _).mono ?_; rintro e w' ⟨rfl,rfl⟩; rw [h2]) | (go_at_call 135; refine (j5 _ _).mono ?_; rintro e w' ⟨rfl,rfl⟩; rw [h4]))
  clear h1 h2 h3
  go_loop [8] (fun n => ∃ k : Nat,1≤k∧a + k≤s.size∧n=.int .i64 k∧Hid (∀ j (hj : a + j<s.size),j<k→grC s[a + j]=true)) (fun n => s.size - (intOf n).toNat)
  case atStart => exact ⟨1,by omega,by omega,rfl,fun j hj h => by obtain rfl : j=0:=(by omega); exact H4⟩
  case round =>
   obtain ⟨k,hk1,hk,rfl,HAll⟩:=hrel
   have hgo : (∃ hlt : a + k<s.size,grC s[a + k]=true)∨(∃ hlt : a + k<s.size,grC s[a + k]=false)∨¬ a + k<s.size:=by
    by_cases h : a + k<s.size
    ·cases h' : grC s[a + k]
     ·exact .inr (.inl ⟨h,h'⟩)
     ·exact .inl ⟨h,h'⟩
    ·exact .inr (.inr h)
   rcases hgo with ⟨hlt,hg⟩ | ⟨hlt,hg⟩ | hlt
   ·have h5 : grI s[a + k].toNat=true:=hg
    have HG:=hid hg
    clear hg h4
    go_wp2_with (first | (go_at_call 135; refine (j5 _ _).mono ?_; rintro e w' ⟨rfl,rfl⟩; rw [h5]))
    go_round
    case rel =>
     refine ⟨k + 1,by omega,by omega,by go_num,fun j hj h => ?_⟩
     by_cases e : j=k
     ·subst e; exact HG
     ·exact HAll.out j hj (by omega)
    case measure => simp [intOf]; omega
   case' inr.inl =>
    have h5 : grI s[a + k].toNat=false:=hg
    have HR:=hid (yC hk HAll (fun _ => hg))
    clear hg
   case' inr.inr =>
    have h5 : True:=trivial
    have HR:=hid (yC hk HAll (fun h => absurd h hlt))
   all_goals
    by_cases hk3 : (k : Int)=3
    ·have hk' : k=3:=by omega
     have e3 : ((k : Int) != 3)=false:=by rw [hk3]; rfl
     have R:=hid (R0.out.trans (if_pos (by rw [HR.out]; exact hk')))
     have T:=hid (show (s.extract a (a + k)).data.toList=(s.data.toList.drop a).take 3 by rw [H9,Nat.add_sub_cancel_left,hk'])
     have HK3:=hid hk3
     clear hk3 h4 hk'
     go_wp2_with (first | (go_at_call 135; refine (j5 _ _).mono ?_; rintro e w' ⟨rfl,rfl⟩; rw [h5]))
     exact bodyPost_ret (v:=.tuple #[.agg #[.int .i64 4,.string (s.extract a (a + k)),.int .i64 0,.int .i64 a],.int .i64 k,.int .i64 0]) (by simp [results,Tryz.results96,go_sem,c0,c1,c2,c3]) rfl (t7 R (d8 HB _ _ _ _) rfl T rfl rfl HK3)
    ·have R:=hid (R0.out.trans (if_neg (by rw [HR.out]; omega)))
     have e3 : ((k : Int) != 3)=true:=by rw [bne_iff_ne]; exact hk3
     clear hk3 h4
     go_wp2_with (first | (go_at_call 135; refine (j5 _ _).mono ?_; rintro e w' ⟨rfl,rfl⟩; rw [h5]))
     exact bodyPost_ret (v:=.tuple #[.agg #[.int .i64 0,.string ⟨#[]⟩,.int .i64 0,.int .i64 0],.int .i64 0,.int .i64 73]) (by simp [results,Tryz.results96,go_sem,c0,c1,c2,c3]) rfl (e8 R (by decide) (d8 HB _ _ _ _))
 have R0:=hid (show eB s[a] (s.data.toList.drop (a + 1)) a=mH s[a] (s.data.toList.drop (a + 1)) a by rw [K.out,if_neg n1.out,if_neg n2.out,if_neg n3.out,if_neg (by rw [h4]; decide)])
 rw [a3v] at R0
 obtain ⟨c0,c1,c2,c3,f0,f1,f2,f3⟩:=Z0.out.cells
 by_cases hle : (s[a].toNat : Int)=60∧∃ h : a + 1<s.size,(s[a + 1].toNat : Int)=61
 ·obtain ⟨h60,hlt,h61⟩:=hle
  have R:=hid (R0.out.trans (if_pos ⟨h60,by rw [p6 hlt]; exact h61⟩))
  have e60 : ((s[a].toNat : Int) == 60)=true:=by rw [h60]; rfl
  have e61 : ((s[a + 1].toNat : Int) == 61)=true:=by rw [h61]; rfl
  clear h60 h61
  go_enter Tryz.func96,Tryz.ntmps96
  go_wp2_with fail
  rw [← hW]
  clear hW
  go_wp2_with (first | (go_at_call 130; refine (d5 _ _).mono ?_; rintro e w' ⟨rfl,rfl⟩; rw [h1]) | (go_at_call 132; refine (m6 _ _).mono ?_; rintro e w' ⟨rfl,rfl⟩; rw [h2]) | (go_at_call 135; refine (j5 _ _).mono ?_; rintro e w' ⟨rfl,rfl⟩; rw [h4]))
  exact bodyPost_ret (v:=.tuple #[.agg #[.int .i64 8,.string ⟨#[60,61]⟩,.int .i64 0,.int .i64 a],.int .i64 2,.int .i64 0]) (by simp [results,Tryz.results96,go_sem,c0,c1,c2,c3]) rfl (t7 R (d8 HB _ _ _ _) rfl rfl rfl rfl rfl)
 have R1:=hid (R0.out.trans (if_neg fun h => hle ⟨h.1,by
  by_cases g : a + 1<s.size
  ·refine ⟨g,?_⟩
   have:=h.2
   rwa [p6 g] at this
  ·have:=h.2
   rw [V3 (by omega)] at this
   exact absurd this (by decide)⟩))
 have hways : ((s[a].toNat : Int) == 60)=false∨(((s[a].toNat : Int) == 60)=true∧¬ a + 1<s.size)∨(((s[a].toNat : Int) == 60)=true∧∃ h : a + 1<s.size,((s[a + 1].toNat : Int) == 61)=false):=by
  cases h : ((s[a].toNat : Int) == 60)
  ·exact .inl rfl
  ·by_cases g : a + 1<s.size
   ·exact .inr (.inr ⟨rfl,g,by rw [beq_eq_false_iff_ne]; exact fun e => hle ⟨beq_iff_eq.1 h,g,e⟩⟩)
   ·exact .inr (.inl ⟨rfl,g⟩)
 clear hle
 go_enter Tryz.func96,Tryz.ntmps96
 go_wp2_with fail
 rw [← hW]
 clear hW
 rcases hways with e60 | ⟨e60,hg⟩ | ⟨e60,hg,e61⟩
 all_goals
  go_wp2_with (first | (go_at_call 130; refine (d5 _ _).mono ?_; rintro e w' ⟨rfl,rfl⟩; rw [h1]) | (go_at_call 132; refine (m6 _ _).mono ?_; rintro e w' ⟨rfl,rfl⟩; rw [h2]) | (go_at_call 135; refine (j5 _ _).mono ?_; rintro e w' ⟨rfl,rfl⟩; rw [h4]))
  clear h1 h2 h3 h4
  go_loop [10] (fun i => ∃ k : Nat,k≤10∧i=.int .i64 k∧Hid (∀ j (hj : j<10),j<k→(dR[j]'hj)≠s[a])) (fun i => 10 - (intOf i).toNat)
  case atStart => exact ⟨0,by omega,rfl,fun j hj h => by omega⟩
  case round =>
   obtain ⟨k,hk,rfl,HAll⟩:=hrel
   by_cases hlt : k<10
   ·by_cases hm : (dR[k]'hlt)=s[a]
    ·have q : (((dR[k]'hlt).toNat : Int) == s[a].toNat)=true:=by rw [hm,beq_self_eq_true]
     have R:=hid (R1.out.trans (if_pos (a1I hlt hm)))
     have T:=hid (show (dR.extract k (k + 1)).data.toList=[s[a]] by rw [a0I k hlt,hm])
     unfold dR at q T
     clear hm
     go_wp2_with fail
     exact bodyPost_ret (v:=.tuple #[.agg #[.int .i64 8,.string ((⟨#[40,41,44,59,61,60,43,45,42,47]⟩ : ByteArray).extract k (k + 1)),.int .i64 0,.int .i64 a],.int .i64 1,.int .i64 0]) (by simp [results,Tryz.results96,go_sem,c0,c1,c2,c3]) rfl (t7 R (d8 HB _ _ _ _) rfl T rfl rfl rfl)
    ·have q : (((dR[k]'hlt).toNat : Int) == s[a].toNat)=false:=by rw [beq_eq_false_iff_ne]; exact fun e => hm (UInt8.toNat_inj.1 (Int.ofNat.inj e))
     have HM:=hid hm
     unfold dR at q
     clear hm
     go_wp2_with fail
     go_round
     case rel =>
      refine ⟨k + 1,by omega,by go_num,fun j hj h => ?_⟩
      by_cases e : j=k
      ·subst e; exact HM
      ·exact HAll.out j hj (by omega)
     case measure => simp [intOf]; omega
   ·have R:=hid (R1.out.trans (if_neg (by rw [a4n fun j hj => HAll.out j hj (by omega)]; decide)))
    go_wp2_with fail
    exact bodyPost_ret (v:=.tuple #[.agg #[.int .i64 0,.string ⟨#[]⟩,.int .i64 0,.int .i64 0],.int .i64 0,.int .i64 71]) (by simp [results,Tryz.results96,go_sem,c0,c1,c2,c3]) rfl (e8 R (by decide) (d8 HB _ _ _ _))
end
section
open Lib (hid)
open Go.RowKit
def a4t (T : TypeId) (r : Except (Int × Int) (List Tk)) (w : World) (e : Ending) (w' : World) : Prop :=
 Below w.heap.size w w'∧match r with
  | .ok ts => ∃ g cap,e=.returned (.tuple #[.slice (some ⟨g,0,none⟩) ts.length cap,.int .i64 0,.int .i64 0])∧w'.ownsRow w.heap.size T 4 (.slice (some ⟨g,0,none⟩) ts.length cap) ts.length (D7 ts)
  | .error (c,p) => c≠0∧e=.returned (.tuple #[.slice none 0 0,.int .i64 p,.int .i64 c])
theorem gZ {T : TypeId} {r : Except (Int × Int) (List Tk)} {w w' : World} {c p : Int} (h : r=.error (c,p)) (hc : c≠0) (hb : Below w.heap.size w w') : a4t T r w (.returned (.tuple #[.slice none 0 0,.int .i64 p,.int .i64 c])) w':=by
 subst h; exact ⟨hb,hc,rfl⟩
theorem yE {s : ByteArray} {a b : Nat} (h1 : a + 1≤b) (hb : b≤s.size) (h : ∀ j (hj : j<s.size),a≤j→j<b→s[j]≠10) (h' : ∀ (hk : b<s.size),s[b]=10) : uL (s.data.toList.drop (a + 1))=b - (a + 1):=by
 have hl : (s.data.toList.drop (a + 1)).length=s.size - (a + 1):=by rw [List.length_drop,d7]
 obtain ⟨d,rfl⟩ : ∃ d,b=a + 1 + d:=⟨b - (a + 1),by omega⟩
 rw [Nat.add_sub_cancel_left]
 refine D8 (· != 10) _ _ (by rw [hl]; omega) (fun j hj hjk => ?_) fun hj => ?_
 ·rw [List.getElem_drop,bne_iff_ne]
  exact h (a + 1 + j) (by rw [hl] at hj; omega) (by omega) (by omega)
 ·rw [List.getElem_drop]
  have:=h' (by rw [hl] at hj; omega)
  rw [show s.data.toList[a + 1 + d]'(by rw [d7]; rw [hl] at hj; omega)=10 from this]; rfl
theorem a4u (c : UInt8) : (c.toNat≤32)↔((c.toNat : Int)≤32):=by omega
theorem a0B (s : ByteArray) (w : World) (hs : s.size≤maxLen) :
 Calls Tryz.prog 62 #[.string s] w (a4t 108 (aD s.data.toList) w):=by
 have hm:=hs
 unfold maxLen at hm
 have HL:=hid (d7 s)
 by_cases hbig : 16384<(s.size : Int)
 ·have R:=hid (show aD s.data.toList=.error (70,0) by unfold aD; rw [if_pos (by rw [HL.out]; omega)])
  go_enter Tryz.func62,Tryz.ntmps62
  go_wp2_with fail
  go_ret3
  exact gZ R (by decide) (Below.refl _ _)
 have hs2 : s.size≤16384:=by omega
 have R:=hid (show aD s.data.toList=v8 s.data.toList 0 0 0 by unfold aD; rw [if_neg (by rw [HL.out]; omega)])
 obtain ⟨i0,hi,hz0,hz1,hz2⟩:=info_parts (show (Tryz.prog.info? 108).map (fun i => (i.zero,i.size,i.bytes))=some (some (.agg #[.int .i64 0,.string ⟨#[]⟩,.int .i64 0,.int .i64 0]),4,40) by kernel_rfl)
 have HI0:=hid (show _∧_∧_∧_ from ⟨hi,hz0,hz1,hz2⟩)
 clear hi hz0 hz1 hz2
 go_enter Tryz.func62,Tryz.ntmps62
 go_wp2_with fail
 clear hbig
 go_loopw [5,6,7,8,9] (fun v i _ _ _ wr => ∃ (a : Nat) (ts : List Tk),a≤s.size∧i=.int .i64 a∧ts.length≤8192∧Hid (wr.ownsRow w.heap.size 108 4 v ts.length (D7 ts))∧(∃ ao cap,v=.slice ao ts.length cap)∧Hid (Below w.heap.size w wr)∧Hid (aD s.data.toList=ahead ts (v8 (s.data.toList.drop a) a ts.length 0))) (fun _ i _ _ _ _ => s.size - (intOf i).toNat)
 case atStart => exact ⟨0,[],by omega,rfl,by decide,World.ownsRow_nil _ _ _ _,⟨none,0,rfl⟩,Below.refl _ _,by show _=_; rw [a0w]; exact R⟩
 case round =>
  obtain ⟨a,ts,ha,rfl,htl,HOW,⟨ao,cp,rfl⟩,HBr,HSC⟩:=hrel
  by_cases hlt : a<s.size
  ·have D:=hid (J5 hlt)
   have HC:=hid HSC
   rw [D.out] at HC
   by_cases h32 : (s[a].toNat : Int)≤32
   ·have X:=hid (show aD s.data.toList=ahead ts (v8 (s.data.toList.drop (a + 1)) ((a + 1 : Nat) : Int) ts.length 0) by
     rw [HC.out,wA ((a4u _).2 h32),show (a : Int) + 1=((a + 1 : Nat) : Int) by omega])
    go_wp2_with fail
    go_roundw
    case rel => exact ⟨a + 1,ts,by omega,by go_num,htl,HOW,⟨ao,cp,rfl⟩,HBr,X⟩
    case measure => simp [intOf]; omega
   have h32':=hid (show ¬ s[a].toNat≤32 from fun h => h32 ((a4u _).1 h))
   by_cases h35 : (s[a].toNat : Int)=35
   ·have e35 : ((s[a].toNat : Int) == 35)=true:=by rw [h35]; rfl
    have e35' : s[a]=35:=UInt8.toNat_inj.1 (Int.ofNat.inj h35)
    have X:=hid (show aD s.data.toList=ahead ts (v8 (s.data.toList.drop (a + 1 + uL (s.data.toList.drop (a + 1)))) ((a + 1 + uL (s.data.toList.drop (a + 1)) : Nat) : Int) ts.length 0) by
     rw [HC.out,a1R e35',List.drop_drop,show (a : Int) + 1 + (uL (s.data.toList.drop (a + 1)) : Nat)=((a + 1 + uL (s.data.toList.drop (a + 1)) : Nat) : Int) by omega])
    have e10 : ((s[a].toNat : Int) != 10)=true:=by rw [h35]; rfl
    have E10:=hid e10
    clear h35 e35' e10
    go_wp2_with fail
    have HOW':=HOW
    have HBr':=HBr
    clear HOW HBr
    generalize wr=wo at HOW' HBr' ⊢
    go_loop [6] (fun i => ∃ b : Nat,a≤b∧b≤s.size∧i=.int .i64 b∧Hid (∀ j (hj : j<s.size),a≤j→j<b→s[j]≠10)) (fun i => s.size - (intOf i).toNat)
    case atStart => exact ⟨a,Nat.le_refl _,by omega,rfl,fun j hj h h' => by omega⟩
    case round =>
     obtain ⟨b,hab,hb,rfl,HAll⟩:=hrel
     have hgo : (∃ hlt : b<s.size,s[b]≠10)∨(∃ hlt : b<s.size,s[b]=10)∨¬ b<s.size:=by
      by_cases h : b<s.size
      ·by_cases h' : s[b]=10
       ·exact .inr (.inl ⟨h,h'⟩)
       ·exact .inl ⟨h,h'⟩
      ·exact .inr (.inr h)
     rcases hgo with ⟨hlb,hg⟩ | ⟨hlb,hg⟩ | hlb
     ·have q : ((s[b].toNat : Int) != 10)=true:=by rw [bne_iff_ne]; exact fun e => hg (UInt8.toNat_inj.1 (Int.ofNat.inj e))
      have HG:=hid hg
      clear hg
      go_wp2_with fail
      go_round
      case rel =>
       refine ⟨b + 1,by omega,by omega,by go_num,fun j hj h h' => ?_⟩
       by_cases e : j=b
       ·subst e; exact HG
       ·exact HAll.out j hj h (by omega)
      case measure => simp [intOf]; omega
     case' inr.inl =>
      have q : ((s[b].toNat : Int) != 10)=false:=by rw [hg]; rfl
      have hne : a + 1≤b:=by
       rcases Nat.lt_or_ge a b with g | g
       ·omega
       ·exfalso
        obtain rfl : a=b:=by omega
        have:=E10.out
        rw [hg] at this; exact absurd this (by decide)
      have HR:=hid (yE hne hb HAll fun _ => hg)
      clear hg
     case' inr.inr =>
      have q : True:=trivial
      have hne : a + 1≤b:=by omega
      have HR:=hid (yE hne hb HAll fun h => absurd h hlb)
     all_goals
      have X2:=hid (show aD s.data.toList=ahead ts (v8 (s.data.toList.drop b) ((b : Nat) : Int) ts.length 0) by
       have:=X.out
       rw [HR.out,show a + 1 + (b - (a + 1))=b by omega] at this
       exact this)
      clear X HR HAll
      go_wp2_with fail
      go_roundw
      case rel => exact ⟨b,ts,by omega,rfl,htl,HOW',⟨ao,cp,rfl⟩,HBr',X2⟩
      case measure => simp [intOf]; omega
   have e35 : ((s[a].toNat : Int) == 35)=false:=beq_eq_false_iff_ne.2 h35
   have e35':=hid (show s[a]≠35 from fun e => h35 (by rw [e]; rfl))
   have CT:=hid (vZ s a wr hs2 hlt)
   clear h35
   go_wp2_with fail
   (with_reducible refine Calls.mono CT.out ?_)
   rintro e w1 ⟨hb,hr⟩
   have HB1:=hid (HBr.out.trans (hb.mono HBr.out.size))
   have HO1:=hid (show w1.ownsRow w.heap.size 108 4 (.slice ao ts.length cp) ts.length (D7 ts) from HOW.out.kept (row:=none) ⟨hb.os,hb.tape,hb.output,hb.size,fun k hk _ => hb.block k hk⟩ (by cases hv : (Value.slice ao ts.length cp).ownBlock <;> simp))
   have hz1 : w.heap.size≤w1.heap.size:=HB1.out.size
   cases hx : eB s[a] (s.data.toList.drop (a + 1)) a with
   | error c =>
     rw [hx] at hr
     obtain ⟨hc,k',s',x',p',rfl⟩:=hr
     have X:=hid (show aD s.data.toList=.error (c,a) by rw [HC.out,a1W h32'.out e35'.out hx]; rfl)
     have HC0:=hid hc
     have hc' : (c != 0)=true:=by rw [bne_iff_ne]; exact hc
     have HB2:=hid (HB1.out.trans ((Below.refl w1.heap.size w1).mono hz1))
     clear hb hc hx
     go_wp2_with fail
     go_ret3
     exact gZ X HC0 (HB2.out.alloc hz1 _)
   | ok q =>
     obtain ⟨t,n⟩:=q
     rw [hx] at hr
     have hln:=yD hx
     have hln2 : n≤s.size - a:=by
      have:=hln.2
      rw [List.length_drop,HL.out] at this; omega
     replace hr : e=.returned (.tuple #[.agg #[.int .i64 t.kind,.string ⟨t.text.toArray⟩,.int .i64 t.n,.int .i64 t.pos],.int .i64 n,.int .i64 0]):=hr
     subst hr
     by_cases hk : ts.length=8192
     ·have X:=hid (show aD s.data.toList=.error (76,a) by rw [HC.out,a0E h32'.out e35'.out hx hk]; rfl)
      have ek : ((ts.length : Int) == 8192)=true:=by rw [hk]; rfl
      clear hb hx hk
      go_wp2_with fail
      go_ret3
      exact gZ X (by decide) (HB1.out.alloc hz1 _)
     ·have X:=hid (show aD s.data.toList=ahead (ts ++ [t]) (v8 (s.data.toList.drop (a + n)) ((a + n : Nat) : Int) (ts ++ [t]).length 0) by
       rw [HC.out,a27 h32'.out e35'.out hx hk,a00,← D.out,List.drop_drop,List.length_append]
       congr 2)
      have ek : ((ts.length : Int) == 8192)=false:=by rw [beq_eq_false_iff_ne]; omega
      obtain ⟨hn1,-⟩:=hln
      have htl8 : ts.length + 1≤8192:=by omega
      clear hb hx hk
      have hs1 : (w1.alloc (.cells #[.int .i64 t.kind,.string ⟨t.text.toArray⟩,.int .i64 t.n,.int .i64 t.pos] 108)).heap.size=w1.heap.size + 1:=by simp
      have HB2:=hid (HB1.out.alloc hz1 (.cells #[.int .i64 t.kind,.string ⟨t.text.toArray⟩,.int .i64 t.n,.int .i64 t.pos] 108))
      have HO2:=hid (HO1.out.alloc (.cells #[.int .i64 t.kind,.string ⟨t.text.toArray⟩,.int .i64 t.n,.int .i64 t.pos] 108))
      have hz2 : w.heap.size≤w1.heap.size + 1:=by omega
      go_wp2_with (at_builtin; refine wpList_append_lies _ rfl _ _ 100 rfl w.heap.size 108 i0 (.agg #[.int .i64 0,.string ⟨#[]⟩,.int .i64 0,.int .i64 0]) 4 40 Tryz.underlying100 HI0.out.1 HI0.out.2.1 HI0.out.2.2.1 HI0.out.2.2.2 rfl (by decide) _ _ _ rfl (HO2.out.alloc _) ⟨w1.heap.size + 1,0,none⟩ 1 1 (Y3 t) rfl rfl (hs1 ▸ mK _ _ _ _ _ _) (a2K t) (by decide) (by unfold maxLen; omega) (by omega) (by simp; omega) _ rfl ?_; intro g cap' w5 hown' hgrow' hat hltg; have Z:=hid (mU (HB2.out.alloc (by rw [hs1]; exact hz2) _) (HO2.out.alloc _) hown' hgrow' (by simp; omega)); clear hown' hgrow' hat hltg)
      go_roundw
      case rel =>
       have el : (ts ++ [t]).length=ts.length + 1:=by rw [List.length_append]; rfl
       have z:=Z.out.2
       rw [el] at z
       refine ⟨a + n,ts ++ [t],by omega,by go_num,by rw [el]; exact htl8,by rw [el]; exact z,⟨some ⟨g,0,none⟩,cap',by rw [el]⟩,Z.out.1,X⟩
      case measure => simp [intOf]; omega
  ·obtain rfl : a=s.size:=by omega
   have X:=hid (show aD s.data.toList=.ok (ts ++ [⟨0,[],0,s.size⟩]) by
    have:=HSC.out
    rw [cT (Nat.le_refl _)] at this
    exact this)
   have hz0 : w.heap.size≤wr.heap.size:=HBr.out.size
   go_wp2_with (at_builtin; refine wpList_append_lies _ rfl _ _ 100 rfl w.heap.size 108 i0 (.agg #[.int .i64 0,.string ⟨#[]⟩,.int .i64 0,.int .i64 0]) 4 40 Tryz.underlying100 HI0.out.1 HI0.out.2.1 HI0.out.2.2.1 HI0.out.2.2.2 rfl (by decide) _ _ _ rfl (HOW.out.alloc _) ⟨wr.heap.size,0,none⟩ 1 1 (Y3 ⟨0,[],0,s.size⟩) rfl rfl (mK _ _ _ _ _ _) (a2K _) (by decide) (by unfold maxLen; omega) (by omega) (by simp; omega) _ rfl ?_; intro g cap' w5 hown' hgrow' hat hltg; have Z:=hid (mU (HBr.out.alloc hz0 _) (HOW.out.alloc _) hown' hgrow' (by simp; omega)); clear hown' hgrow' hat hltg)
   go_ret3
   refine ⟨Z.out.1,?_⟩
   rw [X.out]
   exact ⟨g,cap',by rw [List.length_append]; rfl,Z.out.2⟩
end
end Go.Proofs.YtppcfebnaieciaaGreatDoor
