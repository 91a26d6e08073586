/-
  Laws that the proof rests on.
-/
import Derived.Test.YtibiccacafjjfaaGreatDoorR11
import Derived.Test.YtibiccacafjjfaaGreatDoorR05
import Derived.Test.YtibiccacafjjfaaGreatDoorR10
import Derived.Test.YtibiccacafjjfaaGreatDoorR03
import Derived.Test.YtibiccacafjjfaaGreatDoorR08
import Derived.Test.YtibiccacafjjfaaGreatDoorR02
import Derived.Deep.RegionHeld3
import Derived.Test.YtibiccacafjjfaaGreatDoorR07
import Derived.Test.YtibiccacafjjfaaGreatDoorR01
import Derived.BigQuiet
namespace Go.Proofs.YtibiccacafjjfaaGreatDoor
set_option maxRecDepth 100000
set_option maxHeartbeats 16000000
section
open Lib (hid)
open Go.RowKit
theorem a1D (c : UInt8) : lG c=((c.toNat : Int) != 34 && (c.toNat : Int) != 10):=by
 unfold lG bne
 rw [show ((c.toNat : Int) == 34)=(c == 34) from wZ c 34 (by decide),show ((c.toNat : Int) == 10)=(c == 10) from wZ c 10 (by decide)]
theorem wI {s : ByteArray} {a n : Nat} (h1 : 1≤n) (hk : a + n≤s.size) (h : ∀ j (hj : a + j<s.size),1≤j→j<n→lG s[a + j]=true) (h' : ∀ (hk : a + n<s.size),lG s[a + n]=false) : dH (s.data.toList.drop (a + 1))=n - 1:=by
 have hl : (s.data.toList.drop (a + 1)).length=s.size - (a + 1):=by rw [List.length_drop,d6]
 refine R8 lG _ _ (by rw [hl]; omega) (fun j hj hjk => ?_) fun hj => ?_
 ·rw [List.getElem_drop]
  have:=h (1 + j) (by rw [hl] at hj; omega) (by omega) (by omega)
  simp only [show a + (1 + j)=a + 1 + j by omega] at this
  exact this
 ·rw [List.getElem_drop]
  have:=h' (by rw [hl] at hj; omega)
  simp only [show a + n=a + 1 + (n - 1) by omega] at this
  exact this
theorem xD (s : ByteArray) (a : Nat) (w : World) (hs : s.size≤16384) (ha : a<s.size) :
 Calls Tryz.prog 81 #[.string s,.int .i64 a] w (a2g (Y1 (s.data.toList.drop (a + 1)) a) w):=by
 have Q:=hid (show Y1 (s.data.toList.drop (a + 1)) a=if ((s.data.toList.drop (a + 1)).drop (dH (s.data.toList.drop (a + 1)))).headD 0≠34 then .error 71
  else if p8 ((s.data.toList.drop (a + 1)).take (dH (s.data.toList.drop (a + 1))))=true then .ok (⟨7,(s.data.toList.drop (a + 1)).take (dH (s.data.toList.drop (a + 1))),0,a⟩,dH (s.data.toList.drop (a + 1)) + 2) else .error 73 from rfl)
 obtain ⟨W,hW⟩ : ∃ W,W=w.alloc (.cells #[.int .i64 0,.string ⟨#[]⟩,.int .i64 0,.int .i64 0] 67):=⟨_,rfl⟩
 have HB:=hid (show Below w.heap.size w W from hW ▸ c6 _ _)
 have Z0:=hid (show eL w.heap.size W from hW ▸ eL.make w)
 go_enter Tryz.func81,Tryz.ntmps81
 go_wp2_with fail
 rw [← hW]
 clear hW
 obtain ⟨c0,c1,c2,c3,f0,f1,f2,f3⟩:=Z0.out.cells
 go_loop [7] (fun n => ∃ k : Nat,1≤k∧a + k≤s.size∧n=.int .i64 k∧Hid (∀ j (hj : a + j<s.size),1≤j→j<k→lG s[a + j]=true)) (fun n => s.size - (intOf n).toNat)
 case atStart => exact ⟨1,by omega,by omega,rfl,fun j hj h h' => by omega⟩
 case round =>
  obtain ⟨k,hk1,hk,rfl,HAll⟩:=hrel
  by_cases hlt : a + k<s.size
  case neg =>
   have HR:=hid (wI hk1 hk HAll (fun h => absurd h hlt))
   have R:=hid (show Y1 (s.data.toList.drop (a + 1)) a=.error 71 by
    rw [Q.out,HR.out,if_pos]
    rw [List.drop_drop,aX (by omega)]; decide)
   have e1 : (((a : Int) + k) == s.size)=true:=by rw [beq_iff_eq]; omega
   clear HAll
   go_wp2_with fail
   exact bodyPost_ret (v:=.tuple #[.agg #[.int .i64 0,.string ⟨#[]⟩,.int .i64 0,.int .i64 0],.int .i64 0,.int .i64 71]) (by simp [results,Tryz.results81,go_sem,c0,c1,c2,c3]) rfl (j8 R (by decide) (j0 HB _ _ _ _))
  have e1 : (((a : Int) + k) == s.size)=false:=by rw [beq_eq_false_iff_ne]; omega
  have HQ:=hid (a1D s[a + k])
  have hcase : ((s[a + k].toNat : Int)=34)∨((s[a + k].toNat : Int)=10)∨(¬ (s[a + k].toNat : Int)=34∧¬ (s[a + k].toNat : Int)=10):=by omega
  rcases hcase with h34 | h10 | ⟨h34,h10⟩
  ·have q1 : ((s[a + k].toNat : Int) != 34)=false:=by rw [h34]; rfl
   have q2 : ((s[a + k].toNat : Int) == 10)=false:=by rw [h34]; rfl
   have HR:=hid (wI hk1 hk HAll (fun h => by rw [HQ.out,q1]; rfl))
   have T:=hid (show (s.extract (a + 1) (a + k)).data.toList=(s.data.toList.drop (a + 1)).take (k - 1) by rw [s9]; congr 1; omega)
   have hte:=aE s (a + 1) (a + k) (by omega)
   have CN:=hid (zF (s.extract (a + 1) (a + k)) W (by unfold maxLen; omega))
   rw [T.out,kX] at CN
   have H34:=hid (show ((s.data.toList.drop (a + 1)).drop (k - 1)).headD 0=34 by
    rw [List.drop_drop,show a + 1 + (k - 1)=a + k by omega,v7 hlt]; exact UInt8.toNat_inj.1 (Int.ofNat.inj h34))
   clear HAll h34 hte
   go_wp2_with fail
   (with_reducible refine Calls.mono CN.out ?_)
   rintro e w1 ⟨rfl,rfl⟩
   cases hnm : p8 ((s.data.toList.drop (a + 1)).take (k - 1))
   ·have R:=hid (show Y1 (s.data.toList.drop (a + 1)) a=.error 73 by
     rw [Q.out,HR.out,if_neg (by rw [H34.out]; decide),if_neg (by rw [hnm]; decide)])
    go_wp2_with fail
    exact bodyPost_ret (v:=.tuple #[.agg #[.int .i64 0,.string ⟨#[]⟩,.int .i64 0,.int .i64 0],.int .i64 0,.int .i64 73]) (by simp [results,Tryz.results81,go_sem,c0,c1,c2,c3]) rfl (j8 R (by decide) (j0 HB _ _ _ _))
   ·have R:=hid (show Y1 (s.data.toList.drop (a + 1)) a=.ok (⟨7,(s.data.toList.drop (a + 1)).take (k - 1),0,a⟩,k - 1 + 2) by
     rw [Q.out,HR.out,if_neg (by rw [H34.out]; decide),if_pos hnm])
    go_wp2_with fail
    exact bodyPost_ret (v:=.tuple #[.agg #[.int .i64 7,.string (s.extract (a + 1) (a + k)),.int .i64 0,.int .i64 a],.int .i64 ((k : Int) + 1),.int .i64 0]) (by simp [results,Tryz.results81,go_sem,c0,c1,c2,c3]) rfl (A6 R (j0 HB _ _ _ _) rfl T rfl rfl (by omega))
  ·have q1 : ((s[a + k].toNat : Int) != 34)=true:=by rw [h10]; rfl
   have q2 : ((s[a + k].toNat : Int) != 10)=false:=by rw [h10]; rfl
   have q3 : ((s[a + k].toNat : Int) == 10)=true:=by rw [h10]; rfl
   have HR:=hid (wI hk1 hk HAll (fun h => by rw [HQ.out,q2]; simp))
   have R:=hid (show Y1 (s.data.toList.drop (a + 1)) a=.error 71 by
    rw [Q.out,HR.out,if_pos]
    rw [List.drop_drop,show a + 1 + (k - 1)=a + k by omega,v7 hlt]
    intro e
    rw [e] at h10; exact absurd h10 (by decide))
   clear HAll h10
   go_wp2_with fail
   exact bodyPost_ret (v:=.tuple #[.agg #[.int .i64 0,.string ⟨#[]⟩,.int .i64 0,.int .i64 0],.int .i64 0,.int .i64 71]) (by simp [results,Tryz.results81,go_sem,c0,c1,c2,c3]) rfl (j8 R (by decide) (j0 HB _ _ _ _))
  ·have q1 : ((s[a + k].toNat : Int) != 34)=true:=by rw [bne_iff_ne]; exact h34
   have q2 : ((s[a + k].toNat : Int) != 10)=true:=by rw [bne_iff_ne]; exact h10
   have HK:=hid (show lG s[a + k]=true by rw [HQ.out,q1,q2]; rfl)
   clear h34 h10
   go_wp2_with fail
   go_round
   case rel =>
    refine ⟨k + 1,by omega,by omega,by go_num,fun j hj h h' => ?_⟩
    by_cases e : j=k
    ·subst e; exact HK
    ·exact HAll.out j hj h (by omega)
   case measure => simp [intOf]; omega
end
section
open Lib (hid)
open Go.RowKit
theorem a12 {s : ByteArray} {a n : Nat} (hk : a + n≤s.size) (h : ∀ j (hj : a + j<s.size),j<n→grC s[a + j]=true) (h' : ∀ (hk : a + n<s.size),grC s[a + n]=false) : vP (s.data.toList.drop a)=n:=by
 have hl : (s.data.toList.drop a).length=s.size - a:=by rw [List.length_drop,d6]
 exact R8 grC _ _ (by rw [hl]; omega) (fun j hj hjk => by rw [List.getElem_drop]; exact h j (by rw [hl] at hj; omega) hjk) fun hj => by rw [List.getElem_drop]; exact h' (by rw [hl] at hj; omega)
def iH : ByteArray:=⟨#[40,41,44,59,61,60,43,45,42,47]⟩
theorem a2D : ∀ (k : Nat) (h : k<10),(iH.extract k (k + 1)).data.toList=[iH[k]'h]:=by decide
theorem a6X {c : UInt8} (h : ∀ j (hj : j<10),(iH[j]'hj)≠c) : bS.contains c=false:=by
 rw [Bool.eq_false_iff]
 intro e
 obtain ⟨i,hi,he⟩:=List.getElem_of_mem (List.contains_iff_mem.1 e)
 exact h i hi he
theorem a4Y {c : UInt8} {k : Nat} (h : k<10) (e : (iH[k]'h)=c) : bS.contains c=true:=by
 rw [List.contains_iff_mem,← e]
 exact List.getElem_mem (l:=bS) (n:=k) h
theorem a4J (c : UInt8) (r : List UInt8) (pos : Int) : aB c r pos=if smI c.toNat=true then Y5 (c :: r) pos else if dgI c.toNat=true then aP (c :: r) pos else if (c.toNat : Int)=34 then Y1 r pos else if grI c.toNat=true then yF (c :: r) pos else iA c r pos:=by
 unfold aB
 rw [bR]
 have e : (c=34)=((c.toNat : Int)=34):=propext ((pQ (c:=c) (n:=34) (by decide)).symm)
 simp only [e]
 rfl
theorem a1V (c : UInt8) (r : List UInt8) (pos : Int) : iA c r pos=if (c.toNat : Int)=60∧((r.headD 0).toNat : Int)=61 then .ok (⟨8,[60,61],0,pos⟩,2) else if bS.contains c=true then .ok (⟨8,[c],0,pos⟩,1) else .error 71:=by
 unfold iA
 have e : (c=60)=((c.toNat : Int)=60):=propext ((pQ (c:=c) (n:=60) (by decide)).symm)
 have e' : (r.headD 0=61)=(((r.headD 0).toNat : Int)=61):=propext ((pQ (c:=r.headD 0) (n:=61) (by decide)).symm)
 simp only [e,e']
theorem a0y (s : ByteArray) (a : Nat) (w : World) (hs : s.size≤16384) (ha : a<s.size) :
 Calls Tryz.prog 44 #[.string s,.int .i64 a] w (a2g (aB s[a] (s.data.toList.drop (a + 1)) a) w):=by
 have D:=hid (D9 ha)
 have K:=hid (a4J s[a] (s.data.toList.drop (a + 1)) a)
 rw [← D.out] at K
 obtain ⟨W,hW⟩ : ∃ W,W=w.alloc (.cells #[.int .i64 0,.string ⟨#[]⟩,.int .i64 0,.int .i64 0] 67):=⟨_,rfl⟩
 have HB:=hid (show Below w.heap.size w W from hW ▸ c6 _ _)
 have Z0:=hid (show eL w.heap.size W from hW ▸ eL.make w)
 cases h1 : smI s[a].toNat
 case true =>
  have R0:=hid (show aB s[a] (s.data.toList.drop (a + 1)) a=Y5 (s.data.toList.drop a) a by rw [K.out,if_pos h1])
  have C:=hid (a0e s a W hs ha)
  go_enter Tryz.func44,Tryz.ntmps44
  go_wp2_with fail
  rw [← hW]
  clear hW
  go_wp2_with (first | (go_at_call 77; refine (f9 _ _).mono ?_; rintro e w' ⟨rfl,rfl⟩; rw [h1]))
  (with_reducible refine Calls.mono C.out ?_)
  rintro e w1 ⟨hb,hr⟩
  have HC:=hid (HB.out.trans (hb.mono HB.out.size))
  obtain ⟨c0,c1,c2,c3,f0,f1,f2,f3⟩:=(Z0.out.below hb).cells
  cases hx : Y5 (s.data.toList.drop a) a with
  | error c =>
    rw [hx] at hr R0
    obtain ⟨hc,k',s',x',p',rfl⟩:=hr
    have HC0:=hid hc
    clear hb hc hx
    go_wp2_with fail
    exact bodyPost_ret (v:=.tuple #[.agg #[.int .i64 k',.string s',.int .i64 x',.int .i64 p'],.int .i64 0,.int .i64 c]) (by simp [results,Tryz.results44,go_sem,c0,c1,c2,c3]) rfl (j8 R0 HC0 (j0 HC _ _ _ _))
  | ok q =>
    obtain ⟨t,n⟩:=q
    rw [hx] at hr R0
    replace hr : e=.returned (.tuple #[.agg #[.int .i64 t.kind,.string ⟨t.text.toArray⟩,.int .i64 t.n,.int .i64 t.pos],.int .i64 n,.int .i64 0]):=hr
    subst hr
    clear hb hx
    go_wp2_with fail
    exact bodyPost_ret (v:=.tuple #[.agg #[.int .i64 t.kind,.string ⟨t.text.toArray⟩,.int .i64 t.n,.int .i64 t.pos],.int .i64 n,.int .i64 0]) (by simp [results,Tryz.results44,go_sem,c0,c1,c2,c3]) rfl (A6 R0 (j0 HC _ _ _ _) rfl rfl rfl rfl rfl)
 have n1:=hid (show ¬ smI s[a].toNat=true by rw [h1]; decide)
 cases h2 : dgI s[a].toNat
 case true =>
  have R0:=hid (show aB s[a] (s.data.toList.drop (a + 1)) a=aP (s.data.toList.drop a) a by rw [K.out,if_neg n1.out,if_pos h2])
  have C:=hid (zX s a W hs ha (by rw [bR]; exact h2))
  go_enter Tryz.func44,Tryz.ntmps44
  go_wp2_with fail
  rw [← hW]
  clear hW
  go_wp2_with (first | (go_at_call 77; refine (f9 _ _).mono ?_; rintro e w' ⟨rfl,rfl⟩; rw [h1]) | (go_at_call 79; refine (o8 _ _).mono ?_; rintro e w' ⟨rfl,rfl⟩; rw [h2]))
  (with_reducible refine Calls.mono C.out ?_)
  rintro e w1 ⟨hb,hr⟩
  have HC:=hid (HB.out.trans (hb.mono HB.out.size))
  obtain ⟨c0,c1,c2,c3,f0,f1,f2,f3⟩:=(Z0.out.below hb).cells
  cases hx : aP (s.data.toList.drop a) a with
  | error c =>
    rw [hx] at hr R0
    obtain ⟨hc,k',s',x',p',rfl⟩:=hr
    have HC0:=hid hc
    clear hb hc hx
    go_wp2_with fail
    exact bodyPost_ret (v:=.tuple #[.agg #[.int .i64 k',.string s',.int .i64 x',.int .i64 p'],.int .i64 0,.int .i64 c]) (by simp [results,Tryz.results44,go_sem,c0,c1,c2,c3]) rfl (j8 R0 HC0 (j0 HC _ _ _ _))
  | ok q =>
    obtain ⟨t,n⟩:=q
    rw [hx] at hr R0
    replace hr : e=.returned (.tuple #[.agg #[.int .i64 t.kind,.string ⟨t.text.toArray⟩,.int .i64 t.n,.int .i64 t.pos],.int .i64 n,.int .i64 0]):=hr
    subst hr
    clear hb hx
    go_wp2_with fail
    exact bodyPost_ret (v:=.tuple #[.agg #[.int .i64 t.kind,.string ⟨t.text.toArray⟩,.int .i64 t.n,.int .i64 t.pos],.int .i64 n,.int .i64 0]) (by simp [results,Tryz.results44,go_sem,c0,c1,c2,c3]) rfl (A6 R0 (j0 HC _ _ _ _) rfl rfl rfl rfl rfl)
 have n2:=hid (show ¬ dgI s[a].toNat=true by rw [h2]; decide)
 cases h3 : ((s[a].toNat : Int) == 34)
 case true =>
  have h3':=hid (beq_iff_eq.1 h3)
  have R0:=hid (show aB s[a] (s.data.toList.drop (a + 1)) a=Y1 (s.data.toList.drop (a + 1)) a by rw [K.out,if_neg n1.out,if_neg n2.out,if_pos h3'.out])
  have C:=hid (xD s a W hs ha)
  go_enter Tryz.func44,Tryz.ntmps44
  go_wp2_with fail
  rw [← hW]
  clear hW
  go_wp2_with (first | (go_at_call 77; refine (f9 _ _).mono ?_; rintro e w' ⟨rfl,rfl⟩; rw [h1]) | (go_at_call 79; refine (o8 _ _).mono ?_; rintro e w' ⟨rfl,rfl⟩; rw [h2]))
  (with_reducible refine Calls.mono C.out ?_)
  rintro e w1 ⟨hb,hr⟩
  have HC:=hid (HB.out.trans (hb.mono HB.out.size))
  obtain ⟨c0,c1,c2,c3,f0,f1,f2,f3⟩:=(Z0.out.below hb).cells
  cases hx : Y1 (s.data.toList.drop (a + 1)) a with
  | error c =>
    rw [hx] at hr R0
    obtain ⟨hc,k',s',x',p',rfl⟩:=hr
    have HC0:=hid hc
    clear hb hc hx
    go_wp2_with fail
    exact bodyPost_ret (v:=.tuple #[.agg #[.int .i64 k',.string s',.int .i64 x',.int .i64 p'],.int .i64 0,.int .i64 c]) (by simp [results,Tryz.results44,go_sem,c0,c1,c2,c3]) rfl (j8 R0 HC0 (j0 HC _ _ _ _))
  | ok q =>
    obtain ⟨t,n⟩:=q
    rw [hx] at hr R0
    replace hr : e=.returned (.tuple #[.agg #[.int .i64 t.kind,.string ⟨t.text.toArray⟩,.int .i64 t.n,.int .i64 t.pos],.int .i64 n,.int .i64 0]):=hr
    subst hr
    clear hb hx
    go_wp2_with fail
    exact bodyPost_ret (v:=.tuple #[.agg #[.int .i64 t.kind,.string ⟨t.text.toArray⟩,.int .i64 t.n,.int .i64 t.pos],.int .i64 n,.int .i64 0]) (by simp [results,Tryz.results44,go_sem,c0,c1,c2,c3]) rfl (A6 R0 (j0 HC _ _ _ _) rfl rfl rfl rfl rfl)
 have n3:=hid (show ¬ (s[a].toNat : Int)=34 from beq_eq_false_iff_ne.1 h3)
 cases h4 : grI s[a].toNat
 case true =>
  have R0:=hid (show aB s[a] (s.data.toList.drop (a + 1)) a=if vP (s.data.toList.drop a)=3 then .ok (⟨4,(s.data.toList.drop a).take 3,0,a⟩,3) else .error 73 by rw [K.out,if_neg n1.out,if_neg n2.out,if_neg n3.out,if_pos h4]; rfl)
  have H4:=hid (show grC s[a]=true from h4)
  obtain ⟨c0,c1,c2,c3,f0,f1,f2,f3⟩:=Z0.out.cells
  go_enter Tryz.func44,Tryz.ntmps44
  go_wp2_with fail
  rw [← hW]
  clear hW
  go_wp2_with (first | (go_at_call 77; refine (f9 _ _).mono ?_; rintro e w' ⟨rfl,rfl⟩; rw [h1]) | (go_at_call 79; refine (o8 _ _).mono ?_; rintro e w' ⟨rfl,rfl⟩; rw [h2]) | (go_at_call 82; refine (l9 _ _).mono ?_; rintro e w' ⟨rfl,rfl⟩; rw [h4]))
  clear h1 h2 h3
  go_loop [8] (fun n => ∃ k : Nat,1≤k∧a + k≤s.size∧n=.int .i64 k∧Hid (∀ j (hj : a + j<s.size),j<k→grC s[a + j]=true)) (fun n => s.size - (intOf n).toNat)
  case atStart => exact ⟨1,by omega,by omega,rfl,fun j hj h => by obtain rfl : j=0:=(by omega); exact H4⟩
  case round =>
   obtain ⟨k,hk1,hk,rfl,HAll⟩:=hrel
   have hgo : (∃ hlt : a + k<s.size,grC s[a + k]=true)∨(∃ hlt : a + k<s.size,grC s[a + k]=false)∨¬ a + k<s.size:=by
    by_cases h : a + k<s.size
    ·cases h' : grC s[a + k]
     ·exact .inr (.inl ⟨h,h'⟩)
     ·exact .inl ⟨h,h'⟩
    ·exact .inr (.inr h)
   rcases hgo with ⟨hlt,hg⟩ | ⟨hlt,hg⟩ | hlt
   ·have h5 : grI s[a + k].toNat=true:=hg
    have HG:=hid hg
    clear hg h4
    go_wp2_with (first | (go_at_call 82; refine (l9 _ _).mono ?_; rintro e w' ⟨rfl,rfl⟩; rw [h5]))
    go_round
    case rel =>
     refine ⟨k + 1,by omega,by omega,by go_num,fun j hj h => ?_⟩
     by_cases e : j=k
     ·subst e; exact HG
     ·exact HAll.out j hj (by omega)
    case measure => simp [intOf]; omega
   case' inr.inl =>
    have h5 : grI s[a + k].toNat=false:=hg
    have HR:=hid (a12 hk HAll (fun _ => hg))
    clear hg
   case' inr.inr =>
    have h5 : True:=trivial
    have HR:=hid (a12 hk HAll (fun h => absurd h hlt))
   all_goals
    by_cases hk3 : (k : Int)=3
    ·have hk' : k=3:=by omega
     have e3 : ((k : Int) != 3)=false:=by rw [hk3]; rfl
     have R:=hid (R0.out.trans (if_pos (by rw [HR.out]; exact hk')))
     have T:=hid (show (s.extract a (a + k)).data.toList=(s.data.toList.drop a).take 3 by rw [s9,Nat.add_sub_cancel_left,hk'])
     have HK3:=hid hk3
     clear hk3 h4 hk'
     go_wp2_with (first | (go_at_call 82; refine (l9 _ _).mono ?_; rintro e w' ⟨rfl,rfl⟩; rw [h5]))
     exact bodyPost_ret (v:=.tuple #[.agg #[.int .i64 4,.string (s.extract a (a + k)),.int .i64 0,.int .i64 a],.int .i64 k,.int .i64 0]) (by simp [results,Tryz.results44,go_sem,c0,c1,c2,c3]) rfl (A6 R (j0 HB _ _ _ _) rfl T rfl rfl HK3)
    ·have R:=hid (R0.out.trans (if_neg (by rw [HR.out]; omega)))
     have e3 : ((k : Int) != 3)=true:=by rw [bne_iff_ne]; exact hk3
     clear hk3 h4
     go_wp2_with (first | (go_at_call 82; refine (l9 _ _).mono ?_; rintro e w' ⟨rfl,rfl⟩; rw [h5]))
     exact bodyPost_ret (v:=.tuple #[.agg #[.int .i64 0,.string ⟨#[]⟩,.int .i64 0,.int .i64 0],.int .i64 0,.int .i64 73]) (by simp [results,Tryz.results44,go_sem,c0,c1,c2,c3]) rfl (j8 R (by decide) (j0 HB _ _ _ _))
 have R0:=hid (show aB s[a] (s.data.toList.drop (a + 1)) a=iA s[a] (s.data.toList.drop (a + 1)) a by rw [K.out,if_neg n1.out,if_neg n2.out,if_neg n3.out,if_neg (by rw [h4]; decide)])
 rw [a1V] at R0
 obtain ⟨c0,c1,c2,c3,f0,f1,f2,f3⟩:=Z0.out.cells
 by_cases hle : (s[a].toNat : Int)=60∧∃ h : a + 1<s.size,(s[a + 1].toNat : Int)=61
 ·obtain ⟨h60,hlt,h61⟩:=hle
  have R:=hid (R0.out.trans (if_pos ⟨h60,by rw [v7 hlt]; exact h61⟩))
  have e60 : ((s[a].toNat : Int) == 60)=true:=by rw [h60]; rfl
  have e61 : ((s[a + 1].toNat : Int) == 61)=true:=by rw [h61]; rfl
  clear h60 h61
  go_enter Tryz.func44,Tryz.ntmps44
  go_wp2_with fail
  rw [← hW]
  clear hW
  go_wp2_with (first | (go_at_call 77; refine (f9 _ _).mono ?_; rintro e w' ⟨rfl,rfl⟩; rw [h1]) | (go_at_call 79; refine (o8 _ _).mono ?_; rintro e w' ⟨rfl,rfl⟩; rw [h2]) | (go_at_call 82; refine (l9 _ _).mono ?_; rintro e w' ⟨rfl,rfl⟩; rw [h4]))
  exact bodyPost_ret (v:=.tuple #[.agg #[.int .i64 8,.string ⟨#[60,61]⟩,.int .i64 0,.int .i64 a],.int .i64 2,.int .i64 0]) (by simp [results,Tryz.results44,go_sem,c0,c1,c2,c3]) rfl (A6 R (j0 HB _ _ _ _) rfl rfl rfl rfl rfl)
 have R1:=hid (R0.out.trans (if_neg fun h => hle ⟨h.1,by
  by_cases g : a + 1<s.size
  ·refine ⟨g,?_⟩
   have:=h.2
   rwa [v7 g] at this
  ·have:=h.2
   rw [aX (by omega)] at this
   exact absurd this (by decide)⟩))
 have hways : ((s[a].toNat : Int) == 60)=false∨(((s[a].toNat : Int) == 60)=true∧¬ a + 1<s.size)∨(((s[a].toNat : Int) == 60)=true∧∃ h : a + 1<s.size,((s[a + 1].toNat : Int) == 61)=false):=by
  cases h : ((s[a].toNat : Int) == 60)
  ·exact .inl rfl
  ·by_cases g : a + 1<s.size
   ·exact .inr (.inr ⟨rfl,g,by rw [beq_eq_false_iff_ne]; exact fun e => hle ⟨beq_iff_eq.1 h,g,e⟩⟩)
   ·exact .inr (.inl ⟨rfl,g⟩)
 clear hle
 go_enter Tryz.func44,Tryz.ntmps44
 go_wp2_with fail
 rw [← hW]
 clear hW
 rcases hways with e60 | ⟨e60,hg⟩ | ⟨e60,hg,e61⟩
 all_goals
  go_wp2_with (first | (go_at_call 77; refine (f9 _ _).mono ?_; rintro e w' ⟨rfl,rfl⟩; rw [h1]) | (go_at_call 79; refine (o8 _ _).mono ?_; rintro e w' ⟨rfl,rfl⟩; rw [h2]) | (go_at_call 82; refine (l9 _ _).mono ?_; rintro e w' ⟨rfl,rfl⟩; rw [h4]))
  clear h1 h2 h3 h4
  go_loop [10] (fun i => ∃ k : Nat,k≤10∧i=.int .i64 k∧Hid (∀ j (hj : j<10),j<k→(iH[j]'hj)≠s[a])) (fun i => 10 - (intOf i).toNat)
  case atStart => exact ⟨0,by omega,rfl,fun j hj h => by omega⟩
  case round =>
   obtain ⟨k,hk,rfl,HAll⟩:=hrel
   by_cases hlt : k<10
   ·by_cases hm : (iH[k]'hlt)=s[a]
    ·have q : (((iH[k]'hlt).toNat : Int) == s[a].toNat)=true:=by rw [hm,beq_self_eq_true]
     have R:=hid (R1.out.trans (if_pos (a4Y hlt hm)))
     have T:=hid (show (iH.extract k (k + 1)).data.toList=[s[a]] by rw [a2D k hlt,hm])
     unfold iH at q T
     clear hm
     go_wp2_with fail
     exact bodyPost_ret (v:=.tuple #[.agg #[.int .i64 8,.string ((⟨#[40,41,44,59,61,60,43,45,42,47]⟩ : ByteArray).extract k (k + 1)),.int .i64 0,.int .i64 a],.int .i64 1,.int .i64 0]) (by simp [results,Tryz.results44,go_sem,c0,c1,c2,c3]) rfl (A6 R (j0 HB _ _ _ _) rfl T rfl rfl rfl)
    ·have q : (((iH[k]'hlt).toNat : Int) == s[a].toNat)=false:=by rw [beq_eq_false_iff_ne]; exact fun e => hm (UInt8.toNat_inj.1 (Int.ofNat.inj e))
     have HM:=hid hm
     unfold iH at q
     clear hm
     go_wp2_with fail
     go_round
     case rel =>
      refine ⟨k + 1,by omega,by go_num,fun j hj h => ?_⟩
      by_cases e : j=k
      ·subst e; exact HM
      ·exact HAll.out j hj (by omega)
     case measure => simp [intOf]; omega
   ·have R:=hid (R1.out.trans (if_neg (by rw [a6X fun j hj => HAll.out j hj (by omega)]; decide)))
    go_wp2_with fail
    exact bodyPost_ret (v:=.tuple #[.agg #[.int .i64 0,.string ⟨#[]⟩,.int .i64 0,.int .i64 0],.int .i64 0,.int .i64 71]) (by simp [results,Tryz.results44,go_sem,c0,c1,c2,c3]) rfl (j8 R (by decide) (j0 HB _ _ _ _))
end
section
open Lib (hid)
open Go.RowKit
def a64 (T : TypeId) (r : Except (Int × Int) (List Tk)) (w : World) (e : Ending) (w' : World) : Prop :=
 Below w.heap.size w w'∧match r with
  | .ok ts => ∃ g cap,e=.returned (.tuple #[.slice (some ⟨g,0,none⟩) ts.length cap,.int .i64 0,.int .i64 0])∧w'.ownsRow w.heap.size T 4 (.slice (some ⟨g,0,none⟩) ts.length cap) ts.length (l8 ts)
  | .error (c,p) => c≠0∧e=.returned (.tuple #[.slice none 0 0,.int .i64 p,.int .i64 c])
theorem lQ {T : TypeId} {r : Except (Int × Int) (List Tk)} {w w' : World} {c p : Int} (h : r=.error (c,p)) (hc : c≠0) (hb : Below w.heap.size w w') : a64 T r w (.returned (.tuple #[.slice none 0 0,.int .i64 p,.int .i64 c])) w':=by
 subst h; exact ⟨hb,hc,rfl⟩
theorem a1A {s : ByteArray} {a b : Nat} (h1 : a + 1≤b) (hb : b≤s.size) (h : ∀ j (hj : j<s.size),a≤j→j<b→s[j]≠10) (h' : ∀ (hk : b<s.size),s[b]=10) : gU (s.data.toList.drop (a + 1))=b - (a + 1):=by
 have hl : (s.data.toList.drop (a + 1)).length=s.size - (a + 1):=by rw [List.length_drop,d6]
 obtain ⟨d,rfl⟩ : ∃ d,b=a + 1 + d:=⟨b - (a + 1),by omega⟩
 rw [Nat.add_sub_cancel_left]
 refine R8 (· != 10) _ _ (by rw [hl]; omega) (fun j hj hjk => ?_) fun hj => ?_
 ·rw [List.getElem_drop,bne_iff_ne]
  exact h (a + 1 + j) (by rw [hl] at hj; omega) (by omega) (by omega)
 ·rw [List.getElem_drop]
  have:=h' (by rw [hl] at hj; omega)
  rw [show s.data.toList[a + 1 + d]'(by rw [d6]; rw [hl] at hj; omega)=10 from this]; rfl
theorem a1T (c : UInt8) : (c.toNat≤32)↔((c.toNat : Int)≤32):=by omega
theorem tT (s : ByteArray) (w : World) (hs : s.size≤maxLen) :
 Calls Tryz.prog 22 #[.string s] w (a64 67 (p5 s.data.toList) w):=by
 have hm:=hs
 unfold maxLen at hm
 have HL:=hid (d6 s)
 by_cases hbig : 16384<(s.size : Int)
 ·have R:=hid (show p5 s.data.toList=.error (70,0) by unfold p5; rw [if_pos (by rw [HL.out]; omega)])
  go_enter Tryz.func22,Tryz.ntmps22
  go_wp2_with fail
  go_ret3
  exact lQ R (by decide) (Below.refl _ _)
 have hs2 : s.size≤16384:=by omega
 have R:=hid (show p5 s.data.toList=r9 s.data.toList 0 0 0 by unfold p5; rw [if_neg (by rw [HL.out]; omega)])
 obtain ⟨i0,hi,hz0,hz1,hz2⟩:=info_parts (show (Tryz.prog.info? 67).map (fun i => (i.zero,i.size,i.bytes))=some (some (.agg #[.int .i64 0,.string ⟨#[]⟩,.int .i64 0,.int .i64 0]),4,40) by kernel_rfl)
 have HI0:=hid (show _∧_∧_∧_ from ⟨hi,hz0,hz1,hz2⟩)
 clear hi hz0 hz1 hz2
 go_enter Tryz.func22,Tryz.ntmps22
 go_wp2_with fail
 clear hbig
 go_loopw [5,6,7,8,9] (fun v i _ _ _ wr => ∃ (a : Nat) (ts : List Tk),a≤s.size∧i=.int .i64 a∧ts.length≤8192∧Hid (wr.ownsRow w.heap.size 67 4 v ts.length (l8 ts))∧(∃ ao cap,v=.slice ao ts.length cap)∧Hid (Below w.heap.size w wr)∧Hid (p5 s.data.toList=ahead ts (r9 (s.data.toList.drop a) a ts.length 0))) (fun _ i _ _ _ _ => s.size - (intOf i).toNat)
 case atStart => exact ⟨0,[],by omega,rfl,by decide,World.ownsRow_nil _ _ _ _,⟨none,0,rfl⟩,Below.refl _ _,by show _=_; rw [uR]; exact R⟩
 case round =>
  obtain ⟨a,ts,ha,rfl,htl,HOW,⟨ao,cp,rfl⟩,HBr,HSC⟩:=hrel
  by_cases hlt : a<s.size
  ·have D:=hid (D9 hlt)
   have HC:=hid HSC
   rw [D.out] at HC
   by_cases h32 : (s[a].toNat : Int)≤32
   ·have X:=hid (show p5 s.data.toList=ahead ts (r9 (s.data.toList.drop (a + 1)) ((a + 1 : Nat) : Int) ts.length 0) by
     rw [HC.out,eC ((a1T _).2 h32),show (a : Int) + 1=((a + 1 : Nat) : Int) by omega])
    go_wp2_with fail
    go_roundw
    case rel => exact ⟨a + 1,ts,by omega,by go_num,htl,HOW,⟨ao,cp,rfl⟩,HBr,X⟩
    case measure => simp [intOf]; omega
   have h32':=hid (show ¬ s[a].toNat≤32 from fun h => h32 ((a1T _).1 h))
   by_cases h35 : (s[a].toNat : Int)=35
   ·have e35 : ((s[a].toNat : Int) == 35)=true:=by rw [h35]; rfl
    have e35' : s[a]=35:=UInt8.toNat_inj.1 (Int.ofNat.inj h35)
    have X:=hid (show p5 s.data.toList=ahead ts (r9 (s.data.toList.drop (a + 1 + gU (s.data.toList.drop (a + 1)))) ((a + 1 + gU (s.data.toList.drop (a + 1)) : Nat) : Int) ts.length 0) by
     rw [HC.out,lB e35',List.drop_drop,show (a : Int) + 1 + (gU (s.data.toList.drop (a + 1)) : Nat)=((a + 1 + gU (s.data.toList.drop (a + 1)) : Nat) : Int) by omega])
    have e10 : ((s[a].toNat : Int) != 10)=true:=by rw [h35]; rfl
    have E10:=hid e10
    clear h35 e35' e10
    go_wp2_with fail
    have HOW':=HOW
    have HBr':=HBr
    clear HOW HBr
    generalize wr=wo at HOW' HBr' ⊢
    go_loop [6] (fun i => ∃ b : Nat,a≤b∧b≤s.size∧i=.int .i64 b∧Hid (∀ j (hj : j<s.size),a≤j→j<b→s[j]≠10)) (fun i => s.size - (intOf i).toNat)
    case atStart => exact ⟨a,Nat.le_refl _,by omega,rfl,fun j hj h h' => by omega⟩
    case round =>
     obtain ⟨b,hab,hb,rfl,HAll⟩:=hrel
     have hgo : (∃ hlt : b<s.size,s[b]≠10)∨(∃ hlt : b<s.size,s[b]=10)∨¬ b<s.size:=by
      by_cases h : b<s.size
      ·by_cases h' : s[b]=10
       ·exact .inr (.inl ⟨h,h'⟩)
       ·exact .inl ⟨h,h'⟩
      ·exact .inr (.inr h)
     rcases hgo with ⟨hlb,hg⟩ | ⟨hlb,hg⟩ | hlb
     ·have q : ((s[b].toNat : Int) != 10)=true:=by rw [bne_iff_ne]; exact fun e => hg (UInt8.toNat_inj.1 (Int.ofNat.inj e))
      have HG:=hid hg
      clear hg
      go_wp2_with fail
      go_round
      case rel =>
       refine ⟨b + 1,by omega,by omega,by go_num,fun j hj h h' => ?_⟩
       by_cases e : j=b
       ·subst e; exact HG
       ·exact HAll.out j hj h (by omega)
      case measure => simp [intOf]; omega
     case' inr.inl =>
      have q : ((s[b].toNat : Int) != 10)=false:=by rw [hg]; rfl
      have hne : a + 1≤b:=by
       rcases Nat.lt_or_ge a b with g | g
       ·omega
       ·exfalso
        obtain rfl : a=b:=by omega
        have:=E10.out
        rw [hg] at this; exact absurd this (by decide)
      have HR:=hid (a1A hne hb HAll fun _ => hg)
      clear hg
     case' inr.inr =>
      have q : True:=trivial
      have hne : a + 1≤b:=by omega
      have HR:=hid (a1A hne hb HAll fun h => absurd h hlb)
     all_goals
      have X2:=hid (show p5 s.data.toList=ahead ts (r9 (s.data.toList.drop b) ((b : Nat) : Int) ts.length 0) by
       have:=X.out
       rw [HR.out,show a + 1 + (b - (a + 1))=b by omega] at this
       exact this)
      clear X HR HAll
      go_wp2_with fail
      go_roundw
      case rel => exact ⟨b,ts,by omega,rfl,htl,HOW',⟨ao,cp,rfl⟩,HBr',X2⟩
      case measure => simp [intOf]; omega
   have e35 : ((s[a].toNat : Int) == 35)=false:=beq_eq_false_iff_ne.2 h35
   have e35':=hid (show s[a]≠35 from fun e => h35 (by rw [e]; rfl))
   have CT:=hid (a0y s a wr hs2 hlt)
   clear h35
   go_wp2_with fail
   (with_reducible refine Calls.mono CT.out ?_)
   rintro e w1 ⟨hb,hr⟩
   have HB1:=hid (HBr.out.trans (hb.mono HBr.out.size))
   have HO1:=hid (show w1.ownsRow w.heap.size 67 4 (.slice ao ts.length cp) ts.length (l8 ts) from HOW.out.kept (row:=none) ⟨hb.os,hb.tape,hb.output,hb.size,fun k hk _ => hb.block k hk⟩ (by cases hv : (Value.slice ao ts.length cp).ownBlock <;> simp))
   have hz1 : w.heap.size≤w1.heap.size:=HB1.out.size
   cases hx : aB s[a] (s.data.toList.drop (a + 1)) a with
   | error c =>
     rw [hx] at hr
     obtain ⟨hc,k',s',x',p',rfl⟩:=hr
     have X:=hid (show p5 s.data.toList=.error (c,a) by rw [HC.out,iM h32'.out e35'.out hx]; rfl)
     have HC0:=hid hc
     have hc' : (c != 0)=true:=by rw [bne_iff_ne]; exact hc
     have HB2:=hid (HB1.out.trans ((Below.refl w1.heap.size w1).mono hz1))
     clear hb hc hx
     go_wp2_with fail
     go_ret3
     exact lQ X HC0 (HB2.out.alloc hz1 _)
   | ok q =>
     obtain ⟨t,n⟩:=q
     rw [hx] at hr
     have hln:=kH hx
     have hln2 : n≤s.size - a:=by
      have:=hln.2
      rw [List.length_drop,HL.out] at this; omega
     replace hr : e=.returned (.tuple #[.agg #[.int .i64 t.kind,.string ⟨t.text.toArray⟩,.int .i64 t.n,.int .i64 t.pos],.int .i64 n,.int .i64 0]):=hr
     subst hr
     by_cases hk : ts.length=8192
     ·have X:=hid (show p5 s.data.toList=.error (76,a) by rw [HC.out,fD h32'.out e35'.out hx hk]; rfl)
      have ek : ((ts.length : Int) == 8192)=true:=by rw [hk]; rfl
      clear hb hx hk
      go_wp2_with fail
      go_ret3
      exact lQ X (by decide) (HB1.out.alloc hz1 _)
     ·have X:=hid (show p5 s.data.toList=ahead (ts ++ [t]) (r9 (s.data.toList.drop (a + n)) ((a + n : Nat) : Int) (ts ++ [t]).length 0) by
       rw [HC.out,iJ h32'.out e35'.out hx hk,sU,← D.out,List.drop_drop,List.length_append]
       congr 2)
      have ek : ((ts.length : Int) == 8192)=false:=by rw [beq_eq_false_iff_ne]; omega
      obtain ⟨hn1,-⟩:=hln
      have htl8 : ts.length + 1≤8192:=by omega
      clear hb hx hk
      have hs1 : (w1.alloc (.cells #[.int .i64 t.kind,.string ⟨t.text.toArray⟩,.int .i64 t.n,.int .i64 t.pos] 67)).heap.size=w1.heap.size + 1:=by simp
      have HB2:=hid (HB1.out.alloc hz1 (.cells #[.int .i64 t.kind,.string ⟨t.text.toArray⟩,.int .i64 t.n,.int .i64 t.pos] 67))
      have HO2:=hid (HO1.out.alloc (.cells #[.int .i64 t.kind,.string ⟨t.text.toArray⟩,.int .i64 t.n,.int .i64 t.pos] 67))
      have hz2 : w.heap.size≤w1.heap.size + 1:=by omega
      go_wp2_with (at_builtin; refine wpList_append_lies _ rfl _ _ 44 rfl w.heap.size 67 i0 (.agg #[.int .i64 0,.string ⟨#[]⟩,.int .i64 0,.int .i64 0]) 4 40 Tryz.underlying44 HI0.out.1 HI0.out.2.1 HI0.out.2.2.1 HI0.out.2.2.2 rfl (by decide) _ _ _ rfl (HO2.out.alloc _) ⟨w1.heap.size + 1,0,none⟩ 1 1 (n9 t) rfl rfl (hs1 ▸ x7 _ _ _ _ _ _) (bU t) (by decide) (by unfold maxLen; omega) (by omega) (by simp; omega) _ rfl ?_; intro g cap' w5 hown' hgrow' hat hltg; have Z:=hid (qE (HB2.out.alloc (by rw [hs1]; exact hz2) _) (HO2.out.alloc _) hown' hgrow' (by simp; omega)); clear hown' hgrow' hat hltg)
      go_roundw
      case rel =>
       have el : (ts ++ [t]).length=ts.length + 1:=by rw [List.length_append]; rfl
       have z:=Z.out.2
       rw [el] at z
       refine ⟨a + n,ts ++ [t],by omega,by go_num,by rw [el]; exact htl8,by rw [el]; exact z,⟨some ⟨g,0,none⟩,cap',by rw [el]⟩,Z.out.1,X⟩
      case measure => simp [intOf]; omega
  ·obtain rfl : a=s.size:=by omega
   have X:=hid (show p5 s.data.toList=.ok (ts ++ [⟨0,[],0,s.size⟩]) by
    have:=HSC.out
    rw [cZ (Nat.le_refl _)] at this
    exact this)
   have hz0 : w.heap.size≤wr.heap.size:=HBr.out.size
   go_wp2_with (at_builtin; refine wpList_append_lies _ rfl _ _ 44 rfl w.heap.size 67 i0 (.agg #[.int .i64 0,.string ⟨#[]⟩,.int .i64 0,.int .i64 0]) 4 40 Tryz.underlying44 HI0.out.1 HI0.out.2.1 HI0.out.2.2.1 HI0.out.2.2.2 rfl (by decide) _ _ _ rfl (HOW.out.alloc _) ⟨wr.heap.size,0,none⟩ 1 1 (n9 ⟨0,[],0,s.size⟩) rfl rfl (x7 _ _ _ _ _ _) (bU _) (by decide) (by unfold maxLen; omega) (by omega) (by simp; omega) _ rfl ?_; intro g cap' w5 hown' hgrow' hat hltg; have Z:=hid (qE (HBr.out.alloc hz0 _) (HOW.out.alloc _) hown' hgrow' (by simp; omega)); clear hown' hgrow' hat hltg)
   go_ret3
   refine ⟨Z.out.1,?_⟩
   rw [X.out]
   exact ⟨g,cap',by rw [List.length_append]; rfl,Z.out.2⟩
end
section
open Lib (hid)
open Go.RowKit
def qS (l : List UInt8) : Bool:=match p5 l with
 | .ok _ => true
 | .error _ => false
theorem a5M (s : ByteArray) (w : World) (hs : s.size≤maxLen) : Calls Tryz.prog 9 #[.string s] w fun e w' => e=.returned (.bool (qS s.data.toList))∧Below w.heap.size w w':=by
 have C2:=hid (tT s w hs)
 go_enter Tryz.func9,Tryz.ntmps9
 go_wp2_with fail
 (with_reducible refine Calls.mono C2.out ?_)
 intro e w4 hsp
 obtain ⟨hb,hsp⟩:=hsp
 have HB:=hid hb
 clear hb C2
 cases h1 : p5 s.data.toList with
 | error q =>
   obtain ⟨c,p⟩:=q
   have R:=hid (show qS s.data.toList=false by unfold qS; rw [h1])
   rw [h1] at hsp
   obtain ⟨hc,rfl⟩:=hsp
   have hk : (c == 0)=false:=beq_eq_false_iff_ne.2 hc
   clear hc h1
   by_cases hb : s.size≤16384
   ·go_wp2
    go_ret
    exact ⟨by rw [R.out]; rfl,HB⟩
   ·go_wp2
    go_ret
    exact ⟨by rw [R.out]; rfl,HB⟩
 | ok ts =>
   have R:=hid (show qS s.data.toList=true by unfold qS; rw [h1])
   rw [h1] at hsp
   obtain ⟨g,gc,rfl,how⟩:=hsp
   have hsl:=(oZ h1).2.2
   rw [show s.data.toList.length=s.size by rw [Array.length_toList]; rfl] at hsl
   clear how h1
   go_wp2
   go_ret
   exact ⟨by rw [R.out]; rfl,HB⟩
end
section
open Lib (hid)
open Go.RowKit Go.Shelf
def nB (l : List UInt8) : Value:=.iface 91 (.string ⟨l.toArray⟩)
def t6 (t : Nd) : Value:=if y8 t=true then nB (d9 t) else .nilIface
theorem a04 (t : Nd) : t.kids.isEmpty=decide ((t.kids.length : Int)≤0):=by
 cases t.kids with
 | nil => rfl
 | cons a l => simp
theorem a4D (x : Value) (w : World) : (Instr.makeInterface 91 x).run Tryz.prog w=.ok (.iface 91 x) w:=run_makeInterface w 91 x (by kernel_rfl)
theorem cB {a b : Value} (h : a=b) : Ending.returned a=.returned b:=by rw [h]
theorem a3c (t : Nd) (a : Option Addr) (cap : Nat) (w : World) (hs : t.text.size≤140737488355328) (hk : t.kids.length≤cap∧cap≤maxLen) (he : Env w) (ht : Tab w) :
 Calls Tryz.prog 75 #[.agg #[.int .i64 t.kind,.string t.text,.int .i64 t.n,.slice a t.kids.length cap,.int .i64 t.place]] w fun e w' => e=.returned (t6 t)∧Below w.heap.size w w':=by
 have mk:=a4D
 have mixed : Tryz.prog.follows .mixedOrders=true:=by kernel_rfl
 have hm : t.kids.length≤9223372036854775807:=Nat.le_trans hk.1 hk.2
 have HB:=hid (c6 w (.cells #[.int .i64 t.kind,.string t.text,.int .i64 t.n,.slice a t.kids.length cap,.int .i64 t.place] 24))
 have B0:=hid (Boxed.make w t a cap)
 have HE:=hid (he.below HB)
 have HT:=hid (ht.below HB)
 clear he ht
 go_enter Tryz.func75,Tryz.ntmps75
 go_wp2_with fail
 generalize (w.alloc (.cells #[.int .i64 t.kind,.string t.text,.int .i64 t.n,.slice a t.kids.length cap,.int .i64 t.place] 24))=W1 at HB B0 HE HT ⊢
 have c1:=B0.out.c1
 go_region
 have HE1 : Hid (Env W1.drew):=HE.out
 have HT1 : Hid (Tab W1.drew):=HT.out
 have B1 : Hid (Boxed w.heap.size t a cap W1.drew):=⟨B0.out.lt,B0.out.c0,B0.out.c1,B0.out.c2,B0.out.c3,B0.out.c4⟩
 have HB1 : Hid (Below w.heap.size w W1.drew):=⟨HB.out.os,HB.out.tape,HB.out.output,HB.out.size,HB.out.block⟩
 clear c1 HE HT B0 HB
 generalize W1.drew=W2 at HE1 HT1 B1 HB1 ⊢
 have P:=hid (show t6 t=if y8 t=true then nB (d9 t) else .nilIface from rfl)
 have PB:=hid (show y8 t=(decide (5≤t.kind∧t.kind≤10) && (L7 t.kind t.text.data.toList && Y7 t.kind t.n) && t.kids.isEmpty) from rfl)
 have KE:=hid (a04 t)
 have FE:=hid (wO t)
 have hk7 : t.kind=5∨t.kind=6∨t.kind=8∨t.kind=7∨t.kind=10∨t.kind=9∨¬ (5≤t.kind∧t.kind≤10):=by omega
 rcases hk7 with hk | hk | hk | hk | hk | hk | hk
 ·have c0:=B1.out.kind hk
  have F:=hid (show d9 t=aS t.n by rw [FE.out,hk]; rfl)
  have G:=hid (show y8 t=(t.text.toList.isEmpty && (decide (0≤t.n) && decide (t.n≤1000000000000000)) && decide ((t.kids.length : Int)≤0)) by rw [PB.out,KE.out,hk,Lib.toList_data]; rfl)
  clear hk
  have HS:=hid (show ∀ cur,Below W2.heap.size W2 cur→Below W2.heap.size W2 cur∧cur.cell? ⟨w.heap.size,1,none⟩=some (.string t.text)∧cur.cell? ⟨w.heap.size,2,none⟩=some (.int .i64 t.n)∧cur.cell? ⟨w.heap.size,3,none⟩=some (.slice a t.kids.length cap) from fun cur hc =>
   ⟨hc,(hc.cell (p:=⟨w.heap.size,1,none⟩) B1.out.lt).trans B1.out.c1,(hc.cell (p:=⟨w.heap.size,2,none⟩) B1.out.lt).trans B1.out.c2,(hc.cell (p:=⟨w.heap.size,3,none⟩) B1.out.lt).trans B1.out.c3⟩)
  have C1:=hid (show ∀ cur,Below W2.heap.size W2 cur→Calls Tryz.prog 108 #[.int .i64 t.n] cur fun e W' => e=.returned (.string ⟨(aS t.n).toArray⟩)∧Below W2.heap.size W2 W' from fun cur hc =>
   (a2w t.n cur).mono (by rintro e W' ⟨rfl,hb⟩; exact ⟨rfl,hc.trans (hb.mono hc.size)⟩))
  have hb : Below W2.heap.size W2 W2:=Below.refl _ _
  generalize t.n=n at HS C1 F G ⊢
  generalize t.text=s at HS G ⊢
  have c1:=(HS.out _ hb).2.1
  by_cases g1 : 0≤n
  case' pos => by_cases g2 : n≤1000000000000000
  case' pos => by_cases g3 : s.toList=[]
  case pos =>
   have g4 : s.toList.isEmpty=true:=by rw [g3]; rfl
   have R : Hid (y8 t=decide ((t.kids.length : Int)≤0)):=by
    show _=_
    rw [G.out,g4,decide_eq_true g1,decide_eq_true g2]; rfl
   go_wp2_with fail
   clear c0 c1
   first | (go_region_held3 (fun cur => Below W2.heap.size W2 cur∧cur.cell? ⟨w.heap.size,1,none⟩=some (.string s)∧cur.cell? ⟨w.heap.size,2,none⟩=some (.int .i64 n)∧cur.cell? ⟨w.heap.size,3,none⟩=some (.slice a t.kids.length cap))
    (first | exact HS.out _ hb | exact HS.out _ hb.drew)
    (first | (go_at_call 108; refine (C1.out _ ?_).mono ?_; (go_split_ands; assumption); rintro e w' ⟨rfl,hb⟩))) | fail
   all_goals
    have c3:=(HS.out _ hb).2.2.2
    by_cases gk : (0 : Int)<t.kids.length
    ·have V:=hid (show t6 t=.nilIface by rw [P.out,if_neg (by rw [R.out,decide_eq_false (by omega)]; decide)])
     go_wp2_with fail
     go_ret
     exact ⟨cB V.out.symm,HB1.out.trans (hb.mono HB1.out.size)⟩
    ·have V:=hid (show t6 t=nB (aS n) by rw [P.out,if_pos (by rw [R.out,decide_eq_true (by omega)]),F.out])
     go_wp2_with fail
     go_ret
     exact ⟨cB V.out.symm,HB1.out.trans (hb.mono HB1.out.size)⟩
  all_goals
   (try (have g4 : s.toList.isEmpty=false:=by simpa using g3))
   (try (have g5 : n<0:=by omega))
   have R : Hid (y8 t=false):=by
    show _=_
    rw [G.out,Bool.eq_false_iff]
    intro hh
    simp only [Bool.and_eq_true,decide_eq_true_eq] at hh
    first | omega | (rw [g4] at hh; exact absurd hh.1.1 (by decide))
   have V:=hid (show t6 t=.nilIface by rw [P.out,if_neg (by rw [R.out]; decide)])
   clear R
   go_wp2_with fail
   clear c0 c1
   (try (have g7 : decide (0≤n)=false:=decide_eq_false (by omega)))
   (try (have g8 : decide (0≤n)=true:=decide_eq_true (by omega)))
   (try (have g6 : decide (n≤1000000000000000)=false:=decide_eq_false (by omega)))
   first
    | (refine wp_region_held_drew (S:=(fun cur => Below W2.heap.size W2 cur∧cur.cell? ⟨w.heap.size,1,none⟩=some (.string s)∧cur.cell? ⟨w.heap.size,2,none⟩=some (.int .i64 n)∧cur.cell? ⟨w.heap.size,3,none⟩=some (.slice a t.kids.length cap))) (by kernel_rfl) ?_ (fun hHeld => ?_)
       ·(first | exact HS.out _ hb | exact HS.out _ hb.drew)
       refine X9 0 ?_; refine X9 1 ?_; refine X9 2 ?_; refine X9 3 ?_; refine kU 4 ?_; refine kU 5 ?_; refine kU 6 ?_; refine X9 7 ?_; refine X9 8 ?_; refine kU 9 ?_; refine kU 10 ?_; refine kU 11 ?_; refine X9 12 ?_; refine X9 13 ?_; refine X9 14 ?_
       refine wpAnyH_ready (rs:=[15]) (by kernel_rfl) (by simp) ?_
       refine AllReadyH.cons (l5 rfl) (fun K hK => ?_) AllReadyH.nil
       go_simp
       (go_at_call 108; refine (C1.out _ ?_).mono ?_; (go_split_ands; assumption); rintro e w' ⟨rfl,hb⟩)
       go_wp2_with fail
       refine hK.out _ _ ?_ (fun hHeld => ?_)
       ·(first | exact HS.out _ hb | exact HS.out _ hb.drew)
       clear hK K
       try simp only [Act.put,List.setIfInBounds_toArray,List.set_cons_zero,List.set_cons_succ]
       refine X9 16 ?_; refine X9 17 ?_
       refine wpAnyH_done (by kernel_rfl) ?_ _)
    | (refine wp_region_held_drew (S:=(fun cur => Below W2.heap.size W2 cur∧cur.cell? ⟨w.heap.size,1,none⟩=some (.string s)∧cur.cell? ⟨w.heap.size,2,none⟩=some (.int .i64 n)∧cur.cell? ⟨w.heap.size,3,none⟩=some (.slice a t.kids.length cap))) (by kernel_rfl) ?_ (fun hHeld => ?_)
       ·(first | exact HS.out _ hb | exact HS.out _ hb.drew)
       refine X9 0 ?_; refine X9 1 ?_; refine X9 2 ?_; refine X9 3 ?_; refine X9 4 ?_; refine X9 5 ?_; refine X9 6 ?_; refine X9 7 ?_; refine X9 8 ?_; refine kU 9 ?_; refine kU 10 ?_; refine kU 11 ?_; refine X9 12 ?_; refine X9 13 ?_; refine X9 14 ?_
       refine wpAnyH_ready (rs:=[15]) (by kernel_rfl) (by simp) ?_
       refine AllReadyH.cons (l5 rfl) (fun K hK => ?_) AllReadyH.nil
       go_simp
       (go_at_call 108; refine (C1.out _ ?_).mono ?_; (go_split_ands; assumption); rintro e w' ⟨rfl,hb⟩)
       go_wp2_with fail
       refine hK.out _ _ ?_ (fun hHeld => ?_)
       ·(first | exact HS.out _ hb | exact HS.out _ hb.drew)
       clear hK K
       try simp only [Act.put,List.setIfInBounds_toArray,List.set_cons_zero,List.set_cons_succ]
       refine X9 16 ?_; refine X9 17 ?_
       refine wpAnyH_done (by kernel_rfl) ?_ _)
    | (go_region_held3 (fun cur => Below W2.heap.size W2 cur∧cur.cell? ⟨w.heap.size,1,none⟩=some (.string s)∧cur.cell? ⟨w.heap.size,2,none⟩=some (.int .i64 n)∧cur.cell? ⟨w.heap.size,3,none⟩=some (.slice a t.kids.length cap))
        (first | exact HS.out _ hb | exact HS.out _ hb.drew)
        (first | (go_at_call 108; refine (C1.out _ ?_).mono ?_; (go_split_ands; assumption); rintro e w' ⟨rfl,hb⟩)))
   all_goals
    have c3:=(HS.out _ hb).2.2.2
    go_wp2_with fail
    go_ret
    exact ⟨cB V.out.symm,HB1.out.trans (hb.mono HB1.out.size)⟩
 ·have c0:=B1.out.kind hk
  have F:=hid (show d9 t=dC t.n by rw [FE.out,hk]; rfl)
  have G:=hid (show y8 t=(t.text.toList.isEmpty && (decide (0≤t.n) && decide (t.n≤73048)) && decide ((t.kids.length : Int)≤0)) by rw [PB.out,KE.out,hk,Lib.toList_data]; rfl)
  clear hk
  have c1:=B1.out.c1
  have c2:=B1.out.c2
  have c3:=B1.out.c3
  by_cases g1 : 0≤t.n∧t.n≤73048
  ·obtain ⟨g1,g2⟩:=g1
   obtain ⟨y,m,d,ho,hnum,hte⟩:=rT g1 g2
   have HO:=hid ho
   have HN:=hid hnum
   have HX:=hid hte
   clear ho hnum hte
   go_wp2_with fail
   refine Calls.mono (a6D y m d t.n _ HT1 HO HN) ?_
   rintro e w3 ⟨rfl,hb⟩
   have HC:=hid (HB1.out.trans (hb.mono HB1.out.size))
   have B3:=B1.out.below hb
   clear hb c0 c1 c2 c3
   have c1:=B3.c1
   have c3:=B3.c3
   clear B3
   by_cases g3 : t.text.toList=[]
   ·have g4 : t.text.toList.isEmpty=true:=by rw [g3]; rfl
    have R : Hid (y8 t=decide ((t.kids.length : Int)≤0)):=by
     show _=_
     rw [G.out,g4,decide_eq_true g1,decide_eq_true g2]; rfl
    by_cases gk : (0 : Int)<t.kids.length
    ·have V:=hid (show t6 t=.nilIface by rw [P.out,if_neg (by rw [R.out,decide_eq_false (by omega)]; decide)])
     go_wp2_with fail
     go_ret
     exact ⟨cB V.out.symm,HC⟩
    ·have V:=hid (show t6 t=nB (Cal.text y m d) by rw [P.out,if_pos (by rw [R.out,decide_eq_true (by omega)]),F.out,HX.out])
     go_wp2_with fail
     go_ret
     exact ⟨cB V.out.symm,HC⟩
   ·have g4 : t.text.toList.isEmpty=false:=by simpa using g3
    have V:=hid (show t6 t=.nilIface by rw [P.out,if_neg (by rw [G.out,g4]; simp)])
    go_wp2_with fail
    go_ret
    exact ⟨cB V.out.symm,HC⟩
  ·have V:=hid (show t6 t=.nilIface by
    rw [P.out,if_neg]
    rw [G.out]
    simp only [Bool.and_eq_true,decide_eq_true_eq]
    exact fun h => g1 h.1.2)
   by_cases g2 : 0≤t.n
   ·have g3 : 73048<t.n:=by omega
    clear g1
    go_wp2_with fail
    go_ret
    exact ⟨cB V.out.symm,HB1⟩
   ·have g3 : t.n<0:=by omega
    clear g1
    go_wp2_with fail
    go_ret
    exact ⟨cB V.out.symm,HB1⟩
 ·have c0:=B1.out.kind hk
  have F:=hid (show d9 t=if t.n=1 then [116,114,117,101] else [102,97,108,115,101] by rw [FE.out,hk]; rfl)
  have G:=hid (show y8 t=(t.text.toList.isEmpty && (decide (t.n=0) || decide (t.n=1)) && decide ((t.kids.length : Int)≤0)) by rw [PB.out,KE.out,hk,Lib.toList_data]; rfl)
  clear hk
  have c1:=B1.out.c1
  have c3:=B1.out.c3
  have hn3 : t.n=0∨t.n=1∨(t.n≠0∧t.n≠1):=by omega
  rcases hn3 with hn | hn | hn
  ·have c2 : W2.cell? ⟨w.heap.size,2,none⟩=some (.int .i64 0):=hn ▸ B1.out.c2
   by_cases g3 : t.text.toList=[]
   ·have g4 : t.text.toList.isEmpty=true:=by rw [g3]; rfl
    have R : Hid (y8 t=decide ((t.kids.length : Int)≤0)):=by
     show _=_
     rw [G.out,g4,hn]; rfl
    by_cases gk : (0 : Int)<t.kids.length
    ·have V:=hid (show t6 t=.nilIface by rw [P.out,if_neg (by rw [R.out,decide_eq_false (by omega)]; decide)])
     clear hn
     go_wp2_with fail
     go_ret
     exact ⟨cB V.out.symm,HB1⟩
    ·have V:=hid (show t6 t=nB [102,97,108,115,101] by rw [P.out,if_pos (by rw [R.out,decide_eq_true (by omega)]),F.out,hn]; rfl)
     clear hn
     go_wp2_with fail
     go_ret
     exact ⟨cB V.out.symm,HB1⟩
   ·have g4 : t.text.toList.isEmpty=false:=by simpa using g3
    have V:=hid (show t6 t=.nilIface by rw [P.out,if_neg (by rw [G.out,g4]; simp)])
    clear hn
    go_wp2_with fail
    go_ret
    exact ⟨cB V.out.symm,HB1⟩
  ·have c2 : W2.cell? ⟨w.heap.size,2,none⟩=some (.int .i64 1):=hn ▸ B1.out.c2
   by_cases g3 : t.text.toList=[]
   ·have g4 : t.text.toList.isEmpty=true:=by rw [g3]; rfl
    have R : Hid (y8 t=decide ((t.kids.length : Int)≤0)):=by
     show _=_
     rw [G.out,g4,hn]; rfl
    by_cases gk : (0 : Int)<t.kids.length
    ·have V:=hid (show t6 t=.nilIface by rw [P.out,if_neg (by rw [R.out,decide_eq_false (by omega)]; decide)])
     clear hn
     go_wp2_with fail
     go_ret
     exact ⟨cB V.out.symm,HB1⟩
    ·have V:=hid (show t6 t=nB [116,114,117,101] by rw [P.out,if_pos (by rw [R.out,decide_eq_true (by omega)]),F.out,hn]; rfl)
     clear hn
     go_wp2_with fail
     go_ret
     exact ⟨cB V.out.symm,HB1⟩
   ·have g4 : t.text.toList.isEmpty=false:=by simpa using g3
    have V:=hid (show t6 t=.nilIface by rw [P.out,if_neg (by rw [G.out,g4]; simp)])
    clear hn
    go_wp2_with fail
    go_ret
    exact ⟨cB V.out.symm,HB1⟩
  ·have c2:=B1.out.c2
   have V:=hid (show t6 t=.nilIface by rw [P.out,if_neg (by rw [G.out,decide_eq_false hn.1,decide_eq_false hn.2]; simp)])
   obtain ⟨h0,h1⟩:=hn
   have e0 : (t.n == 0)=false:=by simpa using h0
   have e1 : (t.n == 1)=false:=by simpa using h1
   clear h0 h1
   go_wp2_with fail
   go_ret
   exact ⟨cB V.out.symm,HB1⟩
 ·have c0:=B1.out.kind hk
  have F:=hid (show y8 t=true→d9 t=t.text.data.toList from fun h => by
   rw [FE.out,hk,List.isEmpty_iff.1 (show t.kids.isEmpty=true by rw [PB.out] at h; simp only [Bool.and_eq_true] at h; exact h.2),s6]; rfl)
  have G:=hid (show y8 t=(kG t.text.data.toList && decide (t.n=0) && decide ((t.kids.length : Int)≤0)) by rw [PB.out,KE.out,hk]; rfl)
  clear hk
  have c1:=B1.out.c1
  go_wp2_with fail
  refine Calls.mono (a0v t.text _ (Nat.le_trans hs (by decide))) ?_
  rintro e w3 ⟨rfl,hb⟩
  have HC:=hid (HB1.out.trans (hb.mono HB1.out.size))
  have B3:=B1.out.below hb
  clear hb c0 c1
  have c2:=B3.c2
  have c3:=B3.c3
  clear B3
  cases hq : kG t.text.data.toList
  ·have V:=hid (show t6 t=.nilIface by rw [P.out,if_neg (by rw [G.out,hq]; simp)])
   go_wp2_with fail
   go_ret
   exact ⟨cB V.out.symm,HC⟩
  ·by_cases h0 : t.n=0
   ·have c2' : w3.cell? ⟨w.heap.size,2,none⟩=some (.int .i64 0):=h0 ▸ c2
    have R : Hid (y8 t=decide ((t.kids.length : Int)≤0)):=by
     show _=_
     rw [G.out,hq,h0]; rfl
    clear c2
    by_cases gk : (0 : Int)<t.kids.length
    ·have V:=hid (show t6 t=.nilIface by rw [P.out,if_neg (by rw [R.out,decide_eq_false (by omega)]; decide)])
     clear h0
     go_wp2_with fail
     go_ret
     exact ⟨cB V.out.symm,HC⟩
    ·have V:=hid (show t6 t=.iface 91 (.string t.text) by
      have hp : y8 t=true:=by rw [R.out,decide_eq_true (by omega)]
      rw [P.out,if_pos hp,F.out hp]
      exact congrArg (fun x => Value.iface 91 (.string x)) (jX rfl))
     clear h0
     go_wp2_with fail
     go_ret
     exact ⟨cB V.out.symm,HC⟩
   ·have V:=hid (show t6 t=.nilIface by rw [P.out,if_neg (by rw [G.out,decide_eq_false h0]; simp)])
    have e0 : (t.n == 0)=false:=by simpa using h0
    clear h0
    go_wp2_with fail
    go_ret
    exact ⟨cB V.out.symm,HC⟩
 ·have c0:=B1.out.kind hk
  have F:=hid (show y8 t=true→d9 t=t.text.data.toList from fun h => by
   rw [FE.out,hk,List.isEmpty_iff.1 (show t.kids.isEmpty=true by rw [PB.out] at h; simp only [Bool.and_eq_true] at h; exact h.2),s6]; rfl)
  have G:=hid (show y8 t=(eH t.text.data.toList && decide (t.n=0) && decide ((t.kids.length : Int)≤0)) by rw [PB.out,KE.out,hk]; rfl)
  clear hk
  have c1:=B1.out.c1
  go_wp2_with fail
  refine Calls.mono (rG t.text _ (Nat.le_trans hs (by decide)) HE1) ?_
  rintro e w3 ⟨rfl,hb⟩
  have HC:=hid (HB1.out.trans (hb.mono HB1.out.size))
  have B3:=B1.out.below hb
  clear hb c0 c1
  have c2:=B3.c2
  have c3:=B3.c3
  clear B3
  cases hq : eH t.text.data.toList
  ·have V:=hid (show t6 t=.nilIface by rw [P.out,if_neg (by rw [G.out,hq]; simp)])
   go_wp2_with fail
   go_ret
   exact ⟨cB V.out.symm,HC⟩
  ·by_cases h0 : t.n=0
   ·have c2' : w3.cell? ⟨w.heap.size,2,none⟩=some (.int .i64 0):=h0 ▸ c2
    have R : Hid (y8 t=decide ((t.kids.length : Int)≤0)):=by
     show _=_
     rw [G.out,hq,h0]; rfl
    clear c2
    by_cases gk : (0 : Int)<t.kids.length
    ·have V:=hid (show t6 t=.nilIface by rw [P.out,if_neg (by rw [R.out,decide_eq_false (by omega)]; decide)])
     clear h0
     go_wp2_with fail
     go_ret
     exact ⟨cB V.out.symm,HC⟩
    ·have V:=hid (show t6 t=.iface 91 (.string t.text) by
      have hp : y8 t=true:=by rw [R.out,decide_eq_true (by omega)]
      rw [P.out,if_pos hp,F.out hp]
      exact congrArg (fun x => Value.iface 91 (.string x)) (jX rfl))
     clear h0
     go_wp2_with fail
     go_ret
     exact ⟨cB V.out.symm,HC⟩
   ·have V:=hid (show t6 t=.nilIface by rw [P.out,if_neg (by rw [G.out,decide_eq_false h0]; simp)])
    have e0 : (t.n == 0)=false:=by simpa using h0
    clear h0
    go_wp2_with fail
    go_ret
    exact ⟨cB V.out.symm,HC⟩
 ·have c0:=B1.out.kind hk
  have F:=hid (show d9 t=[102,101,101,100,32,34] ++ t.text.data.toList ++ [34] by rw [FE.out,hk]; rfl)
  have G:=hid (show y8 t=(p8 t.text.data.toList && decide (t.n=0) && decide ((t.kids.length : Int)≤0)) by rw [PB.out,KE.out,hk]; rfl)
  clear hk
  have c1:=B1.out.c1
  go_wp2_with fail
  refine Calls.mono (eO t.text _ (Nat.le_trans hs (by decide))) ?_
  rintro e w3 ⟨rfl,hb⟩
  have HC:=hid (HB1.out.trans (hb.mono HB1.out.size))
  have B3:=B1.out.below hb
  clear hb c0 c1
  have c2:=B3.c2
  have c3:=B3.c3
  clear B3
  cases hq : p8 t.text.data.toList
  ·have V:=hid (show t6 t=.nilIface by rw [P.out,if_neg (by rw [G.out,hq]; simp)])
   go_wp2_with fail
   go_ret
   exact ⟨cB V.out.symm,HC⟩
  ·by_cases h0 : t.n=0
   ·have c2' : w3.cell? ⟨w.heap.size,2,none⟩=some (.int .i64 0):=h0 ▸ c2
    have R : Hid (y8 t=decide ((t.kids.length : Int)≤0)):=by
     show _=_
     rw [G.out,hq,h0]; rfl
    clear c2
    by_cases gk : (0 : Int)<t.kids.length
    ·have V:=hid (show t6 t=.nilIface by rw [P.out,if_neg (by rw [R.out,decide_eq_false (by omega)]; decide)])
     clear h0
     go_wp2_with fail
     go_ret
     exact ⟨cB V.out.symm,HC⟩
    ·have V:=hid (show t6 t=.iface 91 (.string (⟨#[102,101,101,100,32,34]⟩ ++ t.text ++ ⟨#[34]⟩)) by
      have hp : y8 t=true:=by rw [R.out,decide_eq_true (by omega)]
      rw [P.out,if_pos hp,F.out]
      exact congrArg (fun x => Value.iface 91 (.string x)) (jX (by simp)))
     clear h0
     go_wp2_with fail
     go_ret
     exact ⟨cB V.out.symm,HC⟩
   ·have V:=hid (show t6 t=.nilIface by rw [P.out,if_neg (by rw [G.out,decide_eq_false h0]; simp)])
    have e0 : (t.n == 0)=false:=by simpa using h0
    clear h0
    go_wp2_with fail
    go_ret
    exact ⟨cB V.out.symm,HC⟩
 ·have c0:=B1.out.c0
  have V:=hid (show t6 t=.nilIface by rw [P.out,if_neg (by rw [PB.out,decide_eq_false hk]; simp)])
  have k5 : t.kind≠5:=by omega
  have k6 : t.kind≠6:=by omega
  have k7 : t.kind≠7:=by omega
  have k8 : t.kind≠8:=by omega
  have k9 : t.kind≠9:=by omega
  have k10 : t.kind≠10:=by omega
  clear hk
  go_wp2_with fail
  go_ret
  exact ⟨cB V.out.symm,HB1⟩
end
end Go.Proofs.YtibiccacafjjfaaGreatDoor
