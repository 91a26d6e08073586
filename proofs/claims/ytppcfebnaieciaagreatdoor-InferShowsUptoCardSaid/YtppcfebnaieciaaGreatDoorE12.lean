/-
  Laws that the proof rests on.
-/
import Derived.Test.YtppcfebnaieciaaGreatDoorE11
import Derived.Test.YtppcfebnaieciaaGreatDoorE04
import Derived.Test.YtppcfebnaieciaaGreatDoorE06
import Derived.Test.YtppcfebnaieciaaGreatDoorE07
import Derived.Test.YtppcfebnaieciaaGreatDoorE02
import Derived.Deep.RegionHeld3
import Derived.Test.YtppcfebnaieciaaGreatDoorE03
import Derived.Test.YtppcfebnaieciaaGreatDoorE09
import Derived.Test.YtppcfebnaieciaaGreatDoorE01
import Derived.BigQuiet
namespace Go.Proofs.YtppcfebnaieciaaGreatDoor
set_option maxRecDepth 100000
set_option maxHeartbeats 16000000
section
open Lib (hid)
open Go.RowKit
theorem eS (t : Nd) (a : Option Addr) (cap : Nat) (k : Int) (w : World) (hs : t.text.size≤maxLen) :
 Calls Tryz.prog 40 #[.agg #[.int .i64 t.kind,.string t.text,.int .i64 t.n,.slice a t.kids.length cap,.int .i64 t.place],.int .i64 k] w fun e w' => e=.returned (.bool (l6 k t))∧Below w.heap.size w w':=by
 have B:=hid (kT k t)
 have HB:=hid (a7 w (.cells #[.int .i64 t.kind,.string t.text,.int .i64 t.n,.slice a t.kids.length cap,.int .i64 t.place] 24))
 have B0:=hid (Boxed.make w t a cap)
 go_enter Tryz.func40,Tryz.ntmps40
 go_wp2_with fail
 generalize hW : w.alloc (.cells #[.int .i64 t.kind,.string t.text,.int .i64 t.n,.slice a t.kids.length cap,.int .i64 t.place] 24)=W1 at HB B0 ⊢
 clear hW
 refine Calls.mono (H6 t.text W1 hs) ?_
 rintro e w2 ⟨rfl,hb⟩
 have HC:=hid (HB.out.trans (hb.mono HB.out.size))
 have B1:=hid (B0.out.below hb)
 clear hb HB B0
 have c0:=B1.out.c0
 have c2:=B1.out.c2
 have c3:=B1.out.c3
 cases h1 : t.kind == k
 ·have F:=hid (show l6 k t=false by rw [B.out,h1]; rfl)
  go_wp2_with fail
  go_ret
  exact ⟨i7 F.out.symm,HC⟩
 cases h2 : j8 t.text.data.toList
 ·have F:=hid (show l6 k t=false by rw [B.out,h1,h2]; rfl)
  go_wp2_with fail
  go_ret
  exact ⟨i7 F.out.symm,HC⟩
 cases h3 : t.n == 0
 ·have F:=hid (show l6 k t=false by rw [B.out,h1,h2,h3]; rfl)
  go_wp2_with fail
  go_ret
  exact ⟨i7 F.out.symm,HC⟩
 have F:=hid (show l6 k t=((t.kids.length : Int) == 0) by rw [B.out,h1,h2,h3]; rfl)
 go_wp2_with fail
 go_ret
 exact ⟨i7 F.out.symm,HC⟩
theorem a3T (t : Nd) (a : Option Addr) (cap n₀ : Nat) (w : World) (hh : t.hold n₀ w a cap) (hn : n₀≤w.heap.size) (hsm : ∀ k∈t.kids,y9 k=true) :
 Calls Tryz.prog 41 #[.agg #[.int .i64 t.kind,.string t.text,.int .i64 t.n,.slice a t.kids.length cap,.int .i64 t.place]] w fun e w' => e=.returned (.bool (q7 t))∧Below w.heap.size w w':=by
 have hts:=hh.bounds.2.1
 have hkc:=hh.bounds.2.2.2.2
 have hkl : t.kids.length≤9223372036854775807:=Nat.le_trans hkc.1 hkc.2
 have HH:=hid hh
 have HM:=hid hsm
 have B:=hid (bC t)
 have HB:=hid (a7 w (.cells #[.int .i64 t.kind,.string t.text,.int .i64 t.n,.slice a t.kids.length cap,.int .i64 t.place] 24))
 have B0:=hid (Boxed.make w t a cap)
 clear hh hsm
 go_enter Tryz.func41,Tryz.ntmps41
 go_wp2_with fail
 generalize hW : w.alloc (.cells #[.int .i64 t.kind,.string t.text,.int .i64 t.n,.slice a t.kids.length cap,.int .i64 t.place] 24)=W1 at HB B0 ⊢
 clear hW
 refine Calls.mono (H6 t.text W1 hts) ?_
 rintro e w2 ⟨rfl,hb⟩
 have HC:=hid (HB.out.trans (hb.mono HB.out.size))
 have B1:=hid (B0.out.below hb)
 clear hb HB B0
 have c0:=B1.out.c0
 have c2:=B1.out.c2
 have c3:=B1.out.c3
 cases h1 : t.kind == 3
 ·have F:=hid (show q7 t=false by rw [B.out,h1]; rfl)
  have h1' : (t.kind != 3)=true:=by rw [bne,h1]; rfl
  go_wp2_with fail
  go_ret
  exact ⟨i7 F.out.symm,HC⟩
 have h1' : (t.kind != 3)=false:=by rw [bne,h1]; rfl
 cases h2 : j8 t.text.data.toList
 ·have F:=hid (show q7 t=false by rw [B.out,h1,h2]; rfl)
  go_wp2_with fail
  go_ret
  exact ⟨i7 F.out.symm,HC⟩
 cases h3 : t.n == 0
 ·have F:=hid (show q7 t=false by rw [B.out,h1,h2,h3]; rfl)
  have h3' : (t.n != 0)=true:=by rw [bne,h3]; rfl
  go_wp2_with fail
  go_ret
  exact ⟨i7 F.out.symm,HC⟩
 have h3' : (t.n != 0)=false:=by rw [bne,h3]; rfl
 by_cases h4 : (t.kids.length : Int)<1
 ·have F:=hid (show q7 t=false by rw [B.out,decide_eq_false (show ¬ 1≤t.kids.length by omega)]; simp)
  go_wp2_with fail
  go_ret
  exact ⟨i7 F.out.symm,HC⟩
 by_cases h5 : 9<(t.kids.length : Int)
 ·have F:=hid (show q7 t=false by rw [B.out,decide_eq_false (show ¬ t.kids.length≤9 by omega)]; simp)
  go_wp2_with fail
  go_ret
  exact ⟨i7 F.out.symm,HC⟩
 have F:=hid (show q7 t=(t.kids.dropLast.all (l6 4) && d5 (A8 t) 1) by
  rw [B.out,h1,h2,h3,decide_eq_true (show 1≤t.kids.length by omega),decide_eq_true (show t.kids.length≤9 by omega)]; rfl)
 have h6 : 1≤t.kids.length:=by omega
 have h7 : t.kids.length≤9:=by omega
 clear B
 go_wp2_with fail
 clear c0 c2 c3 h1 h1' h2 h3 h3' h4 h5
 go_loopw [5,6] (fun i _ wr => ∃ k : Nat,k + 1≤t.kids.length∧i=.int .i64 k∧Hid (Below w.heap.size w wr)∧Hid (Boxed w.heap.size t a cap wr)∧Hid (∀ j (hj : j<t.kids.length),j<k→l6 4 t.kids[j]=true)) (fun i _ _ => t.kids.length - (intOf i).toNat)
 case atStart => exact ⟨0,by omega,rfl,HC,B1,fun j hj h => by omega⟩
 case round =>
  obtain ⟨k,hk,rfl,HBr,HBx,HAll⟩:=hrel
  clear B1 HC
  have c3:=HBx.out.c3
  by_cases hlt : (k : Int)<t.kids.length - 1
  ·have hlt' : k<t.kids.length:=by omega
   obtain ⟨b,off,x,cx,A⟩:=(HH.out.below (HBr.out.mono hn)).kid k hlt'
   obtain ⟨rfl,hb0,c0,c1,c2,c3',c4,hk1⟩:=A
   have hxs:=hk1.bounds.2.1
   clear hk1
   cases hr : l6 4 t.kids[k]
   ·have F':=hid (show q7 t=false by rw [F.out,gN (gH (show k<t.kids.length - 1 by omega) hlt') hr]; rfl)
    go_wp2_with fail
    refine Calls.mono (eS t.kids[k] x cx 4 wr hxs) ?_
    rintro e w4 ⟨rfl,hb⟩
    rw [hr]
    have HE:=hid (HBr.out.trans (hb.mono HBr.out.size))
    clear hb
    go_wp2_with fail
    go_ret
    exact ⟨i7 F'.out.symm,HE⟩
   ·have HR:=hid hr
    go_wp2_with fail
    refine Calls.mono (eS t.kids[k] x cx 4 wr hxs) ?_
    rintro e w4 ⟨rfl,hb⟩
    rw [hr]
    have HE:=hid (HBr.out.trans (hb.mono HBr.out.size))
    have HX:=hid (HBx.out.below hb)
    clear hb hr
    go_wp2_with fail
    go_roundw
    case rel =>
     refine ⟨k + 1,by omega,by go_num,HE,HX,fun j hj h => ?_⟩
     by_cases e : j=k
     ·subst e; exact HR
     ·exact HAll.out j hj (by omega)
    case measure => simp [intOf]; omega
  ·obtain ⟨b,off,x,cx,A⟩:=(HH.out.below (HBr.out.mono hn)).kid (t.kids.length - 1) (by omega)
   obtain ⟨rfl,hb0,c0,c1,c2,c3',c4,hk1⟩:=A
   rw [lR h6] at c0 c1 c2 c3' c4 hk1
   have hsl : y9 (A8 t)=true:=HM.out _ (kZ h6)
   have F':=hid (show q7 t=mD (A8 t) by
    rw [F.out,sC fun j hj hj' => HAll.out j hj (by omega)]
    unfold mD
    rw [hsl])
   have C:=hid (lX (A8 t) x cx n₀ wr hk1 (Nat.le_trans hn HBr.out.size))
   obtain ⟨m,hm⟩ : ∃ m,t.kids.length=m + 1:=⟨t.kids.length - 1,by omega⟩
   rw [hm,Nat.add_sub_cancel] at c0 c1 c2 c3' c4
   have z1 : ((t.kids.length : Int) - 1)=(m : Int):=by omega
   have hml : m<t.kids.length:=by omega
   have HZ:=hid hm
   clear hk1 hsl hm
   go_wp2_with fail
   refine Calls.mono C.out ?_
   rintro e w4 ⟨rfl,hb⟩
   have HE:=hid (HBr.out.trans (hb.mono HBr.out.size))
   clear hb
   go_wp2_with fail
   go_ret
   exact ⟨i7 F'.out.symm,HE⟩
end
section
open Lib (hid)
open Go.RowKit
theorem lG (t : Nd) (a : Option Addr) (cap n₀ : Nat) (w : World) (hh : t.hold n₀ w a cap) (hn : n₀≤w.heap.size) :
 Calls Tryz.prog 21 #[.agg #[.int .i64 t.kind,.string t.text,.int .i64 t.n,.slice a t.kids.length cap,.int .i64 t.place]] w fun e w' => e=.returned (.bool (o7 t))∧Below w.heap.size w w':=by
 have hts:=hh.bounds.2.1
 have hkc:=hh.bounds.2.2.2.2
 have hkl : t.kids.length≤9223372036854775807:=Nat.le_trans hkc.1 hkc.2
 have HH:=hid hh
 have B:=hid (a4w t)
 have HB:=hid (a7 w (.cells #[.int .i64 t.kind,.string t.text,.int .i64 t.n,.slice a t.kids.length cap,.int .i64 t.place] 24))
 have B0:=hid (Boxed.make w t a cap)
 clear hh
 go_enter Tryz.func21,Tryz.ntmps21
 go_wp2_with fail
 generalize hW : w.alloc (.cells #[.int .i64 t.kind,.string t.text,.int .i64 t.n,.slice a t.kids.length cap,.int .i64 t.place] 24)=W1 at HB B0 ⊢
 clear hW
 refine Calls.mono (H6 t.text W1 hts) ?_
 rintro e w1 ⟨rfl,hb⟩
 have HC1:=hid (HB.out.trans (hb.mono HB.out.size))
 have B1':=hid (B0.out.below hb)
 clear hb HB B0
 have c0:=B1'.out.c0
 have c1:=B1'.out.c1
 have c2:=B1'.out.c2
 have c3:=B1'.out.c3
 have c4:=B1'.out.c4
 go_wp2_with fail
 refine Calls.mono (lI t a cap n₀ w1 (HH.out.below (HC1.out.mono hn)) (Nat.le_trans hn HC1.out.size)) ?_
 rintro e w2 ⟨rfl,hb⟩
 have HC:=hid (HC1.out.trans (hb.mono HC1.out.size))
 have B1:=hid (B1'.out.below hb)
 clear hb HC1 B1' c0 c1 c2 c3 c4
 have c0:=B1.out.c0
 have c2:=B1.out.c2
 have c3:=B1.out.c3
 cases h0 : y9 t
 ·have F:=hid (show o7 t=false by rw [B.out,h0]; simp)
  go_wp2_with fail
  go_ret
  exact ⟨i7 F.out.symm,HC⟩
 cases h1 : t.kind == 1
 ·have F:=hid (show o7 t=false by rw [B.out,h1]; rfl)
  have h1' : (t.kind != 1)=true:=by rw [bne,h1]; rfl
  go_wp2_with fail
  go_ret
  exact ⟨i7 F.out.symm,HC⟩
 have h1' : (t.kind != 1)=false:=by rw [bne,h1]; rfl
 cases h2 : j8 t.text.data.toList
 ·have F:=hid (show o7 t=false by rw [B.out,h1,h2]; rfl)
  go_wp2_with fail
  go_ret
  exact ⟨i7 F.out.symm,HC⟩
 cases h3 : t.n == 0
 ·have F:=hid (show o7 t=false by rw [B.out,h1,h2,h3]; rfl)
  have h3' : (t.n != 0)=true:=by rw [bne,h3]; rfl
  go_wp2_with fail
  go_ret
  exact ⟨i7 F.out.symm,HC⟩
 have h3' : (t.n != 0)=false:=by rw [bne,h3]; rfl
 have F:=hid (show o7 t=lJ t.kids by rw [B.out,h0,h1,h2,h3]; rfl)
 have HM:=hid (show ∀ k∈t.kids,y9 k=true from fun k hk => cT h0 hk)
 clear B
 go_wp2_with fail
 clear c0 c2 c3 h0 h1 h1' h2 h3 h3'
 go_loopw [5,6] (fun i _ wr => ∃ k : Nat,k≤t.kids.length∧i=.int .i64 k∧Hid (Below w.heap.size w wr)∧Hid (Boxed w.heap.size t a cap wr)∧Hid (∀ j (hj : j<t.kids.length),j<k→t.kids[j].kind=2)∧Hid (∀ j (hj : j<t.kids.length),j<k→l6 2 t.kids[j]=true)) (fun i _ _ => t.kids.length - (intOf i).toNat)
 case atStart => exact ⟨0,by omega,rfl,HC,B1,fun j hj h => by omega,fun j hj h => by omega⟩
 case round =>
  obtain ⟨k,hk,rfl,HBr,HBx,HKd,HAll⟩:=hrel
  clear B1 HC
  have c3:=HBx.out.c3
  by_cases hgo : ∃ hlt : k<t.kids.length,t.kids[k].kind=2
  ·obtain ⟨hlt,hk2⟩:=hgo
   obtain ⟨b,off,x,cx,A⟩:=(HH.out.below (HBr.out.mono hn)).kid k hlt
   obtain ⟨hA,hb0,c0,c1,c2,c3',c4,hk1⟩:=A
   rw [hA] at c3
   clear hA
   have hxs:=hk1.bounds.2.1
   have e2 : (t.kids[k].kind == 2)=true:=by rw [hk2]; rfl
   have HK2:=hid hk2
   clear hk1 hk2
   cases hr : l6 2 t.kids[k]
   ·have F':=hid (show o7 t=false by
     rw [F.out,a2T hlt (fun j hj hjk => ?_) hr]
     by_cases e : j=k
     ·subst e; exact HK2
     ·exact HKd.out j hj (by omega))
    go_wp2_with fail
    refine Calls.mono (eS t.kids[k] x cx 2 wr hxs) ?_
    rintro e w4 ⟨rfl,hb⟩
    rw [hr]
    have HE:=hid (HBr.out.trans (hb.mono HBr.out.size))
    clear hb
    go_wp2_with fail
    go_ret
    exact ⟨i7 F'.out.symm,HE⟩
   ·have HR:=hid hr
    go_wp2_with fail
    refine Calls.mono (eS t.kids[k] x cx 2 wr hxs) ?_
    rintro e w4 ⟨rfl,hb⟩
    rw [hr]
    have HE:=hid (HBr.out.trans (hb.mono HBr.out.size))
    have HX:=hid (HBx.out.below hb)
    clear hb hr
    go_wp2_with fail
    go_roundw
    case rel =>
     refine ⟨k + 1,by omega,by go_num,HE,HX,fun j hj h => ?_,fun j hj h => ?_⟩
     ·by_cases e : j=k
      ·subst e; exact HK2
      ·exact HKd.out j hj (by omega)
     ·by_cases e : j=k
      ·subst e; exact HR
      ·exact HAll.out j hj (by omega)
    case measure => simp [intOf]; omega
  ·have F2:=hid (show cC t.kids=k from a4O hk HKd fun hlt e => hgo ⟨hlt,e⟩)
   have F3:=hid (show o7 t=(decide (k≤100) && decide (t.kids.length - k≤200) && (t.kids.drop k).all q7) by
    rw [F.out]
    unfold lJ
    rw [F2.out,O1 fun j hj hjk => HAll.out j hj hjk]; rfl)
   rcases (show k<t.kids.length∨¬ k<t.kids.length by omega) with hlt | hlt
   ·obtain ⟨b,off,x,cx,A⟩:=(HH.out.below (HBr.out.mono hn)).kid k hlt
    obtain ⟨hA,hb0,c0,c1,c2,c3',c4,hk1⟩:=A
    rw [hA] at c3
    clear hA
    have e2 : (t.kids[k].kind == 2)=false:=by rw [beq_eq_false_iff_ne]; exact fun e => hgo ⟨hlt,e⟩
    clear hk1
    clear hgo
    by_cases h1 : 100<(k : Int)
    ·have F':=hid (show o7 t=false by rw [F3.out,decide_eq_false (show ¬ k≤100 by omega)]; rfl)
     go_wp2_with fail
     go_ret
     exact ⟨i7 F'.out.symm,HBr⟩
    by_cases h2 : 200<(t.kids.length : Int) - k
    ·have F':=hid (show o7 t=false by rw [F3.out,decide_eq_false (show ¬ t.kids.length - k≤200 by omega)]; simp)
     go_wp2_with fail
     go_ret
     exact ⟨i7 F'.out.symm,HBr⟩
    have F4:=hid (show o7 t=(t.kids.drop k).all q7 by rw [F3.out,decide_eq_true (show k≤100 by omega),decide_eq_true (show t.kids.length - k≤200 by omega)]; rfl)
    go_wp2_with fail
    clear h1 h2 c3 F F3 F2 HKd HAll
    generalize hwr : wr=wo at HBr HBx ⊢
    clear hwr
    go_loopw [7,8] (fun i _ wr => ∃ m : Nat,k≤m∧m≤t.kids.length∧i=.int .i64 m∧Hid (Below w.heap.size w wr)∧Hid (Boxed w.heap.size t a cap wr)∧Hid (∀ j (hj : j<t.kids.length),k≤j→j<m→q7 t.kids[j]=true)) (fun i _ _ => t.kids.length - (intOf i).toNat)
    case atStart => exact ⟨k,Nat.le_refl _,by omega,rfl,HBr,HBx,fun j hj h h' => by omega⟩
    case round =>
     obtain ⟨m,hkm,hm,rfl,HBr',HBx',HAll⟩:=hrel
     clear HBr HBx
     have c3:=HBx'.out.c3
     by_cases hlt' : m<t.kids.length
     ·obtain ⟨b,off,x,cx,A⟩:=(HH.out.below (HBr'.out.mono hn)).kid m hlt'
      obtain ⟨hA,hb0',d0,d1,d2,d3',d4,hk1⟩:=A
      have C:=hid (a3T t.kids[m] x cx n₀ wr hk1 (Nat.le_trans hn HBr'.out.size) fun u hu => cT (HM.out _ (List.getElem_mem hlt')) hu)
      rw [hA] at c3
      clear hk1 hA
      cases hr : q7 t.kids[m]
      ·have F':=hid (show o7 t=false by rw [F4.out,gN (hJ hlt' hkm) hr])
       go_wp2_with fail
       refine Calls.mono C.out ?_
       rintro e w4 ⟨rfl,hb⟩
       rw [hr]
       have HE:=hid (HBr'.out.trans (hb.mono HBr'.out.size))
       clear hb
       go_wp2_with fail
       go_ret
       exact ⟨i7 F'.out.symm,HE⟩
      ·have HR:=hid hr
       go_wp2_with fail
       refine Calls.mono C.out ?_
       rintro e w4 ⟨rfl,hb⟩
       rw [hr]
       have HE:=hid (HBr'.out.trans (hb.mono HBr'.out.size))
       have HX:=hid (HBx'.out.below hb)
       clear hb hr
       go_wp2_with fail
       go_roundw
       case rel =>
        refine ⟨m + 1,by omega,by omega,by go_num,HE,HX,fun j hj h h' => ?_⟩
        by_cases e : j=m
        ·subst e; exact HR
        ·exact HAll.out j hj h (by omega)
       case measure => simp [intOf]; omega
     ·have F':=hid (show o7 t=true by rw [F4.out,mT fun j hj h => HAll.out j hj h (by omega)])
      go_wp2_with fail
      go_ret
      exact ⟨i7 F'.out.symm,HBr'⟩
   ·clear hgo
    by_cases h1 : 100<(k : Int)
    ·have F':=hid (show o7 t=false by rw [F3.out,decide_eq_false (show ¬ k≤100 by omega)]; rfl)
     go_wp2_with fail
     go_ret
     exact ⟨i7 F'.out.symm,HBr⟩
    by_cases h2 : 200<(t.kids.length : Int) - k
    ·exfalso; omega
    have F4:=hid (show o7 t=(t.kids.drop k).all q7 by rw [F3.out,decide_eq_true (show k≤100 by omega),decide_eq_true (show t.kids.length - k≤200 by omega)]; rfl)
    go_wp2_with fail
    clear h1 h2 c3 F F3 F2 HKd HAll
    generalize hwr : wr=wo at HBr HBx ⊢
    clear hwr
    go_loopw [7,8] (fun i _ wr => ∃ m : Nat,k≤m∧m≤t.kids.length∧i=.int .i64 m∧Hid (Below w.heap.size w wr)∧Hid (Boxed w.heap.size t a cap wr)∧Hid (∀ j (hj : j<t.kids.length),k≤j→j<m→q7 t.kids[j]=true)) (fun i _ _ => t.kids.length - (intOf i).toNat)
    case atStart => exact ⟨k,Nat.le_refl _,by omega,rfl,HBr,HBx,fun j hj h h' => by omega⟩
    case round =>
     obtain ⟨m,hkm,hm,rfl,HBr',HBx',HAll⟩:=hrel
     clear HBr HBx
     have c3:=HBx'.out.c3
     by_cases hlt' : m<t.kids.length
     ·exfalso; omega
     ·have F':=hid (show o7 t=true by rw [F4.out,mT fun j hj h => HAll.out j hj h (by omega)])
      go_wp2_with fail
      go_ret
      exact ⟨i7 F'.out.symm,HBr'⟩
end
section
open Lib (hid)
open Go.RowKit Go.Shelf
def jR (l : List UInt8) : Value:=.iface 150 (.string ⟨l.toArray⟩)
def o4 (t : Nd) : Value:=if s5 t=true then jR (g9 t) else .nilIface
theorem xY (t : Nd) : t.kids.isEmpty=decide ((t.kids.length : Int)≤0):=by
 cases t.kids with
 | nil => rfl
 | cons a l => simp
theorem a3b (x : Value) (w : World) : (Instr.makeInterface 150 x).run Tryz.prog w=.ok (.iface 150 x) w:=run_makeInterface w 150 x (by kernel_rfl)
theorem X9 {a b : Value} (h : a=b) : Ending.returned a=.returned b:=by rw [h]
theorem a0A (t : Nd) (a : Option Addr) (cap : Nat) (w : World) (hs : t.text.size≤140737488355328) (hk : t.kids.length≤cap∧cap≤maxLen) (he : Env w) (ht : Tab w) :
 Calls Tryz.prog 150 #[.agg #[.int .i64 t.kind,.string t.text,.int .i64 t.n,.slice a t.kids.length cap,.int .i64 t.place]] w fun e w' => e=.returned (o4 t)∧Below w.heap.size w w':=by
 have mk:=a3b
 have mixed : Tryz.prog.follows .mixedOrders=true:=by kernel_rfl
 have hm : t.kids.length≤9223372036854775807:=Nat.le_trans hk.1 hk.2
 have HB:=hid (a7 w (.cells #[.int .i64 t.kind,.string t.text,.int .i64 t.n,.slice a t.kids.length cap,.int .i64 t.place] 24))
 have B0:=hid (Boxed.make w t a cap)
 have HE:=hid (he.below HB)
 have HT:=hid (ht.below HB)
 clear he ht
 go_enter Tryz.func150,Tryz.ntmps150
 go_wp2_with fail
 generalize (w.alloc (.cells #[.int .i64 t.kind,.string t.text,.int .i64 t.n,.slice a t.kids.length cap,.int .i64 t.place] 24))=W1 at HB B0 HE HT ⊢
 have c1:=B0.out.c1
 go_region
 have HE1 : Hid (Env W1.drew):=HE.out
 have HT1 : Hid (Tab W1.drew):=HT.out
 have B1 : Hid (Boxed w.heap.size t a cap W1.drew):=⟨B0.out.lt,B0.out.c0,B0.out.c1,B0.out.c2,B0.out.c3,B0.out.c4⟩
 have HB1 : Hid (Below w.heap.size w W1.drew):=⟨HB.out.os,HB.out.tape,HB.out.output,HB.out.size,HB.out.block⟩
 clear c1 HE HT B0 HB
 generalize W1.drew=W2 at HE1 HT1 B1 HB1 ⊢
 have P:=hid (show o4 t=if s5 t=true then jR (g9 t) else .nilIface from rfl)
 have PB:=hid (show s5 t=(decide (5≤t.kind∧t.kind≤10) && (q6 t.kind t.text.data.toList && bM t.kind t.n) && t.kids.isEmpty) from rfl)
 have KE:=hid (xY t)
 have FE:=hid (zX t)
 have hk7 : t.kind=5∨t.kind=6∨t.kind=8∨t.kind=7∨t.kind=10∨t.kind=9∨¬ (5≤t.kind∧t.kind≤10):=by omega
 rcases hk7 with hk | hk | hk | hk | hk | hk | hk
 ·have c0:=B1.out.kind hk
  have F:=hid (show g9 t=bX t.n by rw [FE.out,hk]; rfl)
  have G:=hid (show s5 t=(t.text.toList.isEmpty && (decide (0≤t.n) && decide (t.n≤1000000000000000)) && decide ((t.kids.length : Int)≤0)) by rw [PB.out,KE.out,hk,Lib.toList_data]; rfl)
  clear hk
  have HS:=hid (show ∀ cur,Below W2.heap.size W2 cur→Below W2.heap.size W2 cur∧cur.cell? ⟨w.heap.size,1,none⟩=some (.string t.text)∧cur.cell? ⟨w.heap.size,2,none⟩=some (.int .i64 t.n)∧cur.cell? ⟨w.heap.size,3,none⟩=some (.slice a t.kids.length cap) from fun cur hc =>
   ⟨hc,(hc.cell (p:=⟨w.heap.size,1,none⟩) B1.out.lt).trans B1.out.c1,(hc.cell (p:=⟨w.heap.size,2,none⟩) B1.out.lt).trans B1.out.c2,(hc.cell (p:=⟨w.heap.size,3,none⟩) B1.out.lt).trans B1.out.c3⟩)
  have C1:=hid (show ∀ cur,Below W2.heap.size W2 cur→Calls Tryz.prog 171 #[.int .i64 t.n] cur fun e W' => e=.returned (.string ⟨(bX t.n).toArray⟩)∧Below W2.heap.size W2 W' from fun cur hc =>
   (a1a t.n cur).mono (by rintro e W' ⟨rfl,hb⟩; exact ⟨rfl,hc.trans (hb.mono hc.size)⟩))
  have hb : Below W2.heap.size W2 W2:=Below.refl _ _
  generalize t.n=n at HS C1 F G ⊢
  generalize t.text=s at HS G ⊢
  have c1:=(HS.out _ hb).2.1
  by_cases g1 : 0≤n
  case' pos => by_cases g2 : n≤1000000000000000
  case' pos => by_cases g3 : s.toList=[]
  case pos =>
   have g4 : s.toList.isEmpty=true:=by rw [g3]; rfl
   have R : Hid (s5 t=decide ((t.kids.length : Int)≤0)):=by
    show _=_
    rw [G.out,g4,decide_eq_true g1,decide_eq_true g2]; rfl
   go_wp2_with fail
   clear c0 c1
   first | (go_region_held3 (fun cur => Below W2.heap.size W2 cur∧cur.cell? ⟨w.heap.size,1,none⟩=some (.string s)∧cur.cell? ⟨w.heap.size,2,none⟩=some (.int .i64 n)∧cur.cell? ⟨w.heap.size,3,none⟩=some (.slice a t.kids.length cap))
    (first | exact HS.out _ hb | exact HS.out _ hb.drew)
    (first | (go_at_call 171; refine (C1.out _ ?_).mono ?_; (go_split_ands; assumption); rintro e w' ⟨rfl,hb⟩))) | fail
   all_goals
    have c3:=(HS.out _ hb).2.2.2
    by_cases gk : (0 : Int)<t.kids.length
    ·have V:=hid (show o4 t=.nilIface by rw [P.out,if_neg (by rw [R.out,decide_eq_false (by omega)]; decide)])
     go_wp2_with fail
     go_ret
     exact ⟨X9 V.out.symm,HB1.out.trans (hb.mono HB1.out.size)⟩
    ·have V:=hid (show o4 t=jR (bX n) by rw [P.out,if_pos (by rw [R.out,decide_eq_true (by omega)]),F.out])
     go_wp2_with fail
     go_ret
     exact ⟨X9 V.out.symm,HB1.out.trans (hb.mono HB1.out.size)⟩
  all_goals
   (try (have g4 : s.toList.isEmpty=false:=by simpa using g3))
   (try (have g5 : n<0:=by omega))
   have R : Hid (s5 t=false):=by
    show _=_
    rw [G.out,Bool.eq_false_iff]
    intro hh
    simp only [Bool.and_eq_true,decide_eq_true_eq] at hh
    first | omega | (rw [g4] at hh; exact absurd hh.1.1 (by decide))
   have V:=hid (show o4 t=.nilIface by rw [P.out,if_neg (by rw [R.out]; decide)])
   clear R
   go_wp2_with fail
   clear c0 c1
   (try (have g7 : decide (0≤n)=false:=decide_eq_false (by omega)))
   (try (have g8 : decide (0≤n)=true:=decide_eq_true (by omega)))
   (try (have g6 : decide (n≤1000000000000000)=false:=decide_eq_false (by omega)))
   first
    | (refine wp_region_held_drew (S:=(fun cur => Below W2.heap.size W2 cur∧cur.cell? ⟨w.heap.size,1,none⟩=some (.string s)∧cur.cell? ⟨w.heap.size,2,none⟩=some (.int .i64 n)∧cur.cell? ⟨w.heap.size,3,none⟩=some (.slice a t.kids.length cap))) (by kernel_rfl) ?_ (fun hHeld => ?_)
       ·(first | exact HS.out _ hb | exact HS.out _ hb.drew)
       refine a8 0 ?_; refine a8 1 ?_; refine a8 2 ?_; refine a8 3 ?_; refine F6 4 ?_; refine F6 5 ?_; refine F6 6 ?_; refine a8 7 ?_; refine a8 8 ?_; refine F6 9 ?_; refine F6 10 ?_; refine F6 11 ?_; refine a8 12 ?_; refine a8 13 ?_; refine a8 14 ?_
       refine wpAnyH_ready (rs:=[15]) (by kernel_rfl) (by simp) ?_
       refine AllReadyH.cons (n7 rfl) (fun K hK => ?_) AllReadyH.nil
       go_simp
       (go_at_call 171; refine (C1.out _ ?_).mono ?_; (go_split_ands; assumption); rintro e w' ⟨rfl,hb⟩)
       go_wp2_with fail
       refine hK.out _ _ ?_ (fun hHeld => ?_)
       ·(first | exact HS.out _ hb | exact HS.out _ hb.drew)
       clear hK K
       try simp only [Act.put,List.setIfInBounds_toArray,List.set_cons_zero,List.set_cons_succ]
       refine a8 16 ?_; refine a8 17 ?_
       refine wpAnyH_done (by kernel_rfl) ?_ _)
    | (refine wp_region_held_drew (S:=(fun cur => Below W2.heap.size W2 cur∧cur.cell? ⟨w.heap.size,1,none⟩=some (.string s)∧cur.cell? ⟨w.heap.size,2,none⟩=some (.int .i64 n)∧cur.cell? ⟨w.heap.size,3,none⟩=some (.slice a t.kids.length cap))) (by kernel_rfl) ?_ (fun hHeld => ?_)
       ·(first | exact HS.out _ hb | exact HS.out _ hb.drew)
       refine a8 0 ?_; refine a8 1 ?_; refine a8 2 ?_; refine a8 3 ?_; refine a8 4 ?_; refine a8 5 ?_; refine a8 6 ?_; refine a8 7 ?_; refine a8 8 ?_; refine F6 9 ?_; refine F6 10 ?_; refine F6 11 ?_; refine a8 12 ?_; refine a8 13 ?_; refine a8 14 ?_
       refine wpAnyH_ready (rs:=[15]) (by kernel_rfl) (by simp) ?_
       refine AllReadyH.cons (n7 rfl) (fun K hK => ?_) AllReadyH.nil
       go_simp
       (go_at_call 171; refine (C1.out _ ?_).mono ?_; (go_split_ands; assumption); rintro e w' ⟨rfl,hb⟩)
       go_wp2_with fail
       refine hK.out _ _ ?_ (fun hHeld => ?_)
       ·(first | exact HS.out _ hb | exact HS.out _ hb.drew)
       clear hK K
       try simp only [Act.put,List.setIfInBounds_toArray,List.set_cons_zero,List.set_cons_succ]
       refine a8 16 ?_; refine a8 17 ?_
       refine wpAnyH_done (by kernel_rfl) ?_ _)
    | (go_region_held3 (fun cur => Below W2.heap.size W2 cur∧cur.cell? ⟨w.heap.size,1,none⟩=some (.string s)∧cur.cell? ⟨w.heap.size,2,none⟩=some (.int .i64 n)∧cur.cell? ⟨w.heap.size,3,none⟩=some (.slice a t.kids.length cap))
        (first | exact HS.out _ hb | exact HS.out _ hb.drew)
        (first | (go_at_call 171; refine (C1.out _ ?_).mono ?_; (go_split_ands; assumption); rintro e w' ⟨rfl,hb⟩)))
   all_goals
    have c3:=(HS.out _ hb).2.2.2
    go_wp2_with fail
    go_ret
    exact ⟨X9 V.out.symm,HB1.out.trans (hb.mono HB1.out.size)⟩
 ·have c0:=B1.out.kind hk
  have F:=hid (show g9 t=nS t.n by rw [FE.out,hk]; rfl)
  have G:=hid (show s5 t=(t.text.toList.isEmpty && (decide (0≤t.n) && decide (t.n≤73048)) && decide ((t.kids.length : Int)≤0)) by rw [PB.out,KE.out,hk,Lib.toList_data]; rfl)
  clear hk
  have c1:=B1.out.c1
  have c2:=B1.out.c2
  have c3:=B1.out.c3
  by_cases g1 : 0≤t.n∧t.n≤73048
  ·obtain ⟨g1,g2⟩:=g1
   obtain ⟨y,m,d,ho,hnum,hte⟩:=a3n g1 g2
   have HO:=hid ho
   have HN:=hid hnum
   have HX:=hid hte
   clear ho hnum hte
   go_wp2_with fail
   refine Calls.mono (a41 y m d t.n _ HT1 HO HN) ?_
   rintro e w3 ⟨rfl,hb⟩
   have HC:=hid (HB1.out.trans (hb.mono HB1.out.size))
   have B3:=B1.out.below hb
   clear hb c0 c1 c2 c3
   have c1:=B3.c1
   have c3:=B3.c3
   clear B3
   by_cases g3 : t.text.toList=[]
   ·have g4 : t.text.toList.isEmpty=true:=by rw [g3]; rfl
    have R : Hid (s5 t=decide ((t.kids.length : Int)≤0)):=by
     show _=_
     rw [G.out,g4,decide_eq_true g1,decide_eq_true g2]; rfl
    by_cases gk : (0 : Int)<t.kids.length
    ·have V:=hid (show o4 t=.nilIface by rw [P.out,if_neg (by rw [R.out,decide_eq_false (by omega)]; decide)])
     go_wp2_with fail
     go_ret
     exact ⟨X9 V.out.symm,HC⟩
    ·have V:=hid (show o4 t=jR (Cal.text y m d) by rw [P.out,if_pos (by rw [R.out,decide_eq_true (by omega)]),F.out,HX.out])
     go_wp2_with fail
     go_ret
     exact ⟨X9 V.out.symm,HC⟩
   ·have g4 : t.text.toList.isEmpty=false:=by simpa using g3
    have V:=hid (show o4 t=.nilIface by rw [P.out,if_neg (by rw [G.out,g4]; simp)])
    go_wp2_with fail
    go_ret
    exact ⟨X9 V.out.symm,HC⟩
  ·have V:=hid (show o4 t=.nilIface by
    rw [P.out,if_neg]
    rw [G.out]
    simp only [Bool.and_eq_true,decide_eq_true_eq]
    exact fun h => g1 h.1.2)
   by_cases g2 : 0≤t.n
   ·have g3 : 73048<t.n:=by omega
    clear g1
    go_wp2_with fail
    go_ret
    exact ⟨X9 V.out.symm,HB1⟩
   ·have g3 : t.n<0:=by omega
    clear g1
    go_wp2_with fail
    go_ret
    exact ⟨X9 V.out.symm,HB1⟩
 ·have c0:=B1.out.kind hk
  have F:=hid (show g9 t=if t.n=1 then [116,114,117,101] else [102,97,108,115,101] by rw [FE.out,hk]; rfl)
  have G:=hid (show s5 t=(t.text.toList.isEmpty && (decide (t.n=0) || decide (t.n=1)) && decide ((t.kids.length : Int)≤0)) by rw [PB.out,KE.out,hk,Lib.toList_data]; rfl)
  clear hk
  have c1:=B1.out.c1
  have c3:=B1.out.c3
  have hn3 : t.n=0∨t.n=1∨(t.n≠0∧t.n≠1):=by omega
  rcases hn3 with hn | hn | hn
  ·have c2 : W2.cell? ⟨w.heap.size,2,none⟩=some (.int .i64 0):=hn ▸ B1.out.c2
   by_cases g3 : t.text.toList=[]
   ·have g4 : t.text.toList.isEmpty=true:=by rw [g3]; rfl
    have R : Hid (s5 t=decide ((t.kids.length : Int)≤0)):=by
     show _=_
     rw [G.out,g4,hn]; rfl
    by_cases gk : (0 : Int)<t.kids.length
    ·have V:=hid (show o4 t=.nilIface by rw [P.out,if_neg (by rw [R.out,decide_eq_false (by omega)]; decide)])
     clear hn
     go_wp2_with fail
     go_ret
     exact ⟨X9 V.out.symm,HB1⟩
    ·have V:=hid (show o4 t=jR [102,97,108,115,101] by rw [P.out,if_pos (by rw [R.out,decide_eq_true (by omega)]),F.out,hn]; rfl)
     clear hn
     go_wp2_with fail
     go_ret
     exact ⟨X9 V.out.symm,HB1⟩
   ·have g4 : t.text.toList.isEmpty=false:=by simpa using g3
    have V:=hid (show o4 t=.nilIface by rw [P.out,if_neg (by rw [G.out,g4]; simp)])
    clear hn
    go_wp2_with fail
    go_ret
    exact ⟨X9 V.out.symm,HB1⟩
  ·have c2 : W2.cell? ⟨w.heap.size,2,none⟩=some (.int .i64 1):=hn ▸ B1.out.c2
   by_cases g3 : t.text.toList=[]
   ·have g4 : t.text.toList.isEmpty=true:=by rw [g3]; rfl
    have R : Hid (s5 t=decide ((t.kids.length : Int)≤0)):=by
     show _=_
     rw [G.out,g4,hn]; rfl
    by_cases gk : (0 : Int)<t.kids.length
    ·have V:=hid (show o4 t=.nilIface by rw [P.out,if_neg (by rw [R.out,decide_eq_false (by omega)]; decide)])
     clear hn
     go_wp2_with fail
     go_ret
     exact ⟨X9 V.out.symm,HB1⟩
    ·have V:=hid (show o4 t=jR [116,114,117,101] by rw [P.out,if_pos (by rw [R.out,decide_eq_true (by omega)]),F.out,hn]; rfl)
     clear hn
     go_wp2_with fail
     go_ret
     exact ⟨X9 V.out.symm,HB1⟩
   ·have g4 : t.text.toList.isEmpty=false:=by simpa using g3
    have V:=hid (show o4 t=.nilIface by rw [P.out,if_neg (by rw [G.out,g4]; simp)])
    clear hn
    go_wp2_with fail
    go_ret
    exact ⟨X9 V.out.symm,HB1⟩
  ·have c2:=B1.out.c2
   have V:=hid (show o4 t=.nilIface by rw [P.out,if_neg (by rw [G.out,decide_eq_false hn.1,decide_eq_false hn.2]; simp)])
   obtain ⟨h0,h1⟩:=hn
   have e0 : (t.n == 0)=false:=by simpa using h0
   have e1 : (t.n == 1)=false:=by simpa using h1
   clear h0 h1
   go_wp2_with fail
   go_ret
   exact ⟨X9 V.out.symm,HB1⟩
 ·have c0:=B1.out.kind hk
  have F:=hid (show s5 t=true→g9 t=t.text.data.toList from fun h => by
   rw [FE.out,hk,List.isEmpty_iff.1 (show t.kids.isEmpty=true by rw [PB.out] at h; simp only [Bool.and_eq_true] at h; exact h.2),r9]; rfl)
  have G:=hid (show s5 t=(eI t.text.data.toList && decide (t.n=0) && decide ((t.kids.length : Int)≤0)) by rw [PB.out,KE.out,hk]; rfl)
  clear hk
  have c1:=B1.out.c1
  go_wp2_with fail
  refine Calls.mono (yR t.text _ (Nat.le_trans hs (by decide))) ?_
  rintro e w3 ⟨rfl,hb⟩
  have HC:=hid (HB1.out.trans (hb.mono HB1.out.size))
  have B3:=B1.out.below hb
  clear hb c0 c1
  have c2:=B3.c2
  have c3:=B3.c3
  clear B3
  cases hq : eI t.text.data.toList
  ·have V:=hid (show o4 t=.nilIface by rw [P.out,if_neg (by rw [G.out,hq]; simp)])
   go_wp2_with fail
   go_ret
   exact ⟨X9 V.out.symm,HC⟩
  ·by_cases h0 : t.n=0
   ·have c2' : w3.cell? ⟨w.heap.size,2,none⟩=some (.int .i64 0):=h0 ▸ c2
    have R : Hid (s5 t=decide ((t.kids.length : Int)≤0)):=by
     show _=_
     rw [G.out,hq,h0]; rfl
    clear c2
    by_cases gk : (0 : Int)<t.kids.length
    ·have V:=hid (show o4 t=.nilIface by rw [P.out,if_neg (by rw [R.out,decide_eq_false (by omega)]; decide)])
     clear h0
     go_wp2_with fail
     go_ret
     exact ⟨X9 V.out.symm,HC⟩
    ·have V:=hid (show o4 t=.iface 150 (.string t.text) by
      have hp : s5 t=true:=by rw [R.out,decide_eq_true (by omega)]
      rw [P.out,if_pos hp,F.out hp]
      exact congrArg (fun x => Value.iface 150 (.string x)) (gF rfl))
     clear h0
     go_wp2_with fail
     go_ret
     exact ⟨X9 V.out.symm,HC⟩
   ·have V:=hid (show o4 t=.nilIface by rw [P.out,if_neg (by rw [G.out,decide_eq_false h0]; simp)])
    have e0 : (t.n == 0)=false:=by simpa using h0
    clear h0
    go_wp2_with fail
    go_ret
    exact ⟨X9 V.out.symm,HC⟩
 ·have c0:=B1.out.kind hk
  have F:=hid (show s5 t=true→g9 t=t.text.data.toList from fun h => by
   rw [FE.out,hk,List.isEmpty_iff.1 (show t.kids.isEmpty=true by rw [PB.out] at h; simp only [Bool.and_eq_true] at h; exact h.2),r9]; rfl)
  have G:=hid (show s5 t=(fX t.text.data.toList && decide (t.n=0) && decide ((t.kids.length : Int)≤0)) by rw [PB.out,KE.out,hk]; rfl)
  clear hk
  have c1:=B1.out.c1
  go_wp2_with fail
  refine Calls.mono (lN t.text _ (Nat.le_trans hs (by decide)) HE1) ?_
  rintro e w3 ⟨rfl,hb⟩
  have HC:=hid (HB1.out.trans (hb.mono HB1.out.size))
  have B3:=B1.out.below hb
  clear hb c0 c1
  have c2:=B3.c2
  have c3:=B3.c3
  clear B3
  cases hq : fX t.text.data.toList
  ·have V:=hid (show o4 t=.nilIface by rw [P.out,if_neg (by rw [G.out,hq]; simp)])
   go_wp2_with fail
   go_ret
   exact ⟨X9 V.out.symm,HC⟩
  ·by_cases h0 : t.n=0
   ·have c2' : w3.cell? ⟨w.heap.size,2,none⟩=some (.int .i64 0):=h0 ▸ c2
    have R : Hid (s5 t=decide ((t.kids.length : Int)≤0)):=by
     show _=_
     rw [G.out,hq,h0]; rfl
    clear c2
    by_cases gk : (0 : Int)<t.kids.length
    ·have V:=hid (show o4 t=.nilIface by rw [P.out,if_neg (by rw [R.out,decide_eq_false (by omega)]; decide)])
     clear h0
     go_wp2_with fail
     go_ret
     exact ⟨X9 V.out.symm,HC⟩
    ·have V:=hid (show o4 t=.iface 150 (.string t.text) by
      have hp : s5 t=true:=by rw [R.out,decide_eq_true (by omega)]
      rw [P.out,if_pos hp,F.out hp]
      exact congrArg (fun x => Value.iface 150 (.string x)) (gF rfl))
     clear h0
     go_wp2_with fail
     go_ret
     exact ⟨X9 V.out.symm,HC⟩
   ·have V:=hid (show o4 t=.nilIface by rw [P.out,if_neg (by rw [G.out,decide_eq_false h0]; simp)])
    have e0 : (t.n == 0)=false:=by simpa using h0
    clear h0
    go_wp2_with fail
    go_ret
    exact ⟨X9 V.out.symm,HC⟩
 ·have c0:=B1.out.kind hk
  have F:=hid (show g9 t=[102,101,101,100,32,34] ++ t.text.data.toList ++ [34] by rw [FE.out,hk]; rfl)
  have G:=hid (show s5 t=(z7 t.text.data.toList && decide (t.n=0) && decide ((t.kids.length : Int)≤0)) by rw [PB.out,KE.out,hk]; rfl)
  clear hk
  have c1:=B1.out.c1
  go_wp2_with fail
  refine Calls.mono (cH t.text _ (Nat.le_trans hs (by decide))) ?_
  rintro e w3 ⟨rfl,hb⟩
  have HC:=hid (HB1.out.trans (hb.mono HB1.out.size))
  have B3:=B1.out.below hb
  clear hb c0 c1
  have c2:=B3.c2
  have c3:=B3.c3
  clear B3
  cases hq : z7 t.text.data.toList
  ·have V:=hid (show o4 t=.nilIface by rw [P.out,if_neg (by rw [G.out,hq]; simp)])
   go_wp2_with fail
   go_ret
   exact ⟨X9 V.out.symm,HC⟩
  ·by_cases h0 : t.n=0
   ·have c2' : w3.cell? ⟨w.heap.size,2,none⟩=some (.int .i64 0):=h0 ▸ c2
    have R : Hid (s5 t=decide ((t.kids.length : Int)≤0)):=by
     show _=_
     rw [G.out,hq,h0]; rfl
    clear c2
    by_cases gk : (0 : Int)<t.kids.length
    ·have V:=hid (show o4 t=.nilIface by rw [P.out,if_neg (by rw [R.out,decide_eq_false (by omega)]; decide)])
     clear h0
     go_wp2_with fail
     go_ret
     exact ⟨X9 V.out.symm,HC⟩
    ·have V:=hid (show o4 t=.iface 150 (.string (⟨#[102,101,101,100,32,34]⟩ ++ t.text ++ ⟨#[34]⟩)) by
      have hp : s5 t=true:=by rw [R.out,decide_eq_true (by omega)]
      rw [P.out,if_pos hp,F.out]
      exact congrArg (fun x => Value.iface 150 (.string x)) (gF (by simp)))
     clear h0
     go_wp2_with fail
     go_ret
     exact ⟨X9 V.out.symm,HC⟩
   ·have V:=hid (show o4 t=.nilIface by rw [P.out,if_neg (by rw [G.out,decide_eq_false h0]; simp)])
    have e0 : (t.n == 0)=false:=by simpa using h0
    clear h0
    go_wp2_with fail
    go_ret
    exact ⟨X9 V.out.symm,HC⟩
 ·have c0:=B1.out.c0
  have V:=hid (show o4 t=.nilIface by rw [P.out,if_neg (by rw [PB.out,decide_eq_false hk]; simp)])
  have k5 : t.kind≠5:=by omega
  have k6 : t.kind≠6:=by omega
  have k7 : t.kind≠7:=by omega
  have k8 : t.kind≠8:=by omega
  have k9 : t.kind≠9:=by omega
  have k10 : t.kind≠10:=by omega
  clear hk
  go_wp2_with fail
  go_ret
  exact ⟨X9 V.out.symm,HB1⟩
end
end Go.Proofs.YtppcfebnaieciaaGreatDoor
