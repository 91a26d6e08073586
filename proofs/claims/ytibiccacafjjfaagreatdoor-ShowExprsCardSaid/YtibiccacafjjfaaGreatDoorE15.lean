/-
  Laws that the proof rests on.
-/
import Derived.Test.YtibiccacafjjfaaGreatDoorE14
import Derived.Outline
import Derived.Test.YtibiccacafjjfaaGreatDoorE13
import Derived.ChangeAt2
import Derived.WideShapes
import Derived.Test.YtibiccacafjjfaaGreatDoorE04
import Derived.Test.YtibiccacafjjfaaGreatDoorE01
import Derived.Test.YtibiccacafjjfaaGreatDoorE06
import Derived.Test.YtibiccacafjjfaaGreatDoorE12
import Derived.RegionTactic
import Derived.ChangeAlike
namespace Go.Proofs.YtibiccacafjjfaaGreatDoor
set_option maxRecDepth 100000
set_option maxHeartbeats 16000000
section
open Lib (hid)
open Go.RowKit Go.Shelf
theorem a3e (t : Nd) : eB t=(t.kind == 1 && p5 t.text.data.toList && t.n == 0 && s8 t && (decide (I6 t.kids≤100) && decide (t.kids.length - I6 t.kids≤200) && (t.kids.drop (I6 t.kids)).all aW)):=rfl
theorem cW {t : Nd} {w w' : World} (h : eB t=false) (hb : Below w.heap.size w w') : (Ending.returned (.tuple #[.string ⟨#[]⟩,.int .i64 90])=.returned (.tuple #[.string ⟨(a3z t).toArray⟩,.int .i64 (rR t)]))∧Below w.heap.size w w':=by
 refine ⟨mS ?_ ?_,hb⟩
 ·unfold a3z; rw [if_neg (by rw [h]; decide)]
 ·unfold rR; rw [if_neg (by rw [h]; decide)]
theorem rP {t : Nd} (hn : p5 t.text.data.toList=true) (hi : I6 t.kids≤100) (k : Nat) (hk : k≤I6 t.kids) : (Y7 t ++ (t.kids.take k).flatMap gA).length≤5000:=by
 have h0:=Q5 hn
 have h1 : ((t.kids.take k).flatMap gA).length≤(t.kids.take k).length * 40:=sR _ fun x hx => by
  obtain ⟨i,hj,rfl⟩:=List.getElem_of_mem hx
  rw [List.length_take] at hj
  rw [List.getElem_take]
  exact nM (jS (by omega) (by omega))
 have h2 : (t.kids.take k).length≤100:=by rw [List.length_take]; omega
 have h4 : (t.kids.take k).length * 40≤100 * 40:=Nat.mul_le_mul_right _ h2
 unfold Y7
 simp only [List.length_append,List.length_cons,List.length_nil]
 omega
theorem tI (t : Nd) (a : Option Addr) (cap n₀ : Nat) (w : World) (hh : t.hold n₀ w a cap) (hs : q9 t) (hn : n₀≤w.heap.size) (he : Env w) (hta : Tab w) :
 Calls Tryz.prog 13 #[.agg #[.int .i64 t.kind,.string t.text,.int .i64 t.n,.slice a t.kids.length cap,.int .i64 t.place]] w fun e w' => e=.returned (.tuple #[.string ⟨(a3z t).toArray⟩,.int .i64 (rR t)])∧Below w.heap.size w w':=by
 have hts:=hh.bounds.2.1
 have hkc:=hh.bounds.2.2.2.2
 have hkl : t.kids.length≤9223372036854775807:=Nat.le_trans hkc.1 hkc.2
 have hcm:=hkc.2
 unfold maxLen at hcm
 have HH:=hid hh
 have HSH:=hid hs
 have HE:=hid he
 have HTA:=hid hta
 have MN:=hid (a3e t)
 have HB:=hid (b9 w (.cells #[.int .i64 t.kind,.string t.text,.int .i64 t.n,.slice a t.kids.length cap,.int .i64 t.place] 24))
 have B0:=hid (Boxed.make w t a cap)
 have C0:=hid (bE t.text _ hts (he.below HB))
 clear hh hs he hta
 cases h1 : t.kind == 1
 ·have F:=hid (show eB t=false by rw [MN.out,h1]; rfl)
  have h1' : (t.kind != 1)=true:=by rw [bne,h1]; rfl
  go_enter Tryz.func13,Tryz.ntmps13
  go_wp2_with fail
  go_ret2
  exact cW F HB
 have h1' : (t.kind != 1)=false:=by rw [bne,h1]; rfl
 go_enter Tryz.func13,Tryz.ntmps13
 go_wp2_with fail
 (with_reducible refine Calls.mono C0.out ?_)
 rintro e w1 ⟨rfl,hb⟩
 have HC1:=hid (HB.out.trans (hb.mono HB.out.size))
 have B1:=hid (B0.out.below hb)
 clear hb HB B0 C0
 have c0:=B1.out.c0
 have c1:=B1.out.c1
 have c2:=B1.out.c2
 have c3:=B1.out.c3
 have c4:=B1.out.c4
 cases h2 : p5 t.text.data.toList
 ·have F:=hid (show eB t=false by rw [MN.out,h1,h2]; rfl)
  go_wp2_with fail
  go_ret2
  exact cW F HC1
 cases h3 : t.n == 0
 ·have F:=hid (show eB t=false by rw [MN.out,h1,h2,h3]; rfl)
  have h3' : (t.n != 0)=true:=by rw [bne,h3]; rfl
  go_wp2_with fail
  go_ret2
  exact cW F HC1
 have h3' : (t.n != 0)=false:=by rw [bne,h3]; rfl
 have CS:=hid (cJ t a cap n₀ w1 (HH.out.below (HC1.out.mono hn)) (Nat.le_trans hn HC1.out.size))
 go_wp2_with fail
 (with_reducible refine Calls.mono CS.out ?_)
 rintro e w2 ⟨rfl,hb⟩
 have HC:=hid (HC1.out.trans (hb.mono HC1.out.size))
 have B2:=hid (B1.out.below hb)
 clear hb HC1 B1 CS c0 c1 c2 c3 c4
 cases h0 : s8 t
 ·have F:=hid (show eB t=false by rw [MN.out,h0]; simp)
  go_wp2_with fail
  go_ret2
  exact cW F HC
 have F:=hid (show eB t=(decide (I6 t.kids≤100) && decide (t.kids.length - I6 t.kids≤200) && (t.kids.drop (I6 t.kids)).all aW) by rw [MN.out,h0,h1,h2,h3]; rfl)
 have HNR:=hid h2
 have HSM:=hid (show ∀ k∈t.kids,s8 k=true from fun k hk => jC h0 hk)
 have hus : t.text.size≤24:=by have:=Q5 h2; rwa [c9] at this
 have hlt2:=B2.out.lt
 have c1:=B2.out.c1
 have c3:=B2.out.c3
 have HB3:=hid (b9 w2 (.cells #[.pointer none,.slice none 0 0] 41))
 have A0:=hid (Aft.start (zA w2))
 go_wp2_with fail
 generalize hW : w2.alloc (.cells #[.pointer none,.slice none 0 0] 41)=W3 at HB3 A0 ⊢
 clear hW c1 c3
 have HM:=hid (show (⟨#[109,111,100,117,108,101,32]⟩ ++ t.text ++ ⟨#[59,10]⟩ : ByteArray).data.toList=Y7 t by unfold Y7; simp)
 have hms : (⟨#[109,111,100,117,108,101,32]⟩ ++ t.text ++ ⟨#[59,10]⟩ : ByteArray).size≤40:=by
  rw [← c9,HM.out]
  unfold Y7
  simp only [List.length_append,List.length_cons,List.length_nil,c9]; omega
 have CW:=hid (m8 w2.heap.size w2.heap.size [] _ W3 A0.out.bld (by simp only [List.length_nil,Nat.zero_add]; exact Nat.le_trans hms (by decide)) HB3.out.size)
 clear hms
 (with_reducible refine Calls.mono CW.out ?_)
 rintro e w4 ⟨rfl,ha⟩
 rw [HM.out,List.nil_append] at ha
 have HA1:=hid ha
 have HD:=hid (HC.out.trans (((HB3.out.trans ha.below)).mono HC.out.size))
 have B4:=hid (B2.out.mono (HB3.out.trans ha.below) hlt2)
 clear ha CW HM A0 h1 h1' h2 h3 h3' h0
 have c3:=B4.out.c3
 have CI:=hid (nQ t.kids n₀ a cap w4 (jN (HH.out.below (HD.out.mono hn))) hkc.1 hkc.2 (Nat.le_trans hn HD.out.size) (HE.out.below HD))
 go_wp2_with fail
 (with_reducible refine Calls.mono CI.out ?_)
 rintro e w5 ⟨rfl,hb⟩
 have HA2:=hid (HA1.out.after HB3.out.size hb)
 have HD5:=hid (HD.out.trans (hb.mono HD.out.size))
 have B5:=hid (B4.out.below hb)
 have hlt5:=B5.out.lt
 clear hb CI c3 HD B4 HA1
 have c3:=B5.out.c3
 have hfn : (L6 2 t.kids=-1∧I6 t.kids=t.kids.length)∨(L6 2 t.kids=(I6 t.kids : Int)∧I6 t.kids<t.kids.length):=by
  have:=tF t.kids
  unfold L6
  split
  ·rename_i h; exact .inl ⟨rfl,h⟩
  ·rename_i h; exact .inr ⟨rfl,by unfold I6 at this ⊢; omega⟩
 rcases hfn with ⟨f1,f2⟩ | ⟨f1,f2⟩
 ·rw [f1]
  rw [f2] at F
  have HF2:=hid f2
  clear f1 f2
  by_cases h100 : 100<(t.kids.length : Int)
  ·have F':=hid (show eB t=false by rw [F.out,decide_eq_false (show ¬ t.kids.length≤100 by omega)]; rfl)
   go_wp2_with fail
   go_ret2
   exact cW F' HD5
  have HIL:=hid (show I6 t.kids≤100 by rw [HF2.out]; omega)
  have F':=hid (show eB t=true by rw [F.out,decide_eq_true (show t.kids.length≤100 by omega),Nat.sub_self,List.drop_length]; rfl)
  go_wp2_with fail
  clear c3
  go_loopw [57] (fun i wr => ∃ k : Nat,k≤t.kids.length∧i=.int .i64 k∧Hid (Aft w2.heap.size w2.heap.size (Y7 t ++ (t.kids.take k).flatMap gA) W3 wr)) (fun i _ => t.kids.length - (intOf i).toNat)
  case atStart => exact ⟨0,Nat.zero_le _,rfl,by show Aft _ _ _ _ _; rw [List.take_zero,List.flatMap_nil,List.append_nil]; exact HA2⟩
  case round =>
   obtain ⟨k,hk,rfl,HAr⟩:=hrel
   clear HA2 HD5
   have HBw:=hid (HC.out.trans ((HB3.out.trans HAr.out.below).mono HC.out.size))
   have BX:=hid (B2.out.mono (HB3.out.trans HAr.out.below) hlt2)
   by_cases hlt : k<t.kids.length
   ·have hbare:=jS (show k<I6 t.kids by rw [HF2.out]; exact hlt) (by omega)
    obtain ⟨b,off,y,cy,A⟩:=(HH.out.below (HBw.out.mono hn)).kid k (by omega)
    obtain ⟨rfl,hb0,d0,d1,d2,d3,d4,hk1⟩:=A
    have S:=hid (jQ (f:=gA) t.kids k (by omega))
    have hks : t.kids[k].text.size≤24:=by have:=Q5 (dH hbare).1; rwa [c9] at this
    have HI:=hid (show (⟨#[105,109,112,111,114,116,32]⟩ ++ t.kids[k].text ++ ⟨#[59,10]⟩ : ByteArray).data.toList=gA t.kids[k] by unfold gA; simp)
    have his : (⟨#[105,109,112,111,114,116,32]⟩ ++ t.kids[k].text ++ ⟨#[59,10]⟩ : ByteArray).size≤40:=by
     rw [← c9,HI.out]; exact nM hbare
    have hml:=rP HNR HIL k (by rw [HF2.out]; omega)
    have A1:=hid (HAr.out.after HB3.out.size (b9 wr (.cells #[.int .i64 t.kids[k].kind,.string t.kids[k].text,.int .i64 t.kids[k].n,.slice y t.kids[k].kids.length cy,.int .i64 t.kids[k].place] 24)))
    have CW:=hid (m8 w2.heap.size w2.heap.size _ (⟨#[105,109,112,111,114,116,32]⟩ ++ t.kids[k].text ++ ⟨#[59,10]⟩ : ByteArray) _ A1.out.bld (by omega) (A1.out.size HB3.out.size))
    clear hbare hk1 his hml
    go_wp2_with fail
    (with_reducible refine Calls.mono CW.out ?_)
    rintro e w6 ⟨rfl,ha⟩
    rw [HI.out,List.append_assoc,← S.out] at ha
    have A2:=hid (A1.out.trans ha)
    clear ha
    go_wp2_with fail
    go_roundw
    case rel => exact ⟨k + 1,by omega,by go_num,A2⟩
    case measure => simp [intOf]; omega
   ·have hkz : k=t.kids.length:=by omega
    subst hkz
    have c3:=BX.out.c3
    go_wp2_with fail
    all_goals
     have HAz:=HAr
     clear HAr BX c3
     generalize wr=wo at HAz HBw ⊢
     go_loopw [72] (fun i x => i=.int .i64 0∧Hid (Aft w2.heap.size w2.heap.size (Y7 t ++ (t.kids.take t.kids.length).flatMap gA) W3 x)) (fun _ _ => 0)
     case atStart => exact ⟨rfl,HAz⟩
     case round =>
      obtain ⟨rfl,HAy⟩:=hrel
      clear HAz HBw
      have CB:=hid (eV w2.heap.size w2.heap.size _ wr HAy.out.bld (HAy.out.size HB3.out.size))
      go_wp2_with fail
      (with_reducible refine Calls.mono CB.out ?_)
      rintro e w6 ⟨rfl,-,hb6,-⟩
      have HE6:=hid (HC.out.trans ((HB3.out.trans (HAy.out.below.trans hb6)).mono HC.out.size))
      clear hb6
      go_wp2_with fail
      go_ret2
      exact ⟨mS (by unfold a3z; rw [if_pos F'.out]; unfold a5a; rw [HF2.out,List.drop_length,List.flatMap_nil,List.append_nil,List.take_length]) (by unfold rR; rw [if_pos F'.out]),HE6⟩
 ·rw [f1]
  have hL:=tF t.kids
  have HF1:=hid (show L6 2 t.kids=(I6 t.kids : Int) from f1)
  obtain ⟨L,hLe⟩ : ∃ L,L=I6 t.kids:=⟨_,rfl⟩
  rw [← hLe] at F f2 ⊢
  have HF2:=hid hLe.symm
  clear f1 hL hLe HF1
  by_cases h100 : 100<(L : Int)
  ·have F':=hid (show eB t=false by rw [F.out,decide_eq_false (show ¬ L≤100 by omega)]; rfl)
   go_wp2_with fail
   go_ret2
   exact cW F' HD5
  by_cases h200 : 200<(t.kids.length : Int) - L
  ·have F':=hid (show eB t=false by rw [F.out,decide_eq_false (show ¬ t.kids.length - L≤200 by omega)]; simp)
   go_wp2_with fail
   go_ret2
   exact cW F' HD5
  have HIL:=hid (show I6 t.kids≤100 by rw [HF2.out]; omega)
  have F':=hid (show eB t=(t.kids.drop L).all aW by rw [F.out,decide_eq_true (show L≤100 by omega),decide_eq_true (show t.kids.length - L≤200 by omega)]; rfl)
  have hLc : L<cap:=by omega
  go_wp2_with fail
  clear c3
  go_loopw [57] (fun i wr => ∃ k : Nat,k≤L∧i=.int .i64 k∧Hid (Aft w2.heap.size w2.heap.size (Y7 t ++ (t.kids.take k).flatMap gA) W3 wr)) (fun i _ => L - (intOf i).toNat)
  case atStart => exact ⟨0,Nat.zero_le _,rfl,by show Aft _ _ _ _ _; rw [List.take_zero,List.flatMap_nil,List.append_nil]; exact HA2⟩
  case round =>
   obtain ⟨k,hk,rfl,HAr⟩:=hrel
   clear HA2 HD5
   have HBw:=hid (HC.out.trans ((HB3.out.trans HAr.out.below).mono HC.out.size))
   have BX:=hid (B2.out.mono (HB3.out.trans HAr.out.below) hlt2)
   by_cases hlt : k<L
   ·have hbare:=jS (show k<I6 t.kids by rw [HF2.out]; exact hlt) (by omega)
    obtain ⟨b,off,y,cy,A⟩:=(HH.out.below (HBw.out.mono hn)).kid k (by omega)
    obtain ⟨rfl,hb0,d0,d1,d2,d3,d4,hk1⟩:=A
    have S:=hid (jQ (f:=gA) t.kids k (by omega))
    have hks : t.kids[k].text.size≤24:=by have:=Q5 (dH hbare).1; rwa [c9] at this
    have HI:=hid (show (⟨#[105,109,112,111,114,116,32]⟩ ++ t.kids[k].text ++ ⟨#[59,10]⟩ : ByteArray).data.toList=gA t.kids[k] by unfold gA; simp)
    have his : (⟨#[105,109,112,111,114,116,32]⟩ ++ t.kids[k].text ++ ⟨#[59,10]⟩ : ByteArray).size≤40:=by
     rw [← c9,HI.out]; exact nM hbare
    have hml:=rP HNR HIL k (by rw [HF2.out]; omega)
    have A1:=hid (HAr.out.after HB3.out.size (b9 wr (.cells #[.int .i64 t.kids[k].kind,.string t.kids[k].text,.int .i64 t.kids[k].n,.slice y t.kids[k].kids.length cy,.int .i64 t.kids[k].place] 24)))
    have CW:=hid (m8 w2.heap.size w2.heap.size _ (⟨#[105,109,112,111,114,116,32]⟩ ++ t.kids[k].text ++ ⟨#[59,10]⟩ : ByteArray) _ A1.out.bld (by omega) (A1.out.size HB3.out.size))
    clear hbare hk1 his hml
    go_wp2_with fail
    (with_reducible refine Calls.mono CW.out ?_)
    rintro e w6 ⟨rfl,ha⟩
    rw [HI.out,List.append_assoc,← S.out] at ha
    have A2:=hid (A1.out.trans ha)
    clear ha
    go_wp2_with fail
    go_roundw
    case rel => exact ⟨k + 1,by omega,by go_num,A2⟩
    case measure => simp [intOf]; omega
   ·have hkz : k=L:=by omega
    subst hkz
    obtain ⟨b,off,y0,cy0,A⟩:=(HH.out.below (HBw.out.mono hn)).kid k f2
    obtain ⟨rfl,hb0,-,-,-,-,-,-⟩:=A
    obtain ⟨m,hm⟩ : ∃ m,t.kids.length=k + m:=⟨t.kids.length - k,by omega⟩
    have c3:=BX.out.c3
    have HZ:=hid hm
    have hm2 : m≤200:=by omega
    clear hm
    go_wp2_with fail
    rw [show t.kids.length - k=m by have:=HZ.out; omega]
    have hml:=rP HNR HIL k (by rw [HF2.out]; omega)
    have HAz:=HAr
    clear HAr BX c3 B5 F h100 h200 hlt hlt5
    generalize wr=wo at HAz HBw ⊢
    go_loopw [72] (fun i x => ∃ j : Nat,j≤m∧i=.int .i64 j∧Hid (Aft w2.heap.size w2.heap.size (Y7 t ++ (t.kids.take k).flatMap gA ++ ((t.kids.drop k).take j).flatMap gB) W3 x)∧Hid (∀ i (hi : i<t.kids.length),k≤i→i<k + j→aW t.kids[i]=true)∧(((t.kids.drop k).take j).flatMap gB).length≤j * 1100000) (fun i _ => m - (intOf i).toNat)
    case atStart => exact ⟨0,Nat.zero_le _,rfl,by show Aft _ _ _ _ _; rw [List.take_zero,List.flatMap_nil,List.append_nil]; exact HAz,fun i hi h h' => by omega,by simp⟩
    case round =>
     obtain ⟨j,hj,rfl,HAy,HAll,hjl⟩:=hrel
     clear HAz HBw
     have HBw:=hid (HC.out.trans ((HB3.out.trans HAy.out.below).mono HC.out.size))
     by_cases hlt : j<m
     ·have hkj : k + j<t.kids.length:=by have:=HZ.out; omega
      obtain ⟨b',off',y,cy,A⟩:=(HH.out.below (HBw.out.mono hn)).kid (k + j) hkj
      obtain ⟨hA,hb0',d0,d1,d2,d3,d4,hk1⟩:=A
      obtain ⟨rfl,rfl⟩ : b=b'∧off=off':=by injection hA with q; injection q with q1 q2; exact ⟨q1,q2⟩
      have eadd : off + (k + j) * 5=off + k * 5 + j * 5:=by omega
      rw [eadd] at d0 d1 d2 d3 d4
      have S:=hid (show ((t.kids.drop k).take (j + 1)).flatMap gB=((t.kids.drop k).take j).flatMap gB ++ gB t.kids[k + j] by
       have:=jQ (f:=gB) (t.kids.drop k) j (by rw [List.length_drop]; omega)
       rwa [List.getElem_drop] at this)
      have hsk:=HSM.out _ (List.getElem_mem hkj)
      have hb1:=b9 wr (.cells #[.int .i64 t.kids[k + j].kind,.string t.kids[k + j].text,.int .i64 t.kids[k + j].n,.slice y t.kids[k + j].kids.length cy,.int .i64 t.kids[k + j].place] 24)
      have A1:=hid (HAy.out.after HB3.out.size hb1)
      have hBx : w2.heap.size≤wr.heap.size:=HAy.out.size HB3.out.size
      have HB1:=hid (HBw.out.trans (hb1.mono HBw.out.size))
      have hll : (Y7 t ++ (t.kids.take k).flatMap gA ++ ((t.kids.drop k).take j).flatMap gB).length≤1000000000:=by
       rw [List.length_append]; omega
      have CL:=hid (a3v t.kids[k + j] y cy n₀ w2.heap.size w2.heap.size _ _ (hk1.below (hb1.mono (Nat.le_trans hn HBw.out.size))) (HSH.out.kid (k + j) hkj) (Nat.le_trans hn HC.out.size) (A1.out.size HB3.out.size) (HE.out.below HB1) (HTA.out.below HB1) A1.out.bld (fun u hu => jC hsk hu) hll)
      have HLL:=hid (show aW t.kids[k + j]=true→(gB t.kids[k + j]).length≤1100000 from fun h => a2C h (jC hsk (uN (a0T h).2.1)))
      clear hk1 hA hsk hb1 hll eadd
      go_wp2_with fail
      (with_reducible refine Calls.mono CL.out ?_)
      rintro e w6 ⟨rfl,ha⟩
      have HA6:=hid ha
      clear ha CL
      cases hlet : aW t.kids[k + j]
      ·have F2:=hid (show eB t=false by rw [F'.out,a38 (tG hkj (Nat.le_add_right _ _)) hlet])
       have HE6:=hid (HC.out.trans ((HB3.out.trans (A1.out.below.trans HA6.out.below)).mono HC.out.size))
       clear hlet
       go_wp2_with fail
       go_ret2
       exact cW F2 HE6
      ·have HLT:=hid hlet
       have hl2:=HLL.out hlet
       rw [if_pos hlet,List.append_assoc,← S.out] at HA6
       have A2:=hid (A1.out.trans HA6)
       have hjl2 : (((t.kids.drop k).take (j + 1)).flatMap gB).length≤(j + 1) * 1100000:=by
        rw [S.out,List.length_append]; omega
       clear hlet hl2
       go_wp2_with fail
       go_roundw
       case rel =>
        refine ⟨j + 1,by omega,by go_num,A2,fun i hi h h' => ?_,hjl2⟩
        by_cases e : i=k + j
        ·subst e; exact HLT
        ·exact HAll.out i hi h (by omega)
       case measure => simp [intOf]; omega
     ·have F2:=hid (show eB t=true by rw [F'.out,a1U fun i hi h => HAll.out i hi h (by have:=HZ.out; omega)])
      have CB:=hid (eV w2.heap.size w2.heap.size _ wr HAy.out.bld (HAy.out.size HB3.out.size))
      have T:=hid (show (t.kids.drop k).take j=t.kids.drop k from List.take_of_length_le (by rw [List.length_drop,HZ.out]; omega))
      go_wp2_with fail
      (with_reducible refine Calls.mono CB.out ?_)
      rintro e w6 ⟨rfl,-,hb6,-⟩
      have HE6:=hid (HC.out.trans ((HB3.out.trans (HAy.out.below.trans hb6)).mono HC.out.size))
      clear hb6
      go_wp2_with fail
      go_ret2
      exact ⟨mS (by unfold a3z; rw [if_pos F2.out,T.out]; unfold a5a; rw [HF2.out]; simp only [List.append_assoc]) (by unfold rR; rw [if_pos F2.out]),HE6⟩
theorem vP (t : Nd) (a : Option Addr) (cap n₀ : Nat) (w : World) (hh : t.hold n₀ w a cap) (hs : q9 t) (hn : n₀≤w.heap.size) (he : Env w) (hta : Tab w) :
 Calls Tryz.prog 15 #[.agg #[.int .i64 t.kind,.string t.text,.int .i64 t.n,.slice a t.kids.length cap,.int .i64 t.place]] w fun e w' => e=.returned (.bool (eB t))∧Below w.heap.size w w':=by
 have HB:=hid (b9 w (.cells #[.int .i64 t.kind,.string t.text,.int .i64 t.n,.slice a t.kids.length cap,.int .i64 t.place] 24))
 have C:=hid (tI t a cap n₀ _ (hh.below (HB.out.mono hn)) hs (Nat.le_trans hn HB.out.size) (he.below HB) (hta.below HB))
 clear hh hs he hta
 cases hm : eB t
 ·have HM:=hid hm
  have e0 : rR t=90:=by unfold rR; rw [if_neg (by rw [hm]; decide)]
  rw [e0] at C
  clear hm e0
  go_enter Tryz.func15,Tryz.ntmps15
  go_wp2_with fail
  (with_reducible refine Calls.mono C.out ?_)
  rintro e w2 ⟨rfl,hb⟩
  have HC:=hid (HB.out.trans (hb.mono HB.out.size))
  clear hb
  go_wp2_with fail
  go_ret
  exact ⟨rfl,HC⟩
 ·have HM:=hid hm
  have e0 : rR t=0:=by unfold rR; rw [if_pos hm]
  rw [e0] at C
  clear hm e0
  go_enter Tryz.func15,Tryz.ntmps15
  go_wp2_with fail
  (with_reducible refine Calls.mono C.out ?_)
  rintro e w2 ⟨rfl,hb⟩
  have HC:=hid (HB.out.trans (hb.mono HB.out.size))
  clear hb
  go_wp2_with fail
  go_ret
  exact ⟨rfl,HC⟩
end
section
open Go.ChangeShapes Go.WideShapes Go.ChangeAt Go.RowKit
theorem kM {H : Type} {P : Program} {e : TypeId} {p : Nat→Bool} : ∀ (l : List (DataW H)),(DataW.weightsAll P e l).all p=true→∀ d : DataW H,d∈l→(d.weights P e).all p=true
 | [],_,d,hd => by cases hd
 | a :: l,h,d,hd => by
   rw [DataW.weightsAll,List.all_append,Bool.and_eq_true] at h
   rcases List.mem_cons.1 hd with rfl | hd
   ·exact h.1
   ·exact kM l h.2 d hd
theorem bS {H : Type} {P : Program} {p : Nat→Bool} : ∀ (ts : List TypeId) (ds : List (DataW H)),(DataW.weightsEach P ts ds).all p=true→∀ (j : Nat) (t : TypeId) (d : DataW H),ts[j]?=some t→ds[j]?=some d→(d.weights P t).all p=true
 | [],_,_,j,t,d,ht,_ => by cases ht
 | _ :: _,[],_,j,t,d,_,hd => by cases hd
 | u :: ts,x :: ds,h,j,t,d,ht,hd => by
   rw [DataW.weightsEach,List.all_append,Bool.and_eq_true] at h
   cases j with
   | zero => cases ht; cases hd; exact h.1
   | succ j => exact bS ts ds h.2 j t d (by simpa using ht) (by simpa using hd)
theorem nZ : ∀ (ks : List Nd),(∀ j (hj : j<ks.length),q9 ks[j])→aX ks
 | [],_ => trivial
 | k :: ks,h => ⟨h 0 (by simp),nZ ks fun j hj => h (j + 1) (by simpa using hj)⟩
theorem yE {H : Type} {enc : TypeId × Value→H} {W : World} {sp : Nat→Bool} {held : Bool} : ∀ (fuel : Nat) (cs : List Value) (x : DataW H × List MemPlace),
 DataW.trod enc Tryz.prog W 0 sp held fuel 24 cs=some x→(x.1.weights Tryz.prog 24).all (· ≤ reachBytes)=true→∃ (t : Nd) (a : Option Addr) (cap : Nat),cs=[.int .i64 t.kind,.string t.text,.int .i64 t.n,.slice a t.kids.length cap,.int .i64 t.place]∧t.hold W.heap.size W a cap∧q9 t:=by
 intro fuel
 induction fuel using Nat.strongRecOn with
 | ind fuel ih =>
   intro cs x h hwt
   obtain ⟨xs,m,rfl,ex,hlen,hxs,hf⟩:=DataW.trod_struct Tryz.underlying24 h
   rw [a4W] at hlen
   obtain ⟨v0,v1,v2,v3,v4,rfl⟩:=a4Q hlen
   obtain ⟨x0,x1,x2,x3,x4,rfl⟩:=a4Q (show xs.length=5 from hxs)
   have f0:=hf 0 ⟨"Kind",3,0,false,"","",0⟩ rfl
   have f1:=hf 1 ⟨"Text",9,1,false,"","",8⟩ rfl
   have f2:=hf 2 ⟨"N",2,2,false,"","",24⟩ rfl
   have f3:=hf 3 ⟨"Kids",22,3,false,"","",32⟩ rfl
   have f4:=hf 4 ⟨"At",3,4,false,"","",56⟩ rfl
   simp only [a5L,a3Y,a2i,a5d,List.drop_zero,List.drop_succ_cons,List.take_succ_cons,List.take_zero,List.getElem?_cons_zero,List.getElem?_cons_succ] at f0 f1 f2 f3 f4
   obtain ⟨kind,e0,-,w0⟩:=DataW.trod_int Tryz.underlying3 f0
   obtain ⟨s,e1,y1,w1⟩:=DataW.trod_string Tryz.underlying9 f1
   obtain ⟨n,e2,-,w2⟩:=DataW.trod_int Tryz.underlying2 f2
   obtain ⟨p,e4,-,w4⟩:=DataW.trod_int Tryz.underlying3 f4
   obtain rfl : v0=.int .i64 kind:=by simpa using e0
   obtain rfl : v1=.string s:=by simpa using e1
   obtain rfl : v2=.int .i64 n:=by simpa using e2
   obtain rfl : v4=.int .i64 p:=by simpa using e4
   have hwe : (DataW.weightsEach Tryz.prog [3,9,2,22,3] [x0.1,x1.1,x2.1,x3.1,x4.1]).all (· ≤ reachBytes)=true:=by
    rw [ex] at hwt
    simp only [DataW.weights,Tryz.underlying24] at hwt
    exact hwt
   have hs:=bS _ _ hwe 1 9 x1.1 rfl rfl
   rw [y1,DataW.weights,List.all_cons,Bool.and_eq_true,decide_eq_true_eq] at hs
   have hshort : s.size≤140737488355328:=by
    have h1 : s.data.toList.length=s.size:=Array.length_toList
    have h2:=hs.1
    unfold reachBytes at h2
    omega
   have hk3:=bS _ _ hwe 3 22 x3.1 rfl rfl
   rcases DataW.trod_slice Tryz.underlying22 f3 with ⟨e3,-⟩ | ⟨a,len,cap,elems,rest,k,rfl,e3,y3,-,hlc,hcm,hel,hat,-,-⟩
   ·obtain rfl : v3=.slice none 0 0:=by simpa using e3
    exact ⟨.mk kind s n [] p,none,0,rfl,⟨w0,w1,w2,w4,Nat.le_refl _,Nat.zero_le _,trivial⟩,hshort,trivial⟩
   ·obtain rfl : v3=.slice (some a) len cap:=by simpa using e3
    rw [y3] at hk3
    simp only [DataW.weights,Tryz.underlying22,List.all_cons,List.all_append,Bool.and_eq_true] at hk3
    have hall:=kM _ hk3.2.1
    have hk : ∀ i,i<len→∃ (t : Nd) (a' : Option Addr) (cap' : Nat),W.cell? ((a.add (i * 5)).add 0)=some (.int .i64 t.kind)∧W.cell? ((a.add (i * 5)).add 1)=some (.string t.text)∧W.cell? ((a.add (i * 5)).add 2)=some (.int .i64 t.n) ∧
     W.cell? ((a.add (i * 5)).add 3)=some (.slice a' t.kids.length cap')∧W.cell? ((a.add (i * 5)).add 4)=some (.int .i64 t.place)∧t.hold W.heap.size W a' cap'∧q9 t:=fun i hi => by
     have he:=hat i hi
     have hi' : i<elems.length:=by omega
     rw [List.getElem?_eq_getElem hi',a4W] at he
     obtain ⟨cs',hc,ht⟩:=Option.bind_eq_some_iff.1 he
     obtain ⟨t,a',cap',rfl,hh,hsh⟩:=ih k (by omega) cs' _ ht (hall _ (List.mem_map_of_mem (List.getElem_mem hi')))
     obtain ⟨-,-,hcell⟩:=World.cells?_some hc
     exact ⟨t,a',cap',hcell 0 (by omega),hcell 1 (by omega),hcell 2 (by omega),hcell 3 (by omega),hcell 4 (by omega),hh,hsh⟩
    by_cases hz : len=0
    ·subst hz
     exact ⟨.mk kind s n [] p,some a,cap,rfl,⟨w0,w1,w2,w4,Nat.zero_le _,hcm,trivial⟩,hshort,trivial⟩
    obtain ⟨b,off,spot⟩:=a
    have hspot : spot=none:=by
     obtain ⟨t,a',cap',q0,-⟩:=hk 0 (by omega)
     rw [Nat.zero_mul] at q0
     simpa [Addr.add] using World.cell?_spot q0
    subst hspot
    have hk' : ∀ i,i<len→∃ t : Nd,(∃ b' off' a' cap',Nd.At W.heap.size W (some ⟨b,off,none⟩) i t b' off' a' cap')∧q9 t:=fun i hi => by
     obtain ⟨t,a',cap',q0,q1,q2,q3,q4,hh,hsh⟩:=hk i hi
     rw [Go.WideShapes.add_plain,Go.WideShapes.add_plain] at q0 q1 q2 q3 q4
     rw [Nat.add_zero] at q0
     have lt : b<W.heap.size:=by
      rcases Nat.lt_or_ge b W.heap.size with g | g
      ·exact g
      ·have : W.heap[b]?=none:=Array.getElem?_eq_none g
       simp [World.cell?,this] at q0
     exact ⟨t,⟨b,off,a',cap',rfl,lt,q0,q1,q2,q3,q4,hh⟩,hsh⟩
    obtain ⟨l,hl,hr⟩:=vD len hk'
    subst hl
    refine ⟨.mk kind s n l p,some ⟨b,off,none⟩,cap,rfl,⟨w0,w1,w2,w4,hlc,hcm,Nd.holds.of l 0 fun j hj => ?_⟩,hshort,nZ l fun j hj => (hr j hj).2⟩
    rw [Nat.zero_add]
    exact (hr j hj).1
theorem a0x {H : Type} {enc : TypeId × Value→H} {W : World} {sp : Nat→Bool} {held : Bool} {r : Reach} {b : Nat} {v : Value} {d : DataW H} {p : List MemPlace}
 (hv : Value.okWide Tryz.prog W r b 24 v) (h : DataW.Trod enc Tryz.prog W 0 sp held 24 v d p) (hw : (d.weights Tryz.prog 24).all (· ≤ reachBytes)=true) :
 ∃ (t : Nd) (a : Option Addr) (cap : Nat),v=.agg #[.int .i64 t.kind,.string t.text,.int .i64 t.n,.slice a t.kids.length cap,.int .i64 t.place]∧t.hold W.heap.size W a cap∧q9 t:=by
 obtain ⟨cs,rfl,-⟩:=okWide_struct Tryz.underlying24 hv
 obtain ⟨fuel,hf⟩:=h
 obtain ⟨t,a,cap,e,hh,hs⟩:=yE fuel _ _ hf hw
 refine ⟨t,a,cap,?_,hh,hs⟩
 have : cs.toList=[.int .i64 t.kind,.string t.text,.int .i64 t.n,.slice a t.kids.length cap,.int .i64 t.place]:=e
 rw [← this]
theorem a1N {W : World} (h : W.ShapedOpen Tryz.prog) : Env W :=
 Go.Proofs.cell_of_shapedOpen_int (zero:=#[.int .i64 0]) (t:=3) (g:=1) h (of_decide_eq_true (by kernel_rfl)) (by kernel_rfl) rfl (by kernel_rfl) (by kernel_rfl) Tryz.underlying3
end
section
open Go.ChangeShapes Go.WideShapes Go.ChangeAt Go.RowKit
theorem a5T : Tryz.prog.globalNamed "internal/strconv.uint64pow10"=some 3:=by kernel_rfl
theorem a2Y : (Tryz.prog.globals[3]?).map (·.type)=some 218:=by kernel_rfl
theorem a5C : Tryz.prog.underlying 218=some (.array 20 140):=by kernel_rfl
theorem a5X : Tryz.prog.underlying 140=some (.int .u64):=by kernel_rfl
theorem a5R : Tryz.prog.cellsOf 140=1:=by kernel_rfl
theorem a5F : Tryz.prog.cellsOf 218=20:=by kernel_rfl
end
section
open Lib (hid)
open Go.RowKit
structure PS (P g cap : Nat) (ts : List Tk) (a : Nat) (n c f : Int) (W : World) : Prop where
 at' : W.heap[P]?=some (.cells #[.slice (some ⟨g,0,none⟩) ts.length cap,.int .i64 a,.int .i64 n,.int .i64 c,.int .i64 f] 95 (0,0))
 toks : rQ W g 0 ts
 ne : g≠P
 lt : g<W.heap.size
 le : ts.length≤cap
 max : cap≤maxLen
 pos : a<ts.length
theorem a2l {W : World} {P : Nat} {x0 x1 x2 x3 x4 : Value} {T : TypeId} (h : W.heap[P]?=some (.cells #[x0,x1,x2,x3,x4] T (0,0))) : (W.cell? ⟨P,0,none⟩=some x0∧W.cell? ⟨P,1,none⟩=some x1∧W.cell? ⟨P,2,none⟩=some x2∧W.cell? ⟨P,3,none⟩=some x3∧W.cell? ⟨P,4,none⟩=some x4) ∧
 (W.frozen? ⟨P,0,none⟩=false∧W.frozen? ⟨P,1,none⟩=false∧W.frozen? ⟨P,2,none⟩=false∧W.frozen? ⟨P,3,none⟩=false∧W.frozen? ⟨P,4,none⟩=false):=by
 refine ⟨⟨?_,?_,?_,?_,?_⟩,?_,?_,?_,?_,?_⟩ <;> simp [World.cell?,World.frozen?,h]
section
variable {P g cap : Nat} {ts : List Tk} {a : Nat} {n c f : Int} {W W' : World}
theorem PS.cells (h : PS P g cap ts a n c f W) : (W.cell? ⟨P,0,none⟩=some (.slice (some ⟨g,0,none⟩) ts.length cap)∧W.cell? ⟨P,1,none⟩=some (.int .i64 a)∧W.cell? ⟨P,2,none⟩=some (.int .i64 n)∧W.cell? ⟨P,3,none⟩=some (.int .i64 c)∧W.cell? ⟨P,4,none⟩=some (.int .i64 f)) ∧
 (W.frozen? ⟨P,0,none⟩=false∧W.frozen? ⟨P,1,none⟩=false∧W.frozen? ⟨P,2,none⟩=false∧W.frozen? ⟨P,3,none⟩=false∧W.frozen? ⟨P,4,none⟩=false):=a2l h.at'
theorem PS.plt (h : PS P g cap ts a n c f W) : P<W.heap.size:=(Array.getElem?_eq_some_iff.1 h.at').1
theorem PS.below (h : PS P g cap ts a n c f W) (hb : Below W.heap.size W W') : PS P g cap ts a n c f W' :=
 ⟨(hb.block P h.plt).trans h.at',h.toks.below hb h.lt,h.ne,Nat.lt_of_lt_of_le h.lt hb.size,h.le,h.max,h.pos⟩
theorem PS.tok (h : PS P g cap ts a n c f W) : W.cell? ⟨g,a * 4,none⟩=some (.int .i64 (ts[a]'h.pos).kind)∧W.cell? ⟨g,a * 4 + 1,none⟩=some (.string ⟨(ts[a]'h.pos).text.toArray⟩)∧W.cell? ⟨g,a * 4 + 2,none⟩=some (.int .i64 (ts[a]'h.pos).n)∧W.cell? ⟨g,a * 4 + 3,none⟩=some (.int .i64 (ts[a]'h.pos).pos):=by
 have:=h.toks a h.pos
 rw [Nat.zero_add] at this
 exact this
theorem PS.kept (h : PS P g cap ts a n c f W) (i : Nat) (v : Value) {a' : Nat} {n' c' f' : Int} (hp : a'<ts.length) (hat : (W.setCell ⟨P,i,none⟩ v).heap[P]?=some (.cells #[.slice (some ⟨g,0,none⟩) ts.length cap,.int .i64 a',.int .i64 n',.int .i64 c',.int .i64 f'] 95 (0,0))) :
 PS P g cap ts a' n' c' f' (W.setCell ⟨P,i,none⟩ v):=by
 refine ⟨hat,fun j hj => ?_,h.ne,by simp [World.setCell]; exact h.lt,h.le,h.max,hp⟩
 have q : ∀ o,(W.setCell ⟨P,i,none⟩ v).cell? ⟨g,o,none⟩=W.cell? ⟨g,o,none⟩:=fun o => World.cell?_of_block (Below.heap_setCell _ _ _ _ (fun e => h.ne (by simp at e; exact e)))
 obtain ⟨h0,h1,h2,h3⟩:=h.toks j hj
 exact ⟨(q _).trans h0,(q _).trans h1,(q _).trans h2,(q _).trans h3⟩
theorem PS.set_at (h : PS P g cap ts a n c f W) {a' : Nat} (hp : a'<ts.length) : PS P g cap ts a' n c f (W.setCell ⟨P,1,none⟩ (.int .i64 a')) :=
 h.kept 1 _ hp (by simp [World.setCell,Array.getElem?_modify,h.at'])
theorem PS.set_nest (h : PS P g cap ts a n c f W) (n' : Int) : PS P g cap ts a n' c f (W.setCell ⟨P,2,none⟩ (.int .i64 n')) :=
 h.kept 2 _ h.pos (by simp [World.setCell,Array.getElem?_modify,h.at'])
theorem PS.set_bad (h : PS P g cap ts a n c f W) (c' f' : Int) : PS P g cap ts a n c' f' ((W.setCell ⟨P,3,none⟩ (.int .i64 c')).setCell ⟨P,4,none⟩ (.int .i64 f')) :=
 (h.kept (n':=n) (c':=c') (f':=f) 3 (.int .i64 c') h.pos (by simp [World.setCell,Array.getElem?_modify,h.at'])).kept 4 _ h.pos (by simp [World.setCell,Array.getElem?_modify,h.at'])
end
theorem j8 (W : World) (P i : Nat) (v : Value) : W.grownBy (W.setCell ⟨P,i,none⟩ v) (some P) :=
 ⟨rfl,rfl,rfl,by simp [World.setCell],fun k _ hk => Below.heap_setCell _ _ _ _ (fun e => hk (by simpa using e))⟩
theorem b8 {W W' : World} {r : Option Nat} (h : Below W.heap.size W W') : W.grownBy W' r:=⟨h.os,h.tape,h.output,h.size,fun k hk _ => h.block k hk⟩
theorem b6 {A B C : World} {r : Option Nat} (h : A.grownBy B r) (k : B.grownBy C r) : A.grownBy C r :=
 ⟨k.os.trans h.os,k.tape.trans h.tape,k.output.trans h.output,Nat.le_trans h.size k.size,fun i hi hr => (k.block i (Nat.lt_of_lt_of_le hi h.size) hr).trans (h.block i hi hr)⟩
theorem d9 {A B C : World} {r : Option Nat} (h : A.grownBy B r) (k : Below A.heap.size B C) : A.grownBy C r :=
 ⟨k.os.trans h.os,k.tape.trans h.tape,k.output.trans h.output,Nat.le_trans h.size k.size,fun i hi hr => (k.block i hi).trans (h.block i hi hr)⟩
theorem PS.later {P g cap : Nat} {ts : List Tk} {a : Nat} {n c f : Int} {B : Nat} {W W' : World} (h : PS P g cap ts a n c f W) (hb : Below B W W') (hp : P<B) (hg : g<B) : PS P g cap ts a n c f W' :=
 ⟨(hb.block P hp).trans h.at',h.toks.below hb hg,h.ne,Nat.lt_of_lt_of_le h.lt hb.size,h.le,h.max,h.pos⟩
theorem F4 {B : Nat} {w w' : World} (h : Below B w w') : Below B w w'.drew:=⟨h.os,h.tape,h.output,h.size,h.block⟩
theorem L9 {ts : List Tk} {a : Nat} (h : a<ts.length) : hd (ts.drop a)=ts[a]:=by
 unfold hd
 rw [List.drop_eq_getElem_cons h]; rfl
theorem aS (P g cap : Nat) (ts : List Tk) (a : Nat) (n c f : Int) (w : World) (h : PS P g cap ts a n c f w) :
 Calls Tryz.prog 70 #[.pointer (some ⟨P,0,none⟩)] w fun e w' => e=.returned (tkV (ts[a]'h.pos))∧Below w.heap.size w w':=by
 have hpos:=h.pos
 have hmx:=h.max
 have hle:=h.le
 unfold maxLen at hmx
 obtain ⟨W,hW⟩ : ∃ W,W=w.alloc (.cells #[.int .i64 0,.string ⟨#[]⟩,.int .i64 0,.int .i64 0] 67):=⟨_,rfl⟩
 have HB:=hid (show Below w.heap.size w W from hW ▸ b9 _ _)
 have Z0:=(show cN w.heap.size W from hW ▸ cN.make w).cells
 have h':=hid (h.below HB)
 obtain ⟨⟨p0,p1,p2,p3,p4⟩,-⟩:=h'.out.cells
 obtain ⟨t0,t1,t2,t3⟩:=h'.out.tok
 obtain ⟨c0,c1,c2,c3,f0,f1,f2,f3⟩:=Z0
 generalize hT : ts[a]'hpos=T at t0 t1 t2 t3 ⊢
 clear hT
 go_enter Tryz.func70,Tryz.ntmps70
 go_wp2_with fail
 rw [← hW]
 clear hW h
 go_region
 all_goals
  go_wp2_with fail
  exact bodyPost_ret (v:=tkV T) (by simp [results,Tryz.results70,go_sem,tkV,c0,c1,c2,c3]) rfl ⟨rfl,F4 (f6 HB _ _ _ _)⟩
theorem a2m {ts : List Tk} {a : Nat} (h : a<ts.length) (x : List UInt8) : isT x (ts.drop a)=((ts[a].kind == 2 || ts[a].kind == 8) && ts[a].text == x):=by
 unfold isT; rw [L9 h]
theorem qX (P g cap : Nat) (ts : List Tk) (a : Nat) (n c f : Int) (x : ByteArray) (w : World) (h : PS P g cap ts a n c f w) :
 Calls Tryz.prog 101 #[.pointer (some ⟨P,0,none⟩),.string x] w fun e w' => e=.returned (.bool (isT x.data.toList (ts.drop a)))∧Below w.heap.size w w':=by
 have I:=hid (a2m h.pos x.data.toList)
 have C:=hid (aS P g cap ts a n c f w h)
 generalize hT : ts[a]'h.pos=T at I C
 clear hT h
 go_enter Tryz.func101,Tryz.ntmps101
 go_wp2_with fail
 (with_reducible refine Calls.mono C.out ?_)
 rintro e w1 ⟨rfl,hb⟩
 have HB:=hid hb
 clear hb
 unfold tkV
 cases h1 : T.kind == 2
 ·cases h2 : T.kind == 8
  ·have F:=hid (show isT x.data.toList (ts.drop a)=false by rw [I.out,h1,h2]; rfl)
   go_wp2_with fail
   go_ret
   exact ⟨l5 F.out.symm,HB.out.alloc HB.out.size _⟩
  ·have F:=hid (show isT x.data.toList (ts.drop a)=(T.text == x.data.toList) by rw [I.out,h1,h2]; rfl)
   go_wp2_with fail
   go_ret
   exact ⟨l5 (by rw [F.out,Lib.toList_data]),HB.out.alloc HB.out.size _⟩
 ·have F:=hid (show isT x.data.toList (ts.drop a)=(T.text == x.data.toList) by rw [I.out,h1]; rfl)
  go_wp2_with fail
  go_ret
  exact ⟨l5 (by rw [F.out,Lib.toList_data]),HB.out.alloc HB.out.size _⟩
theorem iJ {ts : List Tk} {a : Nat} (h : a<ts.length) : hd (ts.drop a)=ts[a]:=L9 h
def s7 (ts : List Tk) : Prop:=∀ j (hj : j<ts.length),ts[j].kind≠0→j + 1<ts.length
theorem mO {ts : List Tk} {a : Nat} (h : a<ts.length) (hk : ts[a].kind≠0) : c6 (ts.drop a)=ts.drop (a + 1):=by
 unfold c6
 rw [L9 h,if_neg hk,List.tail_drop]
theorem qQ {ts : List Tk} {a : Nat} (h : a<ts.length) (hk : ts[a].kind=0) : c6 (ts.drop a)=ts.drop a:=by
 unfold c6
 rw [L9 h,if_pos hk]
def a5H (P g cap : Nat) (ts : List Tk) (a : Nat) (n c f : Int) (w : World) (e : Ending) (w' : World) : Prop :=
 ∃ a',(∃ h : a<ts.length,e=.returned (tkV ts[a]))∧PS P g cap ts a' n c f w'∧c6 (ts.drop a)=ts.drop a'∧w.grownBy w' (some P)∧a≤a'
theorem iW (P g cap : Nat) (ts : List Tk) (a : Nat) (n c f : Int) (w : World) (h : PS P g cap ts a n c f w) (he : s7 ts) :
 Calls Tryz.prog 102 #[.pointer (some ⟨P,0,none⟩)] w (a5H P g cap ts a n c f w):=by
 have hpos:=h.pos
 have hmx:=h.max
 have hle:=h.le
 unfold maxLen at hmx
 have hPlt:=h.plt
 have hg0:=hid h.lt
 have HN:=hid (he a hpos)
 obtain ⟨V,hV⟩ : ∃ V,V=w.alloc (.cells #[.int .i64 0,.string ⟨#[]⟩,.int .i64 0,.int .i64 0] 67):=⟨_,rfl⟩
 have HBV:=hid (show Below w.heap.size w V from hV ▸ b9 _ _)
 have hsV:=hid (show V.heap.size=w.heap.size + 1 by rw [hV]; simp)
 have Z0:=hid (show cN w.heap.size V from hV ▸ cN.make w)
 have h':=hid (h.below HBV)
 obtain ⟨⟨p0,p1,p2,p3,p4⟩,⟨g0,g1,g2,g3,g4⟩⟩:=h'.out.cells
 obtain ⟨t0,t1,t2,t3⟩:=h'.out.tok
 have hgl:=h'.out.lt
 have hpl:=h'.out.plt
 have K1:=hid (fun hk => mO (ts:=ts) hpos hk)
 have K0:=hid (fun hk => qQ (ts:=ts) hpos hk)
 obtain ⟨c0,c1,c2,c3,f0,f1,f2,f3⟩:=Z0.out.cells
 have hwl : w.heap.size<V.heap.size:=by rw [hsV.out]; omega
 have HE:=hid (show ∃ h : a<ts.length,Ending.returned (tkV (ts[a]'hpos))=.returned (tkV ts[a]) from ⟨hpos,rfl⟩)
 generalize hT : ts[a]'hpos=T at t0 t1 t2 t3 K1 K0 HN HE
 clear hT
 go_enter Tryz.func102,Tryz.ntmps102
 go_wp2_with fail
 rw [← hV]
 clear hV h
 go_region
 all_goals
  by_cases hk : T.kind=0
  ·have e0 : (T.kind != 0)=false:=by rw [hk]; rfl
   have HK:=hid hk
   clear hk
   go_wp2_with fail
   refine bodyPost_ret (v:=tkV T) (by simp [results,Tryz.results102,go_sem,tkV,c0,c1,c2,c3,hwl]) rfl ?_
   have HF:=F4 ((f6 (Below.refl w.heap.size V) (.int .i64 T.kind) (.string ⟨T.text.toArray⟩) (.int .i64 T.n) (.int .i64 T.pos)).alloc (by simpa using HBV.out.size) (.cells #[.int .i64 T.kind,.string ⟨T.text.toArray⟩,.int .i64 T.n,.int .i64 T.pos] 67))
   exact ⟨a,HE,h'.out.later HF hPlt hg0,K0.out HK,d9 (b8 HBV) HF,Nat.le_refl _⟩
  ·have e0 : (T.kind != 0)=true:=bne_iff_ne.2 hk
   have HK:=hid hk
   clear hk
   go_wp2_with fail
   refine bodyPost_ret (v:=tkV T) (by simp [results,Tryz.results102,go_sem,tkV,c0,c1,c2,c3,hwl]) rfl ?_
   have HS:=h'.out.set_at (HN.out HK)
   have HF:=F4 ((f6 (Below.refl w.heap.size (V.setCell ⟨P,1,none⟩ (.int .i64 ((a + 1 : Nat) : Int)))) (.int .i64 T.kind) (.string ⟨T.text.toArray⟩) (.int .i64 T.n) (.int .i64 T.pos)).alloc (by simpa using HBV.out.size) (.cells #[.int .i64 T.kind,.string ⟨T.text.toArray⟩,.int .i64 T.n,.int .i64 T.pos] 67))
   rw [Int.natCast_add] at HF HS
   exact ⟨a + 1,HE,HS.later HF hPlt hg0,K1.out HK,d9 (b6 (b8 HBV) (j8 _ _ _ _)) HF,Nat.le_succ _⟩
end
end Go.Proofs.YtibiccacafjjfaaGreatDoor
