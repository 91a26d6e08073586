/-
  Laws that the proof rests on.
-/
import Derived.Test.YtppcfebnaieciaaGreatDoorE07
import Derived.Test.YtppcfebnaieciaaGreatDoorE01
import Derived.Test.YtppcfebnaieciaaGreatDoorE06
import Derived.WalkKit
import Derived.Lib.Hide
import Derived.Deep.AppendLies
import Derived.Lib.LaidTab
import Derived.Test.YtppcfebnaieciaaGreatDoorE02
import Derived.Test.YtppcfebnaieciaaGreatDoorE04
import Derived.Shelf.RegionOpenPlain
import Derived.Lib.CutLaws
import Derived.Shelf.Strings.SlTrimAscii
import Derived.Shelf.Abstract
namespace Go.Proofs.YtppcfebnaieciaaGreatDoor
set_option maxRecDepth 100000
set_option maxHeartbeats 16000000
section
open Lib (hid)
open Go.RowKit
theorem aR {a b : Int} {c d : Bool} (h : a=b) (h' : c=d) : Ending.returned (.tuple #[.int .i64 a,.bool c])=.returned (.tuple #[.int .i64 b,.bool d]):=by rw [h,h']
theorem D9 (n : Int) (w : World) : Calls Tryz.prog 177 #[.int .u8 n] w fun e w' => e=.returned (.bool (dgI n))∧w=w':=by
 go_enter Tryz.func177,Tryz.ntmps177
 go_wp2
 all_goals go_ret
 all_goals exact ⟨aH (by unfold dgI; rw [Bool.eq_iff_iff]; simp; omega),rfl⟩
theorem gV {s : ByteArray} {k : Nat} (_h : k<s.size) (h' : k<s.data.toList.length) : s.data.toList[k]=s[k]'_h:=rfl
theorem U0 (s : ByteArray) (w : World) (hs : s.size≤maxLen) (h0 : 0<s.size) (hd : dgC s[0]=true) :
 Calls Tryz.prog 160 #[.string s] w fun e w' => e=.returned (.tuple #[.int .i64 (oM s.data.toList),.bool (oL s.data.toList)])∧w=w':=by
 have hm:=hs
 unfold maxLen at hm
 have hdn:=eT hd
 have hz : s.data.toList.headD 0=s[0]:=U7 h0
 have h45 : s.data.toList.headD 0≠45:=by
  rw [hz]; rintro e; rw [e] at hd; exact absurd hd (by decide)
 have H45:=hid h45
 have HZ:=hid hz
 have HD:=hid hd
 have HL:=hid (d6 s)
 have e45 : ((s[0].toNat : Int) == 45)=false:=by rw [beq_eq_false_iff_ne]; omega
 clear h45 hz hd hdn
 go_enter Tryz.func160,Tryz.ntmps160
 go_wp2_with fail
 clear e45
 go_loop [5] (fun n => ∃ k : Nat,k≤s.size∧n=.int .i64 k∧Hid (∀ j (hj : j<s.data.toList.length),j<k→dgC s.data.toList[j]=true)) (fun n => s.size - (intOf n).toNat)
 case atStart => exact ⟨0,by omega,rfl,fun j hj h => by omega⟩
 case round =>
  obtain ⟨k,hk,rfl,HAll⟩:=hrel
  by_cases hgo : ∃ hlt : k<s.size,dgC s[k]=true
  ·obtain ⟨hlt,hc⟩:=hgo
   have hi : dgI s[k].toNat=true:=by rw [← cA]; exact hc
   have HC:=hid hc
   clear hc
   go_wp2_with (first | (go_at_call 177; refine (D9 _ _).mono ?_; rintro e w' ⟨rfl,rfl⟩; rw [hi]))
   go_round
   case rel =>
    refine ⟨k + 1,by omega,by go_num,fun j hj h => ?_⟩
    by_cases e : j=k
    ·subst e; exact HC
    ·exact HAll.out j hj (by omega)
   case measure => simp [intOf]; omega
  ·have hnd : ∀ (hlt : k<s.data.toList.length),dgC s.data.toList[k]=false:=fun hlt => by
    rw [Bool.eq_false_iff]; exact fun e => hgo ⟨by rw [← HL.out]; exact hlt,e⟩
   have hdr:=sA (d:=s.data.toList) (k:=k) (by rw [HL.out]; exact hk) HAll hnd
   have HDR:=hid hdr
   have hk1 : 1≤k:=by
    rcases Nat.eq_zero_or_pos k with e | e
    ·exfalso; subst e; exact hgo ⟨h0,HD⟩
    ·exact e
   have HU:=hid (a4S hdr)
   clear hdr
   have HV0:=hid (show dgC s[0]=true from HD)
   by_cases hlt : k<s.size
   ·have hi0 : dgI s[k].toNat=false:=by rw [← cA]; exact hnd (by rw [HL.out]; exact hlt)
    clear hgo hnd
    by_cases h10 : 10<(k : Int)
    ·have HN:=hid (U5 H45 (show aT s.data.toList=none by rw [HU.out,if_neg]; omega))
     go_wp2_with (first | (go_at_call 177; refine (D9 _ _).mono ?_; rintro e w' ⟨rfl,rfl⟩; rw [hi0]))
     go_ret2
     exact ⟨aR HN.out.1.symm HN.out.2.symm,rfl⟩
    by_cases h1 : 1<(k : Int)∧(s[0].toNat : Int)=48
    ·obtain ⟨h1,h2⟩:=h1
     have e48 : ((s[0].toNat : Int) == 48)=true:=by rw [h2]; rfl
     have HN:=hid (U5 H45 (show aT s.data.toList=none by
      rw [HU.out,if_neg]
      rintro ⟨-,-,h | h,-⟩
      ·omega
      ·rw [HZ.out] at h; exact h (UInt8.toNat_inj.1 (Int.ofNat.inj h2))))
     clear h2
     go_wp2_with (first | (go_at_call 177; refine (D9 _ _).mono ?_; rintro e w' ⟨rfl,rfl⟩; rw [hi0]))
     go_ret2
     exact ⟨aR HN.out.1.symm HN.out.2.symm,rfl⟩
    have hz1 : k=1∨s[0]≠48:=by
     rcases Nat.lt_or_ge 1 k with g | g
     ·refine .inr fun e => h1 ⟨by omega,by rw [e]; rfl⟩
     ·exact .inl (by omega)
    have HZ1:=hid hz1
    have e1 : (¬ 1<(k : Int))∨(1<(k : Int)∧((s[0].toNat : Int) == 48)=false):=by
     rcases Nat.lt_or_ge 1 k with g | g
     ·refine .inr ⟨by omega,?_⟩
      rcases hz1 with e | e
      ·omega
      ·rw [beq_eq_false_iff_ne]; exact fun g => e (UInt8.toNat_inj.1 (Int.ofNat.inj g))
     ·exact .inl (by omega)
    clear hz1 h1
    obtain ⟨P,hP⟩ : ∃ P,s.size=k + 1 + P:=⟨s.size - k - 1,by omega⟩
    have hPe : ((s.size : Int) - k - 1)=P:=by omega
    have HPP:=hid hP
    have HDK:=hid (List.drop_eq_getElem_cons (show k<s.data.toList.length by rw [HL.out]; exact hlt))
    have hpl : (s.data.toList.drop (k + 1)).length=P:=by rw [List.length_drop,HL.out]; omega
    have HPL:=hid hpl
    clear hP hpl
    rcases e1 with e1 | ⟨e1,e1'⟩
    all_goals
     by_cases h46 : (s[k].toNat : Int)=46
     case neg =>
      have e46 : ((s[k].toNat : Int) != 46)=true:=by rw [bne_iff_ne]; exact h46
      have HN:=hid (U5 H45 (show aT s.data.toList=none by
       rw [HU.out,if_neg]
       rintro ⟨-,-,-,h⟩
       rw [HDK.out] at h
       simp only [cN,Bool.and_eq_true,beq_iff_eq] at h
       exact h46 (by rw [← gV hlt (by rw [HL.out]; exact hlt),h.1]; rfl)))
      clear h46
      go_wp2_with (first | (go_at_call 177; refine (D9 _ _).mono ?_; rintro e w' ⟨rfl,rfl⟩; rw [hi0]))
      go_ret2
      exact ⟨aR HN.out.1.symm HN.out.2.symm,rfl⟩
     have e46 : ((s[k].toNat : Int) != 46)=false:=by rw [h46]; rfl
     have H46:=hid (show s.data.toList[k]'(by rw [HL.out]; exact hlt)=46 from UInt8.toNat_inj.1 (Int.ofNat.inj h46))
     clear h46
     by_cases hp1 : (P : Int)<1
     ·have HN:=hid (U5 H45 (show aT s.data.toList=none by
       rw [HU.out,if_neg]
       rintro ⟨-,-,-,h⟩
       rw [HDK.out] at h
       simp only [cN,Bool.and_eq_true,decide_eq_true_eq] at h
       have:=HPL.out
       omega))
      go_wp2_with (first | (go_at_call 177; refine (D9 _ _).mono ?_; rintro e w' ⟨rfl,rfl⟩; rw [hi0]))
      go_ret2
      exact ⟨aR HN.out.1.symm HN.out.2.symm,rfl⟩
     by_cases hp6 : 6<(P : Int)
     ·have HN:=hid (U5 H45 (show aT s.data.toList=none by
       rw [HU.out,if_neg]
       rintro ⟨-,-,-,h⟩
       rw [HDK.out] at h
       simp only [cN,Bool.and_eq_true,decide_eq_true_eq] at h
       have:=HPL.out
       omega))
      go_wp2_with (first | (go_at_call 177; refine (D9 _ _).mono ?_; rintro e w' ⟨rfl,rfl⟩; rw [hi0]))
      go_ret2
      exact ⟨aR HN.out.1.symm HN.out.2.symm,rfl⟩
     go_wp2_with (first | (go_at_call 177; refine (D9 _ _).mono ?_; rintro e w' ⟨rfl,rfl⟩; rw [hi0]))
     have hjP1 : s.size≤k + 1 + P:=Nat.le_of_eq HPP
     have hjP2 : k + 1 + P≤s.size:=Nat.le_of_eq HPP.out.symm
     clear hPe
     have hq6 : (V3 s.data.toList k).length=6:=tF (by rw [HL.out]; omega)
     have HQ6:=hid hq6
     have HVE:=hid (show aT s.data.toList=some (Cal.val (s.data.toList.take k ++ (V3 s.data.toList k).take 6))∨aT s.data.toList=none from by
      rw [HU.out]
      split
      ·refine .inl ?_
       rw [List.take_of_length_le (Nat.le_of_eq hq6),List.append_assoc]; rfl
      ·exact .inr rfl)
     clear hq6
     go_loop [7,8] (fun n i => ∃ j : Nat,j≤k∧i=.int .i64 j∧n=.int .i64 (Cal.val (s.data.toList.take j))) (fun _ i => k - (intOf i).toNat)
     case atStart => exact ⟨0,Nat.zero_le _,rfl,rfl⟩
     case round =>
      obtain ⟨j,hj,rfl,rfl⟩:=hrel
      have hbd:=fU (l:=s.data.toList.take j) (n:=10) (by
       exact O1 fun i hi h => HAll.out i hi (by omega)) (by rw [List.length_take]; omega)
      simp only [Int.reducePow] at hbd
      obtain ⟨hb1,hb2⟩:=hbd
      by_cases hjk : j<k
      ·have hjs : j<s.size:=by omega
       have hdj:=eT (show dgC s[j]=true from HAll.out j (by rw [HL.out]; omega) hjk)
       have V:=hid (pB (d:=s.data.toList) (i:=j) (by rw [HL.out]; omega))
       obtain ⟨hd1,hd2⟩:=hdj
       go_wp2_with fail
       go_round
       case rel => exact ⟨j + 1,by omega,by go_num,by rw [V.out,gV hjs]⟩
       case measure => simp [intOf]; omega
      ·obtain rfl : j=k:=by omega
       go_wp2_with fail
       clear hb1 hb2
       go_loop [7,9,10,11] (fun n i _ _ => ∃ m : Nat,m≤6∧i=.int .i64 m∧n=.int .i64 (Cal.val (s.data.toList.take j ++ (V3 s.data.toList j).take m))∧Hid (∀ i (hi : i<(V3 s.data.toList j).length),i<m→dgC (V3 s.data.toList j)[i]=true)) (fun _ i _ _ => 6 - (intOf i).toNat)
       case atStart => exact ⟨0,Nat.zero_le _,rfl,by rw [List.take_zero,List.append_nil],fun i hi h => by omega⟩
       case round =>
        obtain ⟨m,hm6,rfl,rfl,HQ⟩:=hrel
        have hbd:=fU (l:=s.data.toList.take j ++ (V3 s.data.toList j).take m) (n:=16) (by
         rw [List.all_append,O1 fun i hi h => HAll.out i hi (by omega),O1 fun i hi h => HQ.out i hi h]; rfl) (by rw [List.length_append,List.length_take,List.length_take]; omega)
        have hbd':=hbd
        simp only [Int.reducePow] at hbd
        obtain ⟨hb1,hb2⟩:=hbd
        by_cases hm : m<6
        ·have V:=hid (tM (l:=s.data.toList.take j) (q:=V3 s.data.toList j) (i:=m) (by rw [HQ6.out]; exact hm))
         have hb3:=(fU (l:=s.data.toList.take j ++ (V3 s.data.toList j).take m) (n:=15) (by
          rw [List.all_append,O1 fun i hi h => HAll.out i hi (by omega),O1 fun i hi h => HQ.out i hi h]; rfl) (by rw [List.length_append,List.length_take,List.length_take]; omega)).2
         simp only [Int.reducePow] at hb3
         clear hbd'
         by_cases hmp : (m : Int)<P
         ·have hjm : j + 1 + m<s.size:=by omega
          have QA:=hid (zP (d:=s.data.toList) (k:=j) (i:=m) (by rw [HL.out]; exact hjm) (by rw [HQ6.out]; exact hm))
          cases hdg : dgC s[j + 1 + m]
          ·have hi : dgI s[j + 1 + m].toNat=false:=by rw [← cA]; exact hdg
           have HN:=hid (U5 H45 (show aT s.data.toList=none by
            rw [HU.out,if_neg]
            rintro ⟨-,-,-,h⟩
            rw [List.drop_eq_getElem_cons (show j<s.data.toList.length by rw [HL.out]; omega)] at h
            simp only [cN,Bool.and_eq_true] at h
            have:=List.all_eq_true.1 h.2.2 s[j + 1 + m] (by
             have h2 : j + 1 + m<s.data.toList.length:=by rw [HL.out]; exact hjm
             exact hJ (l:=s.data.toList) (j:=j + 1 + m) h2 (by omega))
            rw [this] at hdg; cases hdg))
           clear hdg
           go_wp2_with (first | (go_at_call 177; refine (D9 _ _).mono ?_; rintro e w' ⟨rfl,rfl⟩; rw [hi]))
           go_ret2
           exact ⟨aR HN.out.1.symm HN.out.2.symm,rfl⟩
          ·have hi : dgI s[j + 1 + m].toNat=true:=by rw [← cA]; exact hdg
           have HDG:=hid hdg
           obtain ⟨hd1,hd2⟩:=eT hdg
           clear hdg
           go_wp2_with (first | (go_at_call 177; refine (D9 _ _).mono ?_; rintro e w' ⟨rfl,rfl⟩; rw [hi]))
           go_round
           case rel =>
            refine ⟨m + 1,by omega,by go_num,by rw [V.out,QA.out,gV hjm]; (try go_num),fun i hi h => ?_⟩
            by_cases e : i=m
            ·subst e; rw [QA.out]; exact HDG
            ·exact HQ.out i hi (by omega)
           case measure => simp [intOf]; omega
         ·have hmz : ¬ (m : Int)<P:=hmp
          have Q0:=hid (a10 (d:=s.data.toList) (k:=j) (i:=m) (by rw [HL.out]; omega) (by rw [HQ6.out]; exact hm))
          go_wp2_with fail
          go_round
          case rel =>
           refine ⟨m + 1,by omega,by go_num,by rw [V.out,Q0.out]; exact congrArg (Value.int .i64) (by have : ((48 : UInt8).toNat : Int)=48:=rfl; omega),fun i hi h => ?_⟩
           by_cases e : i=m
           ·subst e; rw [Q0.out]; decide
           ·exact HQ.out i hi (by omega)
          case measure => simp [intOf]; omega
        ·obtain rfl : m=6:=by omega
         have hok : 1≤j∧j≤10∧(j=1∨s.data.toList.headD 0≠48)∧cN (s.data.toList.drop j)=true:=⟨hk1,by omega,by rw [HZ.out]; exact HZ1,by
          rw [HDK.out,H46.out]
          have:=HPL.out
          simp only [cN,Bool.and_eq_true,decide_eq_true_eq,beq_self_eq_true,true_and]
          refine ⟨⟨by omega,by omega⟩,?_⟩
          rw [List.all_eq_true]
          intro c hc
          obtain ⟨i,hi,rfl⟩:=List.getElem_of_mem hc
          rw [List.getElem_drop]
          have hi2 : i<(V3 s.data.toList j).length:=by rw [HQ6.out]; omega
          have hi3 : j + 1 + i<s.data.toList.length:=by rw [List.length_drop] at hi; omega
          rw [← zP hi3 hi2]
          exact HQ.out i hi2 (by omega)⟩
         have HV:=hid (show aT s.data.toList=some (Cal.val (s.data.toList.take j ++ (V3 s.data.toList j).take 6)) by
          rcases HVE.out with e | e
          ·exact e
          ·rw [HU.out,if_pos hok] at e; cases e)
         clear hbd' HQ
         generalize Cal.val (s.data.toList.take j ++ (V3 s.data.toList j).take 6)=V at hb1 hb2 HV HVE ⊢
         by_cases hbig : 1000000000000000<V
         ·have HN:=hid (tE H45 HV hbig)
          go_wp2_with fail
          go_ret2
          exact ⟨aR HN.out.1.symm HN.out.2.symm,rfl⟩
         ·have HN:=hid (oW H45 HV hbig)
          go_wp2_with fail
          go_ret2
          exact ⟨aR HN.out.1.symm HN.out.2.symm,rfl⟩
   ·obtain rfl : k=s.size:=by omega
    clear hgo hnd
    by_cases h10 : 10<(s.size : Int)
    ·have HN:=hid (U5 H45 (show aT s.data.toList=none by rw [HU.out,if_neg]; omega))
     go_wp2_with fail
     go_ret2
     exact ⟨aR HN.out.1.symm HN.out.2.symm,rfl⟩
    by_cases h1 : 1<(s.size : Int)∧(s[0].toNat : Int)=48
    ·obtain ⟨h1,h2⟩:=h1
     have e48 : ((s[0].toNat : Int) == 48)=true:=by rw [h2]; rfl
     have HN:=hid (U5 H45 (show aT s.data.toList=none by
      rw [HU.out,if_neg]
      rintro ⟨-,-,h | h,-⟩
      ·omega
      ·rw [HZ.out] at h; exact h (UInt8.toNat_inj.1 (Int.ofNat.inj h2))))
     clear h2
     go_wp2_with fail
     go_ret2
     exact ⟨aR HN.out.1.symm HN.out.2.symm,rfl⟩
    have hz1 : s.size=1∨s[0]≠48:=by
     rcases Nat.lt_or_ge 1 s.size with g | g
     ·refine .inr fun e => h1 ⟨by omega,by rw [e]; rfl⟩
     ·exact .inl (by omega)
    have HZ1:=hid hz1
    have e1 : (¬ 1<(s.size : Int))∨(1<(s.size : Int)∧((s[0].toNat : Int) == 48)=false):=by
     rcases Nat.lt_or_ge 1 s.size with g | g
     ·refine .inr ⟨by omega,?_⟩
      rcases hz1 with e | e
      ·omega
      ·rw [beq_eq_false_iff_ne]; exact fun g => e (UInt8.toNat_inj.1 (Int.ofNat.inj g))
     ·exact .inl (by omega)
    clear hz1 h1
    rcases e1 with e1 | ⟨e1,e1'⟩
    all_goals
     go_wp2_with fail
     have hq6 : (V3 s.data.toList s.size).length=6:=tF (by rw [HL.out]; omega)
     have HQ6:=hid hq6
     have HVE:=hid (show aT s.data.toList=some (Cal.val (s.data.toList.take s.size ++ (V3 s.data.toList s.size).take 6))∨aT s.data.toList=none from by
      rw [HU.out]
      split
      ·refine .inl ?_
       rw [List.take_of_length_le (Nat.le_of_eq hq6),List.append_assoc]; rfl
      ·exact .inr rfl)
     clear hq6
     go_loop [7,8] (fun n i => ∃ j : Nat,j≤s.size∧i=.int .i64 j∧n=.int .i64 (Cal.val (s.data.toList.take j))) (fun _ i => s.size - (intOf i).toNat)
     case atStart => exact ⟨0,Nat.zero_le _,rfl,rfl⟩
     case round =>
      obtain ⟨j,hj,rfl,rfl⟩:=hrel
      have hbd:=fU (l:=s.data.toList.take j) (n:=10) (by
       exact O1 fun i hi h => HAll.out i hi (by omega)) (by rw [List.length_take]; omega)
      simp only [Int.reducePow] at hbd
      obtain ⟨hb1,hb2⟩:=hbd
      by_cases hjk : j<s.size
      ·have hjs : j<s.size:=by omega
       have hdj:=eT (show dgC s[j]=true from HAll.out j (by rw [HL.out]; omega) hjk)
       have V:=hid (pB (d:=s.data.toList) (i:=j) (by rw [HL.out]; omega))
       obtain ⟨hd1,hd2⟩:=hdj
       go_wp2_with fail
       go_round
       case rel => exact ⟨j + 1,by omega,by go_num,by rw [V.out,gV hjs]⟩
       case measure => simp [intOf]; omega
      ·obtain rfl : j=s.size:=by omega
       go_wp2_with fail
       clear hb1 hb2
       go_loop [7,9,10,11] (fun n i _ _ => ∃ m : Nat,m≤6∧i=.int .i64 m∧n=.int .i64 (Cal.val (s.data.toList.take s.size ++ (V3 s.data.toList s.size).take m))∧Hid (∀ i (hi : i<(V3 s.data.toList s.size).length),i<m→dgC (V3 s.data.toList s.size)[i]=true)) (fun _ i _ _ => 6 - (intOf i).toNat)
       case atStart => exact ⟨0,Nat.zero_le _,rfl,by rw [List.take_zero,List.append_nil],fun i hi h => by omega⟩
       case round =>
        obtain ⟨m,hm6,rfl,rfl,HQ⟩:=hrel
        have hbd:=fU (l:=s.data.toList.take s.size ++ (V3 s.data.toList s.size).take m) (n:=16) (by
         rw [List.all_append,O1 fun i hi h => HAll.out i hi (by omega),O1 fun i hi h => HQ.out i hi h]; rfl) (by rw [List.length_append,List.length_take,List.length_take]; omega)
        have hbd':=hbd
        simp only [Int.reducePow] at hbd
        obtain ⟨hb1,hb2⟩:=hbd
        by_cases hm : m<6
        ·have V:=hid (tM (l:=s.data.toList.take s.size) (q:=V3 s.data.toList s.size) (i:=m) (by rw [HQ6.out]; exact hm))
         have hb3:=(fU (l:=s.data.toList.take s.size ++ (V3 s.data.toList s.size).take m) (n:=15) (by
          rw [List.all_append,O1 fun i hi h => HAll.out i hi (by omega),O1 fun i hi h => HQ.out i hi h]; rfl) (by rw [List.length_append,List.length_take,List.length_take]; omega)).2
         simp only [Int.reducePow] at hb3
         clear hbd'
         ·skip
          have Q0:=hid (a10 (d:=s.data.toList) (k:=s.size) (i:=m) (by rw [HL.out]; omega) (by rw [HQ6.out]; exact hm))
          go_wp2_with fail
          go_round
          case rel =>
           refine ⟨m + 1,by omega,by go_num,by rw [V.out,Q0.out]; exact congrArg (Value.int .i64) (by have : ((48 : UInt8).toNat : Int)=48:=rfl; omega),fun i hi h => ?_⟩
           by_cases e : i=m
           ·subst e; rw [Q0.out]; decide
           ·exact HQ.out i hi (by omega)
          case measure => simp [intOf]; omega
        ·obtain rfl : m=6:=by omega
         have hok : 1≤s.size∧s.size≤10∧(s.size=1∨s.data.toList.headD 0≠48)∧cN (s.data.toList.drop s.size)=true:=⟨hk1,by omega,by rw [HZ.out]; exact HZ1,by
          rw [List.drop_of_length_le (by rw [HL.out]; omega)]; rfl⟩
         have HV:=hid (show aT s.data.toList=some (Cal.val (s.data.toList.take s.size ++ (V3 s.data.toList s.size).take 6)) by
          rcases HVE.out with e | e
          ·exact e
          ·rw [HU.out,if_pos hok] at e; cases e)
         clear hbd' HQ
         generalize Cal.val (s.data.toList.take s.size ++ (V3 s.data.toList s.size).take 6)=V at hb1 hb2 HV HVE ⊢
         by_cases hbig : 1000000000000000<V
         ·have HN:=hid (tE H45 HV hbig)
          go_wp2_with fail
          go_ret2
          exact ⟨aR HN.out.1.symm HN.out.2.symm,rfl⟩
         ·have HN:=hid (oW H45 HV hbig)
          go_wp2_with fail
          go_ret2
          exact ⟨aR HN.out.1.symm HN.out.2.symm,rfl⟩
end
section
open Go.RowKit
def rdV (s : ByteArray) : Int:=if (∀ j (hj : j<s.data.toList.length),Cal.fits j s.data.toList[j]=true) then ofV (Cal.val (Cal.seg s.data.toList 0 4)) (Cal.val (Cal.seg s.data.toList 5 7)) (Cal.val (Cal.seg s.data.toList 8 10)) else 0
def rdE (s : ByteArray) : Int:=if (∀ j (hj : j<s.data.toList.length),Cal.fits j s.data.toList[j]=true) then ofE (Cal.val (Cal.seg s.data.toList 0 4)) (Cal.val (Cal.seg s.data.toList 5 7)) (Cal.val (Cal.seg s.data.toList 8 10)) else 30
theorem wT {s : ByteArray} {k : Nat} (hk : k<s.data.toList.length) (h : Cal.fits k s.data.toList[k]=false) : rdV s=0∧rdE s=30:=by
 have n : ¬ ∀ j (hj : j<s.data.toList.length),Cal.fits j s.data.toList[j]=true:=fun a => by rw [a k hk] at h; cases h
 unfold rdV rdE
 rw [if_neg n,if_neg n]
 exact ⟨rfl,rfl⟩
end
section
open Go.RowKit
def zU (s : ByteArray) : Int:=if s.size=10 then rdV s else 0
def uB (s : ByteArray) : Int:=if s.size=10 then rdE s else 30
theorem a5x {y m d : Int} (h : y=-1∨m=-1∨d=-1) : ofV y m d=0∧ofE y m d=30:=by
 have n : ¬ Cal.ok y m d:=by unfold Cal.ok; omega
 unfold ofV ofE
 rw [if_neg n,if_neg n]
 exact ⟨rfl,rfl⟩
theorem yZ (s : ByteArray) (w : World) :
 Calls Tryz.prog 159 #[.string s] w fun e w' => e=.returned (.tuple #[.int .i64 (zU s),.int .i64 (uB s)])∧Below w.heap.size w w':=by
 unfold zU uB
 by_cases h : s.size=10
 ·rw [if_pos h,if_pos h]
  have hl : s.data.toList.length=10:=by simpa using h
  have g4 : s[4]=s.data.toList[4]:=rfl
  have g7 : s[7]=s.data.toList[7]:=rfl
  by_cases c : (s[4].toNat : Int)=45∧(s[7].toNat : Int)=45
  ·refine (yI s w h c.1 c.2).mono ?_
   rintro e w' ⟨rfl,hb⟩
   refine ⟨?_,hb⟩
   show Ending.returned (.tuple #[.int .i64 (ofV (Cal.numL (Cal.seg s.data.toList 0 4)) (Cal.numL (Cal.seg s.data.toList 5 7)) (Cal.numL (Cal.seg s.data.toList 8 10))),.int .i64 (ofE (Cal.numL (Cal.seg s.data.toList 0 4)) (Cal.numL (Cal.seg s.data.toList 5 7)) (Cal.numL (Cal.seg s.data.toList 8 10)))])=_
   by_cases f : ∀ j (hj : j<s.data.toList.length),Cal.fits j s.data.toList[j]=true
   ·have dig : ∀ j (hj : j<s.data.toList.length),j≠4→j≠7→Cal.isDig s.data.toList[j]=true:=fun j hj e f' => by rw [← Cal.fits_dig e f']; exact f j hj
    have a1:=Cal.seg_all s.data.toList (lo:=0) (hi:=4) (fun j hj _ _ => dig j hj (by omega) (by omega))
    have a2:=Cal.seg_all s.data.toList (lo:=5) (hi:=7) (fun j hj _ _ => dig j hj (by omega) (by omega))
    have a3:=Cal.seg_all s.data.toList (lo:=8) (hi:=10) (fun j hj _ _ => dig j hj (by omega) (by omega))
    unfold Cal.numL rdV rdE
    rw [if_pos a1,if_pos a2,if_pos a3,if_pos f,if_pos f]
   ·have ⟨j,hj,hf⟩ : ∃ j,∃ hj : j<s.data.toList.length,Cal.fits j s.data.toList[j]=false:=by
     refine Classical.byContradiction fun n => f fun j hj => ?_
     cases e : Cal.fits j s.data.toList[j]
     ·exact absurd ⟨j,hj,e⟩ n
     ·rfl
    have r:=wT hj hf
    rw [r.1,r.2]
    have h4 : j≠4:=fun e => by
     subst e
     rw [Cal.fits_dash (.inl rfl),decide_eq_false_iff_not] at hf
     exact hf c.1
    have h7 : j≠7:=fun e => by
     subst e
     rw [Cal.fits_dash (.inr rfl),decide_eq_false_iff_not] at hf
     exact hf c.2
    rw [Cal.fits_dig h4 h7] at hf
    have o : Cal.numL (Cal.seg s.data.toList 0 4)=-1∨Cal.numL (Cal.seg s.data.toList 5 7)=-1∨Cal.numL (Cal.seg s.data.toList 8 10)=-1:=by
     by_cases k : j<4
     ·exact .inl (Cal.seg_not _ (by omega) k hj hf)
     by_cases k' : j<7
     ·exact .inr (.inl (Cal.seg_not _ (by omega) k' hj hf))
     ·exact .inr (.inr (Cal.seg_not _ (by omega) (by omega) hj hf))
    have z:=a5x o
    rw [z.1,z.2]
  ·refine (xQ s w h c).mono ?_
   rintro e w' ⟨rfl,hb⟩
   refine ⟨?_,hb⟩
   by_cases c4 : (s[4].toNat : Int)=45
   ·have c7 : ¬ (s[7].toNat : Int)=45:=fun k => c ⟨c4,k⟩
    have r:=wT (s:=s) (k:=7) (by omega) (by rw [Cal.fits_dash (.inr rfl),decide_eq_false_iff_not]; exact c7)
    rw [r.1,r.2]
   ·have r:=wT (s:=s) (k:=4) (by omega) (by rw [Cal.fits_dash (.inl rfl),decide_eq_false_iff_not]; exact c4)
    rw [r.1,r.2]
 ·rw [if_neg h,if_neg h]; exact yH s w h
theorem a2R (s : ByteArray) : (∃ v,wQ s.data.toList=some v∧zU s=v∧uB s=0)∨(wQ s.data.toList=none∧uB s=30):=by
 have hsz : s.data.toList.length=s.size:=d6 s
 unfold zU uB wQ
 by_cases h : s.size=10
 ·rw [if_pos h,if_pos h]
  unfold rdV rdE ofV ofE
  by_cases f : ∀ j (hj : j<s.data.toList.length),Cal.fits j s.data.toList[j]=true
  ·rw [if_pos f,if_pos f]
   by_cases o : Cal.ok (Cal.val (Cal.seg s.data.toList 0 4)) (Cal.val (Cal.seg s.data.toList 5 7)) (Cal.val (Cal.seg s.data.toList 8 10))
   ·rw [if_pos o,if_pos o,if_pos ⟨hsz.trans h,f,o⟩]
    exact .inl ⟨_,rfl,rfl,rfl⟩
   ·rw [if_neg (fun g => o g.2.2),if_neg o]
    exact .inr ⟨rfl,if_neg o⟩
  ·rw [if_neg (fun g => f g.2.1)]
   exact .inr ⟨rfl,if_neg f⟩
 ·rw [if_neg h,if_neg h,if_neg (fun g => h (hsz.symm.trans g.1))]
  exact .inr ⟨rfl,rfl⟩
end
section
open Go.RowKit
def Z8 (t : Tk) : List Value:=[.int .i64 t.kind,.string ⟨t.text.toArray⟩,.int .i64 t.n,.int .i64 t.pos]
def F5 (ts : List Tk) : List Value:=ts.flatMap Z8
theorem a3I (ts : List Tk) (t : Tk) : F5 (ts ++ [t])=F5 ts ++ Z8 t:=by unfold F5; simp
theorem zL : ∀ (ts : List Tk) (j : Nat) (hj : j<ts.length) (i : Nat) (_ : i<4),(F5 ts)[j * 4 + i]?=(Z8 ts[j])[i]?
 | t :: ts,0,_,i,hi => by
   unfold F5
   rw [List.flatMap_cons,Nat.zero_mul,Nat.zero_add,List.getElem?_append_left (by exact hi)]
   rfl
 | t :: ts,j + 1,hj,i,hi => by
   have:=zL ts j (by simpa using hj) i hi
   unfold F5 at this ⊢
   rw [List.flatMap_cons,List.getElem?_append_right (by show 4≤_; omega)]
   rw [show (j + 1) * 4 + i - (Z8 t).length=j * 4 + i by show (j + 1) * 4 + i - 4=_; omega]
   exact this
def yG (W : World) (b off : Nat) (ts : List Tk) : Prop:=∀ j (hj : j<ts.length),W.cell? ⟨b,off + j * 4,none⟩=some (.int .i64 ts[j].kind)∧W.cell? ⟨b,off + j * 4 + 1,none⟩=some (.string ⟨ts[j].text.toArray⟩)∧W.cell? ⟨b,off + j * 4 + 2,none⟩=some (.int .i64 ts[j].n)∧W.cell? ⟨b,off + j * 4 + 3,none⟩=some (.int .i64 ts[j].pos)
theorem yG.below {n₀ : Nat} {W W' : World} {b off : Nat} {ts : List Tk} (h : yG W b off ts) (hb : Below n₀ W W') (hl : b<n₀) : yG W' b off ts:=fun j hj => by
 obtain ⟨h0,h1,h2,h3⟩:=h j hj
 exact ⟨(hb.cell (p:=⟨b,off + j * 4,none⟩) hl).trans h0,(hb.cell (p:=⟨b,off + j * 4 + 1,none⟩) hl).trans h1,(hb.cell (p:=⟨b,off + j * 4 + 2,none⟩) hl).trans h2,(hb.cell (p:=⟨b,off + j * 4 + 3,none⟩) hl).trans h3⟩
theorem yG.of_row {base T : Nat} {W : World} {g cap : Nat} {ts : List Tk} (h : W.ownsRow base T 4 (.slice (some ⟨g,0,none⟩) ts.length cap) ts.length (F5 ts)) : yG W g 0 ts:=by
 have hc:=h.cells (g:=g) rfl
 intro j hj
 have q : ∀ i,i<4→∀ u,(Z8 ts[j])[i]?=some u→W.cell? ⟨g,0 + j * 4 + i,none⟩=some u:=fun i hi u hu => by
  have:=hc (j * 4 + i) u (by rw [zL ts j hj i hi]; exact hu)
  rw [Go.WideShapes.add_plain] at this
  rw [Nat.add_assoc]
  exact this
 exact ⟨q 0 (by decide) _ rfl,q 1 (by decide) _ rfl,q 2 (by decide) _ rfl,q 3 (by decide) _ rfl⟩
theorem mW (W : World) (T : TypeId) (v0 v1 v2 v3 : Value) : ∀ j u,[v0,v1,v2,v3][j]?=some u→(W.alloc (.cells #[v0,v1,v2,v3] T)).cell? ((⟨W.heap.size,0,none⟩ : Addr).add j)=some u:=by
 intro j u h
 rw [Go.WideShapes.add_plain,Nat.zero_add]
 have h' : (W.alloc (.cells #[v0,v1,v2,v3] T)).heap[W.heap.size]?=some (.cells #[v0,v1,v2,v3] T (0,0)):=by show (W.heap.push _)[W.heap.size]?=_; simp
 rw [World.cell?]
 simp only [h']
 match j,h with
 | 0,h => exact h
 | 1,h => exact h
 | 2,h => exact h
 | 3,h => exact h
theorem a2a (t : Tk) : ∀ u∈Z8 t,u.oneCell'=true:=by
 intro u hu
 unfold Z8 at hu
 simp only [List.mem_cons,List.not_mem_nil,or_false] at hu
 rcases hu with rfl | rfl | rfl | rfl <;> rfl
theorem r6 {W W' : World} {B T k : Nat} {v : Value} {n : Nat} {xs : List Value} (h : W.ownsRow B T k v n xs) (hb : Below W.heap.size W W') : W'.ownsRow B T k v n xs :=
 h.kept (row:=none) ⟨hb.os,hb.tape,hb.output,hb.size,fun i hi _ => hb.block i hi⟩ (by cases hv : v.ownBlock <;> simp)
theorem lA {T : TypeId} {B : Nat} {w W w5 : World} {v : Value} {ts : List Tk} {t : Tk} {g cap' : Nat} (hB : Below B w W) (how : W.ownsRow B T 4 v ts.length (F5 ts))
 (hown' : w5.ownsRow B T 4 (.slice (some ⟨g,0,none⟩) (ts.length + 1) cap') (ts.length + 1) (F5 ts ++ Z8 t)) (hgrow' : W.grownBy w5 v.ownBlock) (hBW : B≤W.heap.size) :
 Below B w w5∧w5.ownsRow B T 4 (.slice (some ⟨g,0,none⟩) (ts ++ [t]).length cap') (ts ++ [t]).length (F5 (ts ++ [t])):=by
 refine ⟨hB.grown hgrow' hBW (fun r e => (how.lt r e).1),?_⟩
 rw [a3I,List.length_append]
 exact hown'
end
section
open Lib (hid)
open Go.RowKit Go.Shelf
def Env (w : World) : Prop:=∃ m,w.cell? ⟨2,0,none⟩=some (.int .i64 m)
theorem Env.size {w : World} (h : Env w) : 2<w.heap.size:=by
 obtain ⟨m,hm⟩:=h
 rcases Nat.lt_or_ge 2 w.heap.size with g | g
 ·exact g
 ·have : w.heap[2]?=none:=Array.getElem?_eq_none g
  simp [World.cell?,this] at hm
theorem Env.below {w w' : World} (h : Env w) (hb : Below w.heap.size w w') : Env w':=by
 have hs:=h.size
 obtain ⟨m,hm⟩:=h
 exact ⟨m,(hb.cell (p:=⟨2,0,none⟩) hs).trans hm⟩
theorem eM (w : World) (n : Nat) : Below w.heap.size w (w.drewN n):=⟨rfl,rfl,rfl,Nat.le_refl _,fun _ _ => rfl⟩
theorem tX (s cut : ByteArray) (w : World) (hs : s.size≤maxLen) (hc : cut.size<4294967281) (ha : ∀ (j : Nat) (b : UInt8),cut.data.toList[j]?=some b→b.toNat<128) :
 Calls Tryz.prog 190 #[.string s,.string cut] w fun e w' => e=.returned (.string ⟨(Lib.trimS s.data.toList cut.data.toList).toArray⟩)∧Below w.heap.size w w' :=
 Any.strings_Trim_laid Tryz.lays160 (by kernel_rfl) s cut w hs hc ha
theorem jS : ∀ (j : Nat) (b : UInt8),xN.data.toList[j]?=some b→b.toNat<128:=ascii_of_all (by decide)
theorem a1v {s : ByteArray} (h : ¬ 0<s.size) : s=⟨#[]⟩:=by
 cases s with
 | mk d => simp only [ByteArray.mk.injEq]; exact Array.eq_empty_of_size_eq_zero (by have : d.size=(ByteArray.mk d).size:=rfl; omega)
theorem a2d {s : ByteArray} (h : 0<s.size) : ¬ s.toList=[]∧s.toList.isEmpty=false:=by
 have : s.toList≠[]:=fun e => by rw [Lib.toList_data] at e; have:=d6 s; rw [e] at this; simp at this; omega
 exact ⟨this,by simpa using this⟩
theorem a2L (s : ByteArray) (w : World) (hs : s.size≤maxLen) :
 Calls Tryz.prog 84 #[.string s,.string ⟨#[46]⟩] w fun e w' => e=.returned (.tuple #[.string ⟨(Lib.cut s.data.toList [46]).1.toArray⟩,.string ⟨(Lib.cut s.data.toList [46]).2.1.toArray⟩,.bool (Lib.cut s.data.toList [46]).2.2])∧Below w.heap.size w w':=by
 have hm : s.size≤9223372036854775807:=hs
 have mixed : Tryz.prog.follows .mixedOrders=true:=by kernel_rfl
 have hio : Lib.indexByte s.data.toList 46=Lib.indexB s ⟨#[46]⟩:=(Lib.index_one _ _).symm
 rcases Lib.indexB_cases s ⟨#[46]⟩ with hix | ⟨i,hix,hroom⟩
 ·obtain ⟨e1,e2,e3⟩:=Lib.cutB_miss s ⟨#[46]⟩ hix
  replace e1 : (⟨(Lib.cut s.data.toList [46]).1.toArray⟩ : ByteArray)=s:=e1
  replace e2 : (⟨(Lib.cut s.data.toList [46]).2.1.toArray⟩ : ByteArray)=ByteArray.empty:=e2
  replace e3 : (Lib.cut s.data.toList [46]).2.2=false:=e3
  rw [e1,e2,e3]
  clear e1 e2 e3
  go_enter Tryz.func84,Tryz.ntmps84
  go_wp2_with (go_at_call 121; refine (Tryz.stringslite_Index_one s 46 _).mono ?_; rintro e w' ⟨rfl,rfl⟩; rw [hio,hix])
  go_ret3
  exact ⟨rfl,Below.refl _ _⟩
 ·obtain ⟨e1,e2,e3⟩:=Lib.cutB_hit s ⟨#[46]⟩ i hix
  replace e1 : (⟨(Lib.cut s.data.toList [46]).1.toArray⟩ : ByteArray)=s.extract 0 i:=e1
  replace e2 : (⟨(Lib.cut s.data.toList [46]).2.1.toArray⟩ : ByteArray)=s.extract (i + 1) s.size:=e2
  replace e3 : (Lib.cut s.data.toList [46]).2.2=true:=e3
  rw [e1,e2,e3]
  clear e1 e2 e3
  replace hroom : i + 1≤s.size:=hroom
  have c1 : (0 : Int)≤↑i:=by omega
  have c2 : (↑i : Int)≤↑s.size:=by omega
  have c3 : (0 : Int)≤↑i + 1:=by omega
  have c4 : (↑i + 1 : Int)≤↑s.size:=by omega
  go_enter Tryz.func84,Tryz.ntmps84
  go_wp2_with (go_at_call 121; refine (Tryz.stringslite_Index_one s 46 _).mono ?_; rintro e w' ⟨rfl,rfl⟩; rw [hio,hix])
  go_region_o
  go_wp2
  go_ret3
  exact ⟨rfl,eM _ 1⟩
theorem a4Z (s : ByteArray) (w : World) (hs : s.size≤maxLen) :
 Calls Tryz.prog 48 #[.string s,.string ⟨#[46]⟩] w fun e w' => e=.returned (.tuple #[.string ⟨(Lib.cut s.data.toList [46]).1.toArray⟩,.string ⟨(Lib.cut s.data.toList [46]).2.1.toArray⟩,.bool (Lib.cut s.data.toList [46]).2.2])∧Below w.heap.size w w':=by
 go_enter Tryz.func48,Tryz.ntmps48
 go_wp2_with (go_at_call 84; refine (a2L s _ hs).mono ?_; rintro e w' ⟨rfl,hb⟩)
 go_ret3
 exact ⟨rfl,hb⟩
def inR (n : Nat) : Bool:=decide (97≤n) && decide (n≤122) || decide (48≤n) && decide (n≤57) || decide (n=95)
theorem qP (c : UInt8) : inR c.toNat=R7 c:=by
 have:=sE (p:=fun c => inR c.toNat == R7 c) (by decide +kernel) c
 simpa using this
theorem pJ (s : ByteArray) : ∀ (f pos : Nat),s.size - pos≤f→(Lib.idxFuncFrom (fun n => !inR n) true s f pos<0↔(s.data.toList.drop pos).all R7=true)
 | 0,pos,h => by
   rw [aJ (by omega)]
   simp [Lib.idxFuncFrom]
 | f + 1,pos,h => by
   unfold Lib.idxFuncFrom
   by_cases hp : pos<s.size
   ·rw [if_pos hp,z8 hp,List.all_cons]
    by_cases ha : (s[pos]'hp).toNat<128
    ·rw [decode_ascii s pos hp ha]
     simp only [qP]
     cases hi : R7 s[pos] with
     | false => simp
     | true =>
       have:=pJ s f (pos + 1) (by omega)
       simpa using this
    ·have hd:=(decode_high s pos hp (by omega)).1
     have hr : inR (Utf8.decode s pos).1=false:=by unfold inR; simp; omega
     have hi : R7 s[pos]=false:=by
      rw [← qP]; unfold inR; simp; omega
     simp only [hr,hi]
     simp
   ·rw [if_neg hp,aJ (by omega)]
    simp
theorem a3m (s : ByteArray) : Lib.idxFunc (fun n => !inR n) true s<0↔s.data.toList.all R7=true:=pJ s s.size 0 (by omega)
theorem wN (n : Nat) (w : World) : Calls Tryz.prog 148 #[.int .i32 n] w fun e w' => e=.returned (.bool (inR n))∧w=w':=by
 go_enter Tryz.func148,Tryz.ntmps148
 go_wp2
 all_goals go_ret
 all_goals exact ⟨i7 (by unfold inR; rw [Bool.eq_iff_iff]; simp; omega),rfl⟩
theorem rE (n : Nat) (w : World) : Calls Tryz.prog 147 #[.int .i32 n] w fun e w' => e=.returned (.bool (!inR n))∧w=w':=by
 go_enter Tryz.func147,Tryz.ntmps147
 go_wp2_with (go_at_call 148; refine (wN n _).mono ?_; rintro e w' ⟨rfl,rfl⟩)
 go_ret
 exact ⟨rfl,rfl⟩
theorem a15 (s : ByteArray) (w : World) : Calls Tryz.prog 146 #[.string s,.func (.func 147) #[] #[]] w fun e w' => e=.returned (.int .i64 (Lib.idxFunc (fun n => !inR n) true s))∧Below w.heap.size w w' :=
 Tryz.strings_IndexFunc 147 #[] (enters_of Tryz.func147 (by kernel_rfl) rfl) (fun n => !inR n) s w fun W x _ => (rE x W).mono fun e w' ⟨h,h'⟩ => ⟨h,0,h'.symm⟩
theorem cH (s : ByteArray) (w : World) (hs : s.size≤maxLen) :
 Calls Tryz.prog 112 #[.string s] w fun e w' => e=.returned (.bool (z7 s.data.toList))∧Below w.heap.size w w':=by
 have hm:=hs
 unfold maxLen at hm
 by_cases h0 : ¬ 0<s.size
 ·rw [a1v h0]
  go_enter Tryz.func112,Tryz.ntmps112
  go_wp2
  go_ret
  exact ⟨rfl,Below.refl _ _⟩
 have h0 : 0<s.size:=by omega
 obtain ⟨e1,e2⟩:=a2d h0
 have hh:=hid (U7 h0)
 have hl:=hid (d6 s)
 by_cases h1 : ¬ s.size≤24
 ·have e:=hid (show z7 s.data.toList=false by unfold z7; rw [hl.out,decide_eq_false (by omega)]; rfl)
  have h1 : 24<s.size:=by omega
  go_enter Tryz.func112,Tryz.ntmps112
  go_wp2
  go_ret
  exact ⟨i7 e.out.symm,Below.refl _ _⟩
 have h1 : s.size≤24:=by omega
 by_cases h2 : (s[0].toNat : Int)<97
 ·have e:=hid (show z7 s.data.toList=false by unfold z7; rw [hh.out,decide_eq_false (show ¬ (97 : Int)≤(s[0].toNat : Int) by omega)]; simp)
  go_enter Tryz.func112,Tryz.ntmps112
  go_wp2
  go_ret
  exact ⟨i7 e.out.symm,Below.refl _ _⟩
 by_cases h3 : 122<(s[0].toNat : Int)
 ·have e:=hid (show z7 s.data.toList=false by unfold z7; rw [hh.out,decide_eq_false (show ¬ (s[0].toNat : Int)≤122 by omega)]; simp)
  go_enter Tryz.func112,Tryz.ntmps112
  go_wp2
  go_ret
  exact ⟨i7 e.out.symm,Below.refl _ _⟩
 ·have e:=hid (show z7 s.data.toList=decide (Lib.idxFunc (fun n => !inR n) true s<0) by
   unfold z7; rw [hh.out,hl.out,decide_eq_true (show s.size≤24 by omega),decide_eq_true (show (97 : Int)≤(s[0].toNat : Int) by omega),decide_eq_true (show (s[0].toNat : Int)≤122 by omega),Bool.eq_iff_iff,decide_eq_true_eq,a3m]; rfl)
  go_enter Tryz.func112,Tryz.ntmps112
  go_wp2_with (go_at_call 146; refine (a15 s _).mono ?_; rintro e w' ⟨rfl,hb⟩)
  go_ret
  exact ⟨i7 e.out.symm,hb⟩
theorem aG (s : ByteArray) (w : World) (hs : s.size≤maxLen) (he : Env w) :
 Calls Tryz.prog 75 #[.string s] w fun e w' => e=.returned (.bool (j8 s.data.toList))∧Below w.heap.size w w':=by
 have hm:=hs
 unfold maxLen at hm
 cases hn : z7 s.data.toList
 ·have E:=hid (show j8 s.data.toList=false by unfold j8; rw [hn]; rfl)
  go_enter Tryz.func75,Tryz.ntmps75
  go_wp2_with (first | (go_at_call 112; refine (cH s _ hs).mono ?_; rintro e w' ⟨rfl,hb⟩; rw [hn]))
  go_ret
  exact ⟨i7 E.out.symm,hb⟩
 ·have E:=hid (show j8 s.data.toList=!aI s.data.toList by unfold j8; rw [hn]; rfl)
  have hz : s.size≤24:=by have:=nO hn; rw [d6] at this; exact this
  have C:=hid (oO hn)
  go_enter Tryz.func75,Tryz.ntmps75
  go_wp2_with (first | (go_at_call 112; refine (cH s _ hs).mono ?_; rintro e w1 ⟨rfl,hb1⟩; rw [hn]; obtain ⟨m,hm'⟩:=he.below hb1) | (go_at_call 113; refine (Tryz.strings_Contains _ _ m _ (by decide) hm').mono ?_; rintro e w' ⟨rfl,rfl⟩))
  go_ret
  exact ⟨i7 (by rw [E.out,← C.out]; rfl),hb1⟩
theorem a1u (s : ByteArray) : (⟨(Lib.cut s.data.toList [46]).1.toArray⟩ : ByteArray).size≤s.size∧(⟨(Lib.cut s.data.toList [46]).2.1.toArray⟩ : ByteArray).size≤s.size:=by
 have hl:=d6 s
 show (Lib.cut s.data.toList [46]).1.toArray.size≤s.size∧(Lib.cut s.data.toList [46]).2.1.toArray.size≤s.size
 simp only [List.size_toArray]
 unfold Lib.cut
 split
 ·simp only [List.length_take,List.length_drop]; omega
 ·simp
theorem lN (s : ByteArray) (w : World) (hs : s.size≤maxLen) (he : Env w) :
 Calls Tryz.prog 151 #[.string s] w fun e w' => e=.returned (.bool (fX s.data.toList))∧Below w.heap.size w w':=by
 obtain ⟨z1,z2⟩:=a1u s
 have E:=hid (show fX s.data.toList=(j8 (Lib.cut s.data.toList [46]).1 && (!(Lib.cut s.data.toList [46]).2.2 || j8 (Lib.cut s.data.toList [46]).2.1)) from rfl)
 cases h1 : j8 (Lib.cut s.data.toList [46]).1
 case' true => cases h2 : (Lib.cut s.data.toList [46]).2.2
 all_goals
  go_enter Tryz.func151,Tryz.ntmps151
  go_wp2_with fail
  refine Calls.mono (a4Z s w hs) ?_
  rintro e w1 ⟨rfl,hb1⟩
  have he1:=hid (he.below hb1)
  have HB:=hid hb1
  clear hb1
  (try rw [h2])
  go_wp2_with fail
  refine Calls.mono (aG _ _ (Nat.le_trans z1 hs) he1) ?_
  rintro e w2 ⟨rfl,hb2⟩
  rw [show j8 ({ data:=(Lib.cut s.data.toList [46]).1.toArray } : ByteArray).data.toList=_ from h1]
  have he2:=hid (he1.out.below hb2)
  have HC:=hid (HB.out.trans (hb2.mono HB.out.size))
  clear hb2
  go_wp2_with fail
 ·go_ret
  exact ⟨i7 (by rw [E.out,h1,h2]; rfl),HC⟩
 ·refine Calls.mono (aG _ _ (Nat.le_trans z2 hs) he2) ?_
  rintro e w3 ⟨rfl,hb3⟩
  have HD:=hid (HC.out.trans (hb3.mono HC.out.size))
  clear hb3
  go_wp2_with fail
  go_ret
  exact ⟨i7 (by rw [E.out,h1,h2]; rfl),HD⟩
 ·go_ret
  exact ⟨i7 (by rw [E.out,h1]; rfl),HC⟩
theorem yR (s : ByteArray) (w : World) (hs : s.size≤maxLen) :
 Calls Tryz.prog 173 #[.string s] w fun e w' => e=.returned (.bool (eI s.data.toList))∧Below w.heap.size w w':=by
 have hm:=hs
 unfold maxLen at hm
 have hl:=hid (d6 s)
 by_cases h1 : s.size=3
 ·have e:=hid (show eI s.data.toList=(Lib.trimS s.data.toList xN.data.toList).isEmpty by unfold eI; rw [hl.out,decide_eq_true h1,yS]; rfl)
  go_enter Tryz.func173,Tryz.ntmps173
  go_wp2_with (go_at_call 190; refine (tX _ _ _ hs (by decide) jS).mono ?_; rintro e w' ⟨rfl,hb⟩)
  go_ret
  exact ⟨i7 e.out.symm,hb⟩
 ·have e:=hid (show eI s.data.toList=false by unfold eI; rw [hl.out,decide_eq_false h1]; rfl)
  go_enter Tryz.func173,Tryz.ntmps173
  go_wp2_with (go_at_call 190; refine (tX _ _ _ hs (by decide) jS).mono ?_; rintro e w' ⟨rfl,hb⟩)
  go_ret
  exact ⟨i7 e.out.symm,Below.refl _ _⟩
end
end Go.Proofs.YtppcfebnaieciaaGreatDoor
