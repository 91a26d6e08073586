/-
  Laws that the proof rests on.
-/
import Derived.Test.YtibiccacafjjfaaGreatDoorR05
import Derived.Test.YtibiccacafjjfaaGreatDoorR08
import Derived.Test.YtibiccacafjjfaaGreatDoorR01
namespace Go.Proofs.YtibiccacafjjfaaGreatDoor
set_option maxRecDepth 100000
set_option maxHeartbeats 16000000
section
open Lib (hid)
open Go.RowKit
theorem dJ {a b : Int} {c d : Bool} (h : a=b) (h' : c=d) : Ending.returned (.tuple #[.int .i64 a,.bool c])=.returned (.tuple #[.int .i64 b,.bool d]):=by rw [h,h']
theorem O8 (n : Int) (w : World) : Calls Tryz.prog 141 #[.int .u8 n] w fun e w' => e=.returned (.bool (dgI n))∧w=w':=by
 go_enter Tryz.func141,Tryz.ntmps141
 go_wp2
 all_goals go_ret
 all_goals exact ⟨Y6 (by unfold dgI; rw [Bool.eq_iff_iff]; simp; omega),rfl⟩
theorem lE {s : ByteArray} {k : Nat} (_h : k<s.size) (h' : k<s.data.toList.length) : s.data.toList[k]=s[k]'_h:=rfl
theorem bK (s : ByteArray) (w : World) (hs : s.size≤maxLen) (h0 : 0<s.size) (hd : dgC s[0]=true) :
 Calls Tryz.prog 114 #[.string s] w fun e w' => e=.returned (.tuple #[.int .i64 (sB s.data.toList),.bool (sK s.data.toList)])∧w=w':=by
 have hm:=hs
 unfold maxLen at hm
 have hdn:=fL hd
 have hz : s.data.toList.headD 0=s[0]:=aQ h0
 have h45 : s.data.toList.headD 0≠45:=by
  rw [hz]; rintro e; rw [e] at hd; exact absurd hd (by decide)
 have H45:=hid h45
 have HZ:=hid hz
 have HD:=hid hd
 have HL:=hid (d6 s)
 have e45 : ((s[0].toNat : Int) == 45)=false:=by rw [beq_eq_false_iff_ne]; omega
 clear h45 hz hd hdn
 go_enter Tryz.func114,Tryz.ntmps114
 go_wp2_with fail
 clear e45
 go_loop [5] (fun n => ∃ k : Nat,k≤s.size∧n=.int .i64 k∧Hid (∀ j (hj : j<s.data.toList.length),j<k→dgC s.data.toList[j]=true)) (fun n => s.size - (intOf n).toNat)
 case atStart => exact ⟨0,by omega,rfl,fun j hj h => by omega⟩
 case round =>
  obtain ⟨k,hk,rfl,HAll⟩:=hrel
  by_cases hgo : ∃ hlt : k<s.size,dgC s[k]=true
  ·obtain ⟨hlt,hc⟩:=hgo
   have hi : dgI s[k].toNat=true:=by rw [← bR]; exact hc
   have HC:=hid hc
   clear hc
   go_wp2_with (first | (go_at_call 141; refine (O8 _ _).mono ?_; rintro e w' ⟨rfl,rfl⟩; rw [hi]))
   go_round
   case rel =>
    refine ⟨k + 1,by omega,by go_num,fun j hj h => ?_⟩
    by_cases e : j=k
    ·subst e; exact HC
    ·exact HAll.out j hj (by omega)
   case measure => simp [intOf]; omega
  ·have hnd : ∀ (hlt : k<s.data.toList.length),dgC s.data.toList[k]=false:=fun hlt => by
    rw [Bool.eq_false_iff]; exact fun e => hgo ⟨by rw [← HL.out]; exact hlt,e⟩
   have hdr:=vL (d:=s.data.toList) (k:=k) (by rw [HL.out]; exact hk) HAll hnd
   have HDR:=hid hdr
   have hk1 : 1≤k:=by
    rcases Nat.eq_zero_or_pos k with e | e
    ·exfalso; subst e; exact hgo ⟨h0,HD⟩
    ·exact e
   have HU:=hid (a6R hdr)
   clear hdr
   have HV0:=hid (show dgC s[0]=true from HD)
   by_cases hlt : k<s.size
   ·have hi0 : dgI s[k].toNat=false:=by rw [← bR]; exact hnd (by rw [HL.out]; exact hlt)
    clear hgo hnd
    by_cases h10 : 10<(k : Int)
    ·have HN:=hid (bL H45 (show V4 s.data.toList=none by rw [HU.out,if_neg]; omega))
     go_wp2_with (first | (go_at_call 141; refine (O8 _ _).mono ?_; rintro e w' ⟨rfl,rfl⟩; rw [hi0]))
     go_ret2
     exact ⟨dJ HN.out.1.symm HN.out.2.symm,rfl⟩
    by_cases h1 : 1<(k : Int)∧(s[0].toNat : Int)=48
    ·obtain ⟨h1,h2⟩:=h1
     have e48 : ((s[0].toNat : Int) == 48)=true:=by rw [h2]; rfl
     have HN:=hid (bL H45 (show V4 s.data.toList=none by
      rw [HU.out,if_neg]
      rintro ⟨-,-,h | h,-⟩
      ·omega
      ·rw [HZ.out] at h; exact h (UInt8.toNat_inj.1 (Int.ofNat.inj h2))))
     clear h2
     go_wp2_with (first | (go_at_call 141; refine (O8 _ _).mono ?_; rintro e w' ⟨rfl,rfl⟩; rw [hi0]))
     go_ret2
     exact ⟨dJ HN.out.1.symm HN.out.2.symm,rfl⟩
    have hz1 : k=1∨s[0]≠48:=by
     rcases Nat.lt_or_ge 1 k with g | g
     ·refine .inr fun e => h1 ⟨by omega,by rw [e]; rfl⟩
     ·exact .inl (by omega)
    have HZ1:=hid hz1
    have e1 : (¬ 1<(k : Int))∨(1<(k : Int)∧((s[0].toNat : Int) == 48)=false):=by
     rcases Nat.lt_or_ge 1 k with g | g
     ·refine .inr ⟨by omega,?_⟩
      rcases hz1 with e | e
      ·omega
      ·rw [beq_eq_false_iff_ne]; exact fun g => e (UInt8.toNat_inj.1 (Int.ofNat.inj g))
     ·exact .inl (by omega)
    clear hz1 h1
    obtain ⟨P,hP⟩ : ∃ P,s.size=k + 1 + P:=⟨s.size - k - 1,by omega⟩
    have hPe : ((s.size : Int) - k - 1)=P:=by omega
    have HPP:=hid hP
    have HDK:=hid (List.drop_eq_getElem_cons (show k<s.data.toList.length by rw [HL.out]; exact hlt))
    have hpl : (s.data.toList.drop (k + 1)).length=P:=by rw [List.length_drop,HL.out]; omega
    have HPL:=hid hpl
    clear hP hpl
    rcases e1 with e1 | ⟨e1,e1'⟩
    all_goals
     by_cases h46 : (s[k].toNat : Int)=46
     case neg =>
      have e46 : ((s[k].toNat : Int) != 46)=true:=by rw [bne_iff_ne]; exact h46
      have HN:=hid (bL H45 (show V4 s.data.toList=none by
       rw [HU.out,if_neg]
       rintro ⟨-,-,-,h⟩
       rw [HDK.out] at h
       simp only [aD,Bool.and_eq_true,beq_iff_eq] at h
       exact h46 (by rw [← lE hlt (by rw [HL.out]; exact hlt),h.1]; rfl)))
      clear h46
      go_wp2_with (first | (go_at_call 141; refine (O8 _ _).mono ?_; rintro e w' ⟨rfl,rfl⟩; rw [hi0]))
      go_ret2
      exact ⟨dJ HN.out.1.symm HN.out.2.symm,rfl⟩
     have e46 : ((s[k].toNat : Int) != 46)=false:=by rw [h46]; rfl
     have H46:=hid (show s.data.toList[k]'(by rw [HL.out]; exact hlt)=46 from UInt8.toNat_inj.1 (Int.ofNat.inj h46))
     clear h46
     by_cases hp1 : (P : Int)<1
     ·have HN:=hid (bL H45 (show V4 s.data.toList=none by
       rw [HU.out,if_neg]
       rintro ⟨-,-,-,h⟩
       rw [HDK.out] at h
       simp only [aD,Bool.and_eq_true,decide_eq_true_eq] at h
       have:=HPL.out
       omega))
      go_wp2_with (first | (go_at_call 141; refine (O8 _ _).mono ?_; rintro e w' ⟨rfl,rfl⟩; rw [hi0]))
      go_ret2
      exact ⟨dJ HN.out.1.symm HN.out.2.symm,rfl⟩
     by_cases hp6 : 6<(P : Int)
     ·have HN:=hid (bL H45 (show V4 s.data.toList=none by
       rw [HU.out,if_neg]
       rintro ⟨-,-,-,h⟩
       rw [HDK.out] at h
       simp only [aD,Bool.and_eq_true,decide_eq_true_eq] at h
       have:=HPL.out
       omega))
      go_wp2_with (first | (go_at_call 141; refine (O8 _ _).mono ?_; rintro e w' ⟨rfl,rfl⟩; rw [hi0]))
      go_ret2
      exact ⟨dJ HN.out.1.symm HN.out.2.symm,rfl⟩
     go_wp2_with (first | (go_at_call 141; refine (O8 _ _).mono ?_; rintro e w' ⟨rfl,rfl⟩; rw [hi0]))
     have hjP1 : s.size≤k + 1 + P:=Nat.le_of_eq HPP
     have hjP2 : k + 1 + P≤s.size:=Nat.le_of_eq HPP.out.symm
     clear hPe
     have hq6 : (bY s.data.toList k).length=6:=xK (by rw [HL.out]; omega)
     have HQ6:=hid hq6
     have HVE:=hid (show V4 s.data.toList=some (Cal.val (s.data.toList.take k ++ (bY s.data.toList k).take 6))∨V4 s.data.toList=none from by
      rw [HU.out]
      split
      ·refine .inl ?_
       rw [List.take_of_length_le (Nat.le_of_eq hq6),List.append_assoc]; rfl
      ·exact .inr rfl)
     clear hq6
     go_loop [7,8] (fun n i => ∃ j : Nat,j≤k∧i=.int .i64 j∧n=.int .i64 (Cal.val (s.data.toList.take j))) (fun _ i => k - (intOf i).toNat)
     case atStart => exact ⟨0,Nat.zero_le _,rfl,rfl⟩
     case round =>
      obtain ⟨j,hj,rfl,rfl⟩:=hrel
      have hbd:=gK (l:=s.data.toList.take j) (n:=10) (by
       exact aW fun i hi h => HAll.out i hi (by omega)) (by rw [List.length_take]; omega)
      simp only [Int.reducePow] at hbd
      obtain ⟨hb1,hb2⟩:=hbd
      by_cases hjk : j<k
      ·have hjs : j<s.size:=by omega
       have hdj:=fL (show dgC s[j]=true from HAll.out j (by rw [HL.out]; omega) hjk)
       have V:=hid (uD (d:=s.data.toList) (i:=j) (by rw [HL.out]; omega))
       obtain ⟨hd1,hd2⟩:=hdj
       go_wp2_with fail
       go_round
       case rel => exact ⟨j + 1,by omega,by go_num,by rw [V.out,lE hjs]⟩
       case measure => simp [intOf]; omega
      ·obtain rfl : j=k:=by omega
       go_wp2_with fail
       clear hb1 hb2
       go_loop [7,9,10,11] (fun n i _ _ => ∃ m : Nat,m≤6∧i=.int .i64 m∧n=.int .i64 (Cal.val (s.data.toList.take j ++ (bY s.data.toList j).take m))∧Hid (∀ i (hi : i<(bY s.data.toList j).length),i<m→dgC (bY s.data.toList j)[i]=true)) (fun _ i _ _ => 6 - (intOf i).toNat)
       case atStart => exact ⟨0,Nat.zero_le _,rfl,by rw [List.take_zero,List.append_nil],fun i hi h => by omega⟩
       case round =>
        obtain ⟨m,hm6,rfl,rfl,HQ⟩:=hrel
        have hbd:=gK (l:=s.data.toList.take j ++ (bY s.data.toList j).take m) (n:=16) (by
         rw [List.all_append,aW fun i hi h => HAll.out i hi (by omega),aW fun i hi h => HQ.out i hi h]; rfl) (by rw [List.length_append,List.length_take,List.length_take]; omega)
        have hbd':=hbd
        simp only [Int.reducePow] at hbd
        obtain ⟨hb1,hb2⟩:=hbd
        by_cases hm : m<6
        ·have V:=hid (xM (l:=s.data.toList.take j) (q:=bY s.data.toList j) (i:=m) (by rw [HQ6.out]; exact hm))
         have hb3:=(gK (l:=s.data.toList.take j ++ (bY s.data.toList j).take m) (n:=15) (by
          rw [List.all_append,aW fun i hi h => HAll.out i hi (by omega),aW fun i hi h => HQ.out i hi h]; rfl) (by rw [List.length_append,List.length_take,List.length_take]; omega)).2
         simp only [Int.reducePow] at hb3
         clear hbd'
         by_cases hmp : (m : Int)<P
         ·have hjm : j + 1 + m<s.size:=by omega
          have QA:=hid (a1C (d:=s.data.toList) (k:=j) (i:=m) (by rw [HL.out]; exact hjm) (by rw [HQ6.out]; exact hm))
          cases hdg : dgC s[j + 1 + m]
          ·have hi : dgI s[j + 1 + m].toNat=false:=by rw [← bR]; exact hdg
           have HN:=hid (bL H45 (show V4 s.data.toList=none by
            rw [HU.out,if_neg]
            rintro ⟨-,-,-,h⟩
            rw [List.drop_eq_getElem_cons (show j<s.data.toList.length by rw [HL.out]; omega)] at h
            simp only [aD,Bool.and_eq_true] at h
            have:=List.all_eq_true.1 h.2.2 s[j + 1 + m] (by
             have h2 : j + 1 + m<s.data.toList.length:=by rw [HL.out]; exact hjm
             exact rH (l:=s.data.toList) (j:=j + 1 + m) h2 (by omega))
            rw [this] at hdg; cases hdg))
           clear hdg
           go_wp2_with (first | (go_at_call 141; refine (O8 _ _).mono ?_; rintro e w' ⟨rfl,rfl⟩; rw [hi]))
           go_ret2
           exact ⟨dJ HN.out.1.symm HN.out.2.symm,rfl⟩
          ·have hi : dgI s[j + 1 + m].toNat=true:=by rw [← bR]; exact hdg
           have HDG:=hid hdg
           obtain ⟨hd1,hd2⟩:=fL hdg
           clear hdg
           go_wp2_with (first | (go_at_call 141; refine (O8 _ _).mono ?_; rintro e w' ⟨rfl,rfl⟩; rw [hi]))
           go_round
           case rel =>
            refine ⟨m + 1,by omega,by go_num,by rw [V.out,QA.out,lE hjm]; (try go_num),fun i hi h => ?_⟩
            by_cases e : i=m
            ·subst e; rw [QA.out]; exact HDG
            ·exact HQ.out i hi (by omega)
           case measure => simp [intOf]; omega
         ·have hmz : ¬ (m : Int)<P:=hmp
          have Q0:=hid (a4l (d:=s.data.toList) (k:=j) (i:=m) (by rw [HL.out]; omega) (by rw [HQ6.out]; exact hm))
          go_wp2_with fail
          go_round
          case rel =>
           refine ⟨m + 1,by omega,by go_num,by rw [V.out,Q0.out]; exact congrArg (Value.int .i64) (by have : ((48 : UInt8).toNat : Int)=48:=rfl; omega),fun i hi h => ?_⟩
           by_cases e : i=m
           ·subst e; rw [Q0.out]; decide
           ·exact HQ.out i hi (by omega)
          case measure => simp [intOf]; omega
        ·obtain rfl : m=6:=by omega
         have hok : 1≤j∧j≤10∧(j=1∨s.data.toList.headD 0≠48)∧aD (s.data.toList.drop j)=true:=⟨hk1,by omega,by rw [HZ.out]; exact HZ1,by
          rw [HDK.out,H46.out]
          have:=HPL.out
          simp only [aD,Bool.and_eq_true,decide_eq_true_eq,beq_self_eq_true,true_and]
          refine ⟨⟨by omega,by omega⟩,?_⟩
          rw [List.all_eq_true]
          intro c hc
          obtain ⟨i,hi,rfl⟩:=List.getElem_of_mem hc
          rw [List.getElem_drop]
          have hi2 : i<(bY s.data.toList j).length:=by rw [HQ6.out]; omega
          have hi3 : j + 1 + i<s.data.toList.length:=by rw [List.length_drop] at hi; omega
          rw [← a1C hi3 hi2]
          exact HQ.out i hi2 (by omega)⟩
         have HV:=hid (show V4 s.data.toList=some (Cal.val (s.data.toList.take j ++ (bY s.data.toList j).take 6)) by
          rcases HVE.out with e | e
          ·exact e
          ·rw [HU.out,if_pos hok] at e; cases e)
         clear hbd' HQ
         generalize Cal.val (s.data.toList.take j ++ (bY s.data.toList j).take 6)=V at hb1 hb2 HV HVE ⊢
         by_cases hbig : 1000000000000000<V
         ·have HN:=hid (zP H45 HV hbig)
          go_wp2_with fail
          go_ret2
          exact ⟨dJ HN.out.1.symm HN.out.2.symm,rfl⟩
         ·have HN:=hid (sY H45 HV hbig)
          go_wp2_with fail
          go_ret2
          exact ⟨dJ HN.out.1.symm HN.out.2.symm,rfl⟩
   ·obtain rfl : k=s.size:=by omega
    clear hgo hnd
    by_cases h10 : 10<(s.size : Int)
    ·have HN:=hid (bL H45 (show V4 s.data.toList=none by rw [HU.out,if_neg]; omega))
     go_wp2_with fail
     go_ret2
     exact ⟨dJ HN.out.1.symm HN.out.2.symm,rfl⟩
    by_cases h1 : 1<(s.size : Int)∧(s[0].toNat : Int)=48
    ·obtain ⟨h1,h2⟩:=h1
     have e48 : ((s[0].toNat : Int) == 48)=true:=by rw [h2]; rfl
     have HN:=hid (bL H45 (show V4 s.data.toList=none by
      rw [HU.out,if_neg]
      rintro ⟨-,-,h | h,-⟩
      ·omega
      ·rw [HZ.out] at h; exact h (UInt8.toNat_inj.1 (Int.ofNat.inj h2))))
     clear h2
     go_wp2_with fail
     go_ret2
     exact ⟨dJ HN.out.1.symm HN.out.2.symm,rfl⟩
    have hz1 : s.size=1∨s[0]≠48:=by
     rcases Nat.lt_or_ge 1 s.size with g | g
     ·refine .inr fun e => h1 ⟨by omega,by rw [e]; rfl⟩
     ·exact .inl (by omega)
    have HZ1:=hid hz1
    have e1 : (¬ 1<(s.size : Int))∨(1<(s.size : Int)∧((s[0].toNat : Int) == 48)=false):=by
     rcases Nat.lt_or_ge 1 s.size with g | g
     ·refine .inr ⟨by omega,?_⟩
      rcases hz1 with e | e
      ·omega
      ·rw [beq_eq_false_iff_ne]; exact fun g => e (UInt8.toNat_inj.1 (Int.ofNat.inj g))
     ·exact .inl (by omega)
    clear hz1 h1
    rcases e1 with e1 | ⟨e1,e1'⟩
    all_goals
     go_wp2_with fail
     have hq6 : (bY s.data.toList s.size).length=6:=xK (by rw [HL.out]; omega)
     have HQ6:=hid hq6
     have HVE:=hid (show V4 s.data.toList=some (Cal.val (s.data.toList.take s.size ++ (bY s.data.toList s.size).take 6))∨V4 s.data.toList=none from by
      rw [HU.out]
      split
      ·refine .inl ?_
       rw [List.take_of_length_le (Nat.le_of_eq hq6),List.append_assoc]; rfl
      ·exact .inr rfl)
     clear hq6
     go_loop [7,8] (fun n i => ∃ j : Nat,j≤s.size∧i=.int .i64 j∧n=.int .i64 (Cal.val (s.data.toList.take j))) (fun _ i => s.size - (intOf i).toNat)
     case atStart => exact ⟨0,Nat.zero_le _,rfl,rfl⟩
     case round =>
      obtain ⟨j,hj,rfl,rfl⟩:=hrel
      have hbd:=gK (l:=s.data.toList.take j) (n:=10) (by
       exact aW fun i hi h => HAll.out i hi (by omega)) (by rw [List.length_take]; omega)
      simp only [Int.reducePow] at hbd
      obtain ⟨hb1,hb2⟩:=hbd
      by_cases hjk : j<s.size
      ·have hjs : j<s.size:=by omega
       have hdj:=fL (show dgC s[j]=true from HAll.out j (by rw [HL.out]; omega) hjk)
       have V:=hid (uD (d:=s.data.toList) (i:=j) (by rw [HL.out]; omega))
       obtain ⟨hd1,hd2⟩:=hdj
       go_wp2_with fail
       go_round
       case rel => exact ⟨j + 1,by omega,by go_num,by rw [V.out,lE hjs]⟩
       case measure => simp [intOf]; omega
      ·obtain rfl : j=s.size:=by omega
       go_wp2_with fail
       clear hb1 hb2
       go_loop [7,9,10,11] (fun n i _ _ => ∃ m : Nat,m≤6∧i=.int .i64 m∧n=.int .i64 (Cal.val (s.data.toList.take s.size ++ (bY s.data.toList s.size).take m))∧Hid (∀ i (hi : i<(bY s.data.toList s.size).length),i<m→dgC (bY s.data.toList s.size)[i]=true)) (fun _ i _ _ => 6 - (intOf i).toNat)
       case atStart => exact ⟨0,Nat.zero_le _,rfl,by rw [List.take_zero,List.append_nil],fun i hi h => by omega⟩
       case round =>
        obtain ⟨m,hm6,rfl,rfl,HQ⟩:=hrel
        have hbd:=gK (l:=s.data.toList.take s.size ++ (bY s.data.toList s.size).take m) (n:=16) (by
         rw [List.all_append,aW fun i hi h => HAll.out i hi (by omega),aW fun i hi h => HQ.out i hi h]; rfl) (by rw [List.length_append,List.length_take,List.length_take]; omega)
        have hbd':=hbd
        simp only [Int.reducePow] at hbd
        obtain ⟨hb1,hb2⟩:=hbd
        by_cases hm : m<6
        ·have V:=hid (xM (l:=s.data.toList.take s.size) (q:=bY s.data.toList s.size) (i:=m) (by rw [HQ6.out]; exact hm))
         have hb3:=(gK (l:=s.data.toList.take s.size ++ (bY s.data.toList s.size).take m) (n:=15) (by
          rw [List.all_append,aW fun i hi h => HAll.out i hi (by omega),aW fun i hi h => HQ.out i hi h]; rfl) (by rw [List.length_append,List.length_take,List.length_take]; omega)).2
         simp only [Int.reducePow] at hb3
         clear hbd'
         ·skip
          have Q0:=hid (a4l (d:=s.data.toList) (k:=s.size) (i:=m) (by rw [HL.out]; omega) (by rw [HQ6.out]; exact hm))
          go_wp2_with fail
          go_round
          case rel =>
           refine ⟨m + 1,by omega,by go_num,by rw [V.out,Q0.out]; exact congrArg (Value.int .i64) (by have : ((48 : UInt8).toNat : Int)=48:=rfl; omega),fun i hi h => ?_⟩
           by_cases e : i=m
           ·subst e; rw [Q0.out]; decide
           ·exact HQ.out i hi (by omega)
          case measure => simp [intOf]; omega
        ·obtain rfl : m=6:=by omega
         have hok : 1≤s.size∧s.size≤10∧(s.size=1∨s.data.toList.headD 0≠48)∧aD (s.data.toList.drop s.size)=true:=⟨hk1,by omega,by rw [HZ.out]; exact HZ1,by
          rw [List.drop_of_length_le (by rw [HL.out]; omega)]; rfl⟩
         have HV:=hid (show V4 s.data.toList=some (Cal.val (s.data.toList.take s.size ++ (bY s.data.toList s.size).take 6)) by
          rcases HVE.out with e | e
          ·exact e
          ·rw [HU.out,if_pos hok] at e; cases e)
         clear hbd' HQ
         generalize Cal.val (s.data.toList.take s.size ++ (bY s.data.toList s.size).take 6)=V at hb1 hb2 HV HVE ⊢
         by_cases hbig : 1000000000000000<V
         ·have HN:=hid (zP H45 HV hbig)
          go_wp2_with fail
          go_ret2
          exact ⟨dJ HN.out.1.symm HN.out.2.symm,rfl⟩
         ·have HN:=hid (sY H45 HV hbig)
          go_wp2_with fail
          go_ret2
          exact ⟨dJ HN.out.1.symm HN.out.2.symm,rfl⟩
end
section
open Lib (hid)
open Go.RowKit
theorem a2n (s : ByteArray) (w : World) (hs : ¬ s.size=10) :
 Calls Tryz.prog 147 #[.string s] w fun e w' => e=.returned (.tuple #[.int .i64 0,.int .i64 30])∧Below w.heap.size w w':=by
 go_enter Tryz.func147,Tryz.ntmps147
 go_wp2
 go_ret2
 exact ⟨rfl,hY _ _⟩
def mP (s : ByteArray) (B : Nat) (a b c : Int) (w wr : World) : Prop :=
 Below B w wr∧(∀ j (hj : j<s.size),wr.cell? ⟨B + 1,j,none⟩=some (.int .u8 (s[j].toNat : Int))) ∧
 wr.cell? ⟨B,0,none⟩=some (.int .i64 a)∧wr.cell? ⟨B,1,none⟩=some (.int .i64 b)∧wr.cell? ⟨B,2,none⟩=some (.int .i64 c) ∧
 (∀ j,wr.frozen? ⟨B,j,none⟩=false)
theorem mP.set0 {s : ByteArray} {B : Nat} {a b c x : Int} {w wr : World} (h : mP s B a b c w wr) : mP s B x b c w (wr.setCell ⟨B,0,none⟩ (.int .i64 x)):=by
 obtain ⟨h1,h2,h3,h4,h5,h6⟩:=h
 refine ⟨h1.setCell (Nat.le_refl _) _,fun j hj => ?_,World.cell?_setCell_same _ _ _ h3,?_,?_,fun j => by rw [World.frozen?_setCell]; exact h6 j⟩
 ·rw [World.cell?_setCell_other _ _ _ _ (by simp)]; exact h2 j hj
 ·rw [World.cell?_setCell_other _ _ _ _ (by simp)]; exact h4
 ·rw [World.cell?_setCell_other _ _ _ _ (by simp)]; exact h5
theorem mP.set1 {s : ByteArray} {B : Nat} {a b c x : Int} {w wr : World} (h : mP s B a b c w wr) : mP s B a x c w (wr.setCell ⟨B,1,none⟩ (.int .i64 x)):=by
 obtain ⟨h1,h2,h3,h4,h5,h6⟩:=h
 refine ⟨h1.setCell (Nat.le_refl _) _,fun j hj => ?_,?_,World.cell?_setCell_same _ _ _ h4,?_,fun j => by rw [World.frozen?_setCell]; exact h6 j⟩
 ·rw [World.cell?_setCell_other _ _ _ _ (by simp)]; exact h2 j hj
 ·rw [World.cell?_setCell_other _ _ _ _ (by simp)]; exact h3
 ·rw [World.cell?_setCell_other _ _ _ _ (by simp)]; exact h5
theorem mP.set2 {s : ByteArray} {B : Nat} {a b c x : Int} {w wr : World} (h : mP s B a b c w wr) : mP s B a b x w (wr.setCell ⟨B,2,none⟩ (.int .i64 x)):=by
 obtain ⟨h1,h2,h3,h4,h5,h6⟩:=h
 refine ⟨h1.setCell (Nat.le_refl _) _,fun j hj => ?_,?_,?_,World.cell?_setCell_same _ _ _ h5,fun j => by rw [World.frozen?_setCell]; exact h6 j⟩
 ·rw [World.cell?_setCell_other _ _ _ _ (by simp)]; exact h2 j hj
 ·rw [World.cell?_setCell_other _ _ _ _ (by simp)]; exact h3
 ·rw [World.cell?_setCell_other _ _ _ _ (by simp)]; exact h4
theorem mP.start (s : ByteArray) (w : World) (cap : Nat) : mP s w.heap.size 0 0 0 w
 ((w.alloc (.cells #[.int .i64 0,.int .i64 0,.int .i64 0] 179)).drew.alloc (.cells (bytesRow s cap) 5 ((bytesRow s cap).size,(bytesRow s cap).size + 1))):=by
 have hsz : (w.alloc (.cells #[.int .i64 0,.int .i64 0,.int .i64 0] 179)).drew.heap.size=w.heap.size + 1:=by show (w.heap.push _).size=_; simp
 have old : ∀ j,((w.alloc (.cells #[.int .i64 0,.int .i64 0,.int .i64 0] 179)).drew.alloc (.cells (bytesRow s cap) 5 ((bytesRow s cap).size,(bytesRow s cap).size + 1))).cell? ⟨w.heap.size,j,none⟩=(w.alloc (.cells #[.int .i64 0,.int .i64 0,.int .i64 0] 179)).cell? ⟨w.heap.size,j,none⟩:=fun j =>
  World.cell?_of_block (w:=(w.alloc (.cells #[.int .i64 0,.int .i64 0,.int .i64 0] 179))) (Below.heap_alloc _ _ _ (by rw [hsz]; exact Nat.lt_succ_self _))
 refine ⟨((hY w _).drew).alloc (by rw [hsz]; exact Nat.le_succ _) _,fun j hj => ?_,?_,?_,?_,fun j => ?_⟩
 ·rw [← hsz,World.cell?_alloc_mark]
  exact bytesRow_at s cap j hj
 ·rw [old]; simp
 ·rw [old]; simp
 ·rw [old]; simp
 ·have : ((w.alloc (.cells #[.int .i64 0,.int .i64 0,.int .i64 0] 179)).drew.alloc (.cells (bytesRow s cap) 5 ((bytesRow s cap).size,(bytesRow s cap).size + 1))).frozen? ⟨w.heap.size,j,none⟩=(w.alloc (.cells #[.int .i64 0,.int .i64 0,.int .i64 0] 179)).frozen? ⟨w.heap.size,j,none⟩ :=
   World.frozen?_of_block (w:=(w.alloc (.cells #[.int .i64 0,.int .i64 0,.int .i64 0] 179))) (Below.heap_alloc _ _ _ (by rw [hsz]; exact Nat.lt_succ_self _))
  rw [this]; simp
def mQ (s : ByteArray) (k : Nat) (part a b c : Int) : Prop :=
 (∀ j (hj : j<s.data.toList.length),j<k→Cal.fits j s.data.toList[j]=true) ∧
 a=Cal.val (Cal.seg s.data.toList 0 (min k 4))∧b=Cal.val (Cal.seg s.data.toList 5 (min k 7))∧c=Cal.val (Cal.seg s.data.toList 8 k) ∧
 part=if k≤4 then 0 else if k≤7 then 1 else 2
theorem a7m (y m d : Int) (w : World) :
 Calls Tryz.prog 175 #[.int .i64 y,.int .i64 m,.int .i64 d] w fun e w' => e=.returned (.tuple #[.int .i64 (ofV y m d),.int .i64 (ofE y m d)])∧Below w.heap.size w w':=by
 unfold ofV ofE
 by_cases h : Cal.ok y m d
 ·rw [if_pos h,if_pos h]; exact of_ok y m d w h
 ·rw [if_neg h,if_neg h]; exact a7j y m d w h
def rdV (s : ByteArray) : Int:=if (∀ j (hj : j<s.data.toList.length),Cal.fits j s.data.toList[j]=true) then ofV (Cal.val (Cal.seg s.data.toList 0 4)) (Cal.val (Cal.seg s.data.toList 5 7)) (Cal.val (Cal.seg s.data.toList 8 10)) else 0
def rdE (s : ByteArray) : Int:=if (∀ j (hj : j<s.data.toList.length),Cal.fits j s.data.toList[j]=true) then ofE (Cal.val (Cal.seg s.data.toList 0 4)) (Cal.val (Cal.seg s.data.toList 5 7)) (Cal.val (Cal.seg s.data.toList 8 10)) else 30
theorem eG {s : ByteArray} {k : Nat} (hk : k<s.data.toList.length) (h : Cal.fits k s.data.toList[k]=false) : rdV s=0∧rdE s=30:=by
 have n : ¬ ∀ j (hj : j<s.data.toList.length),Cal.fits j s.data.toList[j]=true:=fun a => by rw [a k hk] at h; cases h
 unfold rdV rdE
 rw [if_neg n,if_neg n]
 exact ⟨rfl,rfl⟩
theorem a0P (s : ByteArray) : mQ s 0 0 0 0 0 :=
 ⟨fun j _ h => absurd h (by omega),by rw [Cal.seg_nil _ (by omega)]; rfl,by rw [Cal.seg_nil _ (by omega)]; rfl,by rw [Cal.seg_nil _ (by omega)]; rfl,rfl⟩
theorem iP {s : ByteArray} {k : Nat} {part a b c : Int} (h : mQ s k part a b c) (hk : k<s.data.toList.length) (hf : Cal.fits k s.data.toList[k]=true) :
 ∀ j (hj : j<s.data.toList.length),j<k + 1→Cal.fits j s.data.toList[j]=true:=fun j hj hl => by
 by_cases e : j=k
 ·subst e; exact hf
 ·exact h.1 j hj (by omega)
theorem a6V {s : ByteArray} {k : Nat} {part a b c : Int} (h : mQ s k part a b c) (hk : k≤10) : 0≤a∧a<10000∧0≤b∧b<10000∧0≤c∧c<10000:=by
 obtain ⟨h1,rfl,rfl,rfl,-⟩:=h
 have dig : ∀ j (hj : j<s.data.toList.length),j<k→j≠4→j≠7→Cal.isDig s.data.toList[j]=true:=fun j hj hl e f => by rw [← Cal.fits_dig e f]; exact h1 j hj hl
 have u:=Cal.seg_bd s.data.toList (lo:=0) (hi:=min k 4) (by omega) (fun j hj _ _ => dig j hj (by omega) (by omega) (by omega))
 have v:=Cal.seg_bd s.data.toList (lo:=5) (hi:=min k 7) (by omega) (fun j hj _ _ => dig j hj (by omega) (by omega) (by omega))
 have x:=Cal.seg_bd s.data.toList (lo:=8) (hi:=k) (by omega) (fun j hj _ _ => dig j hj (by omega) (by omega) (by omega))
 exact ⟨u.1,u.2,v.1,v.2,x.1,x.2⟩
theorem a2W {s : ByteArray} {k : Nat} {part a b c : Int} (h : mQ s k part a b c) (hk : k<s.data.toList.length) (hf : Cal.fits k s.data.toList[k]=true) (h4 : k<4) :
 mQ s (k + 1) 0 (10 * a + ((s.data.toList[k].toNat : Int) - 48)) b c:=by
 refine ⟨iP h hk hf,?_,?_,?_,by rw [if_pos (by omega)]⟩
 ·rw [h.2.1,show min (k + 1) 4=k + 1 by omega,show min k 4=k by omega,Cal.seg_succ _ (by omega) hk,Cal.val_snoc]
 ·rw [h.2.2.1,Cal.seg_nil _ (by omega),Cal.seg_nil _ (by omega)]
 ·rw [h.2.2.2.1,Cal.seg_nil _ (by omega),Cal.seg_nil _ (by omega)]
theorem tM {s : ByteArray} {k : Nat} {part a b c : Int} (h : mQ s k part a b c) (hk : k<s.data.toList.length) (hf : Cal.fits k s.data.toList[k]=true) (h4 : k=4∨k=7) :
 mQ s (k + 1) (part + 1) a b c:=by
 refine ⟨iP h hk hf,?_,?_,?_,?_⟩
 ·rw [h.2.1,show min (k + 1) 4=min k 4 by omega]
 ·rw [h.2.2.1]
  rcases h4 with rfl | rfl
  ·rw [Cal.seg_nil _ (by omega),Cal.seg_nil _ (by omega)]
  ·rfl
 ·rw [h.2.2.2.1,Cal.seg_nil _ (by omega),Cal.seg_nil _ (by omega)]
 ·rw [h.2.2.2.2]
  rcases h4 with rfl | rfl <;> rfl
theorem a2N {s : ByteArray} {k : Nat} {part a b c : Int} (h : mQ s k part a b c) (hk : k<s.data.toList.length) (hf : Cal.fits k s.data.toList[k]=true) (h4 : 5≤k) (h5 : k<7) :
 mQ s (k + 1) 1 a (10 * b + ((s.data.toList[k].toNat : Int) - 48)) c:=by
 refine ⟨iP h hk hf,?_,?_,?_,by rw [if_neg (by omega),if_pos (by omega)]⟩
 ·rw [h.2.1,show min (k + 1) 4=min k 4 by omega]
 ·rw [h.2.2.1,show min (k + 1) 7=k + 1 by omega,show min k 7=k by omega,Cal.seg_succ _ (by omega) hk,Cal.val_snoc]
 ·rw [h.2.2.2.1,Cal.seg_nil _ (by omega),Cal.seg_nil _ (by omega)]
theorem a2e {s : ByteArray} {k : Nat} {part a b c : Int} (h : mQ s k part a b c) (hk : k<s.data.toList.length) (hf : Cal.fits k s.data.toList[k]=true) (h4 : 8≤k) :
 mQ s (k + 1) 2 a b (10 * c + ((s.data.toList[k].toNat : Int) - 48)):=by
 refine ⟨iP h hk hf,?_,?_,?_,by rw [if_neg (by omega),if_neg (by omega)]⟩
 ·rw [h.2.1,show min (k + 1) 4=min k 4 by omega]
 ·rw [h.2.2.1,show min (k + 1) 7=min k 7 by omega]
 ·rw [h.2.2.2.1,Cal.seg_succ _ (by omega) hk,Cal.val_snoc]
theorem a5u {s : ByteArray} {part a b c : Int} (h : mQ s 10 part a b c) (hs : s.data.toList.length=10) : ofV a b c=rdV s∧ofE a b c=rdE s:=by
 have g : ∀ j (hj : j<s.data.toList.length),Cal.fits j s.data.toList[j]=true:=fun j hj => h.1 j hj (by omega)
 obtain ⟨-,rfl,rfl,rfl,-⟩:=h
 unfold rdV rdE
 rw [if_pos g,if_pos g]
 exact ⟨rfl,rfl⟩
theorem bW {a b c d : Int} (h : a=b) (h' : c=d) : Ending.returned (.tuple #[.int .i64 a,.int .i64 c])=.returned (.tuple #[.int .i64 b,.int .i64 d]):=by rw [h,h']
theorem dW {c : UInt8} (h : (c.toNat : Int)<48∨57<(c.toNat : Int)) : Cal.isDig c=false:=by
 unfold Cal.isDig; rw [Bool.and_eq_false_iff,decide_eq_false_iff_not,decide_eq_false_iff_not]; omega
theorem pL {c : UInt8} (h : ¬ (c.toNat : Int)<48) (h' : ¬ 57<(c.toNat : Int)) : Cal.isDig c=true:=by
 unfold Cal.isDig; rw [Bool.and_eq_true,decide_eq_true_iff,decide_eq_true_iff]; omega
theorem a2f (s : ByteArray) (w : World) (hs : s.size=10) :
 Calls Tryz.prog 147 #[.string s] w fun e w' => e=.returned (.tuple #[.int .i64 (rdV s),.int .i64 (rdE s)])∧Below w.heap.size w w':=by
 have hcv:=fun w => run_bytes_of_string (P:=Tryz.prog) w 9 39 5 s (by kernel_rfl) (by kernel_rfl) (by kernel_rfl)
 go_enter Tryz.func147,Tryz.ntmps147
 go_wp2
 have hlen:=hid (show s.data.toList.length=10 by simpa using hs)
 clear hcv
 go_loopw [5,14] (fun p i wr => ∃ (k : Nat) (part a b c : Int),k≤10∧i=.int .i64 k∧p=.int .i64 part∧Hid (mQ s k part a b c)∧Hid (mP s w.heap.size a b c w wr)) (fun _ i _ => (10 - intOf i).toNat)
 case atStart => exact ⟨0,0,0,0,0,by omega,rfl,rfl,a0P s,mP.start s w _⟩
 case round =>
  obtain ⟨k,part,a,b,c,hk,rfl,rfl,HR,HI⟩:=hrel
  have bd:=a6V HR hk
  by_cases hlt : k<10
  ·have hks : k<s.size:=by omega
   have hcell:=HI.out.2.1 k hks
   have hkl : Hid (k<s.data.toList.length):=by have:=hlen.out; show k<_; omega
   have hck : Hid (s[k]=s.data.toList[k]'hkl.out):=rfl
   have hpart:=HR.out.2.2.2.2
   by_cases c4 : k=4
   ·subst c4
    obtain rfl : part=0:=hpart
    by_cases hd : (s[4].toNat : Int)=45
    ·have hf : Hid (Cal.fits 4 (s.data.toList[4]'hkl.out)=true):=by show _=true; rw [Cal.fits_dash (by omega),decide_eq_true_iff]; exact hd
     go_wp2
     go_roundw
     case rel => exact ⟨5,1,a,b,c,by omega,by go_num,rfl,hid (tM HR hkl hf (by omega)),HI⟩
     case measure => simp [intOf]
    ·have hf : Hid (Cal.fits 4 (s.data.toList[4]'hkl.out)=false):=by show _=false; rw [Cal.fits_dash (by omega),decide_eq_false_iff_not]; exact hd
     have hr:=hid (eG hkl hf)
     go_wp2
     go_ret2
     exact ⟨bW hr.out.1.symm hr.out.2.symm,HI.out.1⟩
   by_cases c7 : k=7
   ·subst c7
    obtain rfl : part=1:=hpart
    by_cases hd : (s[7].toNat : Int)=45
    ·have hf : Hid (Cal.fits 7 (s.data.toList[7]'hkl.out)=true):=by show _=true; rw [Cal.fits_dash (by omega),decide_eq_true_iff]; exact hd
     go_wp2
     go_roundw
     case rel => exact ⟨8,2,a,b,c,by omega,by go_num,rfl,hid (tM HR hkl hf (by omega)),HI⟩
     case measure => simp [intOf]
    ·have hf : Hid (Cal.fits 7 (s.data.toList[7]'hkl.out)=false):=by show _=false; rw [Cal.fits_dash (by omega),decide_eq_false_iff_not]; exact hd
     have hr:=hid (eG hkl hf)
     go_wp2
     go_ret2
     exact ⟨bW hr.out.1.symm hr.out.2.symm,HI.out.1⟩
   by_cases k4 : k<4
   ·have hf4 : Hid (k≠4∧k≠7):=by show _∧_; omega
    have q4 : ((k : Int) == 4)=false:=by rw [beq_eq_false_iff_ne]; omega
    have q7 : ((k : Int) == 7)=false:=by rw [beq_eq_false_iff_ne]; omega
    obtain rfl : part=0:=by rw [hpart]; rw [if_pos (by omega)]
    clear hpart
    have hm:=HI.out.2.2.1
    have hz:=HI.out.2.2.2.2.2 0
    by_cases hd1 : (s[k].toNat : Int)<48
    ·have hr:=hid (eG hkl ((Cal.fits_dig hf4.out.1 hf4.out.2).trans (dW (.inl hd1))))
     go_wp2
     go_ret2
     exact ⟨bW hr.out.1.symm hr.out.2.symm,HI.out.1⟩
    by_cases hd2 : 57<(s[k].toNat : Int)
    ·have hr:=hid (eG hkl ((Cal.fits_dig hf4.out.1 hf4.out.2).trans (dW (.inr hd2))))
     go_wp2
     go_ret2
     exact ⟨bW hr.out.1.symm hr.out.2.symm,HI.out.1⟩
    have hf : Hid (Cal.fits k (s.data.toList[k]'hkl.out)=true):=(Cal.fits_dig hf4.out.1 hf4.out.2).trans (pL hd1 hd2)
    go_wp2
    go_roundw
    case rel => exact ⟨k + 1,0,_,b,c,by omega,by go_num,rfl,hid (a2W HR hkl hf k4),hid HI.out.set0⟩
    case measure => simp [intOf]; omega
   by_cases k7 : k<7
   ·have hf4 : Hid (k≠4∧k≠7):=by show _∧_; omega
    have q4 : ((k : Int) == 4)=false:=by rw [beq_eq_false_iff_ne]; omega
    have q7 : ((k : Int) == 7)=false:=by rw [beq_eq_false_iff_ne]; omega
    obtain rfl : part=1:=by rw [hpart]; rw [if_neg (by omega),if_pos (by omega)]
    clear hpart
    have hm:=HI.out.2.2.2.1
    have hz:=HI.out.2.2.2.2.2 1
    by_cases hd1 : (s[k].toNat : Int)<48
    ·have hr:=hid (eG hkl ((Cal.fits_dig hf4.out.1 hf4.out.2).trans (dW (.inl hd1))))
     go_wp2
     go_ret2
     exact ⟨bW hr.out.1.symm hr.out.2.symm,HI.out.1⟩
    by_cases hd2 : 57<(s[k].toNat : Int)
    ·have hr:=hid (eG hkl ((Cal.fits_dig hf4.out.1 hf4.out.2).trans (dW (.inr hd2))))
     go_wp2
     go_ret2
     exact ⟨bW hr.out.1.symm hr.out.2.symm,HI.out.1⟩
    have hf : Hid (Cal.fits k (s.data.toList[k]'hkl.out)=true):=(Cal.fits_dig hf4.out.1 hf4.out.2).trans (pL hd1 hd2)
    go_wp2
    go_roundw
    case rel => exact ⟨k + 1,1,a,_,c,by omega,by go_num,rfl,hid (a2N HR hkl hf (by omega) k7),hid HI.out.set1⟩
    case measure => simp [intOf]; omega
   ·have hf4 : Hid (k≠4∧k≠7):=by show _∧_; omega
    have q4 : ((k : Int) == 4)=false:=by rw [beq_eq_false_iff_ne]; omega
    have q7 : ((k : Int) == 7)=false:=by rw [beq_eq_false_iff_ne]; omega
    obtain rfl : part=2:=by rw [hpart]; rw [if_neg (by omega),if_neg (by omega)]
    clear hpart
    have hm:=HI.out.2.2.2.2.1
    have hz:=HI.out.2.2.2.2.2 2
    by_cases hd1 : (s[k].toNat : Int)<48
    ·have hr:=hid (eG hkl ((Cal.fits_dig hf4.out.1 hf4.out.2).trans (dW (.inl hd1))))
     go_wp2
     go_ret2
     exact ⟨bW hr.out.1.symm hr.out.2.symm,HI.out.1⟩
    by_cases hd2 : 57<(s[k].toNat : Int)
    ·have hr:=hid (eG hkl ((Cal.fits_dig hf4.out.1 hf4.out.2).trans (dW (.inr hd2))))
     go_wp2
     go_ret2
     exact ⟨bW hr.out.1.symm hr.out.2.symm,HI.out.1⟩
    have hf : Hid (Cal.fits k (s.data.toList[k]'hkl.out)=true):=(Cal.fits_dig hf4.out.1 hf4.out.2).trans (pL hd1 hd2)
    go_wp2
    go_roundw
    case rel => exact ⟨k + 1,2,a,b,_,by omega,by go_num,rfl,hid (a2e HR hkl hf (by omega)),hid HI.out.set2⟩
    case measure => simp [intOf]; omega
  ·obtain rfl : k=10:=by omega
   have hend:=hid (a5u HR hlen)
   have m0:=HI.out.2.2.1
   have m1:=HI.out.2.2.2.1
   have m2:=HI.out.2.2.2.2.1
   go_wp2_with (go_at_call 175; refine (a7m _ _ _ _).mono ?_; rintro e w' ⟨rfl,hb⟩)
   go_ret2
   exact ⟨bW hend.out.1 hend.out.2,HI.out.1.trans (hb.mono HI.out.1.size)⟩
end
section
open Go.RowKit
def qO (s : ByteArray) : Int:=if s.size=10 then rdV s else 0
def rQ (s : ByteArray) : Int:=if s.size=10 then rdE s else 30
theorem a3i (s : ByteArray) (w : World) :
 Calls Tryz.prog 147 #[.string s] w fun e w' => e=.returned (.tuple #[.int .i64 (qO s),.int .i64 (rQ s)])∧Below w.heap.size w w':=by
 unfold qO rQ
 by_cases h : s.size=10
 ·rw [if_pos h,if_pos h]; exact a2f s w h
 ·rw [if_neg h,if_neg h]; exact a2n s w h
theorem a7E {y m d : Int} (h : y=-1∨m=-1∨d=-1) : ofV y m d=0∧ofE y m d=30:=by
 have n : ¬ Cal.ok y m d:=by unfold Cal.ok; omega
 unfold ofV ofE
 rw [if_neg n,if_neg n]
 exact ⟨rfl,rfl⟩
theorem a1x (s : ByteArray) (w : World) :
 Calls Tryz.prog 113 #[.string s] w fun e w' => e=.returned (.tuple #[.int .i64 (qO s),.int .i64 (rQ s)])∧Below w.heap.size w w':=by
 unfold qO rQ
 by_cases h : s.size=10
 ·rw [if_pos h,if_pos h]
  have hl : s.data.toList.length=10:=by simpa using h
  have g4 : s[4]=s.data.toList[4]:=rfl
  have g7 : s[7]=s.data.toList[7]:=rfl
  by_cases c : (s[4].toNat : Int)=45∧(s[7].toNat : Int)=45
  ·refine (a0O s w h c.1 c.2).mono ?_
   rintro e w' ⟨rfl,hb⟩
   refine ⟨?_,hb⟩
   show Ending.returned (.tuple #[.int .i64 (ofV (Cal.numL (Cal.seg s.data.toList 0 4)) (Cal.numL (Cal.seg s.data.toList 5 7)) (Cal.numL (Cal.seg s.data.toList 8 10))),.int .i64 (ofE (Cal.numL (Cal.seg s.data.toList 0 4)) (Cal.numL (Cal.seg s.data.toList 5 7)) (Cal.numL (Cal.seg s.data.toList 8 10)))])=_
   by_cases f : ∀ j (hj : j<s.data.toList.length),Cal.fits j s.data.toList[j]=true
   ·have dig : ∀ j (hj : j<s.data.toList.length),j≠4→j≠7→Cal.isDig s.data.toList[j]=true:=fun j hj e f' => by rw [← Cal.fits_dig e f']; exact f j hj
    have a1:=Cal.seg_all s.data.toList (lo:=0) (hi:=4) (fun j hj _ _ => dig j hj (by omega) (by omega))
    have a2:=Cal.seg_all s.data.toList (lo:=5) (hi:=7) (fun j hj _ _ => dig j hj (by omega) (by omega))
    have a3:=Cal.seg_all s.data.toList (lo:=8) (hi:=10) (fun j hj _ _ => dig j hj (by omega) (by omega))
    unfold Cal.numL rdV rdE
    rw [if_pos a1,if_pos a2,if_pos a3,if_pos f,if_pos f]
   ·have ⟨j,hj,hf⟩ : ∃ j,∃ hj : j<s.data.toList.length,Cal.fits j s.data.toList[j]=false:=by
     refine Classical.byContradiction fun n => f fun j hj => ?_
     cases e : Cal.fits j s.data.toList[j]
     ·exact absurd ⟨j,hj,e⟩ n
     ·rfl
    have r:=eG hj hf
    rw [r.1,r.2]
    have h4 : j≠4:=fun e => by
     subst e
     rw [Cal.fits_dash (.inl rfl),decide_eq_false_iff_not] at hf
     exact hf c.1
    have h7 : j≠7:=fun e => by
     subst e
     rw [Cal.fits_dash (.inr rfl),decide_eq_false_iff_not] at hf
     exact hf c.2
    rw [Cal.fits_dig h4 h7] at hf
    have o : Cal.numL (Cal.seg s.data.toList 0 4)=-1∨Cal.numL (Cal.seg s.data.toList 5 7)=-1∨Cal.numL (Cal.seg s.data.toList 8 10)=-1:=by
     by_cases k : j<4
     ·exact .inl (Cal.seg_not _ (by omega) k hj hf)
     by_cases k' : j<7
     ·exact .inr (.inl (Cal.seg_not _ (by omega) k' hj hf))
     ·exact .inr (.inr (Cal.seg_not _ (by omega) (by omega) hj hf))
    have z:=a7E o
    rw [z.1,z.2]
  ·refine (a1m s w h c).mono ?_
   rintro e w' ⟨rfl,hb⟩
   refine ⟨?_,hb⟩
   by_cases c4 : (s[4].toNat : Int)=45
   ·have c7 : ¬ (s[7].toNat : Int)=45:=fun k => c ⟨c4,k⟩
    have r:=eG (s:=s) (k:=7) (by omega) (by rw [Cal.fits_dash (.inr rfl),decide_eq_false_iff_not]; exact c7)
    rw [r.1,r.2]
   ·have r:=eG (s:=s) (k:=4) (by omega) (by rw [Cal.fits_dash (.inl rfl),decide_eq_false_iff_not]; exact c4)
    rw [r.1,r.2]
 ·rw [if_neg h,if_neg h]; exact a1b s w h
theorem yD (s : ByteArray) : (∃ v,nR s.data.toList=some v∧qO s=v∧rQ s=0)∨(nR s.data.toList=none∧rQ s=30):=by
 have hsz : s.data.toList.length=s.size:=d6 s
 unfold qO rQ nR
 by_cases h : s.size=10
 ·rw [if_pos h,if_pos h]
  unfold rdV rdE ofV ofE
  by_cases f : ∀ j (hj : j<s.data.toList.length),Cal.fits j s.data.toList[j]=true
  ·rw [if_pos f,if_pos f]
   by_cases o : Cal.ok (Cal.val (Cal.seg s.data.toList 0 4)) (Cal.val (Cal.seg s.data.toList 5 7)) (Cal.val (Cal.seg s.data.toList 8 10))
   ·rw [if_pos o,if_pos o,if_pos ⟨hsz.trans h,f,o⟩]
    exact .inl ⟨_,rfl,rfl,rfl⟩
   ·rw [if_neg (fun g => o g.2.2),if_neg o]
    exact .inr ⟨rfl,if_neg o⟩
  ·rw [if_neg (fun g => f g.2.1)]
   exact .inr ⟨rfl,if_neg f⟩
 ·rw [if_neg h,if_neg h,if_neg (fun g => h (hsz.symm.trans g.1))]
  exact .inr ⟨rfl,rfl⟩
end
end Go.Proofs.YtibiccacafjjfaaGreatDoor
