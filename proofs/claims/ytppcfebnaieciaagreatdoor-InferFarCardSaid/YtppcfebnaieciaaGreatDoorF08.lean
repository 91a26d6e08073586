/-
  Laws that the proof rests on.
-/
import Derived.Test.YtppcfebnaieciaaGreatDoorF07
import Derived.Deep.RegionWith
import Derived.Test.YtppcfebnaieciaaGreatDoorF01
import Derived.Test.YtppcfebnaieciaaGreatDoorF06
import Derived.WalkKit
import Derived.Lib.Hide
import Derived.Deep.AppendLies
import Derived.Lib.LaidTab
namespace Go.Proofs.YtppcfebnaieciaaGreatDoor
set_option maxRecDepth 100000
set_option maxHeartbeats 16000000
section
open Lib (hid)
open Go.RowKit
theorem a0p (s : ByteArray) (k : Nat) (h : k<s.size) : s.data.toList.take (k + 1)=s.data.toList.take k ++ [s[k]]:=by
 rw [List.take_succ_eq_append_getElem (by simpa using h)]; rfl
theorem sB (s : ByteArray) (k : Nat) (h : k<s.size) (hd : Cal.isDig s[k]=false) : Cal.numL s.data.toList=-1:=by
 unfold Cal.numL
 rw [if_neg]
 intro a
 rw [List.all_eq_true] at a
 have:=a s[k] (by rw [Array.mem_toList_iff]; exact Array.getElem_mem (by simpa using h))
 rw [this] at hd
 cases hd
theorem uR (s : ByteArray) (w : World) (hs : s.size≤4) :
 Calls Tryz.prog 176 #[.string s] w fun e w' => e=.returned (.int .i64 (Cal.numL s.data.toList))∧w=w':=by
 go_enter Tryz.func176,Tryz.ntmps176
 go_wp2
 go_loop [3,4] (fun n i => ∃ k : Nat,k≤s.size∧i=.int .i64 k∧n=.int .i64 (Cal.val (s.data.toList.take k))∧Hid ((s.data.toList.take k).all Cal.isDig=true)) (fun _ i => s.size - (intOf i).toNat)
 case atStart => exact ⟨0,Nat.zero_le _,rfl,rfl,rfl⟩
 case round =>
  obtain ⟨k,hk,rfl,rfl,ha⟩:=hrel
  have hb:=Cal.val_bd ha
  have hl : (s.data.toList.take k).length≤k:=List.length_take_le _ _
  have hp : (10 : Int) ^ (s.data.toList.take k).length≤10 ^ 4:=by
   generalize (s.data.toList.take k).length=n at *
   have c : n=0∨n=1∨n=2∨n=3∨n=4:=by omega
   rcases c with e | e | e | e | e <;> subst e <;> decide
  have hb' : Cal.val (s.data.toList.take k)<10000:=by omega
  clear hl hp
  by_cases hlt : k<s.size
  ·have HT:=hid (a0p s k hlt)
   by_cases h1 : (s[k].toNat : Int)<48
   ·have e:=hid (show Cal.numL s.data.toList=-1 from sB s k hlt (by unfold Cal.isDig; rw [Bool.and_eq_false_iff,decide_eq_false_iff_not,decide_eq_false_iff_not]; omega))
    go_wp2
    go_ret
    exact ⟨qY e.out.symm,rfl⟩
   by_cases h2 : 57<(s[k].toNat : Int)
   ·have e:=hid (show Cal.numL s.data.toList=-1 from sB s k hlt (by unfold Cal.isDig; rw [Bool.and_eq_false_iff,decide_eq_false_iff_not,decide_eq_false_iff_not]; omega))
    go_wp2
    go_ret
    exact ⟨qY e.out.symm,rfl⟩
   have hd:=hid (show Cal.isDig s[k]=true by unfold Cal.isDig; rw [Bool.and_eq_true,decide_eq_true_iff,decide_eq_true_iff]; omega)
   go_wp2
   go_round
   case rel => exact ⟨k + 1,by omega,by go_num,by rw [HT.out,Cal.val_snoc],hid (by rw [HT.out,List.all_append,ha.out]; simp only [List.all_cons,List.all_nil,hd.out,Bool.and_self])⟩
   case measure => simp [intOf]; omega
  ·have e:=hid (show Cal.numL s.data.toList=Cal.val (s.data.toList.take k) by
    have ha':=ha.out
    rw [List.take_of_length_le (by simp; omega)] at ha' ⊢
    unfold Cal.numL; rw [if_pos ha'])
   go_wp2
   go_ret
   exact ⟨qY e.out.symm,rfl⟩
def ofV (y m d : Int) : Int:=if Cal.ok y m d then Cal.num y m d else 0
def ofE (y m d : Int) : Int:=if Cal.ok y m d then 0 else 30
theorem a36 (y m d : Int) (w : World) :
 Calls Tryz.prog 175 #[.int .i64 y,.int .i64 m,.int .i64 d] w fun e w' => e=.returned (.tuple #[.int .i64 (ofV y m d),.int .i64 (ofE y m d)])∧Below w.heap.size w w':=by
 unfold ofV ofE
 by_cases h : Cal.ok y m d
 ·rw [if_pos h,if_pos h]; exact a4Y y m d w h
 ·rw [if_neg h,if_neg h]; exact a4k y m d w h
theorem wU (s : ByteArray) (w : World) (hs : ¬ s.size=10) :
 Calls Tryz.prog 159 #[.string s] w fun e w' => e=.returned (.tuple #[.int .i64 0,.int .i64 30])∧Below w.heap.size w w':=by
 go_enter Tryz.func159,Tryz.ntmps159
 go_wp2
 go_ret2
 exact ⟨rfl,Below.refl _ _⟩
theorem xR (s : ByteArray) (w : World) (hs : s.size=10) (h4 : (s[4].toNat : Int)=45) (h7 : (s[7].toNat : Int)=45) :
 Calls Tryz.prog 159 #[.string s] w fun e w' => e=.returned (.tuple #[.int .i64 (ofV (Cal.numL (s.data.toList.take 4)) (Cal.numL ((s.data.toList.drop 5).take 2)) (Cal.numL ((s.data.toList.drop 8).take 2))),.int .i64 (ofE (Cal.numL (s.data.toList.take 4)) (Cal.numL ((s.data.toList.drop 5).take 2)) (Cal.numL ((s.data.toList.drop 8).take 2)))])∧Below w.heap.size w w':=by
 go_enter Tryz.func159,Tryz.ntmps159
 go_wp2
 have e1 : (s.extract 0 4).size=4:=by simp [ByteArray.size_extract]; omega
 have e2 : (s.extract 5 7).size=2:=by simp [ByteArray.size_extract]; omega
 have e3 : (s.extract 8 10).size=2:=by simp [ByteArray.size_extract]; omega
 go_region_with (first | (go_at_call 176; refine (uR _ _ (by omega)).mono ?_; rintro e w' ⟨rfl,rfl⟩) | (go_at_call 175; refine (a36 _ _ _ _).mono ?_; rintro e w' ⟨rfl,hb⟩))
 go_wp2
 go_ret2
 exact ⟨rfl,(Below.refl _ _).drew.trans hb⟩
theorem vH (s : ByteArray) (w : World) (hs : s.size=10) (h : ¬ ((s[4].toNat : Int)=45∧(s[7].toNat : Int)=45)) :
 Calls Tryz.prog 159 #[.string s] w fun e w' => e=.returned (.tuple #[.int .i64 0,.int .i64 30])∧Below w.heap.size w w':=by
 by_cases h4 : (s[4].toNat : Int)=45
 ·have h7 : ¬ (s[7].toNat : Int)=45:=fun c => h ⟨h4,c⟩
  clear h
  go_enter Tryz.func159,Tryz.ntmps159
  go_wp2
  go_ret2
  exact ⟨rfl,Below.refl _ _⟩
 ·clear h
  go_enter Tryz.func159,Tryz.ntmps159
  go_wp2
  go_ret2
  exact ⟨rfl,Below.refl _ _⟩
end
section
open Lib (hid)
open Go.RowKit
theorem aI {a b : Int} {c d : Bool} (h : a=b) (h' : c=d) : Ending.returned (.tuple #[.int .i64 a,.bool c])=.returned (.tuple #[.int .i64 b,.bool d]):=by rw [h,h']
theorem z7 (n : Int) (w : World) : Calls Tryz.prog 177 #[.int .u8 n] w fun e w' => e=.returned (.bool (dgI n))∧w=w':=by
 go_enter Tryz.func177,Tryz.ntmps177
 go_wp2
 all_goals go_ret
 all_goals exact ⟨bN (by unfold dgI; rw [Bool.eq_iff_iff]; simp; omega),rfl⟩
theorem gI {s : ByteArray} {k : Nat} (_h : k<s.size) (h' : k<s.data.toList.length) : s.data.toList[k]=s[k]'_h:=rfl
theorem U2 (s : ByteArray) (w : World) (hs : s.size≤maxLen) (h0 : 0<s.size) (hd : dgC s[0]=true) :
 Calls Tryz.prog 160 #[.string s] w fun e w' => e=.returned (.tuple #[.int .i64 (nF s.data.toList),.bool (nD s.data.toList)])∧w=w':=by
 have hm:=hs
 unfold maxLen at hm
 have hdn:=eE hd
 have hz : s.data.toList.headD 0=s[0]:=U3 h0
 have h45 : s.data.toList.headD 0≠45:=by
  rw [hz]; rintro e; rw [e] at hd; exact absurd hd (by decide)
 have H45:=hid h45
 have HZ:=hid hz
 have HD:=hid hd
 have HL:=hid (d7 s)
 have e45 : ((s[0].toNat : Int) == 45)=false:=by rw [beq_eq_false_iff_ne]; omega
 clear h45 hz hd hdn
 go_enter Tryz.func160,Tryz.ntmps160
 go_wp2_with fail
 clear e45
 go_loop [5] (fun n => ∃ k : Nat,k≤s.size∧n=.int .i64 k∧Hid (∀ j (hj : j<s.data.toList.length),j<k→dgC s.data.toList[j]=true)) (fun n => s.size - (intOf n).toNat)
 case atStart => exact ⟨0,by omega,rfl,fun j hj h => by omega⟩
 case round =>
  obtain ⟨k,hk,rfl,HAll⟩:=hrel
  by_cases hgo : ∃ hlt : k<s.size,dgC s[k]=true
  ·obtain ⟨hlt,hc⟩:=hgo
   have hi : dgI s[k].toNat=true:=by rw [← bM]; exact hc
   have HC:=hid hc
   clear hc
   go_wp2_with (first | (go_at_call 177; refine (z7 _ _).mono ?_; rintro e w' ⟨rfl,rfl⟩; rw [hi]))
   go_round
   case rel =>
    refine ⟨k + 1,by omega,by go_num,fun j hj h => ?_⟩
    by_cases e : j=k
    ·subst e; exact HC
    ·exact HAll.out j hj (by omega)
   case measure => simp [intOf]; omega
  ·have hnd : ∀ (hlt : k<s.data.toList.length),dgC s.data.toList[k]=false:=fun hlt => by
    rw [Bool.eq_false_iff]; exact fun e => hgo ⟨by rw [← HL.out]; exact hlt,e⟩
   have hdr:=pW (d:=s.data.toList) (k:=k) (by rw [HL.out]; exact hk) HAll hnd
   have HDR:=hid hdr
   have hk1 : 1≤k:=by
    rcases Nat.eq_zero_or_pos k with e | e
    ·exfalso; subst e; exact hgo ⟨h0,HD⟩
    ·exact e
   have HU:=hid (a33 hdr)
   clear hdr
   have HV0:=hid (show dgC s[0]=true from HD)
   by_cases hlt : k<s.size
   ·have hi0 : dgI s[k].toNat=false:=by rw [← bM]; exact hnd (by rw [HL.out]; exact hlt)
    clear hgo hnd
    by_cases h10 : 10<(k : Int)
    ·have HN:=hid (U1 H45 (show aP s.data.toList=none by rw [HU.out,if_neg]; omega))
     go_wp2_with (first | (go_at_call 177; refine (z7 _ _).mono ?_; rintro e w' ⟨rfl,rfl⟩; rw [hi0]))
     go_ret2
     exact ⟨aI HN.out.1.symm HN.out.2.symm,rfl⟩
    by_cases h1 : 1<(k : Int)∧(s[0].toNat : Int)=48
    ·obtain ⟨h1,h2⟩:=h1
     have e48 : ((s[0].toNat : Int) == 48)=true:=by rw [h2]; rfl
     have HN:=hid (U1 H45 (show aP s.data.toList=none by
      rw [HU.out,if_neg]
      rintro ⟨-,-,h | h,-⟩
      ·omega
      ·rw [HZ.out] at h; exact h (UInt8.toNat_inj.1 (Int.ofNat.inj h2))))
     clear h2
     go_wp2_with (first | (go_at_call 177; refine (z7 _ _).mono ?_; rintro e w' ⟨rfl,rfl⟩; rw [hi0]))
     go_ret2
     exact ⟨aI HN.out.1.symm HN.out.2.symm,rfl⟩
    have hz1 : k=1∨s[0]≠48:=by
     rcases Nat.lt_or_ge 1 k with g | g
     ·refine .inr fun e => h1 ⟨by omega,by rw [e]; rfl⟩
     ·exact .inl (by omega)
    have HZ1:=hid hz1
    have e1 : (¬ 1<(k : Int))∨(1<(k : Int)∧((s[0].toNat : Int) == 48)=false):=by
     rcases Nat.lt_or_ge 1 k with g | g
     ·refine .inr ⟨by omega,?_⟩
      rcases hz1 with e | e
      ·omega
      ·rw [beq_eq_false_iff_ne]; exact fun g => e (UInt8.toNat_inj.1 (Int.ofNat.inj g))
     ·exact .inl (by omega)
    clear hz1 h1
    obtain ⟨P,hP⟩ : ∃ P,s.size=k + 1 + P:=⟨s.size - k - 1,by omega⟩
    have hPe : ((s.size : Int) - k - 1)=P:=by omega
    have HPP:=hid hP
    have HDK:=hid (List.drop_eq_getElem_cons (show k<s.data.toList.length by rw [HL.out]; exact hlt))
    have hpl : (s.data.toList.drop (k + 1)).length=P:=by rw [List.length_drop,HL.out]; omega
    have HPL:=hid hpl
    clear hP hpl
    rcases e1 with e1 | ⟨e1,e1'⟩
    all_goals
     by_cases h46 : (s[k].toNat : Int)=46
     case neg =>
      have e46 : ((s[k].toNat : Int) != 46)=true:=by rw [bne_iff_ne]; exact h46
      have HN:=hid (U1 H45 (show aP s.data.toList=none by
       rw [HU.out,if_neg]
       rintro ⟨-,-,-,h⟩
       rw [HDK.out] at h
       simp only [bY,Bool.and_eq_true,beq_iff_eq] at h
       exact h46 (by rw [← gI hlt (by rw [HL.out]; exact hlt),h.1]; rfl)))
      clear h46
      go_wp2_with (first | (go_at_call 177; refine (z7 _ _).mono ?_; rintro e w' ⟨rfl,rfl⟩; rw [hi0]))
      go_ret2
      exact ⟨aI HN.out.1.symm HN.out.2.symm,rfl⟩
     have e46 : ((s[k].toNat : Int) != 46)=false:=by rw [h46]; rfl
     have H46:=hid (show s.data.toList[k]'(by rw [HL.out]; exact hlt)=46 from UInt8.toNat_inj.1 (Int.ofNat.inj h46))
     clear h46
     by_cases hp1 : (P : Int)<1
     ·have HN:=hid (U1 H45 (show aP s.data.toList=none by
       rw [HU.out,if_neg]
       rintro ⟨-,-,-,h⟩
       rw [HDK.out] at h
       simp only [bY,Bool.and_eq_true,decide_eq_true_eq] at h
       have:=HPL.out
       omega))
      go_wp2_with (first | (go_at_call 177; refine (z7 _ _).mono ?_; rintro e w' ⟨rfl,rfl⟩; rw [hi0]))
      go_ret2
      exact ⟨aI HN.out.1.symm HN.out.2.symm,rfl⟩
     by_cases hp6 : 6<(P : Int)
     ·have HN:=hid (U1 H45 (show aP s.data.toList=none by
       rw [HU.out,if_neg]
       rintro ⟨-,-,-,h⟩
       rw [HDK.out] at h
       simp only [bY,Bool.and_eq_true,decide_eq_true_eq] at h
       have:=HPL.out
       omega))
      go_wp2_with (first | (go_at_call 177; refine (z7 _ _).mono ?_; rintro e w' ⟨rfl,rfl⟩; rw [hi0]))
      go_ret2
      exact ⟨aI HN.out.1.symm HN.out.2.symm,rfl⟩
     go_wp2_with (first | (go_at_call 177; refine (z7 _ _).mono ?_; rintro e w' ⟨rfl,rfl⟩; rw [hi0]))
     have hjP1 : s.size≤k + 1 + P:=Nat.le_of_eq HPP
     have hjP2 : k + 1 + P≤s.size:=Nat.le_of_eq HPP.out.symm
     clear hPe
     have hq6 : (U7 s.data.toList k).length=6:=rT (by rw [HL.out]; omega)
     have HQ6:=hid hq6
     have HVE:=hid (show aP s.data.toList=some (Cal.val (s.data.toList.take k ++ (U7 s.data.toList k).take 6))∨aP s.data.toList=none from by
      rw [HU.out]
      split
      ·refine .inl ?_
       rw [List.take_of_length_le (Nat.le_of_eq hq6),List.append_assoc]; rfl
      ·exact .inr rfl)
     clear hq6
     go_loop [7,8] (fun n i => ∃ j : Nat,j≤k∧i=.int .i64 j∧n=.int .i64 (Cal.val (s.data.toList.take j))) (fun _ i => k - (intOf i).toNat)
     case atStart => exact ⟨0,Nat.zero_le _,rfl,rfl⟩
     case round =>
      obtain ⟨j,hj,rfl,rfl⟩:=hrel
      have hbd:=fH (l:=s.data.toList.take j) (n:=10) (by
       exact O7 fun i hi h => HAll.out i hi (by omega)) (by rw [List.length_take]; omega)
      simp only [Int.reducePow] at hbd
      obtain ⟨hb1,hb2⟩:=hbd
      by_cases hjk : j<k
      ·have hjs : j<s.size:=by omega
       have hdj:=eE (show dgC s[j]=true from HAll.out j (by rw [HL.out]; omega) hjk)
       have V:=hid (oW (d:=s.data.toList) (i:=j) (by rw [HL.out]; omega))
       obtain ⟨hd1,hd2⟩:=hdj
       go_wp2_with fail
       go_round
       case rel => exact ⟨j + 1,by omega,by go_num,by rw [V.out,gI hjs]⟩
       case measure => simp [intOf]; omega
      ·obtain rfl : j=k:=by omega
       go_wp2_with fail
       clear hb1 hb2
       go_loop [7,9,10,11] (fun n i _ _ => ∃ m : Nat,m≤6∧i=.int .i64 m∧n=.int .i64 (Cal.val (s.data.toList.take j ++ (U7 s.data.toList j).take m))∧Hid (∀ i (hi : i<(U7 s.data.toList j).length),i<m→dgC (U7 s.data.toList j)[i]=true)) (fun _ i _ _ => 6 - (intOf i).toNat)
       case atStart => exact ⟨0,Nat.zero_le _,rfl,by rw [List.take_zero,List.append_nil],fun i hi h => by omega⟩
       case round =>
        obtain ⟨m,hm6,rfl,rfl,HQ⟩:=hrel
        have hbd:=fH (l:=s.data.toList.take j ++ (U7 s.data.toList j).take m) (n:=16) (by
         rw [List.all_append,O7 fun i hi h => HAll.out i hi (by omega),O7 fun i hi h => HQ.out i hi h]; rfl) (by rw [List.length_append,List.length_take,List.length_take]; omega)
        have hbd':=hbd
        simp only [Int.reducePow] at hbd
        obtain ⟨hb1,hb2⟩:=hbd
        by_cases hm : m<6
        ·have V:=hid (uC (l:=s.data.toList.take j) (q:=U7 s.data.toList j) (i:=m) (by rw [HQ6.out]; exact hm))
         have hb3:=(fH (l:=s.data.toList.take j ++ (U7 s.data.toList j).take m) (n:=15) (by
          rw [List.all_append,O7 fun i hi h => HAll.out i hi (by omega),O7 fun i hi h => HQ.out i hi h]; rfl) (by rw [List.length_append,List.length_take,List.length_take]; omega)).2
         simp only [Int.reducePow] at hb3
         clear hbd'
         by_cases hmp : (m : Int)<P
         ·have hjm : j + 1 + m<s.size:=by omega
          have QA:=hid (yO (d:=s.data.toList) (k:=j) (i:=m) (by rw [HL.out]; exact hjm) (by rw [HQ6.out]; exact hm))
          cases hdg : dgC s[j + 1 + m]
          ·have hi : dgI s[j + 1 + m].toNat=false:=by rw [← bM]; exact hdg
           have HN:=hid (U1 H45 (show aP s.data.toList=none by
            rw [HU.out,if_neg]
            rintro ⟨-,-,-,h⟩
            rw [List.drop_eq_getElem_cons (show j<s.data.toList.length by rw [HL.out]; omega)] at h
            simp only [bY,Bool.and_eq_true] at h
            have:=List.all_eq_true.1 h.2.2 s[j + 1 + m] (by
             have h2 : j + 1 + m<s.data.toList.length:=by rw [HL.out]; exact hjm
             exact kX (l:=s.data.toList) (j:=j + 1 + m) h2 (by omega))
            rw [this] at hdg; cases hdg))
           clear hdg
           go_wp2_with (first | (go_at_call 177; refine (z7 _ _).mono ?_; rintro e w' ⟨rfl,rfl⟩; rw [hi]))
           go_ret2
           exact ⟨aI HN.out.1.symm HN.out.2.symm,rfl⟩
          ·have hi : dgI s[j + 1 + m].toNat=true:=by rw [← bM]; exact hdg
           have HDG:=hid hdg
           obtain ⟨hd1,hd2⟩:=eE hdg
           clear hdg
           go_wp2_with (first | (go_at_call 177; refine (z7 _ _).mono ?_; rintro e w' ⟨rfl,rfl⟩; rw [hi]))
           go_round
           case rel =>
            refine ⟨m + 1,by omega,by go_num,by rw [V.out,QA.out,gI hjm]; (try go_num),fun i hi h => ?_⟩
            by_cases e : i=m
            ·subst e; rw [QA.out]; exact HDG
            ·exact HQ.out i hi (by omega)
           case measure => simp [intOf]; omega
         ·have hmz : ¬ (m : Int)<P:=hmp
          have Q0:=hid (a3e (d:=s.data.toList) (k:=j) (i:=m) (by rw [HL.out]; omega) (by rw [HQ6.out]; exact hm))
          go_wp2_with fail
          go_round
          case rel =>
           refine ⟨m + 1,by omega,by go_num,by rw [V.out,Q0.out]; exact congrArg (Value.int .i64) (by have : ((48 : UInt8).toNat : Int)=48:=rfl; omega),fun i hi h => ?_⟩
           by_cases e : i=m
           ·subst e; rw [Q0.out]; decide
           ·exact HQ.out i hi (by omega)
          case measure => simp [intOf]; omega
        ·obtain rfl : m=6:=by omega
         have hok : 1≤j∧j≤10∧(j=1∨s.data.toList.headD 0≠48)∧bY (s.data.toList.drop j)=true:=⟨hk1,by omega,by rw [HZ.out]; exact HZ1,by
          rw [HDK.out,H46.out]
          have:=HPL.out
          simp only [bY,Bool.and_eq_true,decide_eq_true_eq,beq_self_eq_true,true_and]
          refine ⟨⟨by omega,by omega⟩,?_⟩
          rw [List.all_eq_true]
          intro c hc
          obtain ⟨i,hi,rfl⟩:=List.getElem_of_mem hc
          rw [List.getElem_drop]
          have hi2 : i<(U7 s.data.toList j).length:=by rw [HQ6.out]; omega
          have hi3 : j + 1 + i<s.data.toList.length:=by rw [List.length_drop] at hi; omega
          rw [← yO hi3 hi2]
          exact HQ.out i hi2 (by omega)⟩
         have HV:=hid (show aP s.data.toList=some (Cal.val (s.data.toList.take j ++ (U7 s.data.toList j).take 6)) by
          rcases HVE.out with e | e
          ·exact e
          ·rw [HU.out,if_pos hok] at e; cases e)
         clear hbd' HQ
         generalize Cal.val (s.data.toList.take j ++ (U7 s.data.toList j).take 6)=V at hb1 hb2 HV HVE ⊢
         by_cases hbig : 1000000000000000<V
         ·have HN:=hid (rY H45 HV hbig)
          go_wp2_with fail
          go_ret2
          exact ⟨aI HN.out.1.symm HN.out.2.symm,rfl⟩
         ·have HN:=hid (oS H45 HV hbig)
          go_wp2_with fail
          go_ret2
          exact ⟨aI HN.out.1.symm HN.out.2.symm,rfl⟩
   ·obtain rfl : k=s.size:=by omega
    clear hgo hnd
    by_cases h10 : 10<(s.size : Int)
    ·have HN:=hid (U1 H45 (show aP s.data.toList=none by rw [HU.out,if_neg]; omega))
     go_wp2_with fail
     go_ret2
     exact ⟨aI HN.out.1.symm HN.out.2.symm,rfl⟩
    by_cases h1 : 1<(s.size : Int)∧(s[0].toNat : Int)=48
    ·obtain ⟨h1,h2⟩:=h1
     have e48 : ((s[0].toNat : Int) == 48)=true:=by rw [h2]; rfl
     have HN:=hid (U1 H45 (show aP s.data.toList=none by
      rw [HU.out,if_neg]
      rintro ⟨-,-,h | h,-⟩
      ·omega
      ·rw [HZ.out] at h; exact h (UInt8.toNat_inj.1 (Int.ofNat.inj h2))))
     clear h2
     go_wp2_with fail
     go_ret2
     exact ⟨aI HN.out.1.symm HN.out.2.symm,rfl⟩
    have hz1 : s.size=1∨s[0]≠48:=by
     rcases Nat.lt_or_ge 1 s.size with g | g
     ·refine .inr fun e => h1 ⟨by omega,by rw [e]; rfl⟩
     ·exact .inl (by omega)
    have HZ1:=hid hz1
    have e1 : (¬ 1<(s.size : Int))∨(1<(s.size : Int)∧((s[0].toNat : Int) == 48)=false):=by
     rcases Nat.lt_or_ge 1 s.size with g | g
     ·refine .inr ⟨by omega,?_⟩
      rcases hz1 with e | e
      ·omega
      ·rw [beq_eq_false_iff_ne]; exact fun g => e (UInt8.toNat_inj.1 (Int.ofNat.inj g))
     ·exact .inl (by omega)
    clear hz1 h1
    rcases e1 with e1 | ⟨e1,e1'⟩
    all_goals
     go_wp2_with fail
     have hq6 : (U7 s.data.toList s.size).length=6:=rT (by rw [HL.out]; omega)
     have HQ6:=hid hq6
     have HVE:=hid (show aP s.data.toList=some (Cal.val (s.data.toList.take s.size ++ (U7 s.data.toList s.size).take 6))∨aP s.data.toList=none from by
      rw [HU.out]
      split
      ·refine .inl ?_
       rw [List.take_of_length_le (Nat.le_of_eq hq6),List.append_assoc]; rfl
      ·exact .inr rfl)
     clear hq6
     go_loop [7,8] (fun n i => ∃ j : Nat,j≤s.size∧i=.int .i64 j∧n=.int .i64 (Cal.val (s.data.toList.take j))) (fun _ i => s.size - (intOf i).toNat)
     case atStart => exact ⟨0,Nat.zero_le _,rfl,rfl⟩
     case round =>
      obtain ⟨j,hj,rfl,rfl⟩:=hrel
      have hbd:=fH (l:=s.data.toList.take j) (n:=10) (by
       exact O7 fun i hi h => HAll.out i hi (by omega)) (by rw [List.length_take]; omega)
      simp only [Int.reducePow] at hbd
      obtain ⟨hb1,hb2⟩:=hbd
      by_cases hjk : j<s.size
      ·have hjs : j<s.size:=by omega
       have hdj:=eE (show dgC s[j]=true from HAll.out j (by rw [HL.out]; omega) hjk)
       have V:=hid (oW (d:=s.data.toList) (i:=j) (by rw [HL.out]; omega))
       obtain ⟨hd1,hd2⟩:=hdj
       go_wp2_with fail
       go_round
       case rel => exact ⟨j + 1,by omega,by go_num,by rw [V.out,gI hjs]⟩
       case measure => simp [intOf]; omega
      ·obtain rfl : j=s.size:=by omega
       go_wp2_with fail
       clear hb1 hb2
       go_loop [7,9,10,11] (fun n i _ _ => ∃ m : Nat,m≤6∧i=.int .i64 m∧n=.int .i64 (Cal.val (s.data.toList.take s.size ++ (U7 s.data.toList s.size).take m))∧Hid (∀ i (hi : i<(U7 s.data.toList s.size).length),i<m→dgC (U7 s.data.toList s.size)[i]=true)) (fun _ i _ _ => 6 - (intOf i).toNat)
       case atStart => exact ⟨0,Nat.zero_le _,rfl,by rw [List.take_zero,List.append_nil],fun i hi h => by omega⟩
       case round =>
        obtain ⟨m,hm6,rfl,rfl,HQ⟩:=hrel
        have hbd:=fH (l:=s.data.toList.take s.size ++ (U7 s.data.toList s.size).take m) (n:=16) (by
         rw [List.all_append,O7 fun i hi h => HAll.out i hi (by omega),O7 fun i hi h => HQ.out i hi h]; rfl) (by rw [List.length_append,List.length_take,List.length_take]; omega)
        have hbd':=hbd
        simp only [Int.reducePow] at hbd
        obtain ⟨hb1,hb2⟩:=hbd
        by_cases hm : m<6
        ·have V:=hid (uC (l:=s.data.toList.take s.size) (q:=U7 s.data.toList s.size) (i:=m) (by rw [HQ6.out]; exact hm))
         have hb3:=(fH (l:=s.data.toList.take s.size ++ (U7 s.data.toList s.size).take m) (n:=15) (by
          rw [List.all_append,O7 fun i hi h => HAll.out i hi (by omega),O7 fun i hi h => HQ.out i hi h]; rfl) (by rw [List.length_append,List.length_take,List.length_take]; omega)).2
         simp only [Int.reducePow] at hb3
         clear hbd'
         ·skip
          have Q0:=hid (a3e (d:=s.data.toList) (k:=s.size) (i:=m) (by rw [HL.out]; omega) (by rw [HQ6.out]; exact hm))
          go_wp2_with fail
          go_round
          case rel =>
           refine ⟨m + 1,by omega,by go_num,by rw [V.out,Q0.out]; exact congrArg (Value.int .i64) (by have : ((48 : UInt8).toNat : Int)=48:=rfl; omega),fun i hi h => ?_⟩
           by_cases e : i=m
           ·subst e; rw [Q0.out]; decide
           ·exact HQ.out i hi (by omega)
          case measure => simp [intOf]; omega
        ·obtain rfl : m=6:=by omega
         have hok : 1≤s.size∧s.size≤10∧(s.size=1∨s.data.toList.headD 0≠48)∧bY (s.data.toList.drop s.size)=true:=⟨hk1,by omega,by rw [HZ.out]; exact HZ1,by
          rw [List.drop_of_length_le (by rw [HL.out]; omega)]; rfl⟩
         have HV:=hid (show aP s.data.toList=some (Cal.val (s.data.toList.take s.size ++ (U7 s.data.toList s.size).take 6)) by
          rcases HVE.out with e | e
          ·exact e
          ·rw [HU.out,if_pos hok] at e; cases e)
         clear hbd' HQ
         generalize Cal.val (s.data.toList.take s.size ++ (U7 s.data.toList s.size).take 6)=V at hb1 hb2 HV HVE ⊢
         by_cases hbig : 1000000000000000<V
         ·have HN:=hid (rY H45 HV hbig)
          go_wp2_with fail
          go_ret2
          exact ⟨aI HN.out.1.symm HN.out.2.symm,rfl⟩
         ·have HN:=hid (oS H45 HV hbig)
          go_wp2_with fail
          go_ret2
          exact ⟨aI HN.out.1.symm HN.out.2.symm,rfl⟩
end
section
open Go.RowKit
def rdV (s : ByteArray) : Int:=if (∀ j (hj : j<s.data.toList.length),Cal.fits j s.data.toList[j]=true) then ofV (Cal.val (Cal.seg s.data.toList 0 4)) (Cal.val (Cal.seg s.data.toList 5 7)) (Cal.val (Cal.seg s.data.toList 8 10)) else 0
def rdE (s : ByteArray) : Int:=if (∀ j (hj : j<s.data.toList.length),Cal.fits j s.data.toList[j]=true) then ofE (Cal.val (Cal.seg s.data.toList 0 4)) (Cal.val (Cal.seg s.data.toList 5 7)) (Cal.val (Cal.seg s.data.toList 8 10)) else 30
theorem xD {s : ByteArray} {k : Nat} (hk : k<s.data.toList.length) (h : Cal.fits k s.data.toList[k]=false) : rdV s=0∧rdE s=30:=by
 have n : ¬ ∀ j (hj : j<s.data.toList.length),Cal.fits j s.data.toList[j]=true:=fun a => by rw [a k hk] at h; cases h
 unfold rdV rdE
 rw [if_neg n,if_neg n]
 exact ⟨rfl,rfl⟩
end
section
open Go.RowKit
def xX (s : ByteArray) : Int:=if s.size=10 then rdV s else 0
def tZ (s : ByteArray) : Int:=if s.size=10 then rdE s else 30
theorem a4D {y m d : Int} (h : y=-1∨m=-1∨d=-1) : ofV y m d=0∧ofE y m d=30:=by
 have n : ¬ Cal.ok y m d:=by unfold Cal.ok; omega
 unfold ofV ofE
 rw [if_neg n,if_neg n]
 exact ⟨rfl,rfl⟩
theorem wV (s : ByteArray) (w : World) :
 Calls Tryz.prog 159 #[.string s] w fun e w' => e=.returned (.tuple #[.int .i64 (xX s),.int .i64 (tZ s)])∧Below w.heap.size w w':=by
 unfold xX tZ
 by_cases h : s.size=10
 ·rw [if_pos h,if_pos h]
  have hl : s.data.toList.length=10:=by simpa using h
  have g4 : s[4]=s.data.toList[4]:=rfl
  have g7 : s[7]=s.data.toList[7]:=rfl
  by_cases c : (s[4].toNat : Int)=45∧(s[7].toNat : Int)=45
  ·refine (xR s w h c.1 c.2).mono ?_
   rintro e w' ⟨rfl,hb⟩
   refine ⟨?_,hb⟩
   show Ending.returned (.tuple #[.int .i64 (ofV (Cal.numL (Cal.seg s.data.toList 0 4)) (Cal.numL (Cal.seg s.data.toList 5 7)) (Cal.numL (Cal.seg s.data.toList 8 10))),.int .i64 (ofE (Cal.numL (Cal.seg s.data.toList 0 4)) (Cal.numL (Cal.seg s.data.toList 5 7)) (Cal.numL (Cal.seg s.data.toList 8 10)))])=_
   by_cases f : ∀ j (hj : j<s.data.toList.length),Cal.fits j s.data.toList[j]=true
   ·have dig : ∀ j (hj : j<s.data.toList.length),j≠4→j≠7→Cal.isDig s.data.toList[j]=true:=fun j hj e f' => by rw [← Cal.fits_dig e f']; exact f j hj
    have a1:=Cal.seg_all s.data.toList (lo:=0) (hi:=4) (fun j hj _ _ => dig j hj (by omega) (by omega))
    have a2:=Cal.seg_all s.data.toList (lo:=5) (hi:=7) (fun j hj _ _ => dig j hj (by omega) (by omega))
    have a3:=Cal.seg_all s.data.toList (lo:=8) (hi:=10) (fun j hj _ _ => dig j hj (by omega) (by omega))
    unfold Cal.numL rdV rdE
    rw [if_pos a1,if_pos a2,if_pos a3,if_pos f,if_pos f]
   ·have ⟨j,hj,hf⟩ : ∃ j,∃ hj : j<s.data.toList.length,Cal.fits j s.data.toList[j]=false:=by
     refine Classical.byContradiction fun n => f fun j hj => ?_
     cases e : Cal.fits j s.data.toList[j]
     ·exact absurd ⟨j,hj,e⟩ n
     ·rfl
    have r:=xD hj hf
    rw [r.1,r.2]
    have h4 : j≠4:=fun e => by
     subst e
     rw [Cal.fits_dash (.inl rfl),decide_eq_false_iff_not] at hf
     exact hf c.1
    have h7 : j≠7:=fun e => by
     subst e
     rw [Cal.fits_dash (.inr rfl),decide_eq_false_iff_not] at hf
     exact hf c.2
    rw [Cal.fits_dig h4 h7] at hf
    have o : Cal.numL (Cal.seg s.data.toList 0 4)=-1∨Cal.numL (Cal.seg s.data.toList 5 7)=-1∨Cal.numL (Cal.seg s.data.toList 8 10)=-1:=by
     by_cases k : j<4
     ·exact .inl (Cal.seg_not _ (by omega) k hj hf)
     by_cases k' : j<7
     ·exact .inr (.inl (Cal.seg_not _ (by omega) k' hj hf))
     ·exact .inr (.inr (Cal.seg_not _ (by omega) (by omega) hj hf))
    have z:=a4D o
    rw [z.1,z.2]
  ·refine (vH s w h c).mono ?_
   rintro e w' ⟨rfl,hb⟩
   refine ⟨?_,hb⟩
   by_cases c4 : (s[4].toNat : Int)=45
   ·have c7 : ¬ (s[7].toNat : Int)=45:=fun k => c ⟨c4,k⟩
    have r:=xD (s:=s) (k:=7) (by omega) (by rw [Cal.fits_dash (.inr rfl),decide_eq_false_iff_not]; exact c7)
    rw [r.1,r.2]
   ·have r:=xD (s:=s) (k:=4) (by omega) (by rw [Cal.fits_dash (.inl rfl),decide_eq_false_iff_not]; exact c4)
    rw [r.1,r.2]
 ·rw [if_neg h,if_neg h]; exact wU s w h
theorem a1n (s : ByteArray) : (∃ v,vS s.data.toList=some v∧xX s=v∧tZ s=0)∨(vS s.data.toList=none∧tZ s=30):=by
 have hsz : s.data.toList.length=s.size:=d7 s
 unfold xX tZ vS
 by_cases h : s.size=10
 ·rw [if_pos h,if_pos h]
  unfold rdV rdE ofV ofE
  by_cases f : ∀ j (hj : j<s.data.toList.length),Cal.fits j s.data.toList[j]=true
  ·rw [if_pos f,if_pos f]
   by_cases o : Cal.ok (Cal.val (Cal.seg s.data.toList 0 4)) (Cal.val (Cal.seg s.data.toList 5 7)) (Cal.val (Cal.seg s.data.toList 8 10))
   ·rw [if_pos o,if_pos o,if_pos ⟨hsz.trans h,f,o⟩]
    exact .inl ⟨_,rfl,rfl,rfl⟩
   ·rw [if_neg (fun g => o g.2.2),if_neg o]
    exact .inr ⟨rfl,if_neg o⟩
  ·rw [if_neg (fun g => f g.2.1)]
   exact .inr ⟨rfl,if_neg f⟩
 ·rw [if_neg h,if_neg h,if_neg (fun g => h (hsz.symm.trans g.1))]
  exact .inr ⟨rfl,rfl⟩
end
section
open Go.RowKit
def Y3 (t : Tk) : List Value:=[.int .i64 t.kind,.string ⟨t.text.toArray⟩,.int .i64 t.n,.int .i64 t.pos]
def D7 (ts : List Tk) : List Value:=ts.flatMap Y3
theorem a1U (ts : List Tk) (t : Tk) : D7 (ts ++ [t])=D7 ts ++ Y3 t:=by unfold D7; simp
theorem yI : ∀ (ts : List Tk) (j : Nat) (hj : j<ts.length) (i : Nat) (_ : i<4),(D7 ts)[j * 4 + i]?=(Y3 ts[j])[i]?
 | t :: ts,0,_,i,hi => by
   unfold D7
   rw [List.flatMap_cons,Nat.zero_mul,Nat.zero_add,List.getElem?_append_left (by exact hi)]
   rfl
 | t :: ts,j + 1,hj,i,hi => by
   have:=yI ts j (by simpa using hj) i hi
   unfold D7 at this ⊢
   rw [List.flatMap_cons,List.getElem?_append_right (by show 4≤_; omega)]
   rw [show (j + 1) * 4 + i - (Y3 t).length=j * 4 + i by show (j + 1) * 4 + i - 4=_; omega]
   exact this
def xJ (W : World) (b off : Nat) (ts : List Tk) : Prop:=∀ j (hj : j<ts.length),W.cell? ⟨b,off + j * 4,none⟩=some (.int .i64 ts[j].kind)∧W.cell? ⟨b,off + j * 4 + 1,none⟩=some (.string ⟨ts[j].text.toArray⟩)∧W.cell? ⟨b,off + j * 4 + 2,none⟩=some (.int .i64 ts[j].n)∧W.cell? ⟨b,off + j * 4 + 3,none⟩=some (.int .i64 ts[j].pos)
theorem xJ.below {n₀ : Nat} {W W' : World} {b off : Nat} {ts : List Tk} (h : xJ W b off ts) (hb : Below n₀ W W') (hl : b<n₀) : xJ W' b off ts:=fun j hj => by
 obtain ⟨h0,h1,h2,h3⟩:=h j hj
 exact ⟨(hb.cell (p:=⟨b,off + j * 4,none⟩) hl).trans h0,(hb.cell (p:=⟨b,off + j * 4 + 1,none⟩) hl).trans h1,(hb.cell (p:=⟨b,off + j * 4 + 2,none⟩) hl).trans h2,(hb.cell (p:=⟨b,off + j * 4 + 3,none⟩) hl).trans h3⟩
theorem xJ.of_row {base T : Nat} {W : World} {g cap : Nat} {ts : List Tk} (h : W.ownsRow base T 4 (.slice (some ⟨g,0,none⟩) ts.length cap) ts.length (D7 ts)) : xJ W g 0 ts:=by
 have hc:=h.cells (g:=g) rfl
 intro j hj
 have q : ∀ i,i<4→∀ u,(Y3 ts[j])[i]?=some u→W.cell? ⟨g,0 + j * 4 + i,none⟩=some u:=fun i hi u hu => by
  have:=hc (j * 4 + i) u (by rw [yI ts j hj i hi]; exact hu)
  rw [Go.WideShapes.add_plain] at this
  rw [Nat.add_assoc]
  exact this
 exact ⟨q 0 (by decide) _ rfl,q 1 (by decide) _ rfl,q 2 (by decide) _ rfl,q 3 (by decide) _ rfl⟩
theorem mK (W : World) (T : TypeId) (v0 v1 v2 v3 : Value) : ∀ j u,[v0,v1,v2,v3][j]?=some u→(W.alloc (.cells #[v0,v1,v2,v3] T)).cell? ((⟨W.heap.size,0,none⟩ : Addr).add j)=some u:=by
 intro j u h
 rw [Go.WideShapes.add_plain,Nat.zero_add]
 have h' : (W.alloc (.cells #[v0,v1,v2,v3] T)).heap[W.heap.size]?=some (.cells #[v0,v1,v2,v3] T (0,0)):=by show (W.heap.push _)[W.heap.size]?=_; simp
 rw [World.cell?]
 simp only [h']
 match j,h with
 | 0,h => exact h
 | 1,h => exact h
 | 2,h => exact h
 | 3,h => exact h
theorem a2K (t : Tk) : ∀ u∈Y3 t,u.oneCell'=true:=by
 intro u hu
 unfold Y3 at hu
 simp only [List.mem_cons,List.not_mem_nil,or_false] at hu
 rcases hu with rfl | rfl | rfl | rfl <;> rfl
theorem n8 {W W' : World} {B T k : Nat} {v : Value} {n : Nat} {xs : List Value} (h : W.ownsRow B T k v n xs) (hb : Below W.heap.size W W') : W'.ownsRow B T k v n xs :=
 h.kept (row:=none) ⟨hb.os,hb.tape,hb.output,hb.size,fun i hi _ => hb.block i hi⟩ (by cases hv : v.ownBlock <;> simp)
theorem mU {T : TypeId} {B : Nat} {w W w5 : World} {v : Value} {ts : List Tk} {t : Tk} {g cap' : Nat} (hB : Below B w W) (how : W.ownsRow B T 4 v ts.length (D7 ts))
 (hown' : w5.ownsRow B T 4 (.slice (some ⟨g,0,none⟩) (ts.length + 1) cap') (ts.length + 1) (D7 ts ++ Y3 t)) (hgrow' : W.grownBy w5 v.ownBlock) (hBW : B≤W.heap.size) :
 Below B w w5∧w5.ownsRow B T 4 (.slice (some ⟨g,0,none⟩) (ts ++ [t]).length cap') (ts ++ [t]).length (D7 (ts ++ [t])):=by
 refine ⟨hB.grown hgrow' hBW (fun r e => (how.lt r e).1),?_⟩
 rw [a1U,List.length_append]
 exact hown'
end
end Go.Proofs.YtppcfebnaieciaaGreatDoor
