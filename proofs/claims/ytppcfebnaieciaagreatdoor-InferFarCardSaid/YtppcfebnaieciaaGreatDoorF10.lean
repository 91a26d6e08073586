/-
  Laws that the proof rests on.
-/
import Derived.Test.YtppcfebnaieciaaGreatDoorF08
import Derived.Test.YtppcfebnaieciaaGreatDoorF09
namespace Go.Proofs.YtppcfebnaieciaaGreatDoor
set_option maxRecDepth 100000
set_option maxHeartbeats 16000000
section
open Lib (hid)
open Go.RowKit
theorem H9 (s : ByteArray) (a b : Nat) : (s.extract a b).data.toList=(s.data.toList.drop a).take (b - a):=by
 have : (s.extract a b).data=s.data.extract a b:=by simp
 rw [this,Array.toList_extract]
theorem V0 (s : ByteArray) (a b : Nat) (h : b≤s.size) : (s.extract a b).size=b - a:=by
 rw [← d7,H9,List.length_take,List.length_drop,d7]; omega
theorem p6 {s : ByteArray} {k : Nat} (h : k<s.size) : (s.data.toList.drop k).headD 0=s[k]:=by rw [J5 h]; rfl
theorem V3 {s : ByteArray} {k : Nat} (h : s.size≤k) : (s.data.toList.drop k).headD 0=0:=by rw [cT h]; rfl
theorem qE {c : UInt8} {n : Nat} (hn : n<256) : ((c.toNat : Int)=n)↔c=UInt8.ofNat n:=by
 constructor
 ·intro h
  have : c.toNat=n:=by omega
  rw [← this]; simp
 ·rintro rfl; simp; omega
def gT : ByteArray:=⟨#[100,100,100,100,45,100,100,45,100,100]⟩
theorem a2W : ∀ (k : Nat) (h : k<10),((gT[k]'h).toNat : Int)=if k=4∨k=7 then 45 else 100:=by decide
theorem a1o (k : Nat) (c : UInt8) : Cal.fits k c=if k=4∨k=7 then decide ((c.toNat : Int)=45) else dgI c.toNat:=by
 unfold Cal.fits
 split
 ·rfl
 ·rw [← sW,bM]
theorem sR (s : ByteArray) (a : Nat) (w : World) (hs : s.size≤16384) (ha : a≤s.size) :
 Calls Tryz.prog 158 #[.string s,.int .i64 a] w fun e w' => e=.returned (.bool (aF (s.data.toList.drop a)))∧w=w':=by
 have HL:=hid (d7 s)
 have HDL:=hid (show (s.data.toList.drop a).length=s.size - a by rw [List.length_drop,d7])
 have DA:=hid (show aF (s.data.toList.drop a)=(decide (10≤(s.data.toList.drop a).length) && (decide (∀ j (hj : j<((s.data.toList.drop a).take 10).length),Cal.fits j ((s.data.toList.drop a).take 10)[j]=true) && !dgC (((s.data.toList.drop a).drop 10).headD 0))) from rfl)
 by_cases h10 : (s.size : Int) - a<10
 ·have F:=hid (show aF (s.data.toList.drop a)=false by rw [DA.out,HDL.out,decide_eq_false (by omega)]; rfl)
  go_enter Tryz.func158,Tryz.ntmps158
  go_wp2_with fail
  go_ret
  exact ⟨bN F.out.symm,rfl⟩
 have h11 : a + 10≤s.size:=by omega
 have HT:=hid (show ∀ j (hj : j<((s.data.toList.drop a).take 10).length),((s.data.toList.drop a).take 10)[j]=s[a + j]'(by rw [List.length_take] at hj; have:=HDL.out; omega) from fun j hj => by
  rw [List.getElem_take,List.getElem_drop]; rfl)
 go_enter Tryz.func158,Tryz.ntmps158
 go_wp2_with fail
 go_loop [6,7] (fun i _ => ∃ k : Nat,k≤10∧i=.int .i64 k∧Hid (∀ j (hj : a + j<s.size),j<k→Cal.fits j s[a + j]=true)) (fun i _ => 10 - (intOf i).toNat)
 case atStart => exact ⟨0,by omega,rfl,fun j hj h => by omega⟩
 case round =>
  obtain ⟨k,hk,rfl,HAll⟩:=hrel
  by_cases hlt : k<10
  ·have hka : a + k<s.size:=by omega
   have FK:=hid (a1o k s[a + k])
   have e3:=hid (a2W k hlt)
   by_cases h47 : k=4∨k=7
   ·have e1 : ((gT[k]'hlt).toNat : Int)=45:=by rw [e3.out,if_pos h47]
    have q1 : (((gT[k]'hlt).toNat : Int) == 100)=false:=by rw [e1]; rfl
    have q2 : (((gT[k]'hlt).toNat : Int) == 45)=true:=by rw [e1]; rfl
    unfold gT at q1 q2
    clear e1
    cases hi : dgI s[a + k].toNat
    all_goals
     by_cases hd : (s[a + k].toNat : Int)=45
     ·have hd' : ((s[a + k].toNat : Int) != 45)=false:=by rw [hd]; rfl
      have FF:=hid (show Cal.fits k s[a + k]=true by rw [FK.out,if_pos h47,decide_eq_true hd])
      have H47:=hid h47
      clear hd h47
      go_wp2_with (first | (go_at_call 132; refine (m6 _ _).mono ?_; rintro e w' ⟨rfl,rfl⟩; rw [hi]))
      go_round
      case rel =>
       refine ⟨k + 1,by omega,by go_num,fun j hj h => ?_⟩
       by_cases e : j=k
       ·subst e; exact FF
       ·exact HAll.out j hj (by omega)
      case measure => simp [intOf]; omega
     ·have hd' : ((s[a + k].toNat : Int) != 45)=true:=by rw [bne_iff_ne]; exact hd
      have F:=hid (show aF (s.data.toList.drop a)=false by
       rw [DA.out,decide_eq_false (p:=∀ j (hj : j<((s.data.toList.drop a).take 10).length),_),Bool.false_and,Bool.and_false]
       intro g
       have hkl : k<((s.data.toList.drop a).take 10).length:=by rw [List.length_take,HDL.out]; omega
       have:=g k hkl
       rw [HT.out k hkl,FK.out,if_pos h47,decide_eq_false hd] at this
       cases this)
      clear hd h47
      go_wp2_with (first | (go_at_call 132; refine (m6 _ _).mono ?_; rintro e w' ⟨rfl,rfl⟩; rw [hi]))
      go_ret
      exact ⟨bN F.out.symm,rfl⟩
   ·have e1 : ((gT[k]'hlt).toNat : Int)=100:=by rw [e3.out,if_neg h47]
    have q1 : (((gT[k]'hlt).toNat : Int) == 100)=true:=by rw [e1]; rfl
    have q2 : (((gT[k]'hlt).toNat : Int) == 45)=false:=by rw [e1]; rfl
    unfold gT at q1 q2
    clear e1
    cases hi : dgI s[a + k].toNat
    ·have F:=hid (show aF (s.data.toList.drop a)=false by
      rw [DA.out,decide_eq_false (p:=∀ j (hj : j<((s.data.toList.drop a).take 10).length),_),Bool.false_and,Bool.and_false]
      intro g
      have hkl : k<((s.data.toList.drop a).take 10).length:=by rw [List.length_take,HDL.out]; omega
      have:=g k hkl
      rw [HT.out k hkl,FK.out,if_neg h47,hi] at this
      cases this)
     clear h47
     go_wp2_with (first | (go_at_call 132; refine (m6 _ _).mono ?_; rintro e w' ⟨rfl,rfl⟩; rw [hi]))
     go_ret
     exact ⟨bN F.out.symm,rfl⟩
    ·have FF:=hid (show Cal.fits k s[a + k]=true by rw [FK.out,if_neg h47,hi])
     clear h47
     go_wp2_with (first | (go_at_call 132; refine (m6 _ _).mono ?_; rintro e w' ⟨rfl,rfl⟩; rw [hi]))
     go_round
     case rel =>
      refine ⟨k + 1,by omega,by go_num,fun j hj h => ?_⟩
      by_cases e : j=k
      ·subst e; exact FF
      ·exact HAll.out j hj (by omega)
     case measure => simp [intOf]; omega
  ·obtain rfl : k=10:=by omega
   have F:=hid (show aF (s.data.toList.drop a)=!dgC ((s.data.toList.drop (a + 10)).headD 0) by
    rw [DA.out,HDL.out,decide_eq_true (show 10≤s.size - a by omega),decide_eq_true (p:=∀ j (hj : j<((s.data.toList.drop a).take 10).length),_),List.drop_drop,Bool.true_and,Bool.true_and]
    intro j hj
    rw [HT.out j hj]
    rw [List.length_take] at hj
    exact HAll.out j _ (by omega))
   by_cases he : (s.size : Int) - a=10
   ·have he' : ((s.size : Int) - a == 10)=true:=by rw [he]; rfl
    have F2:=hid (show aF (s.data.toList.drop a)=true by rw [F.out,V3 (by omega)]; rfl)
    clear he
    go_wp2_with fail
    go_ret
    exact ⟨bN F2.out.symm,rfl⟩
   ·have he' : ((s.size : Int) - a == 10)=false:=by rw [beq_eq_false_iff_ne]; exact he
    have hka : a + 10<s.size:=by omega
    have F2:=hid (show aF (s.data.toList.drop a)=!dgI s[a + 10].toNat by rw [F.out,p6 hka,bM])
    clear he
    go_wp2_with (first | (go_at_call 132; refine (m6 _ _).mono ?_; rintro e w' ⟨rfl,rfl⟩))
    go_ret
    exact ⟨bN F2.out.symm,rfl⟩
end
section
open Lib (hid)
open Go.RowKit
def tkV (t : Tk) : Value:=.agg #[.int .i64 t.kind,.string ⟨t.text.toArray⟩,.int .i64 t.n,.int .i64 t.pos]
def a0y (r : Except Int (Tk × Nat)) (w : World) (e : Ending) (w' : World) : Prop :=
 Below w.heap.size w w'∧match r with
  | .ok (t,n) => e=.returned (.tuple #[tkV t,.int .i64 n,.int .i64 0])
  | .error c => c≠0∧∃ (k : Int) (s : ByteArray) (x p : Int),e=.returned (.tuple #[.agg #[.int .i64 k,.string s,.int .i64 x,.int .i64 p],.int .i64 0,.int .i64 c])
theorem t7 {r : Except Int (Tk × Nat)} {w w' : World} {k x p : Int} {s : ByteArray} {n : Int} {t : Tk} {m : Nat} (h : r=.ok (t,m)) (hb : Below w.heap.size w w') (hk : k=t.kind) (hs : s.data.toList=t.text) (hx : x=t.n) (hp : p=t.pos) (hn : n=m) :
 a0y r w (.returned (.tuple #[.agg #[.int .i64 k,.string s,.int .i64 x,.int .i64 p],.int .i64 n,.int .i64 0])) w':=by
 subst h hk hx hp hn
 refine ⟨hb,?_⟩
 show Ending.returned _=Ending.returned _
 unfold tkV
 rw [← hs]
theorem e8 {r : Except Int (Tk × Nat)} {w w' : World} {k x p : Int} {s : ByteArray} {c : Int} (h : r=.error c) (hc : c≠0) (hb : Below w.heap.size w w') :
 a0y r w (.returned (.tuple #[.agg #[.int .i64 k,.string s,.int .i64 x,.int .i64 p],.int .i64 0,.int .i64 c])) w':=by
 subst h
 exact ⟨hb,hc,k,s,x,p,rfl⟩
def bI (b : Nat) (w : World) : Prop:=w.heap[b]?=some (.cells #[.int .i64 0,.string ⟨#[]⟩,.int .i64 0,.int .i64 0] 108 (0,0))
theorem bI.below {b : Nat} {w w' : World} (h : bI b w) (hb : Below w.heap.size w w') : bI b w':=(hb.block b (Array.getElem?_eq_some_iff.1 h).1).trans h
theorem bI.make (w : World) : bI w.heap.size (w.alloc (.cells #[.int .i64 0,.string ⟨#[]⟩,.int .i64 0,.int .i64 0] 108)):=by
 show (w.heap.push _)[w.heap.size]?=_; simp
theorem bI.cells {b : Nat} {w : World} (h : bI b w) : w.cell? ⟨b,0,none⟩=some (.int .i64 0)∧w.cell? ⟨b,1,none⟩=some (.string ⟨#[]⟩)∧w.cell? ⟨b,2,none⟩=some (.int .i64 0)∧w.cell? ⟨b,3,none⟩=some (.int .i64 0) ∧
 w.frozen? ⟨b,0,none⟩=false∧w.frozen? ⟨b,1,none⟩=false∧w.frozen? ⟨b,2,none⟩=false∧w.frozen? ⟨b,3,none⟩=false:=by
 have h' : w.heap[b]?=some (.cells #[.int .i64 0,.string ⟨#[]⟩,.int .i64 0,.int .i64 0] 108 (0,0)):=h
 refine ⟨?_,?_,?_,?_,?_,?_,?_,?_⟩ <;> simp [World.cell?,World.frozen?,h']
theorem d8 {B : Nat} {w w' : World} (h : Below B w w') (v0 v1 v2 v3 : Value) : Below B w ((((w'.setCell ⟨B,0,none⟩ v0).setCell ⟨B,1,none⟩ v1).setCell ⟨B,2,none⟩ v2).setCell ⟨B,3,none⟩ v3) :=
 (((h.setCell (p:=⟨B,0,none⟩) (Nat.le_refl _) _).setCell (p:=⟨B,1,none⟩) (Nat.le_refl _) _).setCell (p:=⟨B,2,none⟩) (Nat.le_refl _) _).setCell (p:=⟨B,3,none⟩) (Nat.le_refl _) _
theorem fV (s : ByteArray) (a : Nat) : x9 (s.data.toList.drop a)≤s.size - a:=by
 have:=gM (s.data.toList.drop a)
 rwa [List.length_drop,d7] at this
theorem uV (s : ByteArray) (a : Nat) (w : World) (hs : s.size≤16384) (ha : a<s.size) :
 Calls Tryz.prog 131 #[.string s,.int .i64 a] w (a0y (cC (s.data.toList.drop a) a) w):=by
 have hsp:=fV s a
 obtain ⟨n,hn⟩ : ∃ n,n=x9 (s.data.toList.drop a):=⟨_,rfl⟩
 rw [← hn] at hsp
 have N:=hid (show cC (s.data.toList.drop a) a=(if ((s.data.toList.drop a).drop n).headD 0=46 then
  if 24<n∨x9 ((s.data.toList.drop a).drop (n + 1))<1∨24<x9 ((s.data.toList.drop a).drop (n + 1))∨aJ ((s.data.toList.drop a).take n)=true∨aJ (((s.data.toList.drop a).drop (n + 1)).take (x9 ((s.data.toList.drop a).drop (n + 1))))=true then .error 73
  else .ok (⟨3,(s.data.toList.drop a).take n ++ 46 :: ((s.data.toList.drop a).drop (n + 1)).take (x9 ((s.data.toList.drop a).drop (n + 1))),0,a⟩,n + 1 + x9 ((s.data.toList.drop a).drop (n + 1)))
  else if 24<n then .error 73 else .ok (⟨if aJ ((s.data.toList.drop a).take n)=true then 2 else 1,(s.data.toList.drop a).take n,0,a⟩,n)) by rw [hn]; rfl)
 simp only [List.drop_drop] at N
 have T:=hid (show (s.extract a (a + n)).data.toList=(s.data.toList.drop a).take n by rw [H9,Nat.add_sub_cancel_left])
 have hte:=V0 s a (a + n) (by omega)
 rw [Nat.add_sub_cancel_left] at hte
 have hts : (s.extract a (a + n)).size≤16384:=by omega
 have C1:=hid (iD s a (w.alloc (.cells #[.int .i64 0,.string ⟨#[]⟩,.int .i64 0,.int .i64 0] 108)) (Nat.le_trans hs (by decide)) (by unfold maxLen; omega))
 rw [← hn] at C1
 have HB:=hid (a7 w (.cells #[.int .i64 0,.string ⟨#[]⟩,.int .i64 0,.int .i64 0] 108))
 clear hn hte
 go_enter Tryz.func131,Tryz.ntmps131
 go_wp2_with fail
 (with_reducible refine Calls.mono C1.out ?_)
 rintro e w1 ⟨rfl,rfl⟩
 go_wp2_with fail
 have CW:=hid (iZ (s.extract a (a + n)) (w.alloc (.cells #[.int .i64 0,.string ⟨#[]⟩,.int .i64 0,.int .i64 0] 108)))
 rw [T.out] at CW
 (with_reducible refine Calls.mono CW.out ?_)
 rintro e w2 ⟨rfl,hb⟩
 have HC:=hid (HB.out.trans (hb.mono HB.out.size))
 have Z2:=hid ((bI.make w).below hb)
 clear hb CW
 have hdot : (a + n<s.size∧∃ h : a + n<s.size,(s[a + n].toNat : Int)=46)∨(a + n<s.size∧∃ h : a + n<s.size,¬ (s[a + n].toNat : Int)=46)∨¬ a + n<s.size:=by
  by_cases h : a + n<s.size
  ·by_cases h' : (s[a + n].toNat : Int)=46
   ·exact .inl ⟨h,h,h'⟩
   ·exact .inr (.inl ⟨h,h,h'⟩)
  ·exact .inr (.inr h)
 rcases hdot with ⟨hlt,_,hd⟩ | ⟨hlt,_,hd⟩ | hlt
 ·have hd' : ((s[a + n].toNat : Int) == 46)=true:=by rw [hd]; rfl
  have NN:=hid (N.out.trans (if_pos (by rw [p6 hlt]; exact UInt8.toNat_inj.1 (Int.ofNat.inj hd))))
  clear hd N
  obtain ⟨m,hm⟩ : ∃ m,m=x9 (s.data.toList.drop (a + (n + 1))):=⟨_,rfl⟩
  have hsm:=fV s (a + (n + 1))
  rw [← hm] at NN hsm
  have T2:=hid (show (s.extract (a + n + 1) (a + n + 1 + m)).data.toList=(s.data.toList.drop (a + (n + 1))).take m by rw [H9,Nat.add_sub_cancel_left,Nat.add_assoc])
  have hte2 : (s.extract (a + n + 1) (a + n + 1 + m)).size≤16384:=by
   have:=V0 s (a + n + 1) (a + n + 1 + m) (by omega); omega
  have C2:=hid (iD s (a + n + 1) w2 (Nat.le_trans hs (by decide)) (by unfold maxLen; omega))
  rw [show a + n + 1=a + (n + 1) by omega,← hm] at C2
  rw [show (((a + (n + 1) : Nat)) : Int)=(a : Int) + n + 1 by omega] at C2
  clear hm
  go_wp2_with fail
  (with_reducible refine Calls.mono C2.out ?_)
  rintro e w3 ⟨rfl,rfl⟩
  obtain ⟨c0,c1,c2,c3,f0,f1,f2,f3⟩:=Z2.out.cells
  by_cases h1 : 24<(n : Int)
  ·have R:=hid (NN.out.trans (if_pos (.inl (by omega))))
   go_wp2_with fail
   exact bodyPost_ret (v:=.tuple #[.agg #[.int .i64 0,.string ⟨#[]⟩,.int .i64 0,.int .i64 0],.int .i64 0,.int .i64 73]) (by simp [results,Tryz.results131,go_sem,c0,c1,c2,c3]) rfl (e8 R (by decide) (d8 HC _ _ _ _))
  by_cases h2 : (m : Int)<1
  ·have R:=hid (NN.out.trans (if_pos (.inr (.inl (by omega)))))
   go_wp2_with fail
   exact bodyPost_ret (v:=.tuple #[.agg #[.int .i64 0,.string ⟨#[]⟩,.int .i64 0,.int .i64 0],.int .i64 0,.int .i64 73]) (by simp [results,Tryz.results131,go_sem,c0,c1,c2,c3]) rfl (e8 R (by decide) (d8 HC _ _ _ _))
  by_cases h3 : 24<(m : Int)
  ·have R:=hid (NN.out.trans (if_pos (.inr (.inr (.inl (by omega))))))
   go_wp2_with fail
   exact bodyPost_ret (v:=.tuple #[.agg #[.int .i64 0,.string ⟨#[]⟩,.int .i64 0,.int .i64 0],.int .i64 0,.int .i64 73]) (by simp [results,Tryz.results131,go_sem,c0,c1,c2,c3]) rfl (e8 R (by decide) (d8 HC _ _ _ _))
  cases hw : aJ ((s.data.toList.drop a).take n)
  case true =>
   have R:=hid (NN.out.trans (if_pos (.inr (.inr (.inr (.inl hw))))))
   go_wp2_with fail
   exact bodyPost_ret (v:=.tuple #[.agg #[.int .i64 0,.string ⟨#[]⟩,.int .i64 0,.int .i64 0],.int .i64 0,.int .i64 73]) (by simp [results,Tryz.results131,go_sem,c0,c1,c2,c3]) rfl (e8 R (by decide) (d8 HC _ _ _ _))
  have CW2:=hid (iZ (s.extract (a + n + 1) (a + n + 1 + m)) w2)
  rw [T2.out] at CW2
  cases hw2 : aJ ((s.data.toList.drop (a + (n + 1))).take m)
  all_goals
   go_wp2_with fail
   (with_reducible refine Calls.mono CW2.out ?_)
   rintro e w4 ⟨rfl,hb⟩
   rw [hw2]
   replace HC:=hid (HC.out.trans (hb.mono HC.out.size))
   replace Z2:=hid (Z2.out.below hb)
   clear hb CW2 c0 c1 c2 c3 f0 f1 f2 f3
   obtain ⟨c0,c1,c2,c3,f0,f1,f2,f3⟩:=Z2.out.cells
  ·have R:=hid (NN.out.trans (if_neg (by rw [hw,hw2]; simp; omega)))
   go_wp2_with fail
   exact bodyPost_ret (v:=.tuple #[.agg #[.int .i64 3,.string (s.extract a (a + n) ++ ⟨#[46]⟩ ++ s.extract (a + n + 1) (a + n + 1 + m)),.int .i64 0,.int .i64 a],.int .i64 ((n : Int) + 1 + m),.int .i64 0]) (by simp [results,Tryz.results131,go_sem,c0,c1,c2,c3]) rfl (t7 R (d8 HC _ _ _ _) rfl (by simp only [ByteArray.data_append,Array.toList_append,T.out,T2.out]; simp) rfl rfl (by omega))
  ·have R:=hid (NN.out.trans (if_pos (.inr (.inr (.inr (.inr hw2))))))
   go_wp2_with fail
   exact bodyPost_ret (v:=.tuple #[.agg #[.int .i64 0,.string ⟨#[]⟩,.int .i64 0,.int .i64 0],.int .i64 0,.int .i64 73]) (by simp [results,Tryz.results131,go_sem,c0,c1,c2,c3]) rfl (e8 R (by decide) (d8 HC _ _ _ _))
 ·have hd' : ((s[a + n].toNat : Int) == 46)=false:=beq_eq_false_iff_ne.2 hd
  have NN:=hid (N.out.trans (if_neg (by rw [p6 hlt]; exact fun e => hd (by rw [e]; rfl))))
  clear hd
  clear N
  obtain ⟨c0,c1,c2,c3,f0,f1,f2,f3⟩:=Z2.out.cells
  by_cases h24 : 24<(n : Int)
  ·have R:=hid (NN.out.trans (if_pos (by omega)))
   go_wp2_with fail
   exact bodyPost_ret (v:=.tuple #[.agg #[.int .i64 0,.string ⟨#[]⟩,.int .i64 0,.int .i64 0],.int .i64 0,.int .i64 73]) (by simp [results,Tryz.results131,go_sem,c0,c1,c2,c3]) rfl (e8 R (by decide) (d8 HC _ _ _ _))
  ·have R:=hid (NN.out.trans (if_neg (by omega)))
   cases hw : aJ ((s.data.toList.drop a).take n)
   ·rw [hw] at R
    go_wp2_with fail
    exact bodyPost_ret (v:=.tuple #[.agg #[.int .i64 1,.string (s.extract a (a + n)),.int .i64 0,.int .i64 a],.int .i64 n,.int .i64 0]) (by simp [results,Tryz.results131,go_sem,c0,c1,c2,c3]) rfl (t7 R (d8 HC _ _ _ _) rfl T rfl rfl (by omega))
   ·rw [hw] at R
    go_wp2_with fail
    exact bodyPost_ret (v:=.tuple #[.agg #[.int .i64 2,.string (s.extract a (a + n)),.int .i64 0,.int .i64 a],.int .i64 n,.int .i64 0]) (by simp [results,Tryz.results131,go_sem,c0,c1,c2,c3]) rfl (t7 R (d8 HC _ _ _ _) rfl T rfl rfl (by omega))
 ·have NN:=hid (N.out.trans (if_neg (by rw [V3 (by omega)]; decide)))
  clear N
  obtain ⟨c0,c1,c2,c3,f0,f1,f2,f3⟩:=Z2.out.cells
  by_cases h24 : 24<(n : Int)
  ·have R:=hid (NN.out.trans (if_pos (by omega)))
   go_wp2_with fail
   exact bodyPost_ret (v:=.tuple #[.agg #[.int .i64 0,.string ⟨#[]⟩,.int .i64 0,.int .i64 0],.int .i64 0,.int .i64 73]) (by simp [results,Tryz.results131,go_sem,c0,c1,c2,c3]) rfl (e8 R (by decide) (d8 HC _ _ _ _))
  ·have R:=hid (NN.out.trans (if_neg (by omega)))
   cases hw : aJ ((s.data.toList.drop a).take n)
   ·rw [hw] at R
    go_wp2_with fail
    exact bodyPost_ret (v:=.tuple #[.agg #[.int .i64 1,.string (s.extract a (a + n)),.int .i64 0,.int .i64 a],.int .i64 n,.int .i64 0]) (by simp [results,Tryz.results131,go_sem,c0,c1,c2,c3]) rfl (t7 R (d8 HC _ _ _ _) rfl T rfl rfl (by omega))
   ·rw [hw] at R
    go_wp2_with fail
    exact bodyPost_ret (v:=.tuple #[.agg #[.int .i64 2,.string (s.extract a (a + n)),.int .i64 0,.int .i64 a],.int .i64 n,.int .i64 0]) (by simp [results,Tryz.results131,go_sem,c0,c1,c2,c3]) rfl (t7 R (d8 HC _ _ _ _) rfl T rfl rfl (by omega))
end
section
open Lib (hid)
open Go.RowKit
def grI (n : Int) : Bool:=decide (65≤n) && decide (n≤90)
theorem j5 (n : Int) (w : World) : Calls Tryz.prog 135 #[.int .u8 n] w fun e w' => e=.returned (.bool (grI n))∧w=w':=by
 go_enter Tryz.func135,Tryz.ntmps135
 go_wp2
 all_goals go_ret
 all_goals exact ⟨bN (by unfold grI; rw [Bool.eq_iff_iff]; simp; omega),rfl⟩
theorem sZ (c : UInt8) (n : Nat) (hn : n<256) : ((c.toNat : Int) == n)=(c == UInt8.ofNat n):=by
 rw [Bool.eq_iff_iff,beq_iff_eq,beq_iff_eq,qE hn]
theorem cL (c : UInt8) : X7 c=!(smI c.toNat || grI c.toNat || (c.toNat : Int) == 95 || (c.toNat : Int) == 46):=by
 have h1:=sZ c 95 (by decide)
 have h2:=sZ c 46 (by decide)
 unfold X7
 rw [show ((c.toNat : Int) == 95)=(c == 95) from h1,show ((c.toNat : Int) == 46)=(c == 46) from h2]
 rfl
theorem X6 (l : List UInt8) : (∃ v,nG l=some v∧nF l=v∧nD l=true)∨(nG l=none∧nF l=0∧nD l=false):=by
 unfold nF nD
 cases h : nG l with
 | none => exact .inr ⟨rfl,rfl,rfl⟩
 | some v => exact .inl ⟨v,rfl,rfl,rfl⟩
def pP (b : Nat) (k v p : Int) (w : World) : Prop:=w.heap[b]?=some (.cells #[.int .i64 k,.string ⟨#[]⟩,.int .i64 v,.int .i64 p] 108 (0,0))
theorem pP.below {b : Nat} {k v p : Int} {w w' : World} (h : pP b k v p w) (hb : Below w.heap.size w w') : pP b k v p w':=(hb.block b (Array.getElem?_eq_some_iff.1 h).1).trans h
theorem pP.cells {b : Nat} {k v p : Int} {w : World} (h : pP b k v p w) : w.cell? ⟨b,0,none⟩=some (.int .i64 k)∧w.cell? ⟨b,1,none⟩=some (.string ⟨#[]⟩)∧w.cell? ⟨b,2,none⟩=some (.int .i64 v)∧w.cell? ⟨b,3,none⟩=some (.int .i64 p) ∧
 w.frozen? ⟨b,0,none⟩=false∧w.frozen? ⟨b,1,none⟩=false∧w.frozen? ⟨b,2,none⟩=false∧w.frozen? ⟨b,3,none⟩=false:=by
 have h' : w.heap[b]?=some (.cells #[.int .i64 k,.string ⟨#[]⟩,.int .i64 v,.int .i64 p] 108 (0,0)):=h
 refine ⟨?_,?_,?_,?_,?_,?_,?_,?_⟩ <;> simp [World.cell?,World.frozen?,h']
theorem pP.make (w : World) (p : Int) : pP w.heap.size 0 0 p (w.alloc (.cells #[.int .i64 0,.string ⟨#[]⟩,.int .i64 0,.int .i64 p] 108)):=by
 show (w.heap.push _)[w.heap.size]?=_; simp
theorem rG {s : ByteArray} {a k : Nat} (HL : (s.data.toList.drop a).length=s.size - a) (h : ∀ j (hj : a + j<s.size),j<k→dgC s[a + j]=true) (hk : a + k≤s.size) (h' : ∀ (hk : a + k<s.size),dgC s[a + k]=false) : bK (s.data.toList.drop a)=k :=
 pW (by rw [HL]; omega) (fun j hj hjk => by rw [List.getElem_drop]; exact h j (by rw [HL] at hj; omega) hjk) (fun hj => by rw [List.getElem_drop]; exact h' (by rw [HL] at hj; omega))
theorem jZ {d : List UInt8} {k : Nat} (h : bK d=k) : ((d.drop k).headD 0≠46∨¬ dgC ((d.drop (k + 1)).headD 0)=true)→cW d=k:=by
 intro g
 unfold cW
 rw [h,if_neg (fun e => g.elim (fun g => g e.1) (fun g => g e.2))]
theorem sL {s : ByteArray} {a k m : Nat} (HL : (s.data.toList.drop a).length=s.size - a) (h : bK (s.data.toList.drop a)=k) (h46 : ((s.data.toList.drop a).drop k).headD 0=46) (hkm : k + 1<m) (hd : ∀ j (hj : a + j<s.size),k + 1≤j→j<m→dgC s[a + j]=true) (hm : a + m≤s.size)
 (h' : ∀ (hk : a + m<s.size),dgC s[a + m]=false) : cW (s.data.toList.drop a)=m:=by
 have hl : ((s.data.toList.drop a).drop (k + 1)).length=s.size - a - (k + 1):=by rw [List.length_drop,HL]
 have e : bK ((s.data.toList.drop a).drop (k + 1))=m - (k + 1) :=
  pW (by rw [hl]; omega) (fun j hj hjk => by
   rw [List.getElem_drop,List.getElem_drop]
   exact hd (k + 1 + j) (by rw [hl] at hj; omega) (by omega) (by omega)) (fun hj => by
   rw [List.getElem_drop,List.getElem_drop]
   have:=h' (by rw [hl] at hj; omega)
   simp only [show k + 1 + (m - (k + 1))=m by omega]
   exact this)
 have e1 : dgC (((s.data.toList.drop a).drop (k + 1)).headD 0)=true:=by
  rw [List.drop_drop,p6 (show a + (k + 1)<s.size by omega)]
  exact hd (k + 1) (by omega) (Nat.le_refl _) hkm
 unfold cW
 rw [h,if_pos ⟨h46,e1⟩,e]
 omega
theorem tW (s : ByteArray) (a : Nat) (w : World) (hs : s.size≤16384) (ha : a<s.size) (hd : dgC s[a]=true) :
 Calls Tryz.prog 133 #[.string s,.int .i64 a] w (a0y (aA (s.data.toList.drop a) a) w):=by
 have HD:=hid hd
 have HL:=hid (d7 s)
 have HDL:=hid (show (s.data.toList.drop a).length=s.size - a by rw [List.length_drop,d7])
 clear hd
 obtain ⟨W,hW⟩ : ∃ W,W=(w.alloc (.cells #[.int .i64 0,.string ⟨#[]⟩,.int .i64 0,.int .i64 0] 108)).alloc (.cells #[.int .i64 0,.string ⟨#[]⟩,.int .i64 0,.int .i64 a] 108):=⟨_,rfl⟩
 have HB:=hid (show Below w.heap.size w W from hW ▸ (a7 _ _).trans ((a7 _ _).mono (by simp)))
 have Z0:=hid (show bI w.heap.size W from hW ▸ (bI.make w).below (a7 _ _))
 have T0:=hid (show pP (w.heap.size + 1) 0 0 a W from hW ▸ (World.size_alloc w _ ▸ pP.make (w.alloc (.cells #[.int .i64 0,.string ⟨#[]⟩,.int .i64 0,.int .i64 0] 108)) a))
 go_enter Tryz.func133,Tryz.ntmps133
 go_wp2_with fail
 rw [← hW]
 clear hW
 (with_reducible refine Calls.mono (sR s a W hs (Nat.le_of_lt ha)) ?_)
 rintro e w1 ⟨rfl,rfl⟩
 cases hda : aF (s.data.toList.drop a)
 ·have NN:=hid (show aA (s.data.toList.drop a) a=match nG ((s.data.toList.drop a).take (cW (s.data.toList.drop a))) with
   | none => .error 72
   | some v => if X7 (((s.data.toList.drop a).drop (cW (s.data.toList.drop a))).headD 0)=true then .ok (⟨6,[],v,a⟩,cW (s.data.toList.drop a)) else .error 72 by unfold aA; rw [if_neg (by rw [hda]; decide)]; rfl)
  have HZ0:=Z0
  have HT0:=T0
  have HC0:=HB
  clear hda Z0 T0 HB
  go_wp2_with fail
  go_loop [8] (fun n => ∃ k : Nat,1≤k∧a + k≤s.size∧n=.int .i64 k∧Hid (∀ j (hj : a + j<s.size),j<k→dgC s[a + j]=true)) (fun n => s.size - (intOf n).toNat)
  case atStart => exact ⟨1,by omega,by omega,rfl,fun j hj h => by obtain rfl : j=0:=(by omega); exact HD⟩
  case round =>
   obtain ⟨k,hk1,hk,rfl,HAll⟩:=hrel
   by_cases hlt : a + k<s.size
   case neg =>
    have HN:=hid (show cW (s.data.toList.drop a)=k by
     rw [jZ (rG HDL HAll hk (fun h => absurd h hlt))]
     exact .inl (by rw [List.drop_drop,V3 (by omega)]; decide))
    clear HAll
    have T:=hid (show (s.extract a (a + (k))).data.toList=(s.data.toList.drop a).take (k) by rw [H9,Nat.add_sub_cancel_left])
    have hte:=V0 s a (a + (k)) (by omega)
    have hx0 : 0<(s.extract a (a + (k))).size:=by omega
    have hxd : dgC (s.extract a (a + (k)))[0]=true:=by
     have q:=U3 hx0
     rw [T.out,J5 ha,List.take_cons (by omega)] at q
     rw [← q]; exact HD
    have CP:=hid (U2 (s.extract a (a + (k))) W (by unfold maxLen; omega) hx0 hxd)
    rw [T.out] at CP
    have NV:=hid (X6 ((s.data.toList.drop a).take (k)))
    clear hte hx0 hxd
    go_wp2_with fail
    (with_reducible refine Calls.mono CP.out ?_)
    rintro e w3 ⟨rfl,rfl⟩
    (try clear e46)
    rcases NV.out with ⟨v,q1,q2,q3⟩ | ⟨q1,q2,q3⟩
    ·rw [q2,q3]
     have ROK:=hid (show aA (s.data.toList.drop a) a=if X7 ((s.data.toList.drop (a + (k))).headD 0)=true then .ok (⟨6,[],v,a⟩,k) else .error 72 by rw [NN.out,HN.out,q1]; simp only [List.drop_drop])
     clear q1 q2 q3
     obtain ⟨c0,c1,c2,c3,f0,f1,f2,f3⟩:=HZ0.out.cells
     obtain ⟨t0,t1,t2,t3,g0,g1,g2,g3⟩:=HT0.out.cells
     have HC:=hid ((HC0.out.setCell (p:=⟨w.heap.size + 1,0,none⟩) (Nat.le_succ _) (.int .i64 6)).setCell (p:=⟨w.heap.size + 1,2,none⟩) (Nat.le_succ _) (.int .i64 v))
     ·rw [V3 (by omega)] at ROK
      have R:=hid (ROK.out.trans (if_pos (by decide)))
      go_wp2_with fail
      exact bodyPost_ret (v:=.tuple #[.agg #[.int .i64 6,.string ⟨#[]⟩,.int .i64 v,.int .i64 a],.int .i64 ((k : Nat) : Int),.int .i64 0]) (by simp [results,Tryz.results133,go_sem,c0,c1,c2,c3]) rfl (t7 R (d8 HC _ _ _ _) rfl rfl rfl rfl (by omega))
    ·rw [q2,q3]
     have R:=hid (show aA (s.data.toList.drop a) a=.error 72 by rw [NN.out,HN.out,q1])
     obtain ⟨c0,c1,c2,c3,f0,f1,f2,f3⟩:=HZ0.out.cells
     obtain ⟨t0,t1,t2,t3,g0,g1,g2,g3⟩:=HT0.out.cells
     clear q1 q2 q3
     go_wp2_with fail
     exact bodyPost_ret (v:=.tuple #[.agg #[.int .i64 0,.string ⟨#[]⟩,.int .i64 0,.int .i64 a],.int .i64 0,.int .i64 72]) (by simp [results,Tryz.results133,go_sem,c0,c1,c2,c3]) rfl (e8 R (by decide) (d8 HC0 _ _ _ _))
   cases hi0 : dgI s[a + k].toNat
   case true =>
    have HK:=hid (show dgC s[a + k]=true by rw [bM]; exact hi0)
    go_wp2_with (first | (go_at_call 132; refine (m6 _ _).mono ?_; rintro e w' ⟨rfl,rfl⟩; (first | rw [hi0] | rw [hi1])))
    go_round
    case rel =>
     refine ⟨k + 1,by omega,by omega,by go_num,fun j hj h => ?_⟩
     by_cases e : j=k
     ·subst e; exact HK
     ·exact HAll.out j hj (by omega)
    case measure => simp [intOf]; omega
   have HR:=hid (rG HDL HAll hk (fun h => by rw [bM]; exact hi0))
   have hcase : (a + k + 1<s.size∧(s[a + k].toNat : Int)=46)∨¬ a + k + 1<s.size∨¬ (s[a + k].toNat : Int)=46:=by omega
   rcases hcase with ⟨hl1,h46⟩ | hl1 | h46
   case inr.inl =>
    have HN:=hid (show cW (s.data.toList.drop a)=k by
     rw [jZ HR.out]
     exact .inr (by rw [List.drop_drop,V3 (by omega)]; decide))
    clear HAll
    have T:=hid (show (s.extract a (a + (k))).data.toList=(s.data.toList.drop a).take (k) by rw [H9,Nat.add_sub_cancel_left])
    have hte:=V0 s a (a + (k)) (by omega)
    have hx0 : 0<(s.extract a (a + (k))).size:=by omega
    have hxd : dgC (s.extract a (a + (k)))[0]=true:=by
     have q:=U3 hx0
     rw [T.out,J5 ha,List.take_cons (by omega)] at q
     rw [← q]; exact HD
    have CP:=hid (U2 (s.extract a (a + (k))) W (by unfold maxLen; omega) hx0 hxd)
    rw [T.out] at CP
    have NV:=hid (X6 ((s.data.toList.drop a).take (k)))
    clear hte hx0 hxd
    go_wp2_with (first | (go_at_call 132; refine (m6 _ _).mono ?_; rintro e w' ⟨rfl,rfl⟩; (first | rw [hi0] | rw [hi1])))
    (with_reducible refine Calls.mono CP.out ?_)
    rintro e w3 ⟨rfl,rfl⟩
    (try clear e46)
    rcases NV.out with ⟨v,q1,q2,q3⟩ | ⟨q1,q2,q3⟩
    ·rw [q2,q3]
     have ROK:=hid (show aA (s.data.toList.drop a) a=if X7 ((s.data.toList.drop (a + (k))).headD 0)=true then .ok (⟨6,[],v,a⟩,k) else .error 72 by rw [NN.out,HN.out,q1]; simp only [List.drop_drop])
     clear q1 q2 q3
     obtain ⟨c0,c1,c2,c3,f0,f1,f2,f3⟩:=HZ0.out.cells
     obtain ⟨t0,t1,t2,t3,g0,g1,g2,g3⟩:=HT0.out.cells
     have HC:=hid ((HC0.out.setCell (p:=⟨w.heap.size + 1,0,none⟩) (Nat.le_succ _) (.int .i64 6)).setCell (p:=⟨w.heap.size + 1,2,none⟩) (Nat.le_succ _) (.int .i64 v))
     have hlt : a + (k)<s.size:=by omega
     ·rw [p6 hlt] at ROK
      have NE:=hid (cL (s[a + (k)]'hlt))
      cases h1 : smI (s[a + (k)]'hlt).toNat
      case true =>
       have R:=hid (ROK.out.trans (if_neg (by rw [NE.out,h1]; simp)))
       go_wp2_with (first | (go_at_call 130; refine (d5 _ _).mono ?_; rintro e w' ⟨rfl,rfl⟩; rw [h1]))
       exact bodyPost_ret (v:=.tuple #[.agg #[.int .i64 6,.string ⟨#[]⟩,.int .i64 v,.int .i64 a],.int .i64 0,.int .i64 72]) (by simp [results,Tryz.results133,go_sem,c0,c1,c2,c3]) rfl (e8 R (by decide) (d8 HC _ _ _ _))
      cases h2 : grI (s[a + (k)]'hlt).toNat
      case true =>
       have R:=hid (ROK.out.trans (if_neg (by rw [NE.out,h1,h2]; simp)))
       go_wp2_with (first | (go_at_call 130; refine (d5 _ _).mono ?_; rintro e w' ⟨rfl,rfl⟩; rw [h1]) | (go_at_call 135; refine (j5 _ _).mono ?_; rintro e w' ⟨rfl,rfl⟩; rw [h2]))
       exact bodyPost_ret (v:=.tuple #[.agg #[.int .i64 6,.string ⟨#[]⟩,.int .i64 v,.int .i64 a],.int .i64 0,.int .i64 72]) (by simp [results,Tryz.results133,go_sem,c0,c1,c2,c3]) rfl (e8 R (by decide) (d8 HC _ _ _ _))
      cases h3 : ((s[a + (k)]'hlt).toNat : Int) == 95
      case true =>
       have R:=hid (ROK.out.trans (if_neg (by rw [NE.out,h1,h2,h3]; simp)))
       go_wp2_with (first | (go_at_call 130; refine (d5 _ _).mono ?_; rintro e w' ⟨rfl,rfl⟩; rw [h1]) | (go_at_call 135; refine (j5 _ _).mono ?_; rintro e w' ⟨rfl,rfl⟩; rw [h2]))
       exact bodyPost_ret (v:=.tuple #[.agg #[.int .i64 6,.string ⟨#[]⟩,.int .i64 v,.int .i64 a],.int .i64 0,.int .i64 72]) (by simp [results,Tryz.results133,go_sem,c0,c1,c2,c3]) rfl (e8 R (by decide) (d8 HC _ _ _ _))
      cases h4 : ((s[a + (k)]'hlt).toNat : Int) == 46
      case true =>
       have R:=hid (ROK.out.trans (if_neg (by rw [NE.out,h1,h2,h3,h4]; simp)))
       go_wp2_with (first | (go_at_call 130; refine (d5 _ _).mono ?_; rintro e w' ⟨rfl,rfl⟩; rw [h1]) | (go_at_call 135; refine (j5 _ _).mono ?_; rintro e w' ⟨rfl,rfl⟩; rw [h2]))
       exact bodyPost_ret (v:=.tuple #[.agg #[.int .i64 6,.string ⟨#[]⟩,.int .i64 v,.int .i64 a],.int .i64 0,.int .i64 72]) (by simp [results,Tryz.results133,go_sem,c0,c1,c2,c3]) rfl (e8 R (by decide) (d8 HC _ _ _ _))
      have R:=hid (ROK.out.trans (if_pos (by rw [NE.out,h1,h2,h3,h4]; rfl)))
      go_wp2_with (first | (go_at_call 130; refine (d5 _ _).mono ?_; rintro e w' ⟨rfl,rfl⟩; rw [h1]) | (go_at_call 135; refine (j5 _ _).mono ?_; rintro e w' ⟨rfl,rfl⟩; rw [h2]))
      exact bodyPost_ret (v:=.tuple #[.agg #[.int .i64 6,.string ⟨#[]⟩,.int .i64 v,.int .i64 a],.int .i64 ((k : Nat) : Int),.int .i64 0]) (by simp [results,Tryz.results133,go_sem,c0,c1,c2,c3]) rfl (t7 R (d8 HC _ _ _ _) rfl rfl rfl rfl (by omega))
    ·rw [q2,q3]
     have R:=hid (show aA (s.data.toList.drop a) a=.error 72 by rw [NN.out,HN.out,q1])
     obtain ⟨c0,c1,c2,c3,f0,f1,f2,f3⟩:=HZ0.out.cells
     obtain ⟨t0,t1,t2,t3,g0,g1,g2,g3⟩:=HT0.out.cells
     clear q1 q2 q3
     go_wp2_with fail
     exact bodyPost_ret (v:=.tuple #[.agg #[.int .i64 0,.string ⟨#[]⟩,.int .i64 0,.int .i64 a],.int .i64 0,.int .i64 72]) (by simp [results,Tryz.results133,go_sem,c0,c1,c2,c3]) rfl (e8 R (by decide) (d8 HC0 _ _ _ _))
   case inr.inr =>
    have e46 : ((s[a + k].toNat : Int) == 46)=false:=beq_eq_false_iff_ne.2 h46
    have HN:=hid (show cW (s.data.toList.drop a)=k by
     rw [jZ HR.out]
     exact .inl (by rw [List.drop_drop,p6 hlt]; exact fun e => h46 (by rw [e]; rfl)))
    clear HAll h46
    by_cases hl1 : a + k + 1<s.size
    all_goals
     have T:=hid (show (s.extract a (a + (k))).data.toList=(s.data.toList.drop a).take (k) by rw [H9,Nat.add_sub_cancel_left])
     have hte:=V0 s a (a + (k)) (by omega)
     have hx0 : 0<(s.extract a (a + (k))).size:=by omega
     have hxd : dgC (s.extract a (a + (k)))[0]=true:=by
      have q:=U3 hx0
      rw [T.out,J5 ha,List.take_cons (by omega)] at q
      rw [← q]; exact HD
     have CP:=hid (U2 (s.extract a (a + (k))) W (by unfold maxLen; omega) hx0 hxd)
     rw [T.out] at CP
     have NV:=hid (X6 ((s.data.toList.drop a).take (k)))
     clear hte hx0 hxd
     go_wp2_with (first | (go_at_call 132; refine (m6 _ _).mono ?_; rintro e w' ⟨rfl,rfl⟩; rw [hi0]))
     (with_reducible refine Calls.mono CP.out ?_)
     rintro e w3 ⟨rfl,rfl⟩
     (try clear e46)
     rcases NV.out with ⟨v,q1,q2,q3⟩ | ⟨q1,q2,q3⟩
     ·rw [q2,q3]
      have ROK:=hid (show aA (s.data.toList.drop a) a=if X7 ((s.data.toList.drop (a + (k))).headD 0)=true then .ok (⟨6,[],v,a⟩,k) else .error 72 by rw [NN.out,HN.out,q1]; simp only [List.drop_drop])
      clear q1 q2 q3
      obtain ⟨c0,c1,c2,c3,f0,f1,f2,f3⟩:=HZ0.out.cells
      obtain ⟨t0,t1,t2,t3,g0,g1,g2,g3⟩:=HT0.out.cells
      have HC:=hid ((HC0.out.setCell (p:=⟨w.heap.size + 1,0,none⟩) (Nat.le_succ _) (.int .i64 6)).setCell (p:=⟨w.heap.size + 1,2,none⟩) (Nat.le_succ _) (.int .i64 v))
      have hlt : a + (k)<s.size:=by omega
      ·rw [p6 hlt] at ROK
       have NE:=hid (cL (s[a + (k)]'hlt))
       cases h1 : smI (s[a + (k)]'hlt).toNat
       case true =>
        have R:=hid (ROK.out.trans (if_neg (by rw [NE.out,h1]; simp)))
        go_wp2_with (first | (go_at_call 130; refine (d5 _ _).mono ?_; rintro e w' ⟨rfl,rfl⟩; rw [h1]))
        exact bodyPost_ret (v:=.tuple #[.agg #[.int .i64 6,.string ⟨#[]⟩,.int .i64 v,.int .i64 a],.int .i64 0,.int .i64 72]) (by simp [results,Tryz.results133,go_sem,c0,c1,c2,c3]) rfl (e8 R (by decide) (d8 HC _ _ _ _))
       cases h2 : grI (s[a + (k)]'hlt).toNat
       case true =>
        have R:=hid (ROK.out.trans (if_neg (by rw [NE.out,h1,h2]; simp)))
        go_wp2_with (first | (go_at_call 130; refine (d5 _ _).mono ?_; rintro e w' ⟨rfl,rfl⟩; rw [h1]) | (go_at_call 135; refine (j5 _ _).mono ?_; rintro e w' ⟨rfl,rfl⟩; rw [h2]))
        exact bodyPost_ret (v:=.tuple #[.agg #[.int .i64 6,.string ⟨#[]⟩,.int .i64 v,.int .i64 a],.int .i64 0,.int .i64 72]) (by simp [results,Tryz.results133,go_sem,c0,c1,c2,c3]) rfl (e8 R (by decide) (d8 HC _ _ _ _))
       cases h3 : ((s[a + (k)]'hlt).toNat : Int) == 95
       case true =>
        have R:=hid (ROK.out.trans (if_neg (by rw [NE.out,h1,h2,h3]; simp)))
        go_wp2_with (first | (go_at_call 130; refine (d5 _ _).mono ?_; rintro e w' ⟨rfl,rfl⟩; rw [h1]) | (go_at_call 135; refine (j5 _ _).mono ?_; rintro e w' ⟨rfl,rfl⟩; rw [h2]))
        exact bodyPost_ret (v:=.tuple #[.agg #[.int .i64 6,.string ⟨#[]⟩,.int .i64 v,.int .i64 a],.int .i64 0,.int .i64 72]) (by simp [results,Tryz.results133,go_sem,c0,c1,c2,c3]) rfl (e8 R (by decide) (d8 HC _ _ _ _))
       cases h4 : ((s[a + (k)]'hlt).toNat : Int) == 46
       case true =>
        have R:=hid (ROK.out.trans (if_neg (by rw [NE.out,h1,h2,h3,h4]; simp)))
        go_wp2_with (first | (go_at_call 130; refine (d5 _ _).mono ?_; rintro e w' ⟨rfl,rfl⟩; rw [h1]) | (go_at_call 135; refine (j5 _ _).mono ?_; rintro e w' ⟨rfl,rfl⟩; rw [h2]))
        exact bodyPost_ret (v:=.tuple #[.agg #[.int .i64 6,.string ⟨#[]⟩,.int .i64 v,.int .i64 a],.int .i64 0,.int .i64 72]) (by simp [results,Tryz.results133,go_sem,c0,c1,c2,c3]) rfl (e8 R (by decide) (d8 HC _ _ _ _))
       have R:=hid (ROK.out.trans (if_pos (by rw [NE.out,h1,h2,h3,h4]; rfl)))
       go_wp2_with (first | (go_at_call 130; refine (d5 _ _).mono ?_; rintro e w' ⟨rfl,rfl⟩; rw [h1]) | (go_at_call 135; refine (j5 _ _).mono ?_; rintro e w' ⟨rfl,rfl⟩; rw [h2]))
       exact bodyPost_ret (v:=.tuple #[.agg #[.int .i64 6,.string ⟨#[]⟩,.int .i64 v,.int .i64 a],.int .i64 ((k : Nat) : Int),.int .i64 0]) (by simp [results,Tryz.results133,go_sem,c0,c1,c2,c3]) rfl (t7 R (d8 HC _ _ _ _) rfl rfl rfl rfl (by omega))
     ·rw [q2,q3]
      have R:=hid (show aA (s.data.toList.drop a) a=.error 72 by rw [NN.out,HN.out,q1])
      obtain ⟨c0,c1,c2,c3,f0,f1,f2,f3⟩:=HZ0.out.cells
      obtain ⟨t0,t1,t2,t3,g0,g1,g2,g3⟩:=HT0.out.cells
      clear q1 q2 q3
      go_wp2_with fail
      exact bodyPost_ret (v:=.tuple #[.agg #[.int .i64 0,.string ⟨#[]⟩,.int .i64 0,.int .i64 a],.int .i64 0,.int .i64 72]) (by simp [results,Tryz.results133,go_sem,c0,c1,c2,c3]) rfl (e8 R (by decide) (d8 HC0 _ _ _ _))
   have e46 : ((s[a + k].toNat : Int) == 46)=true:=by rw [h46]; rfl
   have H46:=hid (show ((s.data.toList.drop a).drop k).headD 0=46 by rw [List.drop_drop,p6 hlt]; exact UInt8.toNat_inj.1 (Int.ofNat.inj h46))
   clear h46
   cases hi1 : dgI s[a + k + 1].toNat
   case false =>
    have HN:=hid (show cW (s.data.toList.drop a)=k by
     rw [jZ HR.out]
     exact .inr (by rw [List.drop_drop,← Nat.add_assoc,p6 hl1,bM,hi1]; decide))
    clear HAll
    have T:=hid (show (s.extract a (a + (k))).data.toList=(s.data.toList.drop a).take (k) by rw [H9,Nat.add_sub_cancel_left])
    have hte:=V0 s a (a + (k)) (by omega)
    have hx0 : 0<(s.extract a (a + (k))).size:=by omega
    have hxd : dgC (s.extract a (a + (k)))[0]=true:=by
     have q:=U3 hx0
     rw [T.out,J5 ha,List.take_cons (by omega)] at q
     rw [← q]; exact HD
    have CP:=hid (U2 (s.extract a (a + (k))) W (by unfold maxLen; omega) hx0 hxd)
    rw [T.out] at CP
    have NV:=hid (X6 ((s.data.toList.drop a).take (k)))
    clear hte hx0 hxd
    go_wp2_with (first | (go_at_call 132; refine (m6 _ _).mono ?_; rintro e w' ⟨rfl,rfl⟩; (first | rw [hi0] | rw [hi1])))
    (with_reducible refine Calls.mono CP.out ?_)
    rintro e w3 ⟨rfl,rfl⟩
    (try clear e46)
    rcases NV.out with ⟨v,q1,q2,q3⟩ | ⟨q1,q2,q3⟩
    ·rw [q2,q3]
     have ROK:=hid (show aA (s.data.toList.drop a) a=if X7 ((s.data.toList.drop (a + (k))).headD 0)=true then .ok (⟨6,[],v,a⟩,k) else .error 72 by rw [NN.out,HN.out,q1]; simp only [List.drop_drop])
     clear q1 q2 q3
     obtain ⟨c0,c1,c2,c3,f0,f1,f2,f3⟩:=HZ0.out.cells
     obtain ⟨t0,t1,t2,t3,g0,g1,g2,g3⟩:=HT0.out.cells
     have HC:=hid ((HC0.out.setCell (p:=⟨w.heap.size + 1,0,none⟩) (Nat.le_succ _) (.int .i64 6)).setCell (p:=⟨w.heap.size + 1,2,none⟩) (Nat.le_succ _) (.int .i64 v))
     have hlt : a + (k)<s.size:=by omega
     ·rw [p6 hlt] at ROK
      have NE:=hid (cL (s[a + (k)]'hlt))
      cases h1 : smI (s[a + (k)]'hlt).toNat
      case true =>
       have R:=hid (ROK.out.trans (if_neg (by rw [NE.out,h1]; simp)))
       go_wp2_with (first | (go_at_call 130; refine (d5 _ _).mono ?_; rintro e w' ⟨rfl,rfl⟩; rw [h1]))
       exact bodyPost_ret (v:=.tuple #[.agg #[.int .i64 6,.string ⟨#[]⟩,.int .i64 v,.int .i64 a],.int .i64 0,.int .i64 72]) (by simp [results,Tryz.results133,go_sem,c0,c1,c2,c3]) rfl (e8 R (by decide) (d8 HC _ _ _ _))
      cases h2 : grI (s[a + (k)]'hlt).toNat
      case true =>
       have R:=hid (ROK.out.trans (if_neg (by rw [NE.out,h1,h2]; simp)))
       go_wp2_with (first | (go_at_call 130; refine (d5 _ _).mono ?_; rintro e w' ⟨rfl,rfl⟩; rw [h1]) | (go_at_call 135; refine (j5 _ _).mono ?_; rintro e w' ⟨rfl,rfl⟩; rw [h2]))
       exact bodyPost_ret (v:=.tuple #[.agg #[.int .i64 6,.string ⟨#[]⟩,.int .i64 v,.int .i64 a],.int .i64 0,.int .i64 72]) (by simp [results,Tryz.results133,go_sem,c0,c1,c2,c3]) rfl (e8 R (by decide) (d8 HC _ _ _ _))
      cases h3 : ((s[a + (k)]'hlt).toNat : Int) == 95
      case true =>
       have R:=hid (ROK.out.trans (if_neg (by rw [NE.out,h1,h2,h3]; simp)))
       go_wp2_with (first | (go_at_call 130; refine (d5 _ _).mono ?_; rintro e w' ⟨rfl,rfl⟩; rw [h1]) | (go_at_call 135; refine (j5 _ _).mono ?_; rintro e w' ⟨rfl,rfl⟩; rw [h2]))
       exact bodyPost_ret (v:=.tuple #[.agg #[.int .i64 6,.string ⟨#[]⟩,.int .i64 v,.int .i64 a],.int .i64 0,.int .i64 72]) (by simp [results,Tryz.results133,go_sem,c0,c1,c2,c3]) rfl (e8 R (by decide) (d8 HC _ _ _ _))
      cases h4 : ((s[a + (k)]'hlt).toNat : Int) == 46
      case true =>
       have R:=hid (ROK.out.trans (if_neg (by rw [NE.out,h1,h2,h3,h4]; simp)))
       go_wp2_with (first | (go_at_call 130; refine (d5 _ _).mono ?_; rintro e w' ⟨rfl,rfl⟩; rw [h1]) | (go_at_call 135; refine (j5 _ _).mono ?_; rintro e w' ⟨rfl,rfl⟩; rw [h2]))
       exact bodyPost_ret (v:=.tuple #[.agg #[.int .i64 6,.string ⟨#[]⟩,.int .i64 v,.int .i64 a],.int .i64 0,.int .i64 72]) (by simp [results,Tryz.results133,go_sem,c0,c1,c2,c3]) rfl (e8 R (by decide) (d8 HC _ _ _ _))
      have R:=hid (ROK.out.trans (if_pos (by rw [NE.out,h1,h2,h3,h4]; rfl)))
      go_wp2_with (first | (go_at_call 130; refine (d5 _ _).mono ?_; rintro e w' ⟨rfl,rfl⟩; rw [h1]) | (go_at_call 135; refine (j5 _ _).mono ?_; rintro e w' ⟨rfl,rfl⟩; rw [h2]))
      exact bodyPost_ret (v:=.tuple #[.agg #[.int .i64 6,.string ⟨#[]⟩,.int .i64 v,.int .i64 a],.int .i64 ((k : Nat) : Int),.int .i64 0]) (by simp [results,Tryz.results133,go_sem,c0,c1,c2,c3]) rfl (t7 R (d8 HC _ _ _ _) rfl rfl rfl rfl (by omega))
    ·rw [q2,q3]
     have R:=hid (show aA (s.data.toList.drop a) a=.error 72 by rw [NN.out,HN.out,q1])
     obtain ⟨c0,c1,c2,c3,f0,f1,f2,f3⟩:=HZ0.out.cells
     obtain ⟨t0,t1,t2,t3,g0,g1,g2,g3⟩:=HT0.out.cells
     clear q1 q2 q3
     go_wp2_with fail
     exact bodyPost_ret (v:=.tuple #[.agg #[.int .i64 0,.string ⟨#[]⟩,.int .i64 0,.int .i64 a],.int .i64 0,.int .i64 72]) (by simp [results,Tryz.results133,go_sem,c0,c1,c2,c3]) rfl (e8 R (by decide) (d8 HC0 _ _ _ _))
   have HK1:=hid (show dgC s[a + k + 1]=true by rw [bM]; exact hi1)
   go_wp2_with (first | (go_at_call 132; refine (m6 _ _).mono ?_; rintro e w' ⟨rfl,rfl⟩; (first | rw [hi0] | rw [hi1])))
   clear hi0 hi1 e46
   go_loop [8] (fun n => ∃ m : Nat,k + 2≤m∧a + m≤s.size∧n=.int .i64 m∧Hid (∀ j (hj : a + j<s.size),k + 1≤j→j<m→dgC s[a + j]=true)) (fun n => s.size - (intOf n).toNat)
   case atStart => exact ⟨k + 2,by omega,by omega,by go_num,fun j hj h h' => by obtain rfl : j=k + 1:=(by omega); exact HK1⟩
   case round =>
    obtain ⟨m,hm1,hm,rfl,HAm⟩:=hrel
    by_cases hlm : a + m<s.size
    case neg =>
     have HN:=hid (show cW (s.data.toList.drop a)=m from sL HDL HR H46 (by omega) HAm hm (fun h => absurd h hlm))
     clear HAll HAm
     have T:=hid (show (s.extract a (a + (m))).data.toList=(s.data.toList.drop a).take (m) by rw [H9,Nat.add_sub_cancel_left])
     have hte:=V0 s a (a + (m)) (by omega)
     have hx0 : 0<(s.extract a (a + (m))).size:=by omega
     have hxd : dgC (s.extract a (a + (m)))[0]=true:=by
      have q:=U3 hx0
      rw [T.out,J5 ha,List.take_cons (by omega)] at q
      rw [← q]; exact HD
     have CP:=hid (U2 (s.extract a (a + (m))) W (by unfold maxLen; omega) hx0 hxd)
     rw [T.out] at CP
     have NV:=hid (X6 ((s.data.toList.drop a).take (m)))
     clear hte hx0 hxd
     go_wp2_with fail
     (with_reducible refine Calls.mono CP.out ?_)
     rintro e w3 ⟨rfl,rfl⟩
     (try clear e46)
     rcases NV.out with ⟨v,q1,q2,q3⟩ | ⟨q1,q2,q3⟩
     ·rw [q2,q3]
      have ROK:=hid (show aA (s.data.toList.drop a) a=if X7 ((s.data.toList.drop (a + (m))).headD 0)=true then .ok (⟨6,[],v,a⟩,m) else .error 72 by rw [NN.out,HN.out,q1]; simp only [List.drop_drop])
      clear q1 q2 q3
      obtain ⟨c0,c1,c2,c3,f0,f1,f2,f3⟩:=HZ0.out.cells
      obtain ⟨t0,t1,t2,t3,g0,g1,g2,g3⟩:=HT0.out.cells
      have HC:=hid ((HC0.out.setCell (p:=⟨w.heap.size + 1,0,none⟩) (Nat.le_succ _) (.int .i64 6)).setCell (p:=⟨w.heap.size + 1,2,none⟩) (Nat.le_succ _) (.int .i64 v))
      ·rw [V3 (by omega)] at ROK
       have R:=hid (ROK.out.trans (if_pos (by decide)))
       go_wp2_with fail
       exact bodyPost_ret (v:=.tuple #[.agg #[.int .i64 6,.string ⟨#[]⟩,.int .i64 v,.int .i64 a],.int .i64 ((m : Nat) : Int),.int .i64 0]) (by simp [results,Tryz.results133,go_sem,c0,c1,c2,c3]) rfl (t7 R (d8 HC _ _ _ _) rfl rfl rfl rfl (by omega))
     ·rw [q2,q3]
      have R:=hid (show aA (s.data.toList.drop a) a=.error 72 by rw [NN.out,HN.out,q1])
      obtain ⟨c0,c1,c2,c3,f0,f1,f2,f3⟩:=HZ0.out.cells
      obtain ⟨t0,t1,t2,t3,g0,g1,g2,g3⟩:=HT0.out.cells
      clear q1 q2 q3
      go_wp2_with fail
      exact bodyPost_ret (v:=.tuple #[.agg #[.int .i64 0,.string ⟨#[]⟩,.int .i64 0,.int .i64 a],.int .i64 0,.int .i64 72]) (by simp [results,Tryz.results133,go_sem,c0,c1,c2,c3]) rfl (e8 R (by decide) (d8 HC0 _ _ _ _))
    cases hi0 : dgI s[a + m].toNat
    case true =>
     have HK:=hid (show dgC s[a + m]=true by rw [bM]; exact hi0)
     go_wp2_with (first | (go_at_call 132; refine (m6 _ _).mono ?_; rintro e w' ⟨rfl,rfl⟩; rw [hi0]))
     go_round
     case rel =>
      refine ⟨m + 1,by omega,by omega,by go_num,fun j hj h h' => ?_⟩
      by_cases e : j=m
      ·subst e; exact HK
      ·exact HAm.out j hj h (by omega)
     case measure => simp [intOf]; omega
    have HN:=hid (show cW (s.data.toList.drop a)=m from sL HDL HR H46 (by omega) HAm hm (fun h => by rw [bM]; exact hi0))
    clear HAll HAm
    have T:=hid (show (s.extract a (a + (m))).data.toList=(s.data.toList.drop a).take (m) by rw [H9,Nat.add_sub_cancel_left])
    have hte:=V0 s a (a + (m)) (by omega)
    have hx0 : 0<(s.extract a (a + (m))).size:=by omega
    have hxd : dgC (s.extract a (a + (m)))[0]=true:=by
     have q:=U3 hx0
     rw [T.out,J5 ha,List.take_cons (by omega)] at q
     rw [← q]; exact HD
    have CP:=hid (U2 (s.extract a (a + (m))) W (by unfold maxLen; omega) hx0 hxd)
    rw [T.out] at CP
    have NV:=hid (X6 ((s.data.toList.drop a).take (m)))
    clear hte hx0 hxd
    go_wp2_with (first | (go_at_call 132; refine (m6 _ _).mono ?_; rintro e w' ⟨rfl,rfl⟩; rw [hi0]))
    (with_reducible refine Calls.mono CP.out ?_)
    rintro e w3 ⟨rfl,rfl⟩
    (try clear e46)
    rcases NV.out with ⟨v,q1,q2,q3⟩ | ⟨q1,q2,q3⟩
    ·rw [q2,q3]
     have ROK:=hid (show aA (s.data.toList.drop a) a=if X7 ((s.data.toList.drop (a + (m))).headD 0)=true then .ok (⟨6,[],v,a⟩,m) else .error 72 by rw [NN.out,HN.out,q1]; simp only [List.drop_drop])
     clear q1 q2 q3
     obtain ⟨c0,c1,c2,c3,f0,f1,f2,f3⟩:=HZ0.out.cells
     obtain ⟨t0,t1,t2,t3,g0,g1,g2,g3⟩:=HT0.out.cells
     have HC:=hid ((HC0.out.setCell (p:=⟨w.heap.size + 1,0,none⟩) (Nat.le_succ _) (.int .i64 6)).setCell (p:=⟨w.heap.size + 1,2,none⟩) (Nat.le_succ _) (.int .i64 v))
     have hlt : a + (m)<s.size:=by omega
     ·rw [p6 hlt] at ROK
      have NE:=hid (cL (s[a + (m)]'hlt))
      cases h1 : smI (s[a + (m)]'hlt).toNat
      case true =>
       have R:=hid (ROK.out.trans (if_neg (by rw [NE.out,h1]; simp)))
       go_wp2_with (first | (go_at_call 130; refine (d5 _ _).mono ?_; rintro e w' ⟨rfl,rfl⟩; rw [h1]))
       exact bodyPost_ret (v:=.tuple #[.agg #[.int .i64 6,.string ⟨#[]⟩,.int .i64 v,.int .i64 a],.int .i64 0,.int .i64 72]) (by simp [results,Tryz.results133,go_sem,c0,c1,c2,c3]) rfl (e8 R (by decide) (d8 HC _ _ _ _))
      cases h2 : grI (s[a + (m)]'hlt).toNat
      case true =>
       have R:=hid (ROK.out.trans (if_neg (by rw [NE.out,h1,h2]; simp)))
       go_wp2_with (first | (go_at_call 130; refine (d5 _ _).mono ?_; rintro e w' ⟨rfl,rfl⟩; rw [h1]) | (go_at_call 135; refine (j5 _ _).mono ?_; rintro e w' ⟨rfl,rfl⟩; rw [h2]))
       exact bodyPost_ret (v:=.tuple #[.agg #[.int .i64 6,.string ⟨#[]⟩,.int .i64 v,.int .i64 a],.int .i64 0,.int .i64 72]) (by simp [results,Tryz.results133,go_sem,c0,c1,c2,c3]) rfl (e8 R (by decide) (d8 HC _ _ _ _))
      cases h3 : ((s[a + (m)]'hlt).toNat : Int) == 95
      case true =>
       have R:=hid (ROK.out.trans (if_neg (by rw [NE.out,h1,h2,h3]; simp)))
       go_wp2_with (first | (go_at_call 130; refine (d5 _ _).mono ?_; rintro e w' ⟨rfl,rfl⟩; rw [h1]) | (go_at_call 135; refine (j5 _ _).mono ?_; rintro e w' ⟨rfl,rfl⟩; rw [h2]))
       exact bodyPost_ret (v:=.tuple #[.agg #[.int .i64 6,.string ⟨#[]⟩,.int .i64 v,.int .i64 a],.int .i64 0,.int .i64 72]) (by simp [results,Tryz.results133,go_sem,c0,c1,c2,c3]) rfl (e8 R (by decide) (d8 HC _ _ _ _))
      cases h4 : ((s[a + (m)]'hlt).toNat : Int) == 46
      case true =>
       have R:=hid (ROK.out.trans (if_neg (by rw [NE.out,h1,h2,h3,h4]; simp)))
       go_wp2_with (first | (go_at_call 130; refine (d5 _ _).mono ?_; rintro e w' ⟨rfl,rfl⟩; rw [h1]) | (go_at_call 135; refine (j5 _ _).mono ?_; rintro e w' ⟨rfl,rfl⟩; rw [h2]))
       exact bodyPost_ret (v:=.tuple #[.agg #[.int .i64 6,.string ⟨#[]⟩,.int .i64 v,.int .i64 a],.int .i64 0,.int .i64 72]) (by simp [results,Tryz.results133,go_sem,c0,c1,c2,c3]) rfl (e8 R (by decide) (d8 HC _ _ _ _))
      have R:=hid (ROK.out.trans (if_pos (by rw [NE.out,h1,h2,h3,h4]; rfl)))
      go_wp2_with (first | (go_at_call 130; refine (d5 _ _).mono ?_; rintro e w' ⟨rfl,rfl⟩; rw [h1]) | (go_at_call 135; refine (j5 _ _).mono ?_; rintro e w' ⟨rfl,rfl⟩; rw [h2]))
      exact bodyPost_ret (v:=.tuple #[.agg #[.int .i64 6,.string ⟨#[]⟩,.int .i64 v,.int .i64 a],.int .i64 ((m : Nat) : Int),.int .i64 0]) (by simp [results,Tryz.results133,go_sem,c0,c1,c2,c3]) rfl (t7 R (d8 HC _ _ _ _) rfl rfl rfl rfl (by omega))
    ·rw [q2,q3]
     have R:=hid (show aA (s.data.toList.drop a) a=.error 72 by rw [NN.out,HN.out,q1])
     obtain ⟨c0,c1,c2,c3,f0,f1,f2,f3⟩:=HZ0.out.cells
     obtain ⟨t0,t1,t2,t3,g0,g1,g2,g3⟩:=HT0.out.cells
     clear q1 q2 q3
     go_wp2_with fail
     exact bodyPost_ret (v:=.tuple #[.agg #[.int .i64 0,.string ⟨#[]⟩,.int .i64 0,.int .i64 a],.int .i64 0,.int .i64 72]) (by simp [results,Tryz.results133,go_sem,c0,c1,c2,c3]) rfl (e8 R (by decide) (d8 HC0 _ _ _ _))
 ·have h10 : a + 10≤s.size:=by
   unfold aF at hda
   rw [Bool.and_eq_true,decide_eq_true_eq,HDL.out] at hda
   omega
  have NN:=hid (show aA (s.data.toList.drop a) a=match vS ((s.data.toList.drop a).take 10) with
   | none => .error 72
   | some v => if X7 (((s.data.toList.drop a).drop 10).headD 0)=true then .ok (⟨5,[],v,a⟩,10) else .error 72 by unfold aA; rw [if_pos hda]; rfl)
  have T:=hid (show (s.extract a (a + 10)).data.toList=(s.data.toList.drop a).take 10 by rw [H9,Nat.add_sub_cancel_left])
  have CP:=hid (wV (s.extract a (a + 10)) W)
  have DR:=hid (a1n (s.extract a (a + 10)))
  rw [T.out] at DR
  clear hda
  go_wp2_with fail
  (with_reducible refine Calls.mono CP.out ?_)
  rintro e w3 ⟨rfl,hb⟩
  have HC0:=hid (HB.out.trans (hb.mono HB.out.size))
  have HZ0:=hid (Z0.out.below hb)
  have HT0:=hid (T0.out.below hb)
  clear hb CP
  rcases DR.out with ⟨v,q1,q2,q3⟩ | ⟨q1,q3⟩
  ·rw [q2,q3]
   have ROK:=hid (show aA (s.data.toList.drop a) a=if X7 ((s.data.toList.drop (a + 10)).headD 0)=true then .ok (⟨5,[],v,a⟩,10) else .error 72 by rw [NN.out,q1]; simp only [List.drop_drop])
   clear q1 q2 q3
   obtain ⟨c0,c1,c2,c3,f0,f1,f2,f3⟩:=HZ0.out.cells
   obtain ⟨t0,t1,t2,t3,g0,g1,g2,g3⟩:=HT0.out.cells
   have HC:=hid ((HC0.out.setCell (p:=⟨w.heap.size + 1,0,none⟩) (Nat.le_succ _) (.int .i64 5)).setCell (p:=⟨w.heap.size + 1,2,none⟩) (Nat.le_succ _) (.int .i64 v))
   by_cases hlt : a + 10<s.size
   ·rw [p6 hlt] at ROK
    have NE:=hid (cL (s[a + 10]'hlt))
    cases h1 : smI (s[a + 10]'hlt).toNat
    case true =>
     have R:=hid (ROK.out.trans (if_neg (by rw [NE.out,h1]; simp)))
     go_wp2_with (first | (go_at_call 130; refine (d5 _ _).mono ?_; rintro e w' ⟨rfl,rfl⟩; rw [h1]))
     exact bodyPost_ret (v:=.tuple #[.agg #[.int .i64 5,.string ⟨#[]⟩,.int .i64 v,.int .i64 a],.int .i64 0,.int .i64 72]) (by simp [results,Tryz.results133,go_sem,c0,c1,c2,c3]) rfl (e8 R (by decide) (d8 HC _ _ _ _))
    cases h2 : grI (s[a + 10]'hlt).toNat
    case true =>
     have R:=hid (ROK.out.trans (if_neg (by rw [NE.out,h1,h2]; simp)))
     go_wp2_with (first | (go_at_call 130; refine (d5 _ _).mono ?_; rintro e w' ⟨rfl,rfl⟩; rw [h1]) | (go_at_call 135; refine (j5 _ _).mono ?_; rintro e w' ⟨rfl,rfl⟩; rw [h2]))
     exact bodyPost_ret (v:=.tuple #[.agg #[.int .i64 5,.string ⟨#[]⟩,.int .i64 v,.int .i64 a],.int .i64 0,.int .i64 72]) (by simp [results,Tryz.results133,go_sem,c0,c1,c2,c3]) rfl (e8 R (by decide) (d8 HC _ _ _ _))
    cases h3 : ((s[a + 10]'hlt).toNat : Int) == 95
    case true =>
     have R:=hid (ROK.out.trans (if_neg (by rw [NE.out,h1,h2,h3]; simp)))
     go_wp2_with (first | (go_at_call 130; refine (d5 _ _).mono ?_; rintro e w' ⟨rfl,rfl⟩; rw [h1]) | (go_at_call 135; refine (j5 _ _).mono ?_; rintro e w' ⟨rfl,rfl⟩; rw [h2]))
     exact bodyPost_ret (v:=.tuple #[.agg #[.int .i64 5,.string ⟨#[]⟩,.int .i64 v,.int .i64 a],.int .i64 0,.int .i64 72]) (by simp [results,Tryz.results133,go_sem,c0,c1,c2,c3]) rfl (e8 R (by decide) (d8 HC _ _ _ _))
    cases h4 : ((s[a + 10]'hlt).toNat : Int) == 46
    case true =>
     have R:=hid (ROK.out.trans (if_neg (by rw [NE.out,h1,h2,h3,h4]; simp)))
     go_wp2_with (first | (go_at_call 130; refine (d5 _ _).mono ?_; rintro e w' ⟨rfl,rfl⟩; rw [h1]) | (go_at_call 135; refine (j5 _ _).mono ?_; rintro e w' ⟨rfl,rfl⟩; rw [h2]))
     exact bodyPost_ret (v:=.tuple #[.agg #[.int .i64 5,.string ⟨#[]⟩,.int .i64 v,.int .i64 a],.int .i64 0,.int .i64 72]) (by simp [results,Tryz.results133,go_sem,c0,c1,c2,c3]) rfl (e8 R (by decide) (d8 HC _ _ _ _))
    have R:=hid (ROK.out.trans (if_pos (by rw [NE.out,h1,h2,h3,h4]; rfl)))
    go_wp2_with (first | (go_at_call 130; refine (d5 _ _).mono ?_; rintro e w' ⟨rfl,rfl⟩; rw [h1]) | (go_at_call 135; refine (j5 _ _).mono ?_; rintro e w' ⟨rfl,rfl⟩; rw [h2]))
    exact bodyPost_ret (v:=.tuple #[.agg #[.int .i64 5,.string ⟨#[]⟩,.int .i64 v,.int .i64 a],.int .i64 10,.int .i64 0]) (by simp [results,Tryz.results133,go_sem,c0,c1,c2,c3]) rfl (t7 R (d8 HC _ _ _ _) rfl rfl rfl rfl (by omega))
   ·rw [V3 (by omega)] at ROK
    have R:=hid (ROK.out.trans (if_pos (by decide)))
    go_wp2_with fail
    exact bodyPost_ret (v:=.tuple #[.agg #[.int .i64 5,.string ⟨#[]⟩,.int .i64 v,.int .i64 a],.int .i64 10,.int .i64 0]) (by simp [results,Tryz.results133,go_sem,c0,c1,c2,c3]) rfl (t7 R (d8 HC _ _ _ _) rfl rfl rfl rfl (by omega))
  ·rw [q3]
   have R:=hid (show aA (s.data.toList.drop a) a=.error 72 by rw [NN.out,q1])
   obtain ⟨c0,c1,c2,c3,f0,f1,f2,f3⟩:=HZ0.out.cells
   obtain ⟨t0,t1,t2,t3,g0,g1,g2,g3⟩:=HT0.out.cells
   clear q1 q3
   go_wp2_with fail
   exact bodyPost_ret (v:=.tuple #[.agg #[.int .i64 0,.string ⟨#[]⟩,.int .i64 0,.int .i64 a],.int .i64 0,.int .i64 72]) (by simp [results,Tryz.results133,go_sem,c0,c1,c2,c3]) rfl (e8 R (by decide) (d8 HC0 _ _ _ _))
end
end Go.Proofs.YtppcfebnaieciaaGreatDoor
