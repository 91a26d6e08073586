/-
  Laws that the proof rests on.
-/
import Derived.Test.YtibiccacafjjfaaGreatDoorB30
import Derived.IntWalk
namespace Go.Proofs.YtibiccacafjjfaaGreatDoor
set_option maxRecDepth 100000
set_option maxHeartbeats 16000000
section
open Lib (hid)
open Go.RowKit
theorem a1i (X M : Nat) (s : ByteArray) (a : Nat) (ts : List Tk) (w : World) (h : SC X M s a ts w) (hs : s.size≤16384) (ha : a<s.size) (htl : ts.length≤8192) :
 Calls Tryz.prog 117 #[.pointer (some ⟨X,0,none⟩)] w (a2a X M s a ts (bB (s.data.toList.drop a) a) w):=by
 have hsp:=dM s a
 have C1:=hid (mI X s a a w h.sb hs (by omega))
 have N:=hid (show bB (s.data.toList.drop a) a=(if ((s.data.toList.drop a).drop (m6 (s.data.toList.drop a))).headD 0=46 then
  if 24<m6 (s.data.toList.drop a)∨m6 ((s.data.toList.drop a).drop (m6 (s.data.toList.drop a) + 1))<1∨24<m6 ((s.data.toList.drop a).drop (m6 (s.data.toList.drop a) + 1))∨F7 ((s.data.toList.drop a).take (m6 (s.data.toList.drop a)))=true∨F7 (((s.data.toList.drop a).drop (m6 (s.data.toList.drop a) + 1)).take (m6 ((s.data.toList.drop a).drop (m6 (s.data.toList.drop a) + 1))))=true then .error 73
  else .ok (⟨3,(s.data.toList.drop a).take (m6 (s.data.toList.drop a)) ++ 46 :: ((s.data.toList.drop a).drop (m6 (s.data.toList.drop a) + 1)).take (m6 ((s.data.toList.drop a).drop (m6 (s.data.toList.drop a) + 1))),0,a⟩,m6 (s.data.toList.drop a) + 1 + m6 ((s.data.toList.drop a).drop (m6 (s.data.toList.drop a) + 1)))
  else if 24<m6 (s.data.toList.drop a) then .error 73 else .ok (⟨if F7 ((s.data.toList.drop a).take (m6 (s.data.toList.drop a)))=true then 2 else 1,(s.data.toList.drop a).take (m6 (s.data.toList.drop a)),0,a⟩,m6 (s.data.toList.drop a))) from rfl)
 generalize hn : m6 (s.data.toList.drop a)=n at hsp C1 N
 simp only [List.drop_drop] at N
 have C2:=hid (fun (v : World) (hv : SB X s a v) => F6 X s a (a + n) v hv)
 rw [show ((a + n : Nat) : Int)=(a : Int) + n by omega] at C2
 have HLT:=hid (show (s.data.toList.drop (a + n)).headD 0≠0→a + n<s.size from fun h => by have:=lA h; rwa [d6] at this)
 generalize hc : (s.data.toList.drop (a + n)).headD 0=c at C2 N HLT
 have hsm:=dM s (a + (n + 1))
 have C3:=hid (fun (v : World) (hv : SB X s a v) => mI X s a (a + (n + 1)) v hv hs (by omega))
 rw [show ((a + (n + 1) : Nat) : Int)=(a : Int) + n + 1 by omega] at C3
 generalize hm : m6 (s.data.toList.drop (a + (n + 1)))=m at C3 N hsm
 obtain ⟨A,hA⟩ : ∃ A,A=s.extract a (a + n):=⟨_,rfl⟩
 obtain ⟨B,hB⟩ : ∃ B,B=s.extract (a + n + 1) (a + n + 1 + m):=⟨_,rfl⟩
 have hAl : A.data.toList=(s.data.toList.drop a).take n:=by rw [hA,s7,Nat.add_sub_cancel_left]
 have hBl : B.data.toList=(s.data.toList.drop (a + (n + 1))).take m:=by rw [hB,s7,Nat.add_sub_cancel_left,Nat.add_assoc]
 rw [← hAl,← hBl] at N
 have hAs : A.size≤16384:=by rw [← d6,hAl,List.length_take,List.length_drop,d6]; omega
 have hBs : B.size≤16384:=by rw [← d6,hBl,List.length_take,List.length_drop,d6]; omega
 have HA:=hid hA
 have HB:=hid hB
 have HS:=hid h
 obtain ⟨i0,hi,hz0,hz1,hz2⟩:=info_parts (show (Tryz.prog.info? 79).map (fun i => (i.zero,i.size,i.bytes))=some (some (.agg #[.int .i64 0,.string ⟨#[]⟩,.int .i64 0,.int .i64 0]),4,40) by kernel_rfl)
 have HI0:=hid (show _∧_∧_∧_ from ⟨hi,hz0,hz1,hz2⟩)
 clear hi hz0 hz1 hz2
 clear hn hc hm h hA hB hAl hBl
 obtain ⟨hX0,hX1⟩:=HS.out.sb
 go_enter Tryz.func117,Tryz.ntmps117
 go_wp2_with fail
 (with_reducible refine Calls.mono C1.out ?_)
 rintro e w1 ⟨rfl,hw1⟩
 rw [← hw1]
 clear hw1 C1 w1
 go_upto_region 2 with fail
 go_quiet (fail)
 rw [← HA.out]
 obtain ⟨W1,hW1⟩ : ∃ W,W=w.drewN nq:=⟨_,rfl⟩
 have HS1:=hid (show SC X M s a ts W1 from hW1 ▸ HS.out.below (Go.Proofs.YtibiccacafjjfaaGreatDoor.v6 w nq))
 have BX1:=hid (show Below X w W1 from hW1 ▸ ((Go.Proofs.YtibiccacafjjfaaGreatDoor.v6 w nq).mono (Nat.le_of_lt HS.out.lt.2)))
 rw [← hW1]
 clear hW1 hX0 hX1 HS HA
 obtain ⟨hX0,hX1⟩:=HS1.out.sb
 replace C2:=hid (C2.out W1 HS1.out.sb)
 by_cases h46 : (c.toNat : Int)=46
 case neg =>
  have q1 : ((c.toNat : Int) != 46)=true:=by rw [bne_iff_ne]; exact h46
  replace N:=hid (N.out.trans (if_neg (fun e => h46 (by rw [e]; rfl))))
  obtain ⟨hMX,hXW1⟩:=HS1.out.lt
  obtain ⟨ao,cp,hat1,how1⟩:=HS1.out.ex
  have HOB:=hid (show ∀ d,(Value.slice ao ts.length cp).ownBlock=some d→d<W1.heap.size from fun d hd => (how1.lt d hd).2)
  have HAT1:=hid hat1
  have HOW1:=hid how1
  clear h46 hat1 how1 C3 HB
  go_upto_region 5 with (first | ((with_reducible refine Calls.mono C2.out ?_); rintro e w1 ⟨rfl,hw⟩; rw [← hw]; clear hw w1))
  clear C2
  obtain ⟨W2,hW2⟩ : ∃ V,V=W1.alloc (.cells #[.int .i64 1,.string A,.int .i64 0,.int .i64 a] 79):=⟨_,rfl⟩
  have B2:=hid (show Below W1.heap.size W1 W2 from hW2 ▸ c6 _ _)
  have HS2:=hid (HS1.out.below B2.out)
  have hz2 : W2.heap.size=W1.heap.size + 1:=by rw [hW2]; simp
  have HX2:=hid (show W2.heap[W1.heap.size]?=some (.cells #[.int .i64 1,.string A,.int .i64 0,.int .i64 a] 79 (0,0)) by rw [hW2]; show (W1.heap.push _)[W1.heap.size]?=_; simp)
  rw [← hW2]
  clear hW2 hX0 hX1
  obtain ⟨hX0,hX1⟩:=HS2.out.sb
  obtain ⟨v,hlook,hvw⟩:=HS2.out.keys.look A hAs
  have hX2 : W2.cell? ⟨X,2,none⟩=some (.map (some M)):=by obtain ⟨_,_,g,-⟩:=HS2.out.ex; simp [World.cell?,g]
  have c0 : W2.cell? ⟨W1.heap.size,0,none⟩=some (.int .i64 1):=by simp [World.cell?,HX2.out]
  have f0 : W2.frozen? ⟨W1.heap.size,0,none⟩=false:=by simp [World.frozen?,HX2.out]
  generalize hb : W1.heap.size=tb at hz2 HX2 HOB c0 f0
  cases hw : F7 A.data.toList
  case false =>
   rw [hw] at hvw
   have hv : ¬ 0<v:=by simpa using hvw
   rw [hw] at N
   clear hvw
   go_upto_region 7 with fail
   obtain ⟨W3,hW3⟩ : ∃ V,V=W2:=⟨_,rfl⟩
   have HX3:=hid (show W3.heap[tb]?=some (.cells #[.int .i64 1,.string A,.int .i64 0,.int .i64 a] 79 (0,0)) from hW3 ▸ HX2.out)
   have hz3 : W3.heap.size=tb + 1:=by rw [hW3]; exact hz2
   have B13:=hid (show Below W1.heap.size W1 W3 from hW3 ▸ B2.out)
   rw [← hW3]
   clear hW3 hlook hv c0 f0 hX2 hX0 hX1 HX2
   have hat0 : W3.heap[X]?=some (.cells #[.string s,.int .i64 a,.map (some M),.slice ao ts.length cp,.pointer none] 109 (0,0)):=(B13.out.block X hXW1).trans HAT1.out
   have how0 : W3.ownsRow (X + 1) 79 4 (.slice ao ts.length cp) ts.length (l8 ts):=n7 HOW1.out B13.out
   have hXW : X<W3.heap.size:=by omega
   have HS3:=hid (HS1.out.below B13.out)
   have hMORE : ∀ v : World,(∀ b,b<W3.heap.size→(Value.slice ao ts.length cp).ownBlock≠some b→v.heap[b]?=W3.heap[b]?)→(v.cell? ⟨tb,0,none⟩=some (.int .i64 1)∧v.cell? ⟨tb,1,none⟩=some (.string A)∧v.cell? ⟨tb,2,none⟩=some (.int .i64 0)∧v.cell? ⟨tb,3,none⟩=some (.int .i64 a)):=fun v hv => by
    have h':=(hv tb (by omega) (fun e => by have:=HOB.out tb e; omega)).trans HX3.out
    refine ⟨?_,?_,?_,?_⟩ <;> simp [World.cell?,h']
   have HMORE:=hid hMORE
   have HZ3:=hid hz3
   clear hMORE HS2 HX3 B2 hz2 hz3
   have HAT0:=hid hat0
   have HOW0:=hid how0
   have HKY0:=hid HS3.out.keys
   have HSI:=hid (show (W3.cell? ⟨X,3,none⟩=some (.slice ao ts.length cp)∧W3.cell? ⟨X,1,none⟩=some (.int .i64 a)∧W3.cell? ⟨X,0,none⟩=some (.string s))∧((W3.cell? ⟨tb,0,none⟩=some (.int .i64 1)∧W3.cell? ⟨tb,1,none⟩=some (.string A)∧W3.cell? ⟨tb,2,none⟩=some (.int .i64 0)∧W3.cell? ⟨tb,3,none⟩=some (.int .i64 a))) from ⟨⟨by simp [World.cell?,hat0],by simp [World.cell?,hat0],by simp [World.cell?,hat0]⟩,(HMORE.out W3 (fun _ _ _ => rfl))⟩)
   have HSB:=hid (show ∀ vv : World,(∀ b,b<W3.heap.size→(Value.slice ao ts.length cp).ownBlock≠some b→vv.heap[b]?=W3.heap[b]?)→vv.cell? ⟨X,3,none⟩=some (.slice ao ts.length cp)∧vv.cell? ⟨X,1,none⟩=some (.int .i64 a)∧vv.cell? ⟨X,0,none⟩=some (.string s)∧(vv.cell? ⟨tb,0,none⟩=some (.int .i64 1)∧vv.cell? ⟨tb,1,none⟩=some (.string A)∧vv.cell? ⟨tb,2,none⟩=some (.int .i64 0)∧vv.cell? ⟨tb,3,none⟩=some (.int .i64 a)) from fun vv hv => by
    have hX : ∀ i,vv.cell? ⟨X,i,none⟩=W3.cell? ⟨X,i,none⟩:=fun i => World.cell?_of_block (hv X hXW (fun e => by have:=(how0.lt X e).1; omega))
    exact ⟨(hX 3).trans HSI.out.1.1,(hX 1).trans HSI.out.1.2.1,(hX 0).trans HSI.out.1.2.2,HMORE.out vv hv⟩)
   clear hat0 how0
   refine e8 (S:=(fun cur : World => cur.cell? ⟨X,3,none⟩=some (.slice ao ts.length cp)∧cur.cell? ⟨X,1,none⟩=some (.int .i64 a)∧cur.cell? ⟨X,0,none⟩=some (.string s)∧(cur.cell? ⟨tb,0,none⟩=some (.int .i64 1)∧cur.cell? ⟨tb,1,none⟩=some (.string A)∧cur.cell? ⟨tb,2,none⟩=some (.int .i64 0)∧cur.cell? ⟨tb,3,none⟩=some (.int .i64 a)))) (z:=10) (by kernel_rfl) ?_ (fun hHeld => ?_)
   ·exact HSB.out W3.drew (fun b _ _ => rfl)
   refine b7.t 0 ?_; refine b7.t 1 ?_; refine b7.t 2 ?_; refine b7.t 3 ?_; refine b7.t 4 ?_; refine b7.t 5 ?_
   refine b7.nx 6 fun K hK => ?_
   go_simp
   obtain ⟨W5,hW5⟩ : ∃ V,V=(W3.alloc (.cells #[.int .i64 1,.string A,.int .i64 0,.int .i64 a] 79)).drew:=⟨_,rfl⟩
   have B5:=hid (show Below W3.heap.size W3 W5 from hW5 ▸ A7 (c6 _ _))
   have hz5 : W5.heap.size=W3.heap.size + 1:=by rw [hW5]; show (W3.alloc _).heap.size=_; simp
   have N5:=hid (show ∀ j u,(n6 (⟨1,A.data.toList,0,a⟩ : Tk))[j]?=some u→W5.cell? ((⟨W3.heap.size,0,none⟩ : Addr).add j)=some u from hW5 ▸ x8 W3 _ _ _ _ _)
   have O5:=hid (show W5.ownsRow (X + 1) 79 4 (.slice ao ts.length cp) ts.length (l8 ts) from n7 HOW0.out B5.out)
   rw [← hW5]
   clear hW5
   refine hK.out _ _ ?_ (fun hHeld => ?_)
   ·exact HSB.out W5 (fun b hb _ => B5.out.block b hb)
   clear hK K
   try simp only [Act.put,c9,f8,f7]
   refine b7.nx 7 fun K hK => ?_
   refine step_append_lies _ rfl _ _ 70 rfl (X + 1) 79 i0 (.agg #[.int .i64 0,.string ⟨#[]⟩,.int .i64 0,.int .i64 0]) 4 40 Tryz.underlying70 HI0.out.1 HI0.out.2.1 HI0.out.2.2.1 HI0.out.2.2.2 rfl (by decide) _ _ _ rfl O5.out ⟨W3.heap.size,0,none⟩ 1 1 (n6 (⟨1,A.data.toList,0,a⟩ : Tk)) rfl rfl N5.out (bS _) (by decide) (by unfold maxLen; omega) (by omega) (by omega) _ rfl ?_
   intro gb cap' w6 hown' hgrow' hat' hltg
   have HG6:=hid hgrow'
   have HO6:=hid hown'
   have HX6:=hid (show w6.heap[X]?=some (.cells #[.string s,.int .i64 a,.map (some M),.slice ao ts.length cp,.pointer none] 109 (0,0)) from (hgrow'.block X (by omega) (fun e => by have:=(HOW0.out.lt X e.symm).1; omega)).trans ((B5.out.block X hXW).trans HAT0.out))
   clear hown' hgrow' hat' hltg
   refine hK.out _ _ ?_ (fun hHeld => ?_)
   ·exact HSB.out w6 (fun b hb hne => (HG6.out.block b (by omega) (fun e => hne e.symm)).trans (B5.out.block b hb))
   clear hK K
   try simp only [Act.put,c9,f8,f7]
   refine b7.nx 8 fun K hK => ?_
   go_simp
   refine hK.out _ _ ?_ (fun hHeld => ?_)
   ·exact hHeld
   clear hK K
   try simp only [Act.put,c9,f8,f7]
   refine b7.nx 9 fun K hK => ?_
   go_simp
   refine hK.out _ _ ?_ (fun hHeld => ?_)
   ·exact hHeld
   clear hK K
   try simp only [Act.put,c9,f8,f7]
   have hX3 : w6.cell? ⟨X,3,none⟩=some (.slice ao ts.length cp):=by simp [World.cell?,HX6.out]
   have hf6 : w6.frozen? ⟨X,3,none⟩=false:=by simp [World.frozen?,HX6.out]
   have hX6l : X<w6.heap.size:=(Array.getElem?_eq_some_iff.1 HX6.out).1
   refine b7.la fun K hK => ?_
   go_simp
   refine hK.out _ _ ?_
   clear hK K hHeld
   obtain ⟨W7,hW7⟩ : ∃ V,V=w6.setCell ⟨X,3,none⟩ (.slice (some ⟨gb,0,none⟩) (ts.length + 1) cap'):=⟨_,rfl⟩
   have Z7:=hid (show SC X M s a (ts ++ [(⟨1,A.data.toList,0,a⟩ : Tk)]) W7∧Below X W3 W7 from hW7 ▸ O8 hMX hXW HOW0.out HKY0.out B5.out HX6.out HO6.out HG6.out)
   have HS7:=hid Z7.out.1
   have BX7:=hid Z7.out.2
   rw [← hW7]
   clear hW7 hX3 hf6 hX6l HX6 HO6 HG6 O5 N5 B5 HSB HSI HAT0 HOW0 HKY0 Z7
   have BX:=hid (BX1.out.trans ((B13.out.mono (by omega)).trans BX7.out))
   by_cases h24 : 24<(n : Int)
   ·have R:=hid (N.out.trans (if_pos (by omega)))
    go_wp2_with fail
    go_ret2
    exact o4 R.out (by decide) BX.out HS7.out
   ·have R:=hid (N.out.trans (if_neg (by omega)))
    go_wp2_with fail
    go_ret2
    exact aR R.out BX.out rfl rfl HS7.out
  case true =>
   rw [hw] at hvw
   have hv : 0<v:=by simpa using hvw
   rw [hw] at N
   clear hvw
   go_upto_region 7 with fail
   obtain ⟨W3,hW3⟩ : ∃ V,V=W2.setCell ⟨tb,0,none⟩ (.int .i64 2):=⟨_,rfl⟩
   have B3:=hid (show Below tb W2 W3 from hW3 ▸ ((Below.refl tb W2).setCell (p:=⟨tb,0,none⟩) (Nat.le_refl _) _))
   have HX3:=hid (show W3.heap[tb]?=some (.cells #[.int .i64 2,.string A,.int .i64 0,.int .i64 a] 79 (0,0)) from hW3 ▸ l5 HX2.out 0 _)
   have hz3 : W3.heap.size=tb + 1:=by rw [hW3]; simp [World.setCell,hz2]
   have B13:=hid (show Below W1.heap.size W1 W3 from B2.out.trans (B3.out.mono (by omega)))
   rw [← hW3]
   clear hW3 hlook hv c0 f0 hX2 hX0 hX1 HX2
   have hat0 : W3.heap[X]?=some (.cells #[.string s,.int .i64 a,.map (some M),.slice ao ts.length cp,.pointer none] 109 (0,0)):=(B13.out.block X hXW1).trans HAT1.out
   have how0 : W3.ownsRow (X + 1) 79 4 (.slice ao ts.length cp) ts.length (l8 ts):=n7 HOW1.out B13.out
   have hXW : X<W3.heap.size:=by omega
   have HS3:=hid (HS1.out.below B13.out)
   have hMORE : ∀ v : World,(∀ b,b<W3.heap.size→(Value.slice ao ts.length cp).ownBlock≠some b→v.heap[b]?=W3.heap[b]?)→(v.cell? ⟨tb,0,none⟩=some (.int .i64 2)∧v.cell? ⟨tb,1,none⟩=some (.string A)∧v.cell? ⟨tb,2,none⟩=some (.int .i64 0)∧v.cell? ⟨tb,3,none⟩=some (.int .i64 a)):=fun v hv => by
    have h':=(hv tb (by omega) (fun e => by have:=HOB.out tb e; omega)).trans HX3.out
    refine ⟨?_,?_,?_,?_⟩ <;> simp [World.cell?,h']
   have HMORE:=hid hMORE
   have HZ3:=hid hz3
   clear hMORE HS2 HX3 B2 hz2 hz3 B3
   have HAT0:=hid hat0
   have HOW0:=hid how0
   have HKY0:=hid HS3.out.keys
   have HSI:=hid (show (W3.cell? ⟨X,3,none⟩=some (.slice ao ts.length cp)∧W3.cell? ⟨X,1,none⟩=some (.int .i64 a)∧W3.cell? ⟨X,0,none⟩=some (.string s))∧((W3.cell? ⟨tb,0,none⟩=some (.int .i64 2)∧W3.cell? ⟨tb,1,none⟩=some (.string A)∧W3.cell? ⟨tb,2,none⟩=some (.int .i64 0)∧W3.cell? ⟨tb,3,none⟩=some (.int .i64 a))) from ⟨⟨by simp [World.cell?,hat0],by simp [World.cell?,hat0],by simp [World.cell?,hat0]⟩,(HMORE.out W3 (fun _ _ _ => rfl))⟩)
   have HSB:=hid (show ∀ vv : World,(∀ b,b<W3.heap.size→(Value.slice ao ts.length cp).ownBlock≠some b→vv.heap[b]?=W3.heap[b]?)→vv.cell? ⟨X,3,none⟩=some (.slice ao ts.length cp)∧vv.cell? ⟨X,1,none⟩=some (.int .i64 a)∧vv.cell? ⟨X,0,none⟩=some (.string s)∧(vv.cell? ⟨tb,0,none⟩=some (.int .i64 2)∧vv.cell? ⟨tb,1,none⟩=some (.string A)∧vv.cell? ⟨tb,2,none⟩=some (.int .i64 0)∧vv.cell? ⟨tb,3,none⟩=some (.int .i64 a)) from fun vv hv => by
    have hX : ∀ i,vv.cell? ⟨X,i,none⟩=W3.cell? ⟨X,i,none⟩:=fun i => World.cell?_of_block (hv X hXW (fun e => by have:=(how0.lt X e).1; omega))
    exact ⟨(hX 3).trans HSI.out.1.1,(hX 1).trans HSI.out.1.2.1,(hX 0).trans HSI.out.1.2.2,HMORE.out vv hv⟩)
   clear hat0 how0
   refine e8 (S:=(fun cur : World => cur.cell? ⟨X,3,none⟩=some (.slice ao ts.length cp)∧cur.cell? ⟨X,1,none⟩=some (.int .i64 a)∧cur.cell? ⟨X,0,none⟩=some (.string s)∧(cur.cell? ⟨tb,0,none⟩=some (.int .i64 2)∧cur.cell? ⟨tb,1,none⟩=some (.string A)∧cur.cell? ⟨tb,2,none⟩=some (.int .i64 0)∧cur.cell? ⟨tb,3,none⟩=some (.int .i64 a)))) (z:=10) (by kernel_rfl) ?_ (fun hHeld => ?_)
   ·exact HSB.out W3.drew (fun b _ _ => rfl)
   refine b7.t 0 ?_; refine b7.t 1 ?_; refine b7.t 2 ?_; refine b7.t 3 ?_; refine b7.t 4 ?_; refine b7.t 5 ?_
   refine b7.nx 6 fun K hK => ?_
   go_simp
   obtain ⟨W5,hW5⟩ : ∃ V,V=(W3.alloc (.cells #[.int .i64 2,.string A,.int .i64 0,.int .i64 a] 79)).drew:=⟨_,rfl⟩
   have B5:=hid (show Below W3.heap.size W3 W5 from hW5 ▸ A7 (c6 _ _))
   have hz5 : W5.heap.size=W3.heap.size + 1:=by rw [hW5]; show (W3.alloc _).heap.size=_; simp
   have N5:=hid (show ∀ j u,(n6 (⟨2,A.data.toList,0,a⟩ : Tk))[j]?=some u→W5.cell? ((⟨W3.heap.size,0,none⟩ : Addr).add j)=some u from hW5 ▸ x8 W3 _ _ _ _ _)
   have O5:=hid (show W5.ownsRow (X + 1) 79 4 (.slice ao ts.length cp) ts.length (l8 ts) from n7 HOW0.out B5.out)
   rw [← hW5]
   clear hW5
   refine hK.out _ _ ?_ (fun hHeld => ?_)
   ·exact HSB.out W5 (fun b hb _ => B5.out.block b hb)
   clear hK K
   try simp only [Act.put,c9,f8,f7]
   refine b7.nx 7 fun K hK => ?_
   refine step_append_lies _ rfl _ _ 70 rfl (X + 1) 79 i0 (.agg #[.int .i64 0,.string ⟨#[]⟩,.int .i64 0,.int .i64 0]) 4 40 Tryz.underlying70 HI0.out.1 HI0.out.2.1 HI0.out.2.2.1 HI0.out.2.2.2 rfl (by decide) _ _ _ rfl O5.out ⟨W3.heap.size,0,none⟩ 1 1 (n6 (⟨2,A.data.toList,0,a⟩ : Tk)) rfl rfl N5.out (bS _) (by decide) (by unfold maxLen; omega) (by omega) (by omega) _ rfl ?_
   intro gb cap' w6 hown' hgrow' hat' hltg
   have HG6:=hid hgrow'
   have HO6:=hid hown'
   have HX6:=hid (show w6.heap[X]?=some (.cells #[.string s,.int .i64 a,.map (some M),.slice ao ts.length cp,.pointer none] 109 (0,0)) from (hgrow'.block X (by omega) (fun e => by have:=(HOW0.out.lt X e.symm).1; omega)).trans ((B5.out.block X hXW).trans HAT0.out))
   clear hown' hgrow' hat' hltg
   refine hK.out _ _ ?_ (fun hHeld => ?_)
   ·exact HSB.out w6 (fun b hb hne => (HG6.out.block b (by omega) (fun e => hne e.symm)).trans (B5.out.block b hb))
   clear hK K
   try simp only [Act.put,c9,f8,f7]
   refine b7.nx 8 fun K hK => ?_
   go_simp
   refine hK.out _ _ ?_ (fun hHeld => ?_)
   ·exact hHeld
   clear hK K
   try simp only [Act.put,c9,f8,f7]
   refine b7.nx 9 fun K hK => ?_
   go_simp
   refine hK.out _ _ ?_ (fun hHeld => ?_)
   ·exact hHeld
   clear hK K
   try simp only [Act.put,c9,f8,f7]
   have hX3 : w6.cell? ⟨X,3,none⟩=some (.slice ao ts.length cp):=by simp [World.cell?,HX6.out]
   have hf6 : w6.frozen? ⟨X,3,none⟩=false:=by simp [World.frozen?,HX6.out]
   have hX6l : X<w6.heap.size:=(Array.getElem?_eq_some_iff.1 HX6.out).1
   refine b7.la fun K hK => ?_
   go_simp
   refine hK.out _ _ ?_
   clear hK K hHeld
   obtain ⟨W7,hW7⟩ : ∃ V,V=w6.setCell ⟨X,3,none⟩ (.slice (some ⟨gb,0,none⟩) (ts.length + 1) cap'):=⟨_,rfl⟩
   have Z7:=hid (show SC X M s a (ts ++ [(⟨2,A.data.toList,0,a⟩ : Tk)]) W7∧Below X W3 W7 from hW7 ▸ O8 hMX hXW HOW0.out HKY0.out B5.out HX6.out HO6.out HG6.out)
   have HS7:=hid Z7.out.1
   have BX7:=hid Z7.out.2
   rw [← hW7]
   clear hW7 hX3 hf6 hX6l HX6 HO6 HG6 O5 N5 B5 HSB HSI HAT0 HOW0 HKY0 Z7
   have BX:=hid (BX1.out.trans ((B13.out.mono (by omega)).trans BX7.out))
   by_cases h24 : 24<(n : Int)
   ·have R:=hid (N.out.trans (if_pos (by omega)))
    go_wp2_with fail
    go_ret2
    exact o4 R.out (by decide) BX.out HS7.out
   ·have R:=hid (N.out.trans (if_neg (by omega)))
    go_wp2_with fail
    go_ret2
    exact aR R.out BX.out rfl rfl HS7.out
 have q1 : ((c.toNat : Int) != 46)=false:=by rw [h46]; rfl
 have e46 : c=46:=UInt8.toNat_inj.1 (Int.ofNat.inj h46)
 replace N:=hid (N.out.trans (if_pos e46))
 replace C3:=hid (C3.out W1 HS1.out.sb)
 have hltn : a + n<s.size:=HLT.out (by rw [e46]; decide)
 have hlm : a + n + 1 + m≤s.size:=by omega
 clear h46 e46 HLT
 go_upto_region 12 with (first | ((with_reducible refine Calls.mono C2.out ?_); rintro e w1 ⟨rfl,hw⟩; rw [← hw]; clear hw w1) | ((with_reducible refine Calls.mono C3.out ?_); rintro e w1 ⟨rfl,hw⟩; rw [← hw]; clear hw w1))
 clear C2 C3
 go_quiet (fail)
 rw [← HB.out]
 obtain ⟨W2,hW2⟩ : ∃ W,W=W1.drewN nq:=⟨_,rfl⟩
 have HS2:=hid (show SC X M s a ts W2 from hW2 ▸ HS1.out.below (Go.Proofs.YtibiccacafjjfaaGreatDoor.v6 W1 nq))
 have BX2:=hid (show Below X W1 W2 from hW2 ▸ ((Go.Proofs.YtibiccacafjjfaaGreatDoor.v6 W1 nq).mono (Nat.le_of_lt HS1.out.lt.2)))
 rw [← hW2]
 clear hW2 hX0 hX1 HS1 HB
 have hs1 : ¬ 9223372036854775807<A.size + 1:=by omega
 have hs2 : ¬ 9223372036854775807<A.size + 1 + B.size:=by omega
 go_upto_region 13 with fail
 obtain ⟨hMX,hXW⟩:=HS2.out.lt
 obtain ⟨ao,cp,hat0,how0⟩:=HS2.out.ex
 have HAT0:=hid hat0
 have HOW0:=hid how0
 have HKY0:=hid HS2.out.keys
 have HSI:=hid (show (W2.cell? ⟨X,3,none⟩=some (.slice ao ts.length cp)∧W2.cell? ⟨X,1,none⟩=some (.int .i64 a)∧W2.cell? ⟨X,0,none⟩=some (.string s))∧True from ⟨⟨by simp [World.cell?,hat0],by simp [World.cell?,hat0],by simp [World.cell?,hat0]⟩,trivial⟩)
 have HSB:=hid (show ∀ vv : World,(∀ b,b<W2.heap.size→(Value.slice ao ts.length cp).ownBlock≠some b→vv.heap[b]?=W2.heap[b]?)→vv.cell? ⟨X,3,none⟩=some (.slice ao ts.length cp)∧vv.cell? ⟨X,1,none⟩=some (.int .i64 a)∧vv.cell? ⟨X,0,none⟩=some (.string s) from fun vv hv => by
  have hX : ∀ i,vv.cell? ⟨X,i,none⟩=W2.cell? ⟨X,i,none⟩:=fun i => World.cell?_of_block (hv X hXW (fun e => by have:=(how0.lt X e).1; omega))
  exact ⟨(hX 3).trans HSI.out.1.1,(hX 1).trans HSI.out.1.2.1,(hX 0).trans HSI.out.1.2.2⟩)
 clear hat0 how0
 refine e8 (S:=(fun cur : World => cur.cell? ⟨X,3,none⟩=some (.slice ao ts.length cp)∧cur.cell? ⟨X,1,none⟩=some (.int .i64 a)∧cur.cell? ⟨X,0,none⟩=some (.string s))) (z:=18) (by kernel_rfl) ?_ (fun hHeld => ?_)
 ·exact HSB.out W2.drew (fun b _ _ => rfl)
 refine b7.t 0 ?_; refine b7.t 1 ?_; refine b7.t 2 ?_; refine b7.t 3 ?_; refine b7.t 4 ?_; refine b7.t 5 ?_; refine b7.t 6 ?_; refine b7.t 7 ?_; refine b7.t 8 ?_; refine b7.t 9 ?_; refine b7.t 10 ?_; refine b7.t 11 ?_; refine b7.t 12 ?_; refine b7.t 13 ?_
 refine b7.nx 14 fun K hK => ?_
 go_simp
 obtain ⟨W5,hW5⟩ : ∃ V,V=(W2.alloc (.cells #[.int .i64 3,.string (A ++ ⟨#[46]⟩ ++ B),.int .i64 0,.int .i64 a] 79)).drew:=⟨_,rfl⟩
 have B5:=hid (show Below W2.heap.size W2 W5 from hW5 ▸ A7 (c6 _ _))
 have hz5 : W5.heap.size=W2.heap.size + 1:=by rw [hW5]; show (W2.alloc _).heap.size=_; simp
 have N5:=hid (show ∀ j u,(n6 (⟨3,(A ++ ⟨#[46]⟩ ++ B).data.toList,0,a⟩ : Tk))[j]?=some u→W5.cell? ((⟨W2.heap.size,0,none⟩ : Addr).add j)=some u from hW5 ▸ x8 W2 _ _ _ _ _)
 have O5:=hid (show W5.ownsRow (X + 1) 79 4 (.slice ao ts.length cp) ts.length (l8 ts) from n7 HOW0.out B5.out)
 rw [← hW5]
 clear hW5
 refine hK.out _ _ ?_ (fun hHeld => ?_)
 ·exact HSB.out W5 (fun b hb _ => B5.out.block b hb)
 clear hK K
 try simp only [Act.put,c9,f8,f7]
 refine b7.nx 15 fun K hK => ?_
 refine step_append_lies _ rfl _ _ 70 rfl (X + 1) 79 i0 (.agg #[.int .i64 0,.string ⟨#[]⟩,.int .i64 0,.int .i64 0]) 4 40 Tryz.underlying70 HI0.out.1 HI0.out.2.1 HI0.out.2.2.1 HI0.out.2.2.2 rfl (by decide) _ _ _ rfl O5.out ⟨W2.heap.size,0,none⟩ 1 1 (n6 (⟨3,(A ++ ⟨#[46]⟩ ++ B).data.toList,0,a⟩ : Tk)) rfl rfl N5.out (bS _) (by decide) (by unfold maxLen; omega) (by omega) (by omega) _ rfl ?_
 intro gb cap' w6 hown' hgrow' hat' hltg
 have HG6:=hid hgrow'
 have HO6:=hid hown'
 have HX6:=hid (show w6.heap[X]?=some (.cells #[.string s,.int .i64 a,.map (some M),.slice ao ts.length cp,.pointer none] 109 (0,0)) from (hgrow'.block X (by omega) (fun e => by have:=(HOW0.out.lt X e.symm).1; omega)).trans ((B5.out.block X hXW).trans HAT0.out))
 clear hown' hgrow' hat' hltg
 refine hK.out _ _ ?_ (fun hHeld => ?_)
 ·exact HSB.out w6 (fun b hb hne => (HG6.out.block b (by omega) (fun e => hne e.symm)).trans (B5.out.block b hb))
 clear hK K
 try simp only [Act.put,c9,f8,f7]
 refine b7.nx 16 fun K hK => ?_
 go_simp
 refine hK.out _ _ ?_ (fun hHeld => ?_)
 ·exact hHeld
 clear hK K
 try simp only [Act.put,c9,f8,f7]
 refine b7.nx 17 fun K hK => ?_
 go_simp
 refine hK.out _ _ ?_ (fun hHeld => ?_)
 ·exact hHeld
 clear hK K
 try simp only [Act.put,c9,f8,f7]
 have hX3 : w6.cell? ⟨X,3,none⟩=some (.slice ao ts.length cp):=by simp [World.cell?,HX6.out]
 have hf6 : w6.frozen? ⟨X,3,none⟩=false:=by simp [World.frozen?,HX6.out]
 have hX6l : X<w6.heap.size:=(Array.getElem?_eq_some_iff.1 HX6.out).1
 refine b7.la fun K hK => ?_
 go_simp
 refine hK.out _ _ ?_
 clear hK K hHeld
 obtain ⟨W7,hW7⟩ : ∃ V,V=w6.setCell ⟨X,3,none⟩ (.slice (some ⟨gb,0,none⟩) (ts.length + 1) cap'):=⟨_,rfl⟩
 have Z7:=hid (show SC X M s a (ts ++ [(⟨3,(A ++ ⟨#[46]⟩ ++ B).data.toList,0,a⟩ : Tk)]) W7∧Below X W2 W7 from hW7 ▸ O8 hMX hXW HOW0.out HKY0.out B5.out HX6.out HO6.out HG6.out)
 have HS7:=hid Z7.out.1
 have BX7:=hid Z7.out.2
 rw [← hW7]
 clear hW7 hX3 hf6 hX6l HX6 HO6 HG6 O5 N5 B5 HSB HSI HAT0 HOW0 HKY0 Z7
 have BX:=hid (BX1.out.trans (BX2.out.trans BX7.out))
 clear BX1 BX2 BX7 hs1 hs2 HS2 hXW hz5
 obtain ⟨hX0,hX1⟩:=HS7.out.sb
 have hX2 : W7.cell? ⟨X,2,none⟩=some (.map (some M)):=by obtain ⟨_,_,g,-⟩:=HS7.out.ex; simp [World.cell?,g]
 obtain ⟨v,hl1,hv1⟩:=HS7.out.keys.look A hAs
 obtain ⟨u,hl2,hv2⟩:=HS7.out.keys.look B hBs
 by_cases h1 : 24<(n : Int)
 ·have R:=hid (N.out.trans (if_pos (.inl (by omega))))
  clear hv1 hv2
  go_wp2_with fail
  go_ret2
  exact o4 R.out (by decide) BX.out HS7.out
 by_cases h2 : (m : Int)<1
 ·have R:=hid (N.out.trans (if_pos (.inr (.inl (by omega)))))
  clear hv1 hv2
  go_wp2_with fail
  go_ret2
  exact o4 R.out (by decide) BX.out HS7.out
 by_cases h3 : 24<(m : Int)
 ·have R:=hid (N.out.trans (if_pos (.inr (.inr (.inl (by omega))))))
  clear hv1 hv2
  go_wp2_with fail
  go_ret2
  exact o4 R.out (by decide) BX.out HS7.out
 cases hw : F7 A.data.toList
 case true =>
  have R:=hid (N.out.trans (if_pos (.inr (.inr (.inr (.inl hw))))))
  rw [hw] at hv1
  have hv : 0<v:=by simpa using hv1
  clear hv1 hv2 hw
  go_wp2_with fail
  go_ret2
  exact o4 R.out (by decide) BX.out HS7.out
 cases hw2 : F7 B.data.toList
 case true =>
  have R:=hid (N.out.trans (if_pos (.inr (.inr (.inr (.inr hw2))))))
  rw [hw] at hv1
  rw [hw2] at hv2
  have hv : ¬ 0<v:=by simpa using hv1
  have hu : 0<u:=by simpa using hv2
  clear hv1 hv2 hw hw2
  go_wp2_with fail
  go_ret2
  exact o4 R.out (by decide) BX.out HS7.out
 have R:=hid (N.out.trans (if_neg (by rw [hw,hw2]; simp; omega)))
 rw [hw] at hv1
 rw [hw2] at hv2
 have hv : ¬ 0<v:=by simpa using hv1
 have hu : ¬ 0<u:=by simpa using hv2
 clear hv1 hv2 hw hw2
 go_wp2_with fail
 go_ret2
 exact aR R.out BX.out (by omega) (by simp only [ByteArray.data_append,Array.toList_append]; simp) HS7.out
end
section
open Lib (hid)
open Go.RowKit
theorem a1E (c : UInt8) : U8 c=!(smI c.toNat || grI c.toNat || (c.toNat : Int) == 95 || (c.toNat : Int) == 46):=by
 have:=jF (p:=fun c => U8 c == !(smI c.toNat || grI c.toNat || (c.toNat : Int) == 95 || (c.toNat : Int) == 46)) (by decide +kernel) c
 simpa using this
theorem xI (X M : Nat) (s : ByteArray) (a : Nat) (ts : List Tk) (w : World) (h : SC X M s a ts w) (hs : s.size≤16384) (ha : a<s.size) (hdg : dgC s[a]=true) (htl : ts.length≤8192) :
 Calls Tryz.prog 119 #[.pointer (some ⟨X,0,none⟩)] w (a2a X M s a ts (aX (s.data.toList.drop a) a) w):=by
 have N:=hid (show aX (s.data.toList.drop a) a=if p6 (s.data.toList.drop a)=true then
  match rS ((s.data.toList.drop a).take 10) with
  | none => .error 72
  | some v => if U8 (((s.data.toList.drop a).drop 10).headD 0)=true then .ok (⟨5,[],v,a⟩,10) else .error 72
  else
   match gL ((s.data.toList.drop a).take (cT (s.data.toList.drop a))) with
   | none => .error 72
   | some v => if U8 (((s.data.toList.drop a).drop (cT (s.data.toList.drop a))).headD 0)=true then .ok (⟨6,[],v,a⟩,cT (s.data.toList.drop a)) else .error 72 from rfl)
 have N1:=hid (fun (h : p6 (s.data.toList.drop a)=true) => N.out.trans (if_pos h))
 have N0:=hid (fun (h : p6 (s.data.toList.drop a)=false) => N.out.trans (if_neg (by rw [h]; decide)))
 have hl : (s.data.toList.drop a).length=s.size - a:=by rw [List.length_drop,d6]
 have hD1 : Y3 (s.data.toList.drop a)≤s.size - a:=by have:=D7 dgC (s.data.toList.drop a); rwa [hl] at this
 have hD2:=wI (l:=s.data.toList.drop a) (by rw [x9 ha]; exact xB hdg)
 rw [hl] at hD2
 have HLD:=hid (show p6 (s.data.toList.drop a)=true→a + 10≤s.size from fun h => by have:=((pD _).1 h).1; rw [hl] at this; omega)
 have NR:=hid (show cT (s.data.toList.drop a)=if ((s.data.toList.drop a).drop (Y3 (s.data.toList.drop a))).headD 0=46∧dgC (((s.data.toList.drop a).drop (Y3 (s.data.toList.drop a) + 1)).headD 0)=true then Y3 (s.data.toList.drop a) + 1 + Y3 ((s.data.toList.drop a).drop (Y3 (s.data.toList.drop a) + 1)) else Y3 (s.data.toList.drop a) from rfl)
 obtain ⟨W1,hW1⟩ : ∃ W,W=w.alloc (.cells #[.int .i64 6,.string ⟨#[]⟩,.int .i64 0,.int .i64 a] 79):=⟨_,rfl⟩
 obtain ⟨tb,htb⟩ : ∃ tb,tb=w.heap.size:=⟨_,rfl⟩
 have B1:=hid (show Below w.heap.size w W1 from hW1 ▸ c6 _ _)
 have HS1:=hid (h.below B1)
 have HB1:=hid (show W1.heap[tb]?=some (.cells #[.int .i64 6,.string ⟨#[]⟩,.int .i64 0,.int .i64 a] 79 (0,0)) by rw [hW1,htb]; show (w.heap.push _)[w.heap.size]?=_; simp)
 have hz1 : W1.heap.size=tb + 1:=by rw [hW1,htb]; simp
 obtain ⟨hMX,hXw⟩:=h.lt
 obtain ⟨ao,cp,hat,how⟩:=h.ex
 have HOB:=hid (show ∀ d,(Value.slice ao ts.length cp).ownBlock=some d→d<tb from fun d hd => htb ▸ (how.lt d hd).2)
 have HATw:=hid hat
 have HOWw:=hid how
 have hXtb : X<tb:=htb ▸ hXw
 have C1:=hid (qM X s a a W1 HS1.out.sb hs (by omega))
 have C2:=hid (a2e X s a W1 HS1.out.sb (by omega))
 have HSW:=hid h
 have HTB:=hid htb
 have HZ1:=hid hz1
 obtain ⟨i0,hi,hz0,hz1,hz2⟩:=info_parts (show (Tryz.prog.info? 79).map (fun i => (i.zero,i.size,i.bytes))=some (some (.agg #[.int .i64 0,.string ⟨#[]⟩,.int .i64 0,.int .i64 0]),4,40) by kernel_rfl)
 have HI0:=hid (show _∧_∧_∧_ from ⟨hi,hz0,hz1,hz2⟩)
 clear hi hz0 hz1 hz2
 clear h hat how hz1
 obtain ⟨hX0,hX1⟩:=HSW.out.sb
 go_enter Tryz.func119,Tryz.ntmps119
 go_upto_region 2 with fail
 rw [← hW1]
 rw [← htb]
 clear hW1 htb hX0 hX1
 obtain ⟨hX0,hX1⟩:=HS1.out.sb
 generalize hn : Y3 (s.data.toList.drop a)=n at C1 NR hD1
 go_wp2_with fail
 (with_reducible refine Calls.mono C1.out ?_)
 rintro e w1 ⟨rfl,hw1⟩
 rw [← hw1]
 clear hw1 C1 w1
 cases hd : p6 (s.data.toList.drop a)
 case false =>
  rw [hd] at C2 HLD
  go_wp2_with fail
  (with_reducible refine Calls.mono C2.out ?_)
  rintro e w2 ⟨rfl,hb2⟩
  have B2:=hid hb2
  have HS2:=hid (HS1.out.below hb2)
  have hz2:=hid (show tb + 1≤w2.heap.size by have:=hb2.size; have:=HZ1.out; omega)
  have HB2:=hid (show w2.heap[tb]?=some (.cells #[.int .i64 6,.string ⟨#[]⟩,.int .i64 0,.int .i64 a] 79 (0,0)) from (hb2.block tb (by have:=HZ1.out; omega)).trans HB1)
  clear hb2 C2 hX0 hX1 HB1
  obtain ⟨hX0,hX1⟩:=HS2.out.sb
  replace N:=hid (N0.out hd)
  clear N1 N0 hd
  have C3:=hid (fun (v : World) (hv : SB X s a v) => F6 X s a (a + n) v hv)
  have C4:=hid (fun (v : World) (hv : SB X s a v) => F6 X s a (a + n + 1) v hv)
  have C5:=hid (fun (v : World) (hv : SB X s a v) => qM X s a (a + n + 1) v hv hs (by omega))
  rw [show ((a + n + 1 : Nat) : Int)=(a : Int) + n + 1 by omega] at C4 C5
  rw [show ((a + n : Nat) : Int)=(a : Int) + n by omega] at C3
  rw [Nat.add_assoc,← List.drop_drop] at C4 C5
  rw [← List.drop_drop] at C3
  have HDG:=hid (bL (((s.data.toList.drop a).drop (n + 1)).headD 0))
  generalize hc : ((s.data.toList.drop a).drop n).headD 0=c at C3 NR
  generalize hc2 : ((s.data.toList.drop a).drop (n + 1)).headD 0=c2 at C4 NR HDG
  generalize hk : Y3 ((s.data.toList.drop a).drop (n + 1))=k at C5 NR
  generalize hr : cT (s.data.toList.drop a)=r at NR N hD2
  have C3':=hid (C3.out w2 HS2.out.sb)
  have C4':=hid (C4.out w2 HS2.out.sb)
  have C5':=hid (C5.out w2 HS2.out.sb)
  have HR2:=hid hD2
  clear hn hc hc2 hk hr C3 C4 C5 hD2
  have hcase : ((c.toNat : Int)=46∧dgI c2.toNat=true)∨((c.toNat : Int)=46∧dgI c2.toNat=false)∨¬ (c.toNat : Int)=46:=by
   by_cases h1 : (c.toNat : Int)=46
   ·cases h2 : dgI c2.toNat
    ·exact .inr (.inl ⟨h1,rfl⟩)
    ·exact .inl ⟨h1,rfl⟩
   ·exact .inr (.inr h1)
  rcases hcase with ⟨h1,h2⟩ | ⟨h1,h2⟩ | h1
  case' inl =>
   have q1 : ((c.toNat : Int) == 46)=true:=by rw [h1]; rfl
   have R:=hid (show r=n + 1 + k by rw [NR.out,if_pos ⟨UInt8.toNat_inj.1 (Int.ofNat.inj h1),by rw [HDG.out,h2]⟩])
   clear h1 NR
   have hkk : k≤16384:=by have:=R.out; have:=HR2.out; omega
   have HRI:=hid (show (n : Int) + (1 + (k : Int))=r by have:=R.out; omega)
   go_wp2_with (first | ((with_reducible refine Calls.mono C3'.out ?_); rintro e w3 ⟨rfl,hw⟩; rw [← hw]; clear hw w3) | ((with_reducible refine Calls.mono C4'.out ?_); rintro e w3 ⟨rfl,hw⟩; rw [← hw]; clear hw w3) | (go_at_call 118; refine (F8 _ _).mono ?_; rintro e w' ⟨rfl,hw⟩; rw [← hw,h2]; clear hw w'))
   (with_reducible refine Calls.mono C5'.out ?_)
   rintro e w3 ⟨rfl,hw⟩
   rw [← hw]
   clear hw w3
   go_upto_region 10 with fail
   rw [HRI.out]
   clear R HRI hkk q1 h2
  case' inr.inl =>
   have q1 : ((c.toNat : Int) == 46)=true:=by rw [h1]; rfl
   have R:=hid (show r=n by rw [NR.out,if_neg (fun e => by have:=HDG.out; rw [h2,e.2] at this; cases this)])
   clear h1 NR
   go_upto_region 10 with (first | ((with_reducible refine Calls.mono C3'.out ?_); rintro e w3 ⟨rfl,hw⟩; rw [← hw]; clear hw w3) | ((with_reducible refine Calls.mono C4'.out ?_); rintro e w3 ⟨rfl,hw⟩; rw [← hw]; clear hw w3) | (go_at_call 118; refine (F8 _ _).mono ?_; rintro e w' ⟨rfl,hw⟩; rw [← hw,h2]; clear hw w'))
   rw [show ((n : Nat) : Int)=((r : Nat) : Int) by rw [R.out]]
   clear R q1 h2
  case' inr.inr =>
   have q1 : ((c.toNat : Int) == 46)=false:=beq_eq_false_iff_ne.2 h1
   have R:=hid (show r=n by rw [NR.out,if_neg (fun e => h1 (by rw [e.1]; rfl))])
   clear h1 NR
   go_upto_region 10 with (first | ((with_reducible refine Calls.mono C3'.out ?_); rintro e w3 ⟨rfl,hw⟩; rw [← hw]; clear hw w3))
   rw [show ((n : Nat) : Int)=((r : Nat) : Int) by rw [R.out]]
   clear R q1
  all_goals
   have hrs : a + r≤s.size:=by have:=HR2.out; omega
   have hte:=aC s a (a + r) (by omega)
   have CP:=hid (fun (v : World) => sC (s.extract a (a + r)) v (by omega))
   rw [show (s.extract a (a + r)).data.toList=(s.data.toList.drop a).take r by rw [s7,Nat.add_sub_cancel_left]] at CP
   clear hte C3' C4' C5'
   cases hv : gL ((s.data.toList.drop a).take r)
   case none =>
    rw [hv] at CP N
    clear hv
    have e2 : (0 : Int)≤(a : Int) + r:=by omega
    have e3 : ((a : Int) + r).toNat=a + r:=by omega
    have e4 : (a : Int)≤(a : Int) + r:=by omega
    have e5 : (a : Int) + r≤s.size:=by omega
    have e1 : IntKind.i64.wrap ((a : Int) + r)=(a : Int) + r:=IntWalk.i64_in _ (by omega)
    refine e8 (S:=(fun cur : World => cur.cell? ⟨X,0,none⟩=some (.string s)∧cur.cell? ⟨X,1,none⟩=some (.int .i64 a))) (z:=21) (by kernel_rfl) ?_ (fun hHeld => ?_)
    ·exact ⟨hX0,hX1⟩
    refine b7.t 0 ?_; refine b7.t 1 ?_; refine b7.t 2 ?_; refine b7.t 3 ?_; refine b7.t 4 ?_; refine b7.t 5 ?_; refine b7.t 6 ?_; refine b7.t 7 ?_; refine b7.t 8 ?_; refine b7.t 9 ?_; refine b7.t 10 ?_; refine b7.t 11 ?_; refine b7.t 12 ?_; refine b7.t 13 ?_; refine b7.t 14 ?_
    clear e1 e2 e3 e4 e5
    refine b7.nx 15 fun K hK => ?_
    go_simp
    (with_reducible refine Calls.mono (CP.out _) ?_)
    rintro e w3 ⟨hb3,rfl⟩
    have B3:=hid (show Below w2.heap.size w2 w3 from ⟨hb3.os,hb3.tape,hb3.output,hb3.size,hb3.block⟩)
    have HB3:=hid (show w3.heap[tb]?=some (.cells #[.int .i64 6,.string ⟨#[]⟩,.int .i64 0,.int .i64 a] 79 (0,0)) from (B3.out.block tb (by have:=hz2.out; omega)).trans HB2)
    have HS3:=hid (HS2.out.below B3)
    have hz3:=hid (show tb + 1≤w3.heap.size from Nat.le_trans hz2 B3.out.size)
    clear hb3 CP hX0 hX1 hHeld
    obtain ⟨hX0,hX1⟩:=HS3.out.sb
    go_wp2_with fail
    refine hK.out _ _ ?_ (fun hHeld => ?_)
    ·exact ⟨hX0,hX1⟩
    clear hK K
    try simp only [Act.put,c9,f8,f7]
    refine b7.t 16 ?_; refine b7.t 17 ?_; refine b7.t 18 ?_; refine b7.t 19 ?_
    have c2' : w3.cell? ⟨tb,2,none⟩=some (.int .i64 0):=by simp [World.cell?,HB3.out]
    have f2' : w3.frozen? ⟨tb,2,none⟩=false:=by simp [World.frozen?,HB3.out]
    have hn1 : ¬ X=tb:=by omega
    have hn2 : ¬ tb=X:=by omega
    refine b7.nx 20 fun K hK => ?_
    go_simp
    refine hK.out _ _ ?_ (fun hHeld => ?_)
    ·exact ⟨by simp [World.cell?_setCell_other, *],by simp [World.cell?_setCell_other, *]⟩
    clear hK K
    try simp only [Act.put,c9,f8,f7]
    refine b7.la fun K hK => ?_
    go_simp
    refine hK.out _ _ ?_
    clear hK K hHeld c2' f2'
    obtain ⟨W4,hW4⟩ : ∃ V,V=w3.setCell ⟨tb,2,none⟩ (.int .i64 0):=⟨_,rfl⟩
    have BW4:=hid (show Below tb w W4 from hW4 ▸ (((HTB.out ▸ B1.out).trans ((B2.out.mono (by have:=HZ1.out; omega)).trans (B3.out.mono (by have:=hz2.out; omega)))).setCell (p:=⟨tb,2,none⟩) (Nat.le_refl _) _))
    have HB4:=hid (show W4.heap[tb]?=some (.cells #[.int .i64 6,.string ⟨#[]⟩,.int .i64 0,.int .i64 a] 79 (0,0)) from hW4 ▸ l5 HB3 2 _)
    have HZ4:=hid (show tb + 1≤W4.heap.size by rw [hW4]; simp [World.setCell]; exact hz3)
    rw [← hW4]
    clear hW4 hn1 hn2 HB3 HS3
    have HS4:=hid (HSW.out.below (HTB.out ▸ BW4.out))
    have hat0 : W4.heap[X]?=some (.cells #[.string s,.int .i64 a,.map (some M),.slice ao ts.length cp,.pointer none] 109 (0,0)):=(BW4.out.block X hXtb).trans HATw
    have how0 : W4.ownsRow (X + 1) 79 4 (.slice ao ts.length cp) ts.length (l8 ts):=n7 HOWw (HTB.out ▸ BW4.out)
    have hXW : X<W4.heap.size:=by have:=HZ4.out; omega
    have HMORE:=hid (show ∀ vv : World,(∀ b,b<W4.heap.size→(Value.slice ao ts.length cp).ownBlock≠some b→vv.heap[b]?=W4.heap[b]?)→(vv.cell? ⟨tb,0,none⟩=some (.int .i64 6)∧vv.cell? ⟨tb,1,none⟩=some (.string ⟨#[]⟩)∧vv.cell? ⟨tb,2,none⟩=some (.int .i64 0)∧vv.cell? ⟨tb,3,none⟩=some (.int .i64 a)) from fun vv hv => by
     have h':=(hv tb (by have:=HZ4.out; omega) (fun e => by have:=HOB.out tb e; omega)).trans HB4
     refine ⟨?_,?_,?_,?_⟩ <;> simp [World.cell?,h'])
    clear hX0 hX1
    go_upto_region 11 with fail
    have HAT0:=hid hat0
    have HOW0:=hid how0
    have HKY0:=hid HS4.out.keys
    have HSI:=hid (show (W4.cell? ⟨X,3,none⟩=some (.slice ao ts.length cp)∧W4.cell? ⟨X,1,none⟩=some (.int .i64 a)∧W4.cell? ⟨X,0,none⟩=some (.string s))∧((W4.cell? ⟨tb,0,none⟩=some (.int .i64 6)∧W4.cell? ⟨tb,1,none⟩=some (.string ⟨#[]⟩)∧W4.cell? ⟨tb,2,none⟩=some (.int .i64 0)∧W4.cell? ⟨tb,3,none⟩=some (.int .i64 a))) from ⟨⟨by simp [World.cell?,hat0],by simp [World.cell?,hat0],by simp [World.cell?,hat0]⟩,(HMORE.out W4 (fun _ _ _ => rfl))⟩)
    have HSB:=hid (show ∀ vv : World,(∀ b,b<W4.heap.size→(Value.slice ao ts.length cp).ownBlock≠some b→vv.heap[b]?=W4.heap[b]?)→vv.cell? ⟨X,3,none⟩=some (.slice ao ts.length cp)∧vv.cell? ⟨X,1,none⟩=some (.int .i64 a)∧vv.cell? ⟨X,0,none⟩=some (.string s)∧(vv.cell? ⟨tb,0,none⟩=some (.int .i64 6)∧vv.cell? ⟨tb,1,none⟩=some (.string ⟨#[]⟩)∧vv.cell? ⟨tb,2,none⟩=some (.int .i64 0)∧vv.cell? ⟨tb,3,none⟩=some (.int .i64 a)) from fun vv hv => by
     have hX : ∀ i,vv.cell? ⟨X,i,none⟩=W4.cell? ⟨X,i,none⟩:=fun i => World.cell?_of_block (hv X hXW (fun e => by have:=(how0.lt X e).1; omega))
     exact ⟨(hX 3).trans HSI.out.1.1,(hX 1).trans HSI.out.1.2.1,(hX 0).trans HSI.out.1.2.2,HMORE.out vv hv⟩)
    clear hat0 how0
    refine e8 (S:=(fun cur : World => cur.cell? ⟨X,3,none⟩=some (.slice ao ts.length cp)∧cur.cell? ⟨X,1,none⟩=some (.int .i64 a)∧cur.cell? ⟨X,0,none⟩=some (.string s)∧(cur.cell? ⟨tb,0,none⟩=some (.int .i64 6)∧cur.cell? ⟨tb,1,none⟩=some (.string ⟨#[]⟩)∧cur.cell? ⟨tb,2,none⟩=some (.int .i64 0)∧cur.cell? ⟨tb,3,none⟩=some (.int .i64 a)))) (z:=10) (by kernel_rfl) ?_ (fun hHeld => ?_)
    ·exact HSB.out W4.drew (fun b _ _ => rfl)
    refine b7.t 0 ?_; refine b7.t 1 ?_; refine b7.t 2 ?_; refine b7.t 3 ?_; refine b7.t 4 ?_; refine b7.t 5 ?_
    refine b7.nx 6 fun K hK => ?_
    go_simp
    obtain ⟨W5,hW5⟩ : ∃ V,V=(W4.alloc (.cells #[.int .i64 6,.string ⟨#[]⟩,.int .i64 0,.int .i64 a] 79)).drew:=⟨_,rfl⟩
    have B5:=hid (show Below W4.heap.size W4 W5 from hW5 ▸ A7 (c6 _ _))
    have hz5 : W5.heap.size=W4.heap.size + 1:=by rw [hW5]; show (W4.alloc _).heap.size=_; simp
    have N5:=hid (show ∀ j u,(n6 (⟨6,[],0,a⟩ : Tk))[j]?=some u→W5.cell? ((⟨W4.heap.size,0,none⟩ : Addr).add j)=some u from hW5 ▸ x8 W4 _ _ _ _ _)
    have O5:=hid (show W5.ownsRow (X + 1) 79 4 (.slice ao ts.length cp) ts.length (l8 ts) from n7 HOW0 B5)
    rw [← hW5]
    clear hW5
    refine hK.out _ _ ?_ (fun hHeld => ?_)
    ·exact HSB.out W5 (fun b hb _ => B5.out.block b hb)
    clear hK K
    try simp only [Act.put,c9,f8,f7]
    refine b7.nx 7 fun K hK => ?_
    refine step_append_lies _ rfl _ _ 70 rfl (X + 1) 79 i0 (.agg #[.int .i64 0,.string ⟨#[]⟩,.int .i64 0,.int .i64 0]) 4 40 Tryz.underlying70 HI0.out.1 HI0.out.2.1 HI0.out.2.2.1 HI0.out.2.2.2 rfl (by decide) _ _ _ rfl O5 ⟨W4.heap.size,0,none⟩ 1 1 (n6 (⟨6,[],0,a⟩ : Tk)) rfl rfl N5 (bS _) (by decide) (by unfold maxLen; omega) (by omega) (by omega) _ rfl ?_
    intro gb cap' w6 hown' hgrow' hat' hltg
    have HG6:=hid hgrow'
    have HO6:=hid hown'
    have HX6:=hid (show w6.heap[X]?=some (.cells #[.string s,.int .i64 a,.map (some M),.slice ao ts.length cp,.pointer none] 109 (0,0)) from (hgrow'.block X (by omega) (fun e => by have:=(HOW0.out.lt X e.symm).1; omega)).trans ((B5.out.block X hXW).trans HAT0))
    clear hown' hgrow' hat' hltg
    refine hK.out _ _ ?_ (fun hHeld => ?_)
    ·exact HSB.out w6 (fun b hb hne => (HG6.out.block b (by omega) (fun e => hne e.symm)).trans (B5.out.block b hb))
    clear hK K
    try simp only [Act.put,c9,f8,f7]
    refine b7.nx 8 fun K hK => ?_
    go_simp
    refine hK.out _ _ ?_ (fun hHeld => ?_)
    ·exact hHeld
    clear hK K
    try simp only [Act.put,c9,f8,f7]
    refine b7.nx 9 fun K hK => ?_
    go_simp
    refine hK.out _ _ ?_ (fun hHeld => ?_)
    ·exact hHeld
    clear hK K
    try simp only [Act.put,c9,f8,f7]
    have hX3 : w6.cell? ⟨X,3,none⟩=some (.slice ao ts.length cp):=by simp [World.cell?,HX6.out]
    have hf6 : w6.frozen? ⟨X,3,none⟩=false:=by simp [World.frozen?,HX6.out]
    have hX6l : X<w6.heap.size:=(Array.getElem?_eq_some_iff.1 HX6).1
    refine b7.la fun K hK => ?_
    go_simp
    refine hK.out _ _ ?_
    clear hK K hHeld
    obtain ⟨W7,hW7⟩ : ∃ V,V=w6.setCell ⟨X,3,none⟩ (.slice (some ⟨gb,0,none⟩) (ts.length + 1) cap'):=⟨_,rfl⟩
    have Z7:=hid (show SC X M s a (ts ++ [(⟨6,[],0,a⟩ : Tk)]) W7∧Below X W4 W7 from hW7 ▸ O8 hMX hXW HOW0 HKY0 B5 HX6 HO6 HG6)
    have HS7:=hid Z7.out.1
    have BX7:=hid Z7.out.2
    rw [← hW7]
    clear hW7 hX3 hf6 hX6l HX6 HO6 HG6 O5 N5 B5 HSB HSI HAT0 HOW0 HKY0 Z7
    have BX:=hid (show Below X w W7 from (BW4.out.mono (by omega)).trans BX7)
    obtain ⟨hX0,hX1⟩:=HS7.out.sb
    have CE:=hid (F6 X s a (a + r) W7 HS7.out.sb)
    rw [← List.drop_drop,show ((a + r : Nat) : Int)=(a : Int) + r by omega] at CE
    clear HB4 HS4 BW4 BX7 HMORE
    go_wp2_with ((with_reducible refine Calls.mono CE.out ?_); rintro e w5 ⟨rfl,hw⟩; rw [← hw]; clear hw w5)
    go_ret2
    exact o4 N (by decide) BX HS7
   case some v =>
    rw [hv] at CP N
    clear hv
    have e2 : (0 : Int)≤(a : Int) + r:=by omega
    have e3 : ((a : Int) + r).toNat=a + r:=by omega
    have e4 : (a : Int)≤(a : Int) + r:=by omega
    have e5 : (a : Int) + r≤s.size:=by omega
    have e1 : IntKind.i64.wrap ((a : Int) + r)=(a : Int) + r:=IntWalk.i64_in _ (by omega)
    refine e8 (S:=(fun cur : World => cur.cell? ⟨X,0,none⟩=some (.string s)∧cur.cell? ⟨X,1,none⟩=some (.int .i64 a))) (z:=21) (by kernel_rfl) ?_ (fun hHeld => ?_)
    ·exact ⟨hX0,hX1⟩
    refine b7.t 0 ?_; refine b7.t 1 ?_; refine b7.t 2 ?_; refine b7.t 3 ?_; refine b7.t 4 ?_; refine b7.t 5 ?_; refine b7.t 6 ?_; refine b7.t 7 ?_; refine b7.t 8 ?_; refine b7.t 9 ?_; refine b7.t 10 ?_; refine b7.t 11 ?_; refine b7.t 12 ?_; refine b7.t 13 ?_; refine b7.t 14 ?_
    clear e1 e2 e3 e4 e5
    refine b7.nx 15 fun K hK => ?_
    go_simp
    (with_reducible refine Calls.mono (CP.out _) ?_)
    rintro e w3 ⟨hb3,rfl⟩
    have B3:=hid (show Below w2.heap.size w2 w3 from ⟨hb3.os,hb3.tape,hb3.output,hb3.size,hb3.block⟩)
    have HB3:=hid (show w3.heap[tb]?=some (.cells #[.int .i64 6,.string ⟨#[]⟩,.int .i64 0,.int .i64 a] 79 (0,0)) from (B3.out.block tb (by have:=hz2.out; omega)).trans HB2)
    have HS3:=hid (HS2.out.below B3)
    have hz3:=hid (show tb + 1≤w3.heap.size from Nat.le_trans hz2 B3.out.size)
    clear hb3 CP hX0 hX1 hHeld
    obtain ⟨hX0,hX1⟩:=HS3.out.sb
    go_wp2_with fail
    refine hK.out _ _ ?_ (fun hHeld => ?_)
    ·exact ⟨hX0,hX1⟩
    clear hK K
    try simp only [Act.put,c9,f8,f7]
    refine b7.t 16 ?_; refine b7.t 17 ?_; refine b7.t 18 ?_; refine b7.t 19 ?_
    have c2' : w3.cell? ⟨tb,2,none⟩=some (.int .i64 0):=by simp [World.cell?,HB3.out]
    have f2' : w3.frozen? ⟨tb,2,none⟩=false:=by simp [World.frozen?,HB3.out]
    have hn1 : ¬ X=tb:=by omega
    have hn2 : ¬ tb=X:=by omega
    refine b7.nx 20 fun K hK => ?_
    go_simp
    refine hK.out _ _ ?_ (fun hHeld => ?_)
    ·exact ⟨by simp [World.cell?_setCell_other, *],by simp [World.cell?_setCell_other, *]⟩
    clear hK K
    try simp only [Act.put,c9,f8,f7]
    refine b7.la fun K hK => ?_
    go_simp
    refine hK.out _ _ ?_
    clear hK K hHeld c2' f2'
    obtain ⟨W4,hW4⟩ : ∃ V,V=w3.setCell ⟨tb,2,none⟩ (.int .i64 v):=⟨_,rfl⟩
    have BW4:=hid (show Below tb w W4 from hW4 ▸ (((HTB.out ▸ B1.out).trans ((B2.out.mono (by have:=HZ1.out; omega)).trans (B3.out.mono (by have:=hz2.out; omega)))).setCell (p:=⟨tb,2,none⟩) (Nat.le_refl _) _))
    have HB4:=hid (show W4.heap[tb]?=some (.cells #[.int .i64 6,.string ⟨#[]⟩,.int .i64 v,.int .i64 a] 79 (0,0)) from hW4 ▸ l5 HB3 2 _)
    have HZ4:=hid (show tb + 1≤W4.heap.size by rw [hW4]; simp [World.setCell]; exact hz3)
    rw [← hW4]
    clear hW4 hn1 hn2 HB3 HS3
    have HS4:=hid (HSW.out.below (HTB.out ▸ BW4.out))
    have hat0 : W4.heap[X]?=some (.cells #[.string s,.int .i64 a,.map (some M),.slice ao ts.length cp,.pointer none] 109 (0,0)):=(BW4.out.block X hXtb).trans HATw
    have how0 : W4.ownsRow (X + 1) 79 4 (.slice ao ts.length cp) ts.length (l8 ts):=n7 HOWw (HTB.out ▸ BW4.out)
    have hXW : X<W4.heap.size:=by have:=HZ4.out; omega
    have HMORE:=hid (show ∀ vv : World,(∀ b,b<W4.heap.size→(Value.slice ao ts.length cp).ownBlock≠some b→vv.heap[b]?=W4.heap[b]?)→(vv.cell? ⟨tb,0,none⟩=some (.int .i64 6)∧vv.cell? ⟨tb,1,none⟩=some (.string ⟨#[]⟩)∧vv.cell? ⟨tb,2,none⟩=some (.int .i64 v)∧vv.cell? ⟨tb,3,none⟩=some (.int .i64 a)) from fun vv hv => by
     have h':=(hv tb (by have:=HZ4.out; omega) (fun e => by have:=HOB.out tb e; omega)).trans HB4
     refine ⟨?_,?_,?_,?_⟩ <;> simp [World.cell?,h'])
    clear hX0 hX1
    go_upto_region 11 with fail
    have HAT0:=hid hat0
    have HOW0:=hid how0
    have HKY0:=hid HS4.out.keys
    have HSI:=hid (show (W4.cell? ⟨X,3,none⟩=some (.slice ao ts.length cp)∧W4.cell? ⟨X,1,none⟩=some (.int .i64 a)∧W4.cell? ⟨X,0,none⟩=some (.string s))∧((W4.cell? ⟨tb,0,none⟩=some (.int .i64 6)∧W4.cell? ⟨tb,1,none⟩=some (.string ⟨#[]⟩)∧W4.cell? ⟨tb,2,none⟩=some (.int .i64 v)∧W4.cell? ⟨tb,3,none⟩=some (.int .i64 a))) from ⟨⟨by simp [World.cell?,hat0],by simp [World.cell?,hat0],by simp [World.cell?,hat0]⟩,(HMORE.out W4 (fun _ _ _ => rfl))⟩)
    have HSB:=hid (show ∀ vv : World,(∀ b,b<W4.heap.size→(Value.slice ao ts.length cp).ownBlock≠some b→vv.heap[b]?=W4.heap[b]?)→vv.cell? ⟨X,3,none⟩=some (.slice ao ts.length cp)∧vv.cell? ⟨X,1,none⟩=some (.int .i64 a)∧vv.cell? ⟨X,0,none⟩=some (.string s)∧(vv.cell? ⟨tb,0,none⟩=some (.int .i64 6)∧vv.cell? ⟨tb,1,none⟩=some (.string ⟨#[]⟩)∧vv.cell? ⟨tb,2,none⟩=some (.int .i64 v)∧vv.cell? ⟨tb,3,none⟩=some (.int .i64 a)) from fun vv hv => by
     have hX : ∀ i,vv.cell? ⟨X,i,none⟩=W4.cell? ⟨X,i,none⟩:=fun i => World.cell?_of_block (hv X hXW (fun e => by have:=(how0.lt X e).1; omega))
     exact ⟨(hX 3).trans HSI.out.1.1,(hX 1).trans HSI.out.1.2.1,(hX 0).trans HSI.out.1.2.2,HMORE.out vv hv⟩)
    clear hat0 how0
    refine e8 (S:=(fun cur : World => cur.cell? ⟨X,3,none⟩=some (.slice ao ts.length cp)∧cur.cell? ⟨X,1,none⟩=some (.int .i64 a)∧cur.cell? ⟨X,0,none⟩=some (.string s)∧(cur.cell? ⟨tb,0,none⟩=some (.int .i64 6)∧cur.cell? ⟨tb,1,none⟩=some (.string ⟨#[]⟩)∧cur.cell? ⟨tb,2,none⟩=some (.int .i64 v)∧cur.cell? ⟨tb,3,none⟩=some (.int .i64 a)))) (z:=10) (by kernel_rfl) ?_ (fun hHeld => ?_)
    ·exact HSB.out W4.drew (fun b _ _ => rfl)
    refine b7.t 0 ?_; refine b7.t 1 ?_; refine b7.t 2 ?_; refine b7.t 3 ?_; refine b7.t 4 ?_; refine b7.t 5 ?_
    refine b7.nx 6 fun K hK => ?_
    go_simp
    obtain ⟨W5,hW5⟩ : ∃ V,V=(W4.alloc (.cells #[.int .i64 6,.string ⟨#[]⟩,.int .i64 v,.int .i64 a] 79)).drew:=⟨_,rfl⟩
    have B5:=hid (show Below W4.heap.size W4 W5 from hW5 ▸ A7 (c6 _ _))
    have hz5 : W5.heap.size=W4.heap.size + 1:=by rw [hW5]; show (W4.alloc _).heap.size=_; simp
    have N5:=hid (show ∀ j u,(n6 (⟨6,[],v,a⟩ : Tk))[j]?=some u→W5.cell? ((⟨W4.heap.size,0,none⟩ : Addr).add j)=some u from hW5 ▸ x8 W4 _ _ _ _ _)
    have O5:=hid (show W5.ownsRow (X + 1) 79 4 (.slice ao ts.length cp) ts.length (l8 ts) from n7 HOW0 B5)
    rw [← hW5]
    clear hW5
    refine hK.out _ _ ?_ (fun hHeld => ?_)
    ·exact HSB.out W5 (fun b hb _ => B5.out.block b hb)
    clear hK K
    try simp only [Act.put,c9,f8,f7]
    refine b7.nx 7 fun K hK => ?_
    refine step_append_lies _ rfl _ _ 70 rfl (X + 1) 79 i0 (.agg #[.int .i64 0,.string ⟨#[]⟩,.int .i64 0,.int .i64 0]) 4 40 Tryz.underlying70 HI0.out.1 HI0.out.2.1 HI0.out.2.2.1 HI0.out.2.2.2 rfl (by decide) _ _ _ rfl O5 ⟨W4.heap.size,0,none⟩ 1 1 (n6 (⟨6,[],v,a⟩ : Tk)) rfl rfl N5 (bS _) (by decide) (by unfold maxLen; omega) (by omega) (by omega) _ rfl ?_
    intro gb cap' w6 hown' hgrow' hat' hltg
    have HG6:=hid hgrow'
    have HO6:=hid hown'
    have HX6:=hid (show w6.heap[X]?=some (.cells #[.string s,.int .i64 a,.map (some M),.slice ao ts.length cp,.pointer none] 109 (0,0)) from (hgrow'.block X (by omega) (fun e => by have:=(HOW0.out.lt X e.symm).1; omega)).trans ((B5.out.block X hXW).trans HAT0))
    clear hown' hgrow' hat' hltg
    refine hK.out _ _ ?_ (fun hHeld => ?_)
    ·exact HSB.out w6 (fun b hb hne => (HG6.out.block b (by omega) (fun e => hne e.symm)).trans (B5.out.block b hb))
    clear hK K
    try simp only [Act.put,c9,f8,f7]
    refine b7.nx 8 fun K hK => ?_
    go_simp
    refine hK.out _ _ ?_ (fun hHeld => ?_)
    ·exact hHeld
    clear hK K
    try simp only [Act.put,c9,f8,f7]
    refine b7.nx 9 fun K hK => ?_
    go_simp
    refine hK.out _ _ ?_ (fun hHeld => ?_)
    ·exact hHeld
    clear hK K
    try simp only [Act.put,c9,f8,f7]
    have hX3 : w6.cell? ⟨X,3,none⟩=some (.slice ao ts.length cp):=by simp [World.cell?,HX6.out]
    have hf6 : w6.frozen? ⟨X,3,none⟩=false:=by simp [World.frozen?,HX6.out]
    have hX6l : X<w6.heap.size:=(Array.getElem?_eq_some_iff.1 HX6).1
    refine b7.la fun K hK => ?_
    go_simp
    refine hK.out _ _ ?_
    clear hK K hHeld
    obtain ⟨W7,hW7⟩ : ∃ V,V=w6.setCell ⟨X,3,none⟩ (.slice (some ⟨gb,0,none⟩) (ts.length + 1) cap'):=⟨_,rfl⟩
    have Z7:=hid (show SC X M s a (ts ++ [(⟨6,[],v,a⟩ : Tk)]) W7∧Below X W4 W7 from hW7 ▸ O8 hMX hXW HOW0 HKY0 B5 HX6 HO6 HG6)
    have HS7:=hid Z7.out.1
    have BX7:=hid Z7.out.2
    rw [← hW7]
    clear hW7 hX3 hf6 hX6l HX6 HO6 HG6 O5 N5 B5 HSB HSI HAT0 HOW0 HKY0 Z7
    have BX:=hid (show Below X w W7 from (BW4.out.mono (by omega)).trans BX7)
    obtain ⟨hX0,hX1⟩:=HS7.out.sb
    have CE:=hid (F6 X s a (a + r) W7 HS7.out.sb)
    rw [← List.drop_drop,show ((a + r : Nat) : Int)=(a : Int) + r by omega] at CE
    clear HB4 HS4 BW4 BX7 HMORE
    have NE:=hid (a1E (((s.data.toList.drop a).drop r).headD 0))
    generalize ((s.data.toList.drop a).drop r).headD 0=c3 at CE N NE
    cases g1 : smI c3.toNat
    case true =>
     have R:=hid (N.out.trans (if_neg (by rw [NE.out,g1]; simp)))
     go_wp2_with (first | ((with_reducible refine Calls.mono CE.out ?_); rintro e w5 ⟨rfl,hw⟩; rw [← hw]; clear hw w5) | (go_at_call 116; refine (o5 _ _).mono ?_; rintro e w' ⟨rfl,hw⟩; rw [← hw,g1]; clear hw w'))
     go_ret2
     exact o4 R (by decide) BX HS7
    cases g2 : grI c3.toNat
    case true =>
     have R:=hid (N.out.trans (if_neg (by rw [NE.out,g1,g2]; simp)))
     go_wp2_with (first | ((with_reducible refine Calls.mono CE.out ?_); rintro e w5 ⟨rfl,hw⟩; rw [← hw]; clear hw w5) | (go_at_call 116; refine (o5 _ _).mono ?_; rintro e w' ⟨rfl,hw⟩; rw [← hw,g1]; clear hw w') | (go_at_call 121; refine (H8 _ _).mono ?_; rintro e w' ⟨rfl,hw⟩; rw [← hw,g2]; clear hw w'))
     go_ret2
     exact o4 R (by decide) BX HS7
    cases g3 : ((c3.toNat : Int) == 95)
    case true =>
     have R:=hid (N.out.trans (if_neg (by rw [NE.out,g1,g2,g3]; simp)))
     go_wp2_with (first | ((with_reducible refine Calls.mono CE.out ?_); rintro e w5 ⟨rfl,hw⟩; rw [← hw]; clear hw w5) | (go_at_call 116; refine (o5 _ _).mono ?_; rintro e w' ⟨rfl,hw⟩; rw [← hw,g1]; clear hw w') | (go_at_call 121; refine (H8 _ _).mono ?_; rintro e w' ⟨rfl,hw⟩; rw [← hw,g2]; clear hw w'))
     go_ret2
     exact o4 R (by decide) BX HS7
    cases g4 : ((c3.toNat : Int) == 46)
    case true =>
     have R:=hid (N.out.trans (if_neg (by rw [NE.out,g1,g2,g3,g4]; simp)))
     go_wp2_with (first | ((with_reducible refine Calls.mono CE.out ?_); rintro e w5 ⟨rfl,hw⟩; rw [← hw]; clear hw w5) | (go_at_call 116; refine (o5 _ _).mono ?_; rintro e w' ⟨rfl,hw⟩; rw [← hw,g1]; clear hw w') | (go_at_call 121; refine (H8 _ _).mono ?_; rintro e w' ⟨rfl,hw⟩; rw [← hw,g2]; clear hw w'))
     go_ret2
     exact o4 R (by decide) BX HS7
    have R:=hid (N.out.trans (if_pos (by rw [NE.out,g1,g2,g3,g4]; rfl)))
    go_wp2_with (first | ((with_reducible refine Calls.mono CE.out ?_); rintro e w5 ⟨rfl,hw⟩; rw [← hw]; clear hw w5) | (go_at_call 116; refine (o5 _ _).mono ?_; rintro e w' ⟨rfl,hw⟩; rw [← hw,g1]; clear hw w') | (go_at_call 121; refine (H8 _ _).mono ?_; rintro e w' ⟨rfl,hw⟩; rw [← hw,g2]; clear hw w'))
    go_ret2
    exact aR R BX rfl rfl HS7
 case true =>
  rw [hd] at C2 HLD
  go_wp2_with fail
  (with_reducible refine Calls.mono C2.out ?_)
  rintro e w2 ⟨rfl,hb2⟩
  have B2:=hid hb2
  have HS2:=hid (HS1.out.below hb2)
  have hz2:=hid (show tb + 1≤w2.heap.size by have:=hb2.size; have:=HZ1.out; omega)
  have HB2:=hid (show w2.heap[tb]?=some (.cells #[.int .i64 6,.string ⟨#[]⟩,.int .i64 0,.int .i64 a] 79 (0,0)) from (hb2.block tb (by have:=HZ1.out; omega)).trans HB1)
  clear hb2 C2 hX0 hX1 HB1
  obtain ⟨hX0,hX1⟩:=HS2.out.sb
  replace N:=hid (N1.out hd)
  clear N1 N0 hd
  have hrs : a + 10≤s.size:=HLD.out (by trivial)
  have CP:=hid (fun (v : World) => a3c (s.extract a (a + 10)) v)
  have hday:=yY (s.extract a (a + 10))
  rw [show (s.extract a (a + 10)).data.toList=(s.data.toList.drop a).take 10 by rw [s7,Nat.add_sub_cancel_left]] at hday
  clear NR hD2 hn HLD
  rcases hday with ⟨v,hdp,hrv,hre⟩ | ⟨hdp,hre⟩
  case' inl =>
   rw [hdp] at N
   rw [hrv,hre] at CP
   clear hdp hrv hre
   go_upto_region 6 with fail
   have e2 : (0 : Int)≤(a : Int) + 10:=by omega
   have e3 : ((a : Int) + 10).toNat=a + 10:=by omega
   have e4 : (a : Int)≤(a : Int) + 10:=by omega
   have e5 : (a : Int) + 10≤s.size:=by omega
   have e1 : IntKind.i64.wrap ((a : Int) + 10)=(a : Int) + 10:=IntWalk.i64_in _ (by omega)
   refine e8 (S:=(fun cur : World => cur.cell? ⟨X,0,none⟩=some (.string s)∧cur.cell? ⟨X,1,none⟩=some (.int .i64 a))) (z:=20) (by kernel_rfl) ?_ (fun hHeld => ?_)
   ·exact ⟨hX0,hX1⟩
   refine b7.t 0 ?_; refine b7.t 1 ?_; refine b7.t 2 ?_; refine b7.t 3 ?_; refine b7.t 4 ?_; refine b7.t 5 ?_; refine b7.t 6 ?_; refine b7.t 7 ?_; refine b7.t 8 ?_; refine b7.t 9 ?_; refine b7.t 10 ?_; refine b7.t 11 ?_; refine b7.t 12 ?_; refine b7.t 13 ?_; refine b7.t 14 ?_
   clear e1 e2 e3 e4 e5
   refine b7.nx 15 fun K hK => ?_
   go_simp
   (with_reducible refine Calls.mono (CP.out _) ?_)
   rintro e w3 ⟨rfl,hb3⟩
   have B3:=hid (show Below w2.heap.size w2 w3 from ⟨hb3.os,hb3.tape,hb3.output,hb3.size,hb3.block⟩)
   have HB3:=hid (show w3.heap[tb]?=some (.cells #[.int .i64 6,.string ⟨#[]⟩,.int .i64 0,.int .i64 a] 79 (0,0)) from (B3.out.block tb (by have:=hz2.out; omega)).trans HB2)
   have HS3:=hid (HS2.out.below B3)
   have hz3:=hid (show tb + 1≤w3.heap.size from Nat.le_trans hz2 B3.out.size)
   clear hb3 CP hX0 hX1 hHeld
   obtain ⟨hX0,hX1⟩:=HS3.out.sb
   go_wp2_with fail
   refine hK.out _ _ ?_ (fun hHeld => ?_)
   ·exact ⟨hX0,hX1⟩
   clear hK K
   try simp only [Act.put,c9,f8,f7]
   refine b7.t 16 ?_; refine b7.t 17 ?_; refine b7.t 18 ?_
   refine b7.nx 19 fun K hK => ?_
   go_simp
   refine hK.out _ _ ?_ (fun hHeld => ?_)
   ·exact ⟨hX0,hX1⟩
   clear hK K
   try simp only [Act.put,c9,f8,f7]
   refine b7.la fun K hK => ?_
   go_simp
   refine hK.out _ _ ?_
   clear hK K hHeld
   have c0' : w3.cell? ⟨tb,0,none⟩=some (.int .i64 6):=by simp [World.cell?,HB3.out]
   have f0' : w3.frozen? ⟨tb,0,none⟩=false:=by simp [World.frozen?,HB3.out]
   have c2' : w3.cell? ⟨tb,2,none⟩=some (.int .i64 0):=by simp [World.cell?,HB3.out]
   have f2' : w3.frozen? ⟨tb,2,none⟩=false:=by simp [World.frozen?,HB3.out]
   go_upto_region 11 with fail
   obtain ⟨W4,hW4⟩ : ∃ V,V=(w3.setCell ⟨tb,0,none⟩ (.int .i64 5)).setCell ⟨tb,2,none⟩ (.int .i64 v):=⟨_,rfl⟩
   have BW4:=hid (show Below tb w W4 from hW4 ▸ ((((HTB.out ▸ B1.out).trans ((B2.out.mono (by have:=HZ1.out; omega)).trans (B3.out.mono (by have:=hz2.out; omega)))).setCell (p:=⟨tb,0,none⟩) (Nat.le_refl _) _).setCell (p:=⟨tb,2,none⟩) (Nat.le_refl _) _))
   have HB4:=hid (show W4.heap[tb]?=some (.cells #[.int .i64 5,.string ⟨#[]⟩,.int .i64 v,.int .i64 a] 79 (0,0)) from hW4 ▸ l5 (l5 HB3 0 _) 2 _)
   have HZ4:=hid (show tb + 1≤W4.heap.size by rw [hW4]; simp [World.setCell]; exact hz3)
   rw [← hW4]
   clear hW4 HB3 HS3 c0' f0' c2' f2'
   have HS4:=hid (HSW.out.below (HTB.out ▸ BW4.out))
   have hat0 : W4.heap[X]?=some (.cells #[.string s,.int .i64 a,.map (some M),.slice ao ts.length cp,.pointer none] 109 (0,0)):=(BW4.out.block X hXtb).trans HATw
   have how0 : W4.ownsRow (X + 1) 79 4 (.slice ao ts.length cp) ts.length (l8 ts):=n7 HOWw (HTB.out ▸ BW4.out)
   have hXW : X<W4.heap.size:=by have:=HZ4.out; omega
   have HMORE:=hid (show ∀ vv : World,(∀ b,b<W4.heap.size→(Value.slice ao ts.length cp).ownBlock≠some b→vv.heap[b]?=W4.heap[b]?)→(vv.cell? ⟨tb,0,none⟩=some (.int .i64 5)∧vv.cell? ⟨tb,1,none⟩=some (.string ⟨#[]⟩)∧vv.cell? ⟨tb,2,none⟩=some (.int .i64 v)∧vv.cell? ⟨tb,3,none⟩=some (.int .i64 a)) from fun vv hv => by
    have h':=(hv tb (by have:=HZ4.out; omega) (fun e => by have:=HOB.out tb e; omega)).trans HB4
    refine ⟨?_,?_,?_,?_⟩ <;> simp [World.cell?,h'])
   clear hX0 hX1
   have HAT0:=hid hat0
   have HOW0:=hid how0
   have HKY0:=hid HS4.out.keys
   have HSI:=hid (show (W4.cell? ⟨X,3,none⟩=some (.slice ao ts.length cp)∧W4.cell? ⟨X,1,none⟩=some (.int .i64 a)∧W4.cell? ⟨X,0,none⟩=some (.string s))∧((W4.cell? ⟨tb,0,none⟩=some (.int .i64 5)∧W4.cell? ⟨tb,1,none⟩=some (.string ⟨#[]⟩)∧W4.cell? ⟨tb,2,none⟩=some (.int .i64 v)∧W4.cell? ⟨tb,3,none⟩=some (.int .i64 a))) from ⟨⟨by simp [World.cell?,hat0],by simp [World.cell?,hat0],by simp [World.cell?,hat0]⟩,(HMORE.out W4 (fun _ _ _ => rfl))⟩)
   have HSB:=hid (show ∀ vv : World,(∀ b,b<W4.heap.size→(Value.slice ao ts.length cp).ownBlock≠some b→vv.heap[b]?=W4.heap[b]?)→vv.cell? ⟨X,3,none⟩=some (.slice ao ts.length cp)∧vv.cell? ⟨X,1,none⟩=some (.int .i64 a)∧vv.cell? ⟨X,0,none⟩=some (.string s)∧(vv.cell? ⟨tb,0,none⟩=some (.int .i64 5)∧vv.cell? ⟨tb,1,none⟩=some (.string ⟨#[]⟩)∧vv.cell? ⟨tb,2,none⟩=some (.int .i64 v)∧vv.cell? ⟨tb,3,none⟩=some (.int .i64 a)) from fun vv hv => by
    have hX : ∀ i,vv.cell? ⟨X,i,none⟩=W4.cell? ⟨X,i,none⟩:=fun i => World.cell?_of_block (hv X hXW (fun e => by have:=(how0.lt X e).1; omega))
    exact ⟨(hX 3).trans HSI.out.1.1,(hX 1).trans HSI.out.1.2.1,(hX 0).trans HSI.out.1.2.2,HMORE.out vv hv⟩)
   clear hat0 how0
   refine e8 (S:=(fun cur : World => cur.cell? ⟨X,3,none⟩=some (.slice ao ts.length cp)∧cur.cell? ⟨X,1,none⟩=some (.int .i64 a)∧cur.cell? ⟨X,0,none⟩=some (.string s)∧(cur.cell? ⟨tb,0,none⟩=some (.int .i64 5)∧cur.cell? ⟨tb,1,none⟩=some (.string ⟨#[]⟩)∧cur.cell? ⟨tb,2,none⟩=some (.int .i64 v)∧cur.cell? ⟨tb,3,none⟩=some (.int .i64 a)))) (z:=10) (by kernel_rfl) ?_ (fun hHeld => ?_)
   ·exact HSB.out W4.drew (fun b _ _ => rfl)
   refine b7.t 0 ?_; refine b7.t 1 ?_; refine b7.t 2 ?_; refine b7.t 3 ?_; refine b7.t 4 ?_; refine b7.t 5 ?_
   refine b7.nx 6 fun K hK => ?_
   go_simp
   obtain ⟨W5,hW5⟩ : ∃ V,V=(W4.alloc (.cells #[.int .i64 5,.string ⟨#[]⟩,.int .i64 v,.int .i64 a] 79)).drew:=⟨_,rfl⟩
   have B5:=hid (show Below W4.heap.size W4 W5 from hW5 ▸ A7 (c6 _ _))
   have hz5 : W5.heap.size=W4.heap.size + 1:=by rw [hW5]; show (W4.alloc _).heap.size=_; simp
   have N5:=hid (show ∀ j u,(n6 (⟨5,[],v,a⟩ : Tk))[j]?=some u→W5.cell? ((⟨W4.heap.size,0,none⟩ : Addr).add j)=some u from hW5 ▸ x8 W4 _ _ _ _ _)
   have O5:=hid (show W5.ownsRow (X + 1) 79 4 (.slice ao ts.length cp) ts.length (l8 ts) from n7 HOW0 B5)
   rw [← hW5]
   clear hW5
   refine hK.out _ _ ?_ (fun hHeld => ?_)
   ·exact HSB.out W5 (fun b hb _ => B5.out.block b hb)
   clear hK K
   try simp only [Act.put,c9,f8,f7]
   refine b7.nx 7 fun K hK => ?_
   refine step_append_lies _ rfl _ _ 70 rfl (X + 1) 79 i0 (.agg #[.int .i64 0,.string ⟨#[]⟩,.int .i64 0,.int .i64 0]) 4 40 Tryz.underlying70 HI0.out.1 HI0.out.2.1 HI0.out.2.2.1 HI0.out.2.2.2 rfl (by decide) _ _ _ rfl O5 ⟨W4.heap.size,0,none⟩ 1 1 (n6 (⟨5,[],v,a⟩ : Tk)) rfl rfl N5 (bS _) (by decide) (by unfold maxLen; omega) (by omega) (by omega) _ rfl ?_
   intro gb cap' w6 hown' hgrow' hat' hltg
   have HG6:=hid hgrow'
   have HO6:=hid hown'
   have HX6:=hid (show w6.heap[X]?=some (.cells #[.string s,.int .i64 a,.map (some M),.slice ao ts.length cp,.pointer none] 109 (0,0)) from (hgrow'.block X (by omega) (fun e => by have:=(HOW0.out.lt X e.symm).1; omega)).trans ((B5.out.block X hXW).trans HAT0))
   clear hown' hgrow' hat' hltg
   refine hK.out _ _ ?_ (fun hHeld => ?_)
   ·exact HSB.out w6 (fun b hb hne => (HG6.out.block b (by omega) (fun e => hne e.symm)).trans (B5.out.block b hb))
   clear hK K
   try simp only [Act.put,c9,f8,f7]
   refine b7.nx 8 fun K hK => ?_
   go_simp
   refine hK.out _ _ ?_ (fun hHeld => ?_)
   ·exact hHeld
   clear hK K
   try simp only [Act.put,c9,f8,f7]
   refine b7.nx 9 fun K hK => ?_
   go_simp
   refine hK.out _ _ ?_ (fun hHeld => ?_)
   ·exact hHeld
   clear hK K
   try simp only [Act.put,c9,f8,f7]
   have hX3 : w6.cell? ⟨X,3,none⟩=some (.slice ao ts.length cp):=by simp [World.cell?,HX6.out]
   have hf6 : w6.frozen? ⟨X,3,none⟩=false:=by simp [World.frozen?,HX6.out]
   have hX6l : X<w6.heap.size:=(Array.getElem?_eq_some_iff.1 HX6).1
   refine b7.la fun K hK => ?_
   go_simp
   refine hK.out _ _ ?_
   clear hK K hHeld
   obtain ⟨W7,hW7⟩ : ∃ V,V=w6.setCell ⟨X,3,none⟩ (.slice (some ⟨gb,0,none⟩) (ts.length + 1) cap'):=⟨_,rfl⟩
   have Z7:=hid (show SC X M s a (ts ++ [(⟨5,[],v,a⟩ : Tk)]) W7∧Below X W4 W7 from hW7 ▸ O8 hMX hXW HOW0 HKY0 B5 HX6 HO6 HG6)
   have HS7:=hid Z7.out.1
   have BX7:=hid Z7.out.2
   rw [← hW7]
   clear hW7 hX3 hf6 hX6l HX6 HO6 HG6 O5 N5 B5 HSB HSI HAT0 HOW0 HKY0 Z7
   have BX:=hid (show Below X w W7 from (BW4.out.mono (by omega)).trans BX7)
   obtain ⟨hX0,hX1⟩:=HS7.out.sb
   have CE:=hid (F6 X s a (a + 10) W7 HS7.out.sb)
   rw [← List.drop_drop,show ((a + 10 : Nat) : Int)=(a : Int) + 10 by omega] at CE
   clear HB4 HS4 BW4 BX7 HMORE
   have NE:=hid (a1E (((s.data.toList.drop a).drop 10).headD 0))
   generalize ((s.data.toList.drop a).drop 10).headD 0=c3 at CE N NE
   cases g1 : smI c3.toNat
   case true =>
    have R:=hid (N.out.trans (if_neg (by rw [NE.out,g1]; simp)))
    go_wp2_with (first | ((with_reducible refine Calls.mono CE.out ?_); rintro e w5 ⟨rfl,hw⟩; rw [← hw]; clear hw w5) | (go_at_call 116; refine (o5 _ _).mono ?_; rintro e w' ⟨rfl,hw⟩; rw [← hw,g1]; clear hw w'))
    go_ret2
    exact o4 R (by decide) BX HS7
   cases g2 : grI c3.toNat
   case true =>
    have R:=hid (N.out.trans (if_neg (by rw [NE.out,g1,g2]; simp)))
    go_wp2_with (first | ((with_reducible refine Calls.mono CE.out ?_); rintro e w5 ⟨rfl,hw⟩; rw [← hw]; clear hw w5) | (go_at_call 116; refine (o5 _ _).mono ?_; rintro e w' ⟨rfl,hw⟩; rw [← hw,g1]; clear hw w') | (go_at_call 121; refine (H8 _ _).mono ?_; rintro e w' ⟨rfl,hw⟩; rw [← hw,g2]; clear hw w'))
    go_ret2
    exact o4 R (by decide) BX HS7
   cases g3 : ((c3.toNat : Int) == 95)
   case true =>
    have R:=hid (N.out.trans (if_neg (by rw [NE.out,g1,g2,g3]; simp)))
    go_wp2_with (first | ((with_reducible refine Calls.mono CE.out ?_); rintro e w5 ⟨rfl,hw⟩; rw [← hw]; clear hw w5) | (go_at_call 116; refine (o5 _ _).mono ?_; rintro e w' ⟨rfl,hw⟩; rw [← hw,g1]; clear hw w') | (go_at_call 121; refine (H8 _ _).mono ?_; rintro e w' ⟨rfl,hw⟩; rw [← hw,g2]; clear hw w'))
    go_ret2
    exact o4 R (by decide) BX HS7
   cases g4 : ((c3.toNat : Int) == 46)
   case true =>
    have R:=hid (N.out.trans (if_neg (by rw [NE.out,g1,g2,g3,g4]; simp)))
    go_wp2_with (first | ((with_reducible refine Calls.mono CE.out ?_); rintro e w5 ⟨rfl,hw⟩; rw [← hw]; clear hw w5) | (go_at_call 116; refine (o5 _ _).mono ?_; rintro e w' ⟨rfl,hw⟩; rw [← hw,g1]; clear hw w') | (go_at_call 121; refine (H8 _ _).mono ?_; rintro e w' ⟨rfl,hw⟩; rw [← hw,g2]; clear hw w'))
    go_ret2
    exact o4 R (by decide) BX HS7
   have R:=hid (N.out.trans (if_pos (by rw [NE.out,g1,g2,g3,g4]; rfl)))
   go_wp2_with (first | ((with_reducible refine Calls.mono CE.out ?_); rintro e w5 ⟨rfl,hw⟩; rw [← hw]; clear hw w5) | (go_at_call 116; refine (o5 _ _).mono ?_; rintro e w' ⟨rfl,hw⟩; rw [← hw,g1]; clear hw w') | (go_at_call 121; refine (H8 _ _).mono ?_; rintro e w' ⟨rfl,hw⟩; rw [← hw,g2]; clear hw w'))
   go_ret2
   exact aR R BX rfl rfl HS7
  case' inr =>
   rw [hdp] at N
   rw [hre] at CP
   generalize qX (s.extract a (a + 10))=v at CP
   clear hdp hre
   go_upto_region 6 with fail
   have e2 : (0 : Int)≤(a : Int) + 10:=by omega
   have e3 : ((a : Int) + 10).toNat=a + 10:=by omega
   have e4 : (a : Int)≤(a : Int) + 10:=by omega
   have e5 : (a : Int) + 10≤s.size:=by omega
   have e1 : IntKind.i64.wrap ((a : Int) + 10)=(a : Int) + 10:=IntWalk.i64_in _ (by omega)
   refine e8 (S:=(fun cur : World => cur.cell? ⟨X,0,none⟩=some (.string s)∧cur.cell? ⟨X,1,none⟩=some (.int .i64 a))) (z:=20) (by kernel_rfl) ?_ (fun hHeld => ?_)
   ·exact ⟨hX0,hX1⟩
   refine b7.t 0 ?_; refine b7.t 1 ?_; refine b7.t 2 ?_; refine b7.t 3 ?_; refine b7.t 4 ?_; refine b7.t 5 ?_; refine b7.t 6 ?_; refine b7.t 7 ?_; refine b7.t 8 ?_; refine b7.t 9 ?_; refine b7.t 10 ?_; refine b7.t 11 ?_; refine b7.t 12 ?_; refine b7.t 13 ?_; refine b7.t 14 ?_
   clear e1 e2 e3 e4 e5
   refine b7.nx 15 fun K hK => ?_
   go_simp
   (with_reducible refine Calls.mono (CP.out _) ?_)
   rintro e w3 ⟨rfl,hb3⟩
   have B3:=hid (show Below w2.heap.size w2 w3 from ⟨hb3.os,hb3.tape,hb3.output,hb3.size,hb3.block⟩)
   have HB3:=hid (show w3.heap[tb]?=some (.cells #[.int .i64 6,.string ⟨#[]⟩,.int .i64 0,.int .i64 a] 79 (0,0)) from (B3.out.block tb (by have:=hz2.out; omega)).trans HB2)
   have HS3:=hid (HS2.out.below B3)
   have hz3:=hid (show tb + 1≤w3.heap.size from Nat.le_trans hz2 B3.out.size)
   clear hb3 CP hX0 hX1 hHeld
   obtain ⟨hX0,hX1⟩:=HS3.out.sb
   go_wp2_with fail
   refine hK.out _ _ ?_ (fun hHeld => ?_)
   ·exact ⟨hX0,hX1⟩
   clear hK K
   try simp only [Act.put,c9,f8,f7]
   refine b7.t 16 ?_; refine b7.t 17 ?_; refine b7.t 18 ?_
   refine b7.nx 19 fun K hK => ?_
   go_simp
   refine hK.out _ _ ?_ (fun hHeld => ?_)
   ·exact ⟨hX0,hX1⟩
   clear hK K
   try simp only [Act.put,c9,f8,f7]
   refine b7.la fun K hK => ?_
   go_simp
   refine hK.out _ _ ?_
   clear hK K hHeld
   have c0' : w3.cell? ⟨tb,0,none⟩=some (.int .i64 6):=by simp [World.cell?,HB3.out]
   have f0' : w3.frozen? ⟨tb,0,none⟩=false:=by simp [World.frozen?,HB3.out]
   have c2' : w3.cell? ⟨tb,2,none⟩=some (.int .i64 0):=by simp [World.cell?,HB3.out]
   have f2' : w3.frozen? ⟨tb,2,none⟩=false:=by simp [World.frozen?,HB3.out]
   go_upto_region 11 with fail
   obtain ⟨W4,hW4⟩ : ∃ V,V=(w3.setCell ⟨tb,0,none⟩ (.int .i64 5)).setCell ⟨tb,2,none⟩ (.int .i64 v):=⟨_,rfl⟩
   have BW4:=hid (show Below tb w W4 from hW4 ▸ ((((HTB.out ▸ B1.out).trans ((B2.out.mono (by have:=HZ1.out; omega)).trans (B3.out.mono (by have:=hz2.out; omega)))).setCell (p:=⟨tb,0,none⟩) (Nat.le_refl _) _).setCell (p:=⟨tb,2,none⟩) (Nat.le_refl _) _))
   have HB4:=hid (show W4.heap[tb]?=some (.cells #[.int .i64 5,.string ⟨#[]⟩,.int .i64 v,.int .i64 a] 79 (0,0)) from hW4 ▸ l5 (l5 HB3 0 _) 2 _)
   have HZ4:=hid (show tb + 1≤W4.heap.size by rw [hW4]; simp [World.setCell]; exact hz3)
   rw [← hW4]
   clear hW4 HB3 HS3 c0' f0' c2' f2'
   have HS4:=hid (HSW.out.below (HTB.out ▸ BW4.out))
   have hat0 : W4.heap[X]?=some (.cells #[.string s,.int .i64 a,.map (some M),.slice ao ts.length cp,.pointer none] 109 (0,0)):=(BW4.out.block X hXtb).trans HATw
   have how0 : W4.ownsRow (X + 1) 79 4 (.slice ao ts.length cp) ts.length (l8 ts):=n7 HOWw (HTB.out ▸ BW4.out)
   have hXW : X<W4.heap.size:=by have:=HZ4.out; omega
   have HMORE:=hid (show ∀ vv : World,(∀ b,b<W4.heap.size→(Value.slice ao ts.length cp).ownBlock≠some b→vv.heap[b]?=W4.heap[b]?)→(vv.cell? ⟨tb,0,none⟩=some (.int .i64 5)∧vv.cell? ⟨tb,1,none⟩=some (.string ⟨#[]⟩)∧vv.cell? ⟨tb,2,none⟩=some (.int .i64 v)∧vv.cell? ⟨tb,3,none⟩=some (.int .i64 a)) from fun vv hv => by
    have h':=(hv tb (by have:=HZ4.out; omega) (fun e => by have:=HOB.out tb e; omega)).trans HB4
    refine ⟨?_,?_,?_,?_⟩ <;> simp [World.cell?,h'])
   clear hX0 hX1
   have HAT0:=hid hat0
   have HOW0:=hid how0
   have HKY0:=hid HS4.out.keys
   have HSI:=hid (show (W4.cell? ⟨X,3,none⟩=some (.slice ao ts.length cp)∧W4.cell? ⟨X,1,none⟩=some (.int .i64 a)∧W4.cell? ⟨X,0,none⟩=some (.string s))∧((W4.cell? ⟨tb,0,none⟩=some (.int .i64 5)∧W4.cell? ⟨tb,1,none⟩=some (.string ⟨#[]⟩)∧W4.cell? ⟨tb,2,none⟩=some (.int .i64 v)∧W4.cell? ⟨tb,3,none⟩=some (.int .i64 a))) from ⟨⟨by simp [World.cell?,hat0],by simp [World.cell?,hat0],by simp [World.cell?,hat0]⟩,(HMORE.out W4 (fun _ _ _ => rfl))⟩)
   have HSB:=hid (show ∀ vv : World,(∀ b,b<W4.heap.size→(Value.slice ao ts.length cp).ownBlock≠some b→vv.heap[b]?=W4.heap[b]?)→vv.cell? ⟨X,3,none⟩=some (.slice ao ts.length cp)∧vv.cell? ⟨X,1,none⟩=some (.int .i64 a)∧vv.cell? ⟨X,0,none⟩=some (.string s)∧(vv.cell? ⟨tb,0,none⟩=some (.int .i64 5)∧vv.cell? ⟨tb,1,none⟩=some (.string ⟨#[]⟩)∧vv.cell? ⟨tb,2,none⟩=some (.int .i64 v)∧vv.cell? ⟨tb,3,none⟩=some (.int .i64 a)) from fun vv hv => by
    have hX : ∀ i,vv.cell? ⟨X,i,none⟩=W4.cell? ⟨X,i,none⟩:=fun i => World.cell?_of_block (hv X hXW (fun e => by have:=(how0.lt X e).1; omega))
    exact ⟨(hX 3).trans HSI.out.1.1,(hX 1).trans HSI.out.1.2.1,(hX 0).trans HSI.out.1.2.2,HMORE.out vv hv⟩)
   clear hat0 how0
   refine e8 (S:=(fun cur : World => cur.cell? ⟨X,3,none⟩=some (.slice ao ts.length cp)∧cur.cell? ⟨X,1,none⟩=some (.int .i64 a)∧cur.cell? ⟨X,0,none⟩=some (.string s)∧(cur.cell? ⟨tb,0,none⟩=some (.int .i64 5)∧cur.cell? ⟨tb,1,none⟩=some (.string ⟨#[]⟩)∧cur.cell? ⟨tb,2,none⟩=some (.int .i64 v)∧cur.cell? ⟨tb,3,none⟩=some (.int .i64 a)))) (z:=10) (by kernel_rfl) ?_ (fun hHeld => ?_)
   ·exact HSB.out W4.drew (fun b _ _ => rfl)
   refine b7.t 0 ?_; refine b7.t 1 ?_; refine b7.t 2 ?_; refine b7.t 3 ?_; refine b7.t 4 ?_; refine b7.t 5 ?_
   refine b7.nx 6 fun K hK => ?_
   go_simp
   obtain ⟨W5,hW5⟩ : ∃ V,V=(W4.alloc (.cells #[.int .i64 5,.string ⟨#[]⟩,.int .i64 v,.int .i64 a] 79)).drew:=⟨_,rfl⟩
   have B5:=hid (show Below W4.heap.size W4 W5 from hW5 ▸ A7 (c6 _ _))
   have hz5 : W5.heap.size=W4.heap.size + 1:=by rw [hW5]; show (W4.alloc _).heap.size=_; simp
   have N5:=hid (show ∀ j u,(n6 (⟨5,[],v,a⟩ : Tk))[j]?=some u→W5.cell? ((⟨W4.heap.size,0,none⟩ : Addr).add j)=some u from hW5 ▸ x8 W4 _ _ _ _ _)
   have O5:=hid (show W5.ownsRow (X + 1) 79 4 (.slice ao ts.length cp) ts.length (l8 ts) from n7 HOW0 B5)
   rw [← hW5]
   clear hW5
   refine hK.out _ _ ?_ (fun hHeld => ?_)
   ·exact HSB.out W5 (fun b hb _ => B5.out.block b hb)
   clear hK K
   try simp only [Act.put,c9,f8,f7]
   refine b7.nx 7 fun K hK => ?_
   refine step_append_lies _ rfl _ _ 70 rfl (X + 1) 79 i0 (.agg #[.int .i64 0,.string ⟨#[]⟩,.int .i64 0,.int .i64 0]) 4 40 Tryz.underlying70 HI0.out.1 HI0.out.2.1 HI0.out.2.2.1 HI0.out.2.2.2 rfl (by decide) _ _ _ rfl O5 ⟨W4.heap.size,0,none⟩ 1 1 (n6 (⟨5,[],v,a⟩ : Tk)) rfl rfl N5 (bS _) (by decide) (by unfold maxLen; omega) (by omega) (by omega) _ rfl ?_
   intro gb cap' w6 hown' hgrow' hat' hltg
   have HG6:=hid hgrow'
   have HO6:=hid hown'
   have HX6:=hid (show w6.heap[X]?=some (.cells #[.string s,.int .i64 a,.map (some M),.slice ao ts.length cp,.pointer none] 109 (0,0)) from (hgrow'.block X (by omega) (fun e => by have:=(HOW0.out.lt X e.symm).1; omega)).trans ((B5.out.block X hXW).trans HAT0))
   clear hown' hgrow' hat' hltg
   refine hK.out _ _ ?_ (fun hHeld => ?_)
   ·exact HSB.out w6 (fun b hb hne => (HG6.out.block b (by omega) (fun e => hne e.symm)).trans (B5.out.block b hb))
   clear hK K
   try simp only [Act.put,c9,f8,f7]
   refine b7.nx 8 fun K hK => ?_
   go_simp
   refine hK.out _ _ ?_ (fun hHeld => ?_)
   ·exact hHeld
   clear hK K
   try simp only [Act.put,c9,f8,f7]
   refine b7.nx 9 fun K hK => ?_
   go_simp
   refine hK.out _ _ ?_ (fun hHeld => ?_)
   ·exact hHeld
   clear hK K
   try simp only [Act.put,c9,f8,f7]
   have hX3 : w6.cell? ⟨X,3,none⟩=some (.slice ao ts.length cp):=by simp [World.cell?,HX6.out]
   have hf6 : w6.frozen? ⟨X,3,none⟩=false:=by simp [World.frozen?,HX6.out]
   have hX6l : X<w6.heap.size:=(Array.getElem?_eq_some_iff.1 HX6).1
   refine b7.la fun K hK => ?_
   go_simp
   refine hK.out _ _ ?_
   clear hK K hHeld
   obtain ⟨W7,hW7⟩ : ∃ V,V=w6.setCell ⟨X,3,none⟩ (.slice (some ⟨gb,0,none⟩) (ts.length + 1) cap'):=⟨_,rfl⟩
   have Z7:=hid (show SC X M s a (ts ++ [(⟨5,[],v,a⟩ : Tk)]) W7∧Below X W4 W7 from hW7 ▸ O8 hMX hXW HOW0 HKY0 B5 HX6 HO6 HG6)
   have HS7:=hid Z7.out.1
   have BX7:=hid Z7.out.2
   rw [← hW7]
   clear hW7 hX3 hf6 hX6l HX6 HO6 HG6 O5 N5 B5 HSB HSI HAT0 HOW0 HKY0 Z7
   have BX:=hid (show Below X w W7 from (BW4.out.mono (by omega)).trans BX7)
   obtain ⟨hX0,hX1⟩:=HS7.out.sb
   have CE:=hid (F6 X s a (a + 10) W7 HS7.out.sb)
   rw [← List.drop_drop,show ((a + 10 : Nat) : Int)=(a : Int) + 10 by omega] at CE
   clear HB4 HS4 BW4 BX7 HMORE
   go_wp2_with ((with_reducible refine Calls.mono CE.out ?_); rintro e w5 ⟨rfl,hw⟩; rw [← hw]; clear hw w5)
   go_ret2
   exact o4 N (by decide) BX HS7
end
end Go.Proofs.YtibiccacafjjfaaGreatDoor
