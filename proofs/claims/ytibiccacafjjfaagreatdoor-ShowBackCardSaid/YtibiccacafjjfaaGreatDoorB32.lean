/-
  Laws that the proof rests on.
-/
import Derived.Test.YtibiccacafjjfaaGreatDoorB31
import Derived.Test.YtibiccacafjjfaaGreatDoorB30
namespace Go.Proofs.YtibiccacafjjfaaGreatDoor
set_option maxRecDepth 100000
set_option maxHeartbeats 16000000
section
open Lib (hid)
open Go.RowKit
theorem a6y (c : UInt8) (r : List UInt8) : Lib.hasPrefix (c :: r) [60,61]=(decide ((c.toNat : Int)=60) && decide (((r.headD 0).toNat : Int)=61)):=by
 have e : ∀ (x : UInt8) (n : Nat),n<256→decide ((x.toNat : Int)=n)=(UInt8.ofNat n == x):=fun x n hn => by
  rw [Bool.eq_iff_iff,decide_eq_true_eq,beq_iff_eq,oP hn,eq_comm]
 have e1:=e c 60 (by decide)
 have e2:=e (r.headD 0) 61 (by decide)
 rw [show ((60 : Nat) : Int)=60 from rfl] at e1
 rw [show ((61 : Nat) : Int)=61 from rfl] at e2
 rw [e1,e2]
 unfold Lib.hasPrefix
 cases r with
 | nil =>
   rw [List.isPrefixOf]
   show ((60 : UInt8) == c && false)=((60 : UInt8) == c && ((61 : UInt8) == 0))
   rfl
 | cons d r =>
   rw [List.isPrefixOf,List.isPrefixOf,List.isPrefixOf,Bool.and_true]
   rfl
theorem a0o (c : UInt8) : decide (Lib.indexByte (⟨#[40,41,44,59,61,60,43,45,42,47]⟩ : ByteArray).data.toList (c.toNat : Int).toNat.toUInt8<0)=!bO.contains c:=by
 have:=jF (p:=fun c => decide (Lib.indexByte (⟨#[40,41,44,59,61,60,43,45,42,47]⟩ : ByteArray).data.toList (c.toNat : Int).toNat.toUInt8<0) == !bO.contains c) (by decide +kernel) c
 simpa using this
theorem a1g (X M : Nat) (s : ByteArray) (a : Nat) (ts : List Tk) (w : World) (h : SC X M s a ts w) (hs : s.size≤16384) (ha : a<s.size) (htl : ts.length≤8192) :
 Calls Tryz.prog 86 #[.pointer (some ⟨X,0,none⟩)] w (a2a X M s a ts (aY s[a] (s.data.toList.drop (a + 1)) a) w):=by
 have D:=hid (x9 ha)
 have K:=hid (a43 s[a] (s.data.toList.drop (a + 1)) a)
 rw [← D.out] at K
 have HS:=hid h
 obtain ⟨i0,hi,hz0,hz1,hz2⟩:=info_parts (show (Tryz.prog.info? 79).map (fun i => (i.zero,i.size,i.bytes))=some (some (.agg #[.int .i64 0,.string ⟨#[]⟩,.int .i64 0,.int .i64 0]),4,40) by kernel_rfl)
 have HI0:=hid (show _∧_∧_∧_ from ⟨hi,hz0,hz1,hz2⟩)
 clear hi hz0 hz1 hz2
 clear h
 obtain ⟨hX0,hX1⟩:=HS.out.sb
 go_enter Tryz.func86,Tryz.ntmps86
 go_upto_region 1 with fail
 go_quiet (fail)
 obtain ⟨W1,hW1⟩ : ∃ W,W=w.drewN nq:=⟨_,rfl⟩
 have HS1:=hid (show SC X M s a ts W1 from hW1 ▸ HS.out.below (Go.Proofs.YtibiccacafjjfaaGreatDoor.v6 w nq))
 have BX1:=hid (show Below X w W1 from hW1 ▸ ((Go.Proofs.YtibiccacafjjfaaGreatDoor.v6 w nq).mono (Nat.le_of_lt HS.out.lt.2)))
 rw [← hW1]
 clear hW1 hX0 hX1 HS
 obtain ⟨hX0,hX1⟩:=HS1.out.sb
 cases h1 : smI s[a].toNat
 case true =>
  have C:=hid (a1i X M s a ts W1 HS1 hs ha htl)
  replace K:=hid (K.out.trans (if_pos h1))
  go_wp2_with (first | (go_at_call 116; refine (o5 _ _).mono ?_; rintro e w' ⟨rfl,hw⟩; rw [← hw,h1]; clear hw w'))
  (with_reducible refine Calls.mono C.out ?_)
  rintro e w2 ⟨hb,hr⟩
  have BX:=hid (BX1.out.trans hb)
  cases hx : bB (s.data.toList.drop a) a with
  | error c =>
    rw [hx] at hr
    obtain ⟨hc,k',ts',rfl,hsc⟩:=hr
    have R:=hid (K.out.trans hx)
    have HC:=hid hc
    have HSC:=hid hsc
    clear hx hc hsc hb
    go_wp2_with fail
    go_ret2
    exact o4 R HC BX HSC
  | ok q =>
    obtain ⟨t,n⟩:=q
    rw [hx] at hr
    obtain ⟨rfl,hsc⟩:=hr
    have R:=hid (K.out.trans hx)
    have HSC:=hid hsc
    clear hx hsc hb
    go_wp2_with fail
    go_ret2
    exact aR R BX rfl rfl HSC
 replace K:=hid (K.out.trans (if_neg (by rw [h1]; decide)))
 cases h2 : dgI s[a].toNat
 case true =>
  have C:=hid (xI X M s a ts W1 HS1 hs ha (by rw [bL]; exact h2) htl)
  replace K:=hid (K.out.trans (if_pos h2))
  go_wp2_with (first | (go_at_call 116; refine (o5 _ _).mono ?_; rintro e w' ⟨rfl,hw⟩; rw [← hw,h1]; clear hw w') | (go_at_call 118; refine (F8 _ _).mono ?_; rintro e w' ⟨rfl,hw⟩; rw [← hw,h2]; clear hw w'))
  (with_reducible refine Calls.mono C.out ?_)
  rintro e w2 ⟨hb,hr⟩
  have BX:=hid (BX1.out.trans hb)
  cases hx : aX (s.data.toList.drop a) a with
  | error c =>
    rw [hx] at hr
    obtain ⟨hc,k',ts',rfl,hsc⟩:=hr
    have R:=hid (K.out.trans hx)
    have HC:=hid hc
    have HSC:=hid hsc
    clear hx hc hsc hb
    go_wp2_with fail
    go_ret2
    exact o4 R HC BX HSC
  | ok q =>
    obtain ⟨t,n⟩:=q
    rw [hx] at hr
    obtain ⟨rfl,hsc⟩:=hr
    have R:=hid (K.out.trans hx)
    have HSC:=hid hsc
    clear hx hsc hb
    go_wp2_with fail
    go_ret2
    exact aR R BX rfl rfl HSC
 replace K:=hid (K.out.trans (if_neg (by rw [h2]; decide)))
 by_cases h34 : (s[a].toNat : Int)=34
 case pos =>
  have h3 : ((s[a].toNat : Int) == 34)=true:=by rw [h34]; rfl
  have H34:=hid h34
  clear h34
  have C:=hid (zD X M s a ts W1 HS1 hs ha htl)
  replace K:=hid (K.out.trans (if_pos H34))
  go_wp2_with (first | (go_at_call 116; refine (o5 _ _).mono ?_; rintro e w' ⟨rfl,hw⟩; rw [← hw,h1]; clear hw w') | (go_at_call 118; refine (F8 _ _).mono ?_; rintro e w' ⟨rfl,hw⟩; rw [← hw,h2]; clear hw w'))
  (with_reducible refine Calls.mono C.out ?_)
  rintro e w2 ⟨hb,hr⟩
  have BX:=hid (BX1.out.trans hb)
  cases hx : aA (s.data.toList.drop (a + 1)) a with
  | error c =>
    rw [hx] at hr
    obtain ⟨hc,k',ts',rfl,hsc⟩:=hr
    have R:=hid (K.out.trans hx)
    have HC:=hid hc
    have HSC:=hid hsc
    clear hx hc hsc hb
    go_wp2_with fail
    go_ret2
    exact o4 R HC BX HSC
  | ok q =>
    obtain ⟨t,n⟩:=q
    rw [hx] at hr
    obtain ⟨rfl,hsc⟩:=hr
    have R:=hid (K.out.trans hx)
    have HSC:=hid hsc
    clear hx hsc hb
    go_wp2_with fail
    go_ret2
    exact aR R BX rfl rfl HSC
 have h3 : ((s[a].toNat : Int) == 34)=false:=beq_eq_false_iff_ne.2 h34
 replace K:=hid (K.out.trans (if_neg h34))
 clear h34
 cases h4 : grI s[a].toNat
 case true =>
  replace K:=hid (K.out.trans (if_pos h4))
  have hgl : vL (s.data.toList.drop a)≤s.size - a:=by
   have:=D7 grC (s.data.toList.drop a)
   rwa [List.length_drop,d6] at this
  have C:=hid (a0g X s a a W1 HS1.out.sb hs (by omega))
  have Q:=hid (show a3s (s.data.toList.drop a) a=if vL (s.data.toList.drop a)=3 then .ok (⟨4,(s.data.toList.drop a).take 3,0,a⟩,3) else .error 73 from rfl)
  generalize vL (s.data.toList.drop a)=n at hgl C Q
  have T:=hid (show (s.extract a (a + n)).data.toList=(s.data.toList.drop a).take n by rw [s7,Nat.add_sub_cancel_left])
  have hte:=aC s a (a + n) (by omega)
  go_wp2_with (first | (go_at_call 116; refine (o5 _ _).mono ?_; rintro e w' ⟨rfl,hw⟩; rw [← hw,h1]; clear hw w') | (go_at_call 118; refine (F8 _ _).mono ?_; rintro e w' ⟨rfl,hw⟩; rw [← hw,h2]; clear hw w') | (go_at_call 121; refine (H8 _ _).mono ?_; rintro e w' ⟨rfl,hw⟩; rw [← hw,h4]; clear hw w'))
  (with_reducible refine Calls.mono C.out ?_)
  rintro e w2 ⟨rfl,hw⟩
  rw [← hw]
  clear hw w2 C hX0 hX1 hte
  go_upto_region 10 with fail
  obtain ⟨hMX,hXW⟩:=HS1.out.lt
  obtain ⟨ao,cp,hat0,how0⟩:=HS1.out.ex
  have HAT0:=hid hat0
  have HOW0:=hid how0
  have HKY0:=hid HS1.out.keys
  have HSI:=hid (show (W1.cell? ⟨X,3,none⟩=some (.slice ao ts.length cp)∧W1.cell? ⟨X,1,none⟩=some (.int .i64 a)∧W1.cell? ⟨X,0,none⟩=some (.string s))∧True from ⟨⟨by simp [World.cell?,hat0],by simp [World.cell?,hat0],by simp [World.cell?,hat0]⟩,trivial⟩)
  have HSB:=hid (show ∀ vv : World,(∀ b,b<W1.heap.size→(Value.slice ao ts.length cp).ownBlock≠some b→vv.heap[b]?=W1.heap[b]?)→vv.cell? ⟨X,3,none⟩=some (.slice ao ts.length cp)∧vv.cell? ⟨X,1,none⟩=some (.int .i64 a)∧vv.cell? ⟨X,0,none⟩=some (.string s) from fun vv hv => by
   have hX : ∀ i,vv.cell? ⟨X,i,none⟩=W1.cell? ⟨X,i,none⟩:=fun i => World.cell?_of_block (hv X hXW (fun e => by have:=(how0.lt X e).1; omega))
   exact ⟨(hX 3).trans HSI.out.1.1,(hX 1).trans HSI.out.1.2.1,(hX 0).trans HSI.out.1.2.2⟩)
  clear hat0 how0
  refine e8 (S:=(fun cur : World => cur.cell? ⟨X,3,none⟩=some (.slice ao ts.length cp)∧cur.cell? ⟨X,1,none⟩=some (.int .i64 a)∧cur.cell? ⟨X,0,none⟩=some (.string s))) (z:=29) (by kernel_rfl) ?_ (fun hHeld => ?_)
  ·exact HSB.out W1.drew (fun b _ _ => rfl)
  have e2 : (0 : Int)≤(a : Int) + n:=by omega
  have e3 : ((a : Int) + n).toNat=a + n:=by omega
  have e4 : (a : Int)≤(a : Int) + n:=by omega
  have e5 : (a : Int) + n≤s.size:=by omega
  have e1 : IntKind.i64.wrap ((a : Int) + n)=(a : Int) + n:=IntWalk.i64_in _ (by omega)
  refine b7.t 0 ?_; refine b7.t 1 ?_; refine b7.t 2 ?_; refine b7.t 3 ?_; refine b7.t 4 ?_; refine b7.t 5 ?_; refine b7.t 6 ?_; refine b7.t 7 ?_; refine b7.t 8 ?_; refine b7.t 9 ?_; refine b7.t 10 ?_; refine b7.t 11 ?_; refine b7.t 12 ?_; refine b7.t 13 ?_; refine b7.t 14 ?_; refine b7.t 15 ?_; refine b7.t 16 ?_; refine b7.t 17 ?_; refine b7.t 18 ?_; refine b7.t 19 ?_; refine b7.t 20 ?_; refine b7.t 21 ?_; refine b7.t 22 ?_; refine b7.t 23 ?_; refine b7.t 24 ?_
  clear e1 e2 e3 e4 e5
  refine b7.nx 25 fun K hK => ?_
  go_simp
  obtain ⟨W5,hW5⟩ : ∃ V,V=(W1.alloc (.cells #[.int .i64 4,.string (s.extract a (a + n)),.int .i64 0,.int .i64 a] 79)).drew:=⟨_,rfl⟩
  have B5:=hid (show Below W1.heap.size W1 W5 from hW5 ▸ A7 (c6 _ _))
  have hz5 : W5.heap.size=W1.heap.size + 1:=by rw [hW5]; show (W1.alloc _).heap.size=_; simp
  have N5:=hid (show ∀ j u,(n6 (⟨4,(s.extract a (a + n)).data.toList,0,a⟩ : Tk))[j]?=some u→W5.cell? ((⟨W1.heap.size,0,none⟩ : Addr).add j)=some u from hW5 ▸ x8 W1 _ _ _ _ _)
  have O5:=hid (show W5.ownsRow (X + 1) 79 4 (.slice ao ts.length cp) ts.length (l8 ts) from n7 HOW0 B5)
  rw [← hW5]
  clear hW5
  refine hK.out _ _ ?_ (fun hHeld => ?_)
  ·exact HSB.out W5 (fun b hb _ => B5.out.block b hb)
  clear hK K
  try simp only [Act.put,c9,f8,f7]
  refine b7.nx 26 fun K hK => ?_
  refine step_append_lies _ rfl _ _ 70 rfl (X + 1) 79 i0 (.agg #[.int .i64 0,.string ⟨#[]⟩,.int .i64 0,.int .i64 0]) 4 40 Tryz.underlying70 HI0.out.1 HI0.out.2.1 HI0.out.2.2.1 HI0.out.2.2.2 rfl (by decide) _ _ _ rfl O5 ⟨W1.heap.size,0,none⟩ 1 1 (n6 (⟨4,(s.extract a (a + n)).data.toList,0,a⟩ : Tk)) rfl rfl N5 (bS _) (by decide) (by unfold maxLen; omega) (by omega) (by omega) _ rfl ?_
  intro gb cap' w6 hown' hgrow' hat' hltg
  have HG6:=hid hgrow'
  have HO6:=hid hown'
  have HX6:=hid (show w6.heap[X]?=some (.cells #[.string s,.int .i64 a,.map (some M),.slice ao ts.length cp,.pointer none] 109 (0,0)) from (hgrow'.block X (by omega) (fun e => by have:=(HOW0.out.lt X e.symm).1; omega)).trans ((B5.out.block X hXW).trans HAT0))
  clear hown' hgrow' hat' hltg
  refine hK.out _ _ ?_ (fun hHeld => ?_)
  ·exact HSB.out w6 (fun b hb hne => (HG6.out.block b (by omega) (fun e => hne e.symm)).trans (B5.out.block b hb))
  clear hK K
  try simp only [Act.put,c9,f8,f7]
  refine b7.nx 27 fun K hK => ?_
  go_simp
  refine hK.out _ _ ?_ (fun hHeld => ?_)
  ·exact hHeld
  clear hK K
  try simp only [Act.put,c9,f8,f7]
  refine b7.nx 28 fun K hK => ?_
  go_simp
  refine hK.out _ _ ?_ (fun hHeld => ?_)
  ·exact hHeld
  clear hK K
  try simp only [Act.put,c9,f8,f7]
  have hX3 : w6.cell? ⟨X,3,none⟩=some (.slice ao ts.length cp):=by simp [World.cell?,HX6.out]
  have hf6 : w6.frozen? ⟨X,3,none⟩=false:=by simp [World.frozen?,HX6.out]
  have hX6l : X<w6.heap.size:=(Array.getElem?_eq_some_iff.1 HX6).1
  refine b7.la fun K hK => ?_
  go_simp
  refine hK.out _ _ ?_
  clear hK K hHeld
  obtain ⟨W7,hW7⟩ : ∃ V,V=w6.setCell ⟨X,3,none⟩ (.slice (some ⟨gb,0,none⟩) (ts.length + 1) cap'):=⟨_,rfl⟩
  have Z7:=hid (show SC X M s a (ts ++ [(⟨4,(s.extract a (a + n)).data.toList,0,a⟩ : Tk)]) W7∧Below X W1 W7 from hW7 ▸ O8 hMX hXW HOW0 HKY0 B5 HX6 HO6 HG6)
  have HS7:=hid Z7.out.1
  have BX7:=hid Z7.out.2
  rw [← hW7]
  clear hW7 hX3 hf6 hX6l HX6 HO6 HG6 O5 N5 B5 HSB HSI HAT0 HOW0 HKY0 Z7
  have BX:=hid (BX1.out.trans BX7)
  by_cases h33 : n=3
  ·have q3 : ((n : Int) != 3)=false:=by rw [h33]; rfl
   have R:=hid (K.out.trans (Q.out.trans (if_pos h33)))
   have TT:=hid (show (s.extract a (a + n)).data.toList=(s.data.toList.drop a).take 3 by rw [T.out,h33])
   have HN:=hid (show (n : Int)=(3 : Nat) by omega)
   clear h33
   go_wp2_with fail
   go_ret2
   exact aR R BX HN (by rw [TT.out]) HS7
  ·have q3 : ((n : Int) != 3)=true:=by rw [bne_iff_ne]; omega
   have R:=hid (K.out.trans (Q.out.trans (if_neg h33)))
   clear h33
   go_wp2_with fail
   go_ret2
   exact o4 R (by decide) BX HS7
 replace K:=hid (K.out.trans ((if_neg (by rw [h4]; decide)).trans (a1o _ _ _)))
 have HPX:=hid (a6y s[a] (s.data.toList.drop (a + 1)))
 have T1:=hid (show (s.extract a s.size).data.toList=s[a] :: s.data.toList.drop (a + 1) by rw [s7,← d6,← D.out]; exact List.take_of_length_le (by rw [List.length_drop]; omega))
 go_upto_region 15 with (first | (go_at_call 116; refine (o5 _ _).mono ?_; rintro e w' ⟨rfl,hw⟩; rw [← hw,h1]; clear hw w') | (go_at_call 118; refine (F8 _ _).mono ?_; rintro e w' ⟨rfl,hw⟩; rw [← hw,h2]; clear hw w') | (go_at_call 121; refine (H8 _ _).mono ?_; rintro e w' ⟨rfl,hw⟩; rw [← hw,h4]; clear hw w'))
 have CPf:=hid (fun (v : World) => Tryz.strings_HasPrefix (s.extract a s.size) ⟨#[60,61]⟩ v)
 rw [T1.out,show (⟨#[60,61]⟩ : ByteArray).data.toList=[60,61] from rfl] at CPf
 generalize hhp : Lib.hasPrefix (s[a] :: s.data.toList.drop (a + 1)) [60,61]=hp at CPf HPX
 go_quiet ((go_at_call 122; exact Calls.quiet_of_same (CPf.out _)))
 obtain ⟨W2,hW2⟩ : ∃ W,W=W1.drewN nq:=⟨_,rfl⟩
 have HS2:=hid (show SC X M s a ts W2 from hW2 ▸ HS1.out.below (Go.Proofs.YtibiccacafjjfaaGreatDoor.v6 W1 nq))
 have BX2:=hid (show Below X w W2 from hW2 ▸ (BX1.out.trans ((Go.Proofs.YtibiccacafjjfaaGreatDoor.v6 W1 nq).mono (Nat.le_of_lt HS1.out.lt.2))))
 rw [← hW2]
 clear hW2 hX0 hX1 HS1 BX1 CPf hhp T1
 obtain ⟨hX0,hX1⟩:=HS2.out.sb
 have HLN:=hid (show hp=true→a + 2≤s.size from fun h => by
  have h2:=HPX.out
  rw [h] at h2
  have h3:=of_decide_eq_true (Bool.and_eq_true .. ▸ h2.symm : _∧_).2
  have h4 : (s.data.toList.drop (a + 1)).headD 0≠0:=fun e => by rw [e] at h3; exact absurd h3 (by decide)
  have:=lA h4
  rw [d6] at this
  omega)
 cases hp
 case true =>
  have hln : a + 2≤s.size:=HLN.out rfl
  have hpx:=HPX.out
  replace K:=hid (K.out.trans (if_pos (by
   have h3:=(Bool.and_eq_true .. ▸ hpx.symm : _∧_)
   exact ⟨of_decide_eq_true h3.1,of_decide_eq_true h3.2⟩)))
  have T:=hid (show (s.extract a (a + 2)).data.toList=[60,61] by
   have h3:=(Bool.and_eq_true .. ▸ hpx.symm : _∧_)
   have e1:=of_decide_eq_true h3.1
   have e2:=of_decide_eq_true h3.2
   have g1 : s[a]=60:=UInt8.toNat_inj.1 (Int.ofNat.inj e1)
   have g2 : (s.data.toList.drop (a + 1)).headD 0=61:=UInt8.toNat_inj.1 (Int.ofNat.inj e2)
   rw [s7,Nat.add_sub_cancel_left,D.out,g1]
   cases hr : s.data.toList.drop (a + 1) with
   | nil => rw [hr] at g2; exact absurd g2 (by decide)
   | cons x r => rw [hr] at g2; rw [show x=61 from g2]; rfl)
  clear hpx HPX HLN hX0 hX1
  go_upto_region 19 with fail
  obtain ⟨hMX,hXW⟩:=HS2.out.lt
  obtain ⟨ao,cp,hat0,how0⟩:=HS2.out.ex
  have HAT0:=hid hat0
  have HOW0:=hid how0
  have HKY0:=hid HS2.out.keys
  have HSI:=hid (show (W2.cell? ⟨X,3,none⟩=some (.slice ao ts.length cp)∧W2.cell? ⟨X,1,none⟩=some (.int .i64 a)∧W2.cell? ⟨X,0,none⟩=some (.string s))∧True from ⟨⟨by simp [World.cell?,hat0],by simp [World.cell?,hat0],by simp [World.cell?,hat0]⟩,trivial⟩)
  have HSB:=hid (show ∀ vv : World,(∀ b,b<W2.heap.size→(Value.slice ao ts.length cp).ownBlock≠some b→vv.heap[b]?=W2.heap[b]?)→vv.cell? ⟨X,3,none⟩=some (.slice ao ts.length cp)∧vv.cell? ⟨X,1,none⟩=some (.int .i64 a)∧vv.cell? ⟨X,0,none⟩=some (.string s) from fun vv hv => by
   have hX : ∀ i,vv.cell? ⟨X,i,none⟩=W2.cell? ⟨X,i,none⟩:=fun i => World.cell?_of_block (hv X hXW (fun e => by have:=(how0.lt X e).1; omega))
   exact ⟨(hX 3).trans HSI.out.1.1,(hX 1).trans HSI.out.1.2.1,(hX 0).trans HSI.out.1.2.2⟩)
  clear hat0 how0
  refine e8 (S:=(fun cur : World => cur.cell? ⟨X,3,none⟩=some (.slice ao ts.length cp)∧cur.cell? ⟨X,1,none⟩=some (.int .i64 a)∧cur.cell? ⟨X,0,none⟩=some (.string s))) (z:=29) (by kernel_rfl) ?_ (fun hHeld => ?_)
  ·exact HSB.out W2.drew (fun b _ _ => rfl)
  have e2 : (0 : Int)≤(a : Int) + 2:=by omega
  have e3 : ((a : Int) + 2).toNat=a + 2:=by omega
  have e4 : (a : Int)≤(a : Int) + 2:=by omega
  have e5 : (a : Int) + 2≤s.size:=by omega
  have e1 : IntKind.i64.wrap ((a : Int) + 2)=(a : Int) + 2:=IntWalk.i64_in _ (by omega)
  refine b7.t 0 ?_; refine b7.t 1 ?_; refine b7.t 2 ?_; refine b7.t 3 ?_; refine b7.t 4 ?_; refine b7.t 5 ?_; refine b7.t 6 ?_; refine b7.t 7 ?_; refine b7.t 8 ?_; refine b7.t 9 ?_; refine b7.t 10 ?_; refine b7.t 11 ?_; refine b7.t 12 ?_; refine b7.t 13 ?_; refine b7.t 14 ?_; refine b7.t 15 ?_; refine b7.t 16 ?_; refine b7.t 17 ?_; refine b7.t 18 ?_; refine b7.t 19 ?_; refine b7.t 20 ?_; refine b7.t 21 ?_; refine b7.t 22 ?_; refine b7.t 23 ?_; refine b7.t 24 ?_
  clear e1 e2 e3 e4 e5
  refine b7.nx 25 fun K hK => ?_
  go_simp
  obtain ⟨W5,hW5⟩ : ∃ V,V=(W2.alloc (.cells #[.int .i64 8,.string (s.extract a (a + 2)),.int .i64 0,.int .i64 a] 79)).drew:=⟨_,rfl⟩
  have B5:=hid (show Below W2.heap.size W2 W5 from hW5 ▸ A7 (c6 _ _))
  have hz5 : W5.heap.size=W2.heap.size + 1:=by rw [hW5]; show (W2.alloc _).heap.size=_; simp
  have N5:=hid (show ∀ j u,(n6 (⟨8,(s.extract a (a + 2)).data.toList,0,a⟩ : Tk))[j]?=some u→W5.cell? ((⟨W2.heap.size,0,none⟩ : Addr).add j)=some u from hW5 ▸ x8 W2 _ _ _ _ _)
  have O5:=hid (show W5.ownsRow (X + 1) 79 4 (.slice ao ts.length cp) ts.length (l8 ts) from n7 HOW0 B5)
  rw [← hW5]
  clear hW5
  refine hK.out _ _ ?_ (fun hHeld => ?_)
  ·exact HSB.out W5 (fun b hb _ => B5.out.block b hb)
  clear hK K
  try simp only [Act.put,c9,f8,f7]
  refine b7.nx 26 fun K hK => ?_
  refine step_append_lies _ rfl _ _ 70 rfl (X + 1) 79 i0 (.agg #[.int .i64 0,.string ⟨#[]⟩,.int .i64 0,.int .i64 0]) 4 40 Tryz.underlying70 HI0.out.1 HI0.out.2.1 HI0.out.2.2.1 HI0.out.2.2.2 rfl (by decide) _ _ _ rfl O5 ⟨W2.heap.size,0,none⟩ 1 1 (n6 (⟨8,(s.extract a (a + 2)).data.toList,0,a⟩ : Tk)) rfl rfl N5 (bS _) (by decide) (by unfold maxLen; omega) (by omega) (by omega) _ rfl ?_
  intro gb cap' w6 hown' hgrow' hat' hltg
  have HG6:=hid hgrow'
  have HO6:=hid hown'
  have HX6:=hid (show w6.heap[X]?=some (.cells #[.string s,.int .i64 a,.map (some M),.slice ao ts.length cp,.pointer none] 109 (0,0)) from (hgrow'.block X (by omega) (fun e => by have:=(HOW0.out.lt X e.symm).1; omega)).trans ((B5.out.block X hXW).trans HAT0))
  clear hown' hgrow' hat' hltg
  refine hK.out _ _ ?_ (fun hHeld => ?_)
  ·exact HSB.out w6 (fun b hb hne => (HG6.out.block b (by omega) (fun e => hne e.symm)).trans (B5.out.block b hb))
  clear hK K
  try simp only [Act.put,c9,f8,f7]
  refine b7.nx 27 fun K hK => ?_
  go_simp
  refine hK.out _ _ ?_ (fun hHeld => ?_)
  ·exact hHeld
  clear hK K
  try simp only [Act.put,c9,f8,f7]
  refine b7.nx 28 fun K hK => ?_
  go_simp
  refine hK.out _ _ ?_ (fun hHeld => ?_)
  ·exact hHeld
  clear hK K
  try simp only [Act.put,c9,f8,f7]
  have hX3 : w6.cell? ⟨X,3,none⟩=some (.slice ao ts.length cp):=by simp [World.cell?,HX6.out]
  have hf6 : w6.frozen? ⟨X,3,none⟩=false:=by simp [World.frozen?,HX6.out]
  have hX6l : X<w6.heap.size:=(Array.getElem?_eq_some_iff.1 HX6).1
  refine b7.la fun K hK => ?_
  go_simp
  refine hK.out _ _ ?_
  clear hK K hHeld
  obtain ⟨W7,hW7⟩ : ∃ V,V=w6.setCell ⟨X,3,none⟩ (.slice (some ⟨gb,0,none⟩) (ts.length + 1) cap'):=⟨_,rfl⟩
  have Z7:=hid (show SC X M s a (ts ++ [(⟨8,(s.extract a (a + 2)).data.toList,0,a⟩ : Tk)]) W7∧Below X W2 W7 from hW7 ▸ O8 hMX hXW HOW0 HKY0 B5 HX6 HO6 HG6)
  have HS7:=hid Z7.out.1
  have BX7:=hid Z7.out.2
  rw [← hW7]
  clear hW7 hX3 hf6 hX6l HX6 HO6 HG6 O5 N5 B5 HSB HSI HAT0 HOW0 HKY0 Z7
  have BX:=hid (BX2.out.trans BX7)
  go_wp2_with fail
  go_ret2
  exact aR K BX rfl (by rw [T.out]) HS7
 have hpx:=HPX.out
 replace K:=hid (K.out.trans (if_neg (fun e => by rw [decide_eq_true e.1,decide_eq_true e.2] at hpx; cases hpx)))
 clear hpx HPX HLN
 have CI:=hid (fun (v : World) => Tryz.strings_IndexByte ⟨#[40,41,44,59,61,60,43,45,42,47]⟩ (s[a].toNat : Int) v)
 have HIX:=hid (a0o s[a])
 generalize hix : Lib.indexByte (⟨#[40,41,44,59,61,60,43,45,42,47]⟩ : ByteArray).data.toList (s[a].toNat : Int).toNat.toUInt8=ix at CI HIX
 clear hix
 go_upto_region 17 with fail
 go_quiet ((go_at_call 123; exact Calls.quiet_of_same (CI.out _)))
 obtain ⟨W3,hW3⟩ : ∃ W,W=W2.drewN nq:=⟨_,rfl⟩
 have HS3:=hid (show SC X M s a ts W3 from hW3 ▸ HS2.out.below (Go.Proofs.YtibiccacafjjfaaGreatDoor.v6 W2 nq))
 have BX3:=hid (show Below X w W3 from hW3 ▸ (BX2.out.trans ((Go.Proofs.YtibiccacafjjfaaGreatDoor.v6 W2 nq).mono (Nat.le_of_lt HS2.out.lt.2))))
 rw [← hW3]
 clear hW3 hX0 hX1 HS2 BX2 CI
 by_cases hneg : ix<0
 ·have R:=hid (K.out.trans (if_neg (fun e => by have:=HIX.out; rw [e,decide_eq_true hneg] at this; cases this)))
  obtain ⟨hX0,hX1⟩:=HS3.out.sb
  go_wp2_with fail
  go_ret2
  exact o4 R (by decide) BX3 HS3
 have R:=hid (K.out.trans (if_pos (by have:=HIX.out; rw [decide_eq_false hneg] at this; revert this; cases bO.contains s[a] <;> simp)))
 have T:=hid (show (s.extract a (a + 1)).data.toList=[s[a]] by rw [s7,Nat.add_sub_cancel_left,D.out]; rfl)
 go_upto_region 19 with fail
 obtain ⟨hMX,hXW⟩:=HS3.out.lt
 obtain ⟨ao,cp,hat0,how0⟩:=HS3.out.ex
 have HAT0:=hid hat0
 have HOW0:=hid how0
 have HKY0:=hid HS3.out.keys
 have HSI:=hid (show (W3.cell? ⟨X,3,none⟩=some (.slice ao ts.length cp)∧W3.cell? ⟨X,1,none⟩=some (.int .i64 a)∧W3.cell? ⟨X,0,none⟩=some (.string s))∧True from ⟨⟨by simp [World.cell?,hat0],by simp [World.cell?,hat0],by simp [World.cell?,hat0]⟩,trivial⟩)
 have HSB:=hid (show ∀ vv : World,(∀ b,b<W3.heap.size→(Value.slice ao ts.length cp).ownBlock≠some b→vv.heap[b]?=W3.heap[b]?)→vv.cell? ⟨X,3,none⟩=some (.slice ao ts.length cp)∧vv.cell? ⟨X,1,none⟩=some (.int .i64 a)∧vv.cell? ⟨X,0,none⟩=some (.string s) from fun vv hv => by
  have hX : ∀ i,vv.cell? ⟨X,i,none⟩=W3.cell? ⟨X,i,none⟩:=fun i => World.cell?_of_block (hv X hXW (fun e => by have:=(how0.lt X e).1; omega))
  exact ⟨(hX 3).trans HSI.out.1.1,(hX 1).trans HSI.out.1.2.1,(hX 0).trans HSI.out.1.2.2⟩)
 clear hat0 how0
 refine e8 (S:=(fun cur : World => cur.cell? ⟨X,3,none⟩=some (.slice ao ts.length cp)∧cur.cell? ⟨X,1,none⟩=some (.int .i64 a)∧cur.cell? ⟨X,0,none⟩=some (.string s))) (z:=29) (by kernel_rfl) ?_ (fun hHeld => ?_)
 ·exact HSB.out W3.drew (fun b _ _ => rfl)
 have e2 : (0 : Int)≤(a : Int) + 1:=by omega
 have e3 : ((a : Int) + 1).toNat=a + 1:=by omega
 have e4 : (a : Int)≤(a : Int) + 1:=by omega
 have e5 : (a : Int) + 1≤s.size:=by omega
 have e1 : IntKind.i64.wrap ((a : Int) + 1)=(a : Int) + 1:=IntWalk.i64_in _ (by omega)
 refine b7.t 0 ?_; refine b7.t 1 ?_; refine b7.t 2 ?_; refine b7.t 3 ?_; refine b7.t 4 ?_; refine b7.t 5 ?_; refine b7.t 6 ?_; refine b7.t 7 ?_; refine b7.t 8 ?_; refine b7.t 9 ?_; refine b7.t 10 ?_; refine b7.t 11 ?_; refine b7.t 12 ?_; refine b7.t 13 ?_; refine b7.t 14 ?_; refine b7.t 15 ?_; refine b7.t 16 ?_; refine b7.t 17 ?_; refine b7.t 18 ?_; refine b7.t 19 ?_; refine b7.t 20 ?_; refine b7.t 21 ?_; refine b7.t 22 ?_; refine b7.t 23 ?_; refine b7.t 24 ?_
 clear e1 e2 e3 e4 e5
 refine b7.nx 25 fun K hK => ?_
 go_simp
 obtain ⟨W5,hW5⟩ : ∃ V,V=(W3.alloc (.cells #[.int .i64 8,.string (s.extract a (a + 1)),.int .i64 0,.int .i64 a] 79)).drew:=⟨_,rfl⟩
 have B5:=hid (show Below W3.heap.size W3 W5 from hW5 ▸ A7 (c6 _ _))
 have hz5 : W5.heap.size=W3.heap.size + 1:=by rw [hW5]; show (W3.alloc _).heap.size=_; simp
 have N5:=hid (show ∀ j u,(n6 (⟨8,(s.extract a (a + 1)).data.toList,0,a⟩ : Tk))[j]?=some u→W5.cell? ((⟨W3.heap.size,0,none⟩ : Addr).add j)=some u from hW5 ▸ x8 W3 _ _ _ _ _)
 have O5:=hid (show W5.ownsRow (X + 1) 79 4 (.slice ao ts.length cp) ts.length (l8 ts) from n7 HOW0 B5)
 rw [← hW5]
 clear hW5
 refine hK.out _ _ ?_ (fun hHeld => ?_)
 ·exact HSB.out W5 (fun b hb _ => B5.out.block b hb)
 clear hK K
 try simp only [Act.put,c9,f8,f7]
 refine b7.nx 26 fun K hK => ?_
 refine step_append_lies _ rfl _ _ 70 rfl (X + 1) 79 i0 (.agg #[.int .i64 0,.string ⟨#[]⟩,.int .i64 0,.int .i64 0]) 4 40 Tryz.underlying70 HI0.out.1 HI0.out.2.1 HI0.out.2.2.1 HI0.out.2.2.2 rfl (by decide) _ _ _ rfl O5 ⟨W3.heap.size,0,none⟩ 1 1 (n6 (⟨8,(s.extract a (a + 1)).data.toList,0,a⟩ : Tk)) rfl rfl N5 (bS _) (by decide) (by unfold maxLen; omega) (by omega) (by omega) _ rfl ?_
 intro gb cap' w6 hown' hgrow' hat' hltg
 have HG6:=hid hgrow'
 have HO6:=hid hown'
 have HX6:=hid (show w6.heap[X]?=some (.cells #[.string s,.int .i64 a,.map (some M),.slice ao ts.length cp,.pointer none] 109 (0,0)) from (hgrow'.block X (by omega) (fun e => by have:=(HOW0.out.lt X e.symm).1; omega)).trans ((B5.out.block X hXW).trans HAT0))
 clear hown' hgrow' hat' hltg
 refine hK.out _ _ ?_ (fun hHeld => ?_)
 ·exact HSB.out w6 (fun b hb hne => (HG6.out.block b (by omega) (fun e => hne e.symm)).trans (B5.out.block b hb))
 clear hK K
 try simp only [Act.put,c9,f8,f7]
 refine b7.nx 27 fun K hK => ?_
 go_simp
 refine hK.out _ _ ?_ (fun hHeld => ?_)
 ·exact hHeld
 clear hK K
 try simp only [Act.put,c9,f8,f7]
 refine b7.nx 28 fun K hK => ?_
 go_simp
 refine hK.out _ _ ?_ (fun hHeld => ?_)
 ·exact hHeld
 clear hK K
 try simp only [Act.put,c9,f8,f7]
 have hX3 : w6.cell? ⟨X,3,none⟩=some (.slice ao ts.length cp):=by simp [World.cell?,HX6.out]
 have hf6 : w6.frozen? ⟨X,3,none⟩=false:=by simp [World.frozen?,HX6.out]
 have hX6l : X<w6.heap.size:=(Array.getElem?_eq_some_iff.1 HX6).1
 refine b7.la fun K hK => ?_
 go_simp
 refine hK.out _ _ ?_
 clear hK K hHeld
 obtain ⟨W7,hW7⟩ : ∃ V,V=w6.setCell ⟨X,3,none⟩ (.slice (some ⟨gb,0,none⟩) (ts.length + 1) cap'):=⟨_,rfl⟩
 have Z7:=hid (show SC X M s a (ts ++ [(⟨8,(s.extract a (a + 1)).data.toList,0,a⟩ : Tk)]) W7∧Below X W3 W7 from hW7 ▸ O8 hMX hXW HOW0 HKY0 B5 HX6 HO6 HG6)
 have HS7:=hid Z7.out.1
 have BX7:=hid Z7.out.2
 rw [← hW7]
 clear hW7 hX3 hf6 hX6l HX6 HO6 HG6 O5 N5 B5 HSB HSI HAT0 HOW0 HKY0 Z7
 have BX:=hid (BX3.out.trans BX7)
 go_wp2_with fail
 go_ret2
 exact aR R BX rfl (by rw [T.out]) HS7
end
section
open Lib (hid)
open Go.RowKit
theorem SC.set_at {X M a : Nat} {s : ByteArray} {ts : List Tk} {W : World} (h : SC X M s a ts W) (a' : Nat) : SC X M s a' ts (W.setCell ⟨X,1,none⟩ (.int .i64 a')):=by
 obtain ⟨ao,cp,h1,h2⟩:=h.ex
 have hg:=e9 W X 1 (.int .i64 a')
 refine ⟨⟨h.lt.1,Nat.lt_of_lt_of_le h.lt.2 hg.size⟩,⟨ao,cp,l5 h1 1 _,h2.kept hg ?_⟩,?_⟩
 ·cases hv : (Value.slice ao ts.length cp).ownBlock with
  | none => exact .inl rfl
  | some d => exact .inr (fun e => by have:=(h2.lt d hv).1; cases e; omega)
 ·obtain ⟨es,clock,k1,k2,k3,k4⟩:=h.keys
  exact ⟨es,clock,(Below.heap_setCell _ _ _ _ (by show M≠X; have:=h.lt.1; omega)).trans k1,k2,k3,k4⟩
theorem SC.make {M : Nat} {s : ByteArray} {W : World} (hk : cA M 13 W) (hM : M<W.heap.size) : SC W.heap.size M s 0 [] (W.alloc (.cells #[.string s,.int .i64 0,.map (some M),.slice none 0 0,.pointer none] 109)) :=
 ⟨⟨hM,by simp⟩,⟨none,0,by show (W.heap.push _)[W.heap.size]?=_; simp,World.ownsRow_nil _ _ _ _⟩,hk.below (c6 _ _) hM⟩
theorem a4c {W : World} {B B' T k : Nat} {v : Value} {n : Nat} {xs : List Value} (h : W.ownsRow B T k v n xs) (hB : B'≤B) : W.ownsRow B' T k v n xs:=by
 obtain ⟨h1,h2⟩:=h
 refine ⟨h1,?_⟩
 rcases h2 with h2 | ⟨g',cap',cur,e,hb,hg',r⟩
 ·exact .inl h2
 ·exact .inr ⟨g',cap',cur,e,Nat.le_trans hB hb,hg',r⟩
theorem mA {r : Except (Int × Int) (List Tk)} {w w' : World} {c p : Int} {b : Nat} (h : r=.error (c,p)) (hb : Below w.heap.size w w') (hl : w.heap.size≤b) (hx : w'.heap[b]?=some (.cells #[.int .i64 p,.int .i64 c] 75 (0,0))) : a1v r w (.returned (.tuple #[.slice none 0 0,.pointer (some ⟨b,0,none⟩)])) w':=by
 subst h; exact ⟨hb,b,rfl,hl,hx⟩
def a68 (X : Nat) (W : World) : Nat:=match W.cell? ⟨X,1,none⟩ with
 | some (.int _ i) => i.toNat
 | _ => 0
theorem SC.at {X M a : Nat} {s : ByteArray} {ts : List Tk} {W : World} (h : SC X M s a ts W) : a68 X W=a:=by
 unfold a68
 rw [h.sb.2]
 exact Int.toNat_natCast a
theorem a2Z (s : ByteArray) (w : World) (hs : s.size≤maxLen) (ht : iS w) :
 Calls Tryz.prog 45 #[.string s] w (a1v (r6 s.data.toList) w):=by
 have hm:=hs
 unfold maxLen at hm
 have HL:=hid (d6 s)
 by_cases hbig : 16384<(s.size : Int)
 ·have R:=hid (show r6 s.data.toList=.error (70,0) by unfold r6; rw [if_pos (by rw [HL.out]; omega)])
  go_enter Tryz.func45,Tryz.ntmps45
  go_wp2_with fail
  go_ret2
  exact mA R (c6 _ _) (Nat.le_refl _) (by show (w.heap.push _)[w.heap.size]?=_; simp)
 have hs2 : s.size≤16384:=by omega
 have R:=hid (show r6 s.data.toList=s6 s.data.toList 0 0 0 by unfold r6; rw [if_neg (by rw [HL.out]; omega)])
 have CW:=hid (a1m w ht)
 obtain ⟨i0,hi,hz0,hz1,hz2⟩:=info_parts (show (Tryz.prog.info? 79).map (fun i => (i.zero,i.size,i.bytes))=some (some (.agg #[.int .i64 0,.string ⟨#[]⟩,.int .i64 0,.int .i64 0]),4,40) by kernel_rfl)
 have HI0:=hid (show _∧_∧_∧_ from ⟨hi,hz0,hz1,hz2⟩)
 clear hi hz0 hz1 hz2
 go_enter Tryz.func45,Tryz.ntmps45
 go_wp2_with fail
 (with_reducible refine Calls.mono CW.out ?_)
 rintro e w1 ⟨rfl,hk1,hb1⟩
 obtain ⟨M,hM⟩ : ∃ M,M=w.heap.size:=⟨_,rfl⟩
 have hMl:=hk1.lt
 obtain ⟨W2,hW2⟩ : ∃ V,V=w1.alloc (.cells #[.string s,.int .i64 0,.map (some w.heap.size),.slice none 0 0,.pointer none] 109):=⟨_,rfl⟩
 obtain ⟨X,hX⟩ : ∃ X,X=w1.heap.size:=⟨_,rfl⟩
 have HS2:=hid (show SC X M s 0 [] W2 by rw [hW2,hX,hM]; exact SC.make hk1 hMl)
 have HB2:=hid (show Below M w W2 by rw [hW2,hM]; exact hb1.alloc hb1.size _)
 have HMX:=hid (show M<X by rw [hX,hM]; exact hMl)
 have HM:=hid hM
 clear hk1 hb1 hMl CW ht hbig
 go_wp2_with fail
 rw [← hW2,← hX]
 clear hW2 hM hX
 have HX2:=hid HS2.out.lt
 go_loopw [5] (fun _ wr => ∃ (a : Nat) (ts : List Tk),a≤s.size∧ts.length≤8192∧Hid (SC X M s a ts wr)∧Hid (Below w.heap.size w wr)∧Hid (r6 s.data.toList=ahead ts (s6 (s.data.toList.drop a) a ts.length 0))) (fun _ wr => s.size - a68 X wr)
 case atStart => exact ⟨0,[],by omega,by decide,HS2,HM.out ▸ HB2.out,by show _=_; rw [sG]; exact R⟩
 case round =>
  obtain ⟨a,ts,ha,htl,HS,HBr,HSC⟩:=hrel
  have hmu:=hid HS.out.at
  obtain ⟨hX0,hX1⟩:=HS.out.sb
  by_cases hlt : a<s.size
  case pos =>
   have D:=hid (x9 hlt)
   have HC:=hid HSC
   rw [D.out] at HC
   by_cases h32 : (s[a].toNat : Int)≤32
   ·have Z:=hid (show r6 s.data.toList=ahead ts (s6 (s.data.toList.drop (a + 1)) ((a + 1 : Nat) : Int) ts.length 0) by
     rw [HC.out,gB ((a1D _).2 h32),show (a : Int) + 1=((a + 1 : Nat) : Int) by omega])
    have f1 : wr.frozen? ⟨X,1,none⟩=false:=by obtain ⟨_,_,g,-⟩:=HS.out.ex; simp [World.frozen?,g]
    have HX3:=HX2.out.2
    have hXr:=HS.out.lt.2
    have HSN:=hid (show SC X M s (a + 1) ts (wr.setCell ⟨X,1,none⟩ (.int .i64 ((a + 1 : Nat) : Int))) from HS.out.set_at (a + 1))
    have HBN:=hid (show Below w.heap.size w (wr.setCell ⟨X,1,none⟩ (.int .i64 ((a + 1 : Nat) : Int))) from HBr.out.setCell (p:=⟨X,1,none⟩) (by show w.heap.size≤X; have:=HMX.out; have:=HM.out; omega) _)
    rw [show ((a + 1 : Nat) : Int)=(a : Int) + 1 by omega] at HSN HBN
    go_wp2_with fail
    go_roundw
    case rel => exact ⟨a + 1,ts,by omega,htl,HSN,HBN,Z⟩
    case measure => rw [hmu.out,HSN.out.at]; omega
   have h32':=hid (show ¬ s[a].toNat≤32 from fun h => h32 ((a1D _).1 h))
   by_cases h35 : (s[a].toNat : Int)=35
   ·have e35 : ((s[a].toNat : Int) == 35)=true:=by rw [h35]; rfl
    have e35' : s[a]=35:=UInt8.toNat_inj.1 (Int.ofNat.inj h35)
    have hrm : gJ (s.data.toList.drop (a + 1))≤s.size - (a + 1):=by
     have:=D7 (· != 10) (s.data.toList.drop (a + 1))
     rwa [List.length_drop,d6] at this
    have Z:=hid (show r6 s.data.toList=ahead ts (s6 (s.data.toList.drop (a + 1 + gJ (s.data.toList.drop (a + 1)))) ((a + 1 + gJ (s.data.toList.drop (a + 1)) : Nat) : Int) ts.length 0) by
     rw [HC.out,pZ e35',List.drop_drop,show (a : Int) + 1 + (gJ (s.data.toList.drop (a + 1)) : Nat)=((a + 1 + gJ (s.data.toList.drop (a + 1)) : Nat) : Int) by omega])
    have CR:=hid (fun (v : World) (hv : SB X s a v) => a2C X s a a v hv hs2 (by omega))
    rw [show ((s.data.toList.drop a).takeWhile (· != 10)).length=1 + gJ (s.data.toList.drop (a + 1)) by
     rw [D.out,List.takeWhile_cons,if_pos (by rw [e35']; decide),List.length_cons]; unfold gJ; omega] at CR
    generalize gJ (s.data.toList.drop (a + 1))=k at CR Z hrm
    have hXr:=HS.out.lt.2
    clear h35 e35'
    go_upto_region 9 with fail
    have e1 : IntKind.i64.wrap ((a : Int) + (1 + (k : Int)))=(a : Int) + (1 + (k : Int)):=IntWalk.i64_in _ (by omega)
    have E1:=hid e1
    clear e1
    refine e8 (S:=(fun cur : World => cur.cell? ⟨X,0,none⟩=some (.string s)∧cur.cell? ⟨X,1,none⟩=some (.int .i64 a))) (z:=13) (by kernel_rfl) ?_ (fun hHeld => ?_)
    ·exact ⟨hX0,hX1⟩
    refine b7.t 0 ?_; refine b7.t 1 ?_; refine b7.t 2 ?_; refine b7.t 3 ?_; refine b7.t 4 ?_; refine b7.t 5 ?_; refine b7.t 6 ?_; refine b7.t 7 ?_; refine b7.t 8 ?_
    refine b7.nx 9 fun K hK => ?_
    go_simp
    (with_reducible refine Calls.mono (CR.out wr.drew (HS.out.below (A7 (Below.refl _ _))).sb) ?_)
    rintro e w3 ⟨rfl,hw3⟩
    rw [← hw3]
    clear hw3 w3
    go_wp2_with fail
    refine hK.out _ _ ?_ (fun hHeld => ?_)
    ·exact ⟨hX0,hX1⟩
    clear hK K
    try simp only [Act.put,c9,f8,f7]
    have e1:=E1.out
    refine b7.t 10 ?_
    clear e1
    refine b7.nx 11 fun K hK => ?_
    go_simp
    refine hK.out _ _ ?_ (fun hHeld => ?_)
    ·exact hHeld
    clear hK K
    try simp only [Act.put,c9,f8,f7]
    refine b7.nx 12 fun K hK => ?_
    go_simp
    refine hK.out _ _ ?_ (fun hHeld => ?_)
    ·exact hHeld
    clear hK K
    try simp only [Act.put,c9,f8,f7]
    have f1 : wr.frozen? ⟨X,1,none⟩=false:=by obtain ⟨_,_,g,-⟩:=HS.out.ex; simp [World.frozen?,g]
    refine b7.la fun K hK => ?_
    go_simp
    refine hK.out _ _ ?_
    clear hK K hHeld
    obtain ⟨W4,hW4⟩ : ∃ V,V=(wr.setCell ⟨X,1,none⟩ (.int .i64 ((a : Int) + (1 + (k : Int))))).drew:=⟨_,rfl⟩
    have HSN:=hid (show SC X M s (a + 1 + k) ts W4 from hW4 ▸ (show SC X M s (a + 1 + k) ts (wr.setCell ⟨X,1,none⟩ (.int .i64 ((a : Int) + (1 + (k : Int))))) from by
     rw [show ((a : Int) + (1 + (k : Int)))=((a + 1 + k : Nat) : Int) by omega]; exact HS.out.set_at (a + 1 + k)).below (A7 (Below.refl _ _)))
    have HBN:=hid (show Below w.heap.size w W4 from hW4 ▸ A7 (HBr.out.setCell (p:=⟨X,1,none⟩) (by show w.heap.size≤X; have:=HMX.out; have:=HM.out; omega) _))
    rw [← hW4]
    clear hW4 hX0 hX1 f1 CR
    go_wp2_with fail
    go_roundw
    case rel => exact ⟨a + 1 + k,ts,by omega,htl,HSN,HBN,Z⟩
    case measure => rw [hmu.out,HSN.out.at]; omega
   have e35 : ((s[a].toNat : Int) == 35)=false:=beq_eq_false_iff_ne.2 h35
   have e35':=hid (show s[a]≠35 from fun e => h35 (by rw [e]; rfl))
   have CT:=hid (a1g X M s a ts wr HS hs2 hlt htl)
   clear h35
   go_wp2_with fail
   (with_reducible refine Calls.mono CT.out ?_)
   rintro e w1 ⟨hb,hr⟩
   have HB1:=hid (HBr.out.trans (hb.mono (show w.heap.size≤X by have:=HMX.out; have:=HM.out; omega)))
   clear CT hX0 hX1
   cases hx : aY s[a] (s.data.toList.drop (a + 1)) a with
   | error c =>
     rw [hx] at hr
     obtain ⟨hc,n,ts',rfl,hsc⟩:=hr
     have Z:=hid (show r6 s.data.toList=.error (c,a) by rw [HC.out,kF h32'.out e35'.out hx]; rfl)
     have hc' : (c != 0)=true:=by rw [bne_iff_ne]; exact hc
     have HSC1:=hid hsc
     obtain ⟨hX0,hX1⟩:=hsc.sb
     clear hb hc hx hsc
     go_upto_region 12 with fail
     refine e8 (S:=(fun cur : World => cur.cell? ⟨X,1,none⟩=some (.int .i64 a))) (z:=8) (by kernel_rfl) ?_ (fun hHeld => ?_)
     ·exact hX1
     refine b7.t 7 ?_; refine b7.t 0 ?_; refine b7.t 1 ?_; refine b7.t 2 ?_; refine b7.t 3 ?_; refine b7.t 4 ?_; refine b7.t 5 ?_
     refine b7.nx 6 fun K hK => ?_
     go_simp
     obtain ⟨W9,hW9⟩ : ∃ V,V=(w1.alloc (.cells #[.int .i64 a,.int .i64 c] 75)).drew:=⟨_,rfl⟩
     have B9:=hid (show Below w1.heap.size w1 W9 from hW9 ▸ A7 (c6 _ _))
     have F9:=hid (show W9.heap[w1.heap.size]?=some (.cells #[.int .i64 a,.int .i64 c] 75 (0,0)) by rw [hW9]; show (w1.heap.push _)[w1.heap.size]?=_; simp)
     rw [← hW9]
     clear hW9
     refine hK.out _ _ ?_ (fun hHeld => ?_)
     ·exact ((HSC1).out.below B9).sb.2
     clear hK K
     try simp only [Act.put,c9,f8,f7]
     refine b7.la fun K hK => ?_
     go_simp
     refine hK.out _ _ ?_
     clear hK K hHeld
     go_wp2_with fail
     go_ret2
     exact mA Z (HB1.out.trans (B9.out.mono HB1.out.size)) HB1.out.size F9
   | ok q =>
     obtain ⟨t,n⟩:=q
     rw [hx] at hr
     obtain ⟨rfl,hsc⟩:=hr
     have hln:=nS hx
     have hln2 : n≤s.size - a:=by
      have:=hln.2
      rw [List.length_drop,HL.out] at this; omega
     have HSC1:=hid hsc
     obtain ⟨hX0,hX1⟩:=hsc.sb
     have hX3 : ∃ ao cp,w1.cell? ⟨X,3,none⟩=some (.slice ao (ts ++ [t]).length cp):=by obtain ⟨ao,cp,g,-⟩:=hsc.ex; exact ⟨ao,cp,by simp [World.cell?,g]⟩
     obtain ⟨ao,cp,hX3⟩:=hX3
     rw [List.length_append,show ([t] : List Tk).length=1 from rfl] at hX3
     by_cases hk : ts.length=8192
     ·have Z:=hid (show r6 s.data.toList=.error (76,a) by rw [HC.out,iE h32'.out e35'.out hx hk]; rfl)
      have hbig2 : (8192 : Int)<((ts.length + 1 : Nat) : Int):=by omega
      clear hb hx hk hsc
      go_upto_region 14 with fail
      refine e8 (S:=(fun cur : World => cur.cell? ⟨X,1,none⟩=some (.int .i64 a))) (z:=7) (by kernel_rfl) ?_ (fun hHeld => ?_)
      ·exact hX1
      refine b7.t 6 ?_; refine b7.t 0 ?_; refine b7.t 1 ?_; refine b7.t 2 ?_; refine b7.t 3 ?_; refine b7.t 4 ?_
      refine b7.nx 5 fun K hK => ?_
      go_simp
      obtain ⟨W9,hW9⟩ : ∃ V,V=(w1.alloc (.cells #[.int .i64 a,.int .i64 76] 75)).drew:=⟨_,rfl⟩
      have B9:=hid (show Below w1.heap.size w1 W9 from hW9 ▸ A7 (c6 _ _))
      have F9:=hid (show W9.heap[w1.heap.size]?=some (.cells #[.int .i64 a,.int .i64 76] 75 (0,0)) by rw [hW9]; show (w1.heap.push _)[w1.heap.size]?=_; simp)
      rw [← hW9]
      clear hW9
      refine hK.out _ _ ?_ (fun hHeld => ?_)
      ·exact ((HSC1).out.below B9).sb.2
      clear hK K
      try simp only [Act.put,c9,f8,f7]
      refine b7.la fun K hK => ?_
      go_simp
      refine hK.out _ _ ?_
      clear hK K hHeld
      go_wp2_with fail
      go_ret2
      exact mA Z (HB1.out.trans (B9.out.mono HB1.out.size)) HB1.out.size F9
     ·have Z:=hid (show r6 s.data.toList=ahead (ts ++ [t]) (s6 (s.data.toList.drop (a + n)) ((a + n : Nat) : Int) (ts ++ [t]).length 0) by
       rw [HC.out,kP h32'.out e35'.out hx hk,tE,← D.out,List.drop_drop,List.length_append]
       congr 2)
      obtain ⟨hn1,-⟩:=hln
      have hnb : ¬ (8192 : Int)<((ts.length + 1 : Nat) : Int):=by omega
      have htl8 : (ts ++ [t]).length≤8192:=by rw [List.length_append]; show ts.length + 1≤8192; omega
      have hXr:=hsc.lt.2
      have f1 : w1.frozen? ⟨X,1,none⟩=false:=by obtain ⟨_,_,g,-⟩:=hsc.ex; simp [World.frozen?,g]
      have HSN:=hid (show SC X M s (a + n) (ts ++ [t]) (w1.setCell ⟨X,1,none⟩ (.int .i64 ((a + n : Nat) : Int))) from hsc.set_at (a + n))
      have HBN:=hid (show Below w.heap.size w (w1.setCell ⟨X,1,none⟩ (.int .i64 ((a + n : Nat) : Int))) from HB1.out.setCell (p:=⟨X,1,none⟩) (by show w.heap.size≤X; have:=HMX.out; have:=HM.out; omega) _)
      rw [show ((a + n : Nat) : Int)=(a : Int) + n by omega] at HSN HBN
      have HT8:=hid htl8
      clear hb hx hk hsc htl8
      go_wp2_with fail
      go_roundw
      case rel => exact ⟨a + n,ts ++ [t],by omega,HT8,HSN,HBN,Z⟩
      case measure => rw [hmu.out,HSN.out.at]; omega
  case neg =>
   obtain rfl : a=s.size:=by omega
   have Z:=hid (show r6 s.data.toList=.ok (ts ++ [⟨0,[],0,s.size⟩]) by
    have:=HSC.out
    rw [aK (Nat.le_refl _)] at this
    exact this)
   obtain ⟨ao,cp,hat,how⟩:=HS.out.ex
   have hX3 : wr.cell? ⟨X,3,none⟩=some (.slice ao ts.length cp):=by simp [World.cell?,hat]
   have hlX:=HS.out.lt.2
   have HOW:=hid how
   clear hat how
   go_wp2_with (at_builtin; refine wpList_append_lies _ rfl _ _ 70 rfl (X + 1) 79 i0 (.agg #[.int .i64 0,.string ⟨#[]⟩,.int .i64 0,.int .i64 0]) 4 40 Tryz.underlying70 HI0.out.1 HI0.out.2.1 HI0.out.2.2.1 HI0.out.2.2.2 rfl (by decide) _ _ _ rfl (HOW.out.alloc _) ⟨wr.heap.size,0,none⟩ 1 1 (n6 ⟨0,[],0,s.size⟩) rfl rfl (x8 _ _ _ _ _ _) (bS _) (by decide) (by unfold maxLen; omega) (by omega) (by simp; omega) _ rfl ?_; intro g cap' w5 hown' hgrow' hat' hltg; have HO5:=hid hown'; have HG5:=hid hgrow'; clear hown' hgrow' hat' hltg)
   go_ret2
   have hb5 : Below X wr w5:=⟨HG5.out.os,HG5.out.tape,HG5.out.output,by have:=HG5.out.size; simp at this; omega,fun d hd => (HG5.out.block d (by simp; omega) (fun e => by have:=(HOW.out.lt d e.symm).1; omega)).trans ((c6 wr _).block d (by omega))⟩
   have hMXo:=HMX.out
   have hMo:=HM.out
   refine ⟨HBr.out.trans (hb5.mono (by omega)),?_⟩
   rw [Z.out]
   refine ⟨g,cap',by rw [List.length_append]; rfl,?_⟩
   rw [List.length_append,qG]
   exact a4c HO5 (by omega)
end
end Go.Proofs.YtibiccacafjjfaaGreatDoor
