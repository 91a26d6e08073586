/-
  Laws that the proof rests on.
-/
import Derived.Test.YtppcfebnaieciaaGreatDoorF31
import Derived.Lib.ItoaLen
import Derived.Test.YtppcfebnaieciaaGreatDoorF06
import Derived.Test.YtppcfebnaieciaaGreatDoorF17
import Derived.Test.YtppcfebnaieciaaGreatDoorF01
import Derived.Test.YtppcfebnaieciaaGreatDoorF26
import Derived.Test.YtppcfebnaieciaaGreatDoorF28
import Derived.Test.YtppcfebnaieciaaGreatDoorF21
import Derived.Test.YtppcfebnaieciaaGreatDoorF12
import Derived.Test.YtppcfebnaieciaaGreatDoorF27

namespace Go.Proofs.YtppcfebnaieciaaGreatDoor
open Lib (hid)
open Go.RowKit Go.Maps Go.WideMaps
set_option maxRecDepth 100000
theorem SSM.all {av : Nat→Prop} {b n : Nat} {sheets : List Sht} {w : World} (h : SSM av b n sheets w) {s : ByteArray} (hs : s.data.toList.length≤maxLen) : ∃ mo : Option Nat,∀ cur : World,cur.heap[b]?=w.heap[b]?→(Instr.lookup 55 (.map (some b)) (.string s) true).run Tryz.prog cur=.ok (.tuple #[.map mo,.bool (j8 sheets s.data.toList).isSome]) cur:=by
 have hbt:=bR s
 obtain ⟨f,h2,h4⟩:=h
 have h5:=h4 s.data.toList
 have hl : ∀ cur : World,cur.heap[b]?=w.heap[b]?→_:=fun cur hc => ((h2.kept hc).look dE Tryz.underlying55 (wB cur) (bC hs)).1
 rw [hbt] at hl
 cases e : j8 sheets s.data.toList with
 | none =>
   rw [e] at h5
   rw [show f (.string s.data.toList)=none from h5] at hl
   exact ⟨none,hl⟩
 | some d =>
   rw [e] at h5
   obtain ⟨bi,ni,e1,-⟩:=h5
   rw [e1] at hl
   exact ⟨some bi,hl⟩
set_option maxHeartbeats 8000000 in
theorem mF (ic A : Nat) (hic : ic≤maxLen) : qJ [] none ic A:=by
 intro F b0 b1 b2 n0 n1 n2 sheets defs own v t a cap w hA hown hn _ hbare hI hE
 have hts : t.text.data.toList.length≤24:=o0 (E0 hbare).1
 obtain ⟨mo,hlk⟩:=hE.ss.all (s:=t.text) (by unfold maxLen; omega)
 obtain ⟨W1,hW1⟩ : ∃ W,W=(w.alloc (.cells #[.pointer (some ⟨F,0,none⟩)] 54)).alloc (.cells #[.int .i64 t.kind,.string t.text,.int .i64 t.n,.slice a t.kids.length cap,.int .i64 t.place] 24):=⟨_,rfl⟩
 have B1:=hid (show Below w.heap.size w W1 from hW1 ▸ ((a7 _ _).alloc (by simp) _))
 have Z1:=hid (show W1.heap.size=w.heap.size + 2 by rw [hW1]; simp)
 have p1 : W1.heap[w.heap.size]?=some (.cells #[.pointer (some ⟨F,0,none⟩)] 54 (0,0)):=by rw [hW1]; exact dJ (by simp) (O0 _ _ rfl)
 have N1:=hid (show c6 (w.heap.size + 1) t a cap W1 by
  have:=c6.make (w.alloc (.cells #[.pointer (some ⟨F,0,none⟩)] 54)) t a cap
  rw [show (w.alloc (.cells #[.pointer (some ⟨F,0,none⟩)] 54)).heap.size=w.heap.size + 1 by simp] at this
  rwa [← hW1] at this)
 have HS:=hid (show ∀ cur,Below W1.heap.size W1 cur→cur.cell? ⟨w.heap.size,0,none⟩=some (.pointer (some ⟨F,0,none⟩))∧cur.cell? ⟨F,0,none⟩=some (.map (some b0))∧c6 (w.heap.size + 1) t a cap cur∧(Instr.lookup 55 (.map (some b0)) (.string t.text) true).run Tryz.prog cur=.ok (.tuple #[.map mo,.bool (j8 sheets t.text.data.toList).isSome]) cur from fun cur hb => by
  have hb0:=hE.ss.in
  have h1:=hb.block w.heap.size (by have:=Z1.out; omega)
  refine ⟨by simp [World.cell?,h1.trans p1],((hE.fb.below B1).below hb).cells.1,N1.out.below hb,hlk _ ((hb.block b0 (by have:=Z1.out; omega)).trans (B1.out.block b0 hb0))⟩)
 have HX:=hid (show p8 own.data.toList [] sheets t=if t.text.data.toList=own.data.toList || (j8 sheets t.text.data.toList).isSome then .error (111,t.place) else .error (112,t.place) by
  unfold p8
  split
  ·rfl
  ·rfl)
 clear hA hown hn hbare hI hE hts hlk p1
 go_enter Tryz.func29,Tryz.ntmps29
 go_upto_region 1 with fail
 rw [← hW1]
 clear hW1
 have HB0:=hid (show Below W1.heap.size W1 W1.drew from r8 (Below.refl W1.heap.size W1))
 obtain ⟨p0,f0,hn0,hl0⟩:=HS.out _ HB0
 obtain ⟨⟨n0',n1',n2',n3',n4'⟩,-⟩:=hn0.cells
 refine wp_region_held_drew (S:=fun cur => Below W1.heap.size W1 cur∧cur.cell? ⟨w.heap.size,0,none⟩=some (.pointer (some ⟨F,0,none⟩))∧cur.cell? ⟨F,0,none⟩=some (.map (some b0))∧cur.cell? ⟨w.heap.size + 1,1,none⟩=some (.string t.text)∧(Instr.lookup 55 (.map (some b0)) (.string t.text) true).run Tryz.prog cur=.ok (.tuple #[.map mo,.bool (j8 sheets t.text.data.toList).isSome]) cur) (by kernel_rfl) ?_ (fun hHeld => ?_)
 ·exact ⟨HB0,p0,f0,n1',hl0⟩
 refine a8 0 ?_; refine a8 1 ?_; refine a8 2 ?_; refine a8 3 ?_; refine a8 4 ?_; refine a8 5 ?_; refine a8 6 ?_; refine a8 7 ?_; refine a8 8 ?_; refine a8 9 ?_; refine a8 10 ?_; refine a8 11 ?_
 refine wpAnyH_done (by kernel_rfl) ?_ _
 clear hHeld p0 f0 hn0 hl0 n0' n1' n2' n3' n4'
 obtain ⟨w2,hw2⟩ : ∃ V,V=W1.drew:=⟨_,rfl⟩
 rw [← hw2]
 rw [← hw2] at HB0
 clear hw2
 obtain ⟨p0,f0,hn0,-⟩:=HS.out _ HB0
 obtain ⟨⟨q0,q1,q2,q3,q4⟩,-⟩:=hn0.cells
 have HBw:=hid (show Below w.heap.size w w2 from B1.out.trans (HB0.out.mono B1.out.size))
 have C1:=hid (I9 111 t.place w2)
 have C3:=hid (iV (fun _ => True) [] none ic t a cap (w.heap.size + 1) w2 (fun j hj => absurd hj (Nat.not_lt_zero _)) ⟨Nat.zero_le _,hic⟩ hn0)
 have HNB:=hid hn0
 clear hn0 HS N1 B1
 cases hs : (j8 sheets t.text.data.toList).isSome with
 | true =>
   have FX:=hid (show p8 own.data.toList [] sheets t=.error (111,t.place) by rw [HX.out,hs,Bool.or_true]; rfl)
   clear hs HX
   go_wp2_with fail
   (with_reducible refine Calls.mono C1.out ?_)
   rintro e w3 ⟨rfl,rfl⟩
   refine And.intro rfl ?_
   unfold cH
   rw [FX.out]
   exact ⟨rfl,HBw⟩
 | false =>
   have EO : Hid (decide (t.text.data.toList=own.data.toList)=(t.text.toList == own.toList)):=by
    rw [Lib.toList_data,Lib.toList_data]; exact (Bool.beq_eq_decide_eq _ _).symm
   cases ho : (t.text.toList == own.toList) with
   | true =>
     have FX:=hid (show p8 own.data.toList [] sheets t=.error (111,t.place) by rw [HX.out,EO.out,ho]; rfl)
     clear hs HX
     go_wp2_with fail
     (with_reducible refine Calls.mono C1.out ?_)
     rintro e w3 ⟨rfl,rfl⟩
     refine And.intro rfl ?_
     unfold cH
     rw [FX.out]
     exact ⟨rfl,HBw⟩
   | false =>
     have FX:=hid (show p8 own.data.toList [] sheets t=.error (112,t.place) by rw [HX.out,EO.out,ho,hs]; rfl)
     clear hs HX
     go_wp2_with fail
     (with_reducible refine Calls.mono C3.out ?_)
     rintro e w3 ⟨rfl,hb⟩
     have N3:=HNB.out.below hb
     obtain ⟨⟨q0,q1,q2,q3,q4⟩,-⟩:=N3.cells
     have C4:=hid (I9 112 t.place w3)
     have HB3:=hid (HBw.out.trans (hb.mono HBw.out.size))
     clear hb N3
     rw [show cF (fun s : Sht => s.name == t.text.data.toList) []=-1 from rfl]
     go_wp2_with fail
     (with_reducible refine Calls.mono C4.out ?_)
     rintro e w4 ⟨rfl,rfl⟩
     refine And.intro rfl ?_
     unfold cH
     rw [FX.out]
     exact ⟨rfl,HB3⟩
end Go.Proofs.YtppcfebnaieciaaGreatDoor

namespace Go.Proofs.YtppcfebnaieciaaGreatDoor
open Lib (hid)
open Go.RowKit
set_option maxRecDepth 100000
def lO : ByteArray:=⟨#[110,117,109,32,98,111,111,108,32,100,97,116,101,32,99,117,114,114,101,110,99,121,32,99,111,110,116,114,97,99,116]⟩
def dC : List (List UInt8):=[[110,117,109],[98,111,111,108],[100,97,116,101],[99,117,114,114,101,110,99,121],[99,111,110,116,114,97,99,116]]
def x7 (t : Int) : List UInt8:=if t<0 then [63] else if t<5 then dC.getD t.toNat [] else if t<31 then [UInt8.ofNat (97 + (t - 5).toNat)] else 116 :: Lib.itoa (t - 5)
theorem qK : Lib.fields lO.data.toList=dC:=by decide +kernel
theorem rC : ∀ (j : Nat) b,lO.data.toList[j]?=some b→b.toNat<128:=ascii_of_all (by decide)
theorem pZ (w : World) (ht : bZ w) : Calls Tryz.prog 47 #[.string lO] w fun e w' => e=.returned (.slice (some ⟨w.heap.size,0,none⟩) 5 5)∧w'=w.alloc (a4x dC):=by
 refine (Tryz.strings_Fields lO w (by decide) rC ht).mono ?_
 rintro e w' ⟨rfl,rfl⟩
 rw [qK]
 exact ⟨rfl,rfl⟩
theorem a4H : ∀ n : Nat,n<26→Utf8.encode (97 + (n : Int))=⟨#[UInt8.ofNat (97 + n)]⟩:=by decide +kernel
set_option maxHeartbeats 2000000 in
theorem oG (t : Int) (ht : -9223372036854775808≤t∧t≤9223372036854775807) (w : World) (hi : bZ w) (hp : Tab w) :
 Calls Tryz.prog 35 #[.int .i64 t] w fun e w' => e=.returned (.string ⟨(x7 t).toArray⟩)∧Below w.heap.size w w':=by
 by_cases h0 : t<0
 ·have E:=hid (show x7 t=[63] by unfold x7; rw [if_pos h0])
  have d0 : decide (t<0)=true:=decide_eq_true h0
  go_enter Tryz.func35,Tryz.ntmps35
  go_wp2_with fail
  go_ret
  exact ⟨by rw [E.out]; rfl,Below.refl _ _⟩
 ·have d0 : decide (t<0)=false:=decide_eq_false h0
  have e1 : IntKind.i64.wrap (t - 5)=t - 5:=IntWalk.i64_in _ (by omega)
  by_cases h5 : t<5
  ·have d1 : decide (t - 5<0)=true:=decide_eq_true (by omega)
   have C:=hid (pZ w hi)
   unfold lO at C
   obtain ⟨n,rfl⟩ : ∃ n : Nat,t=n:=⟨t.toNat,by omega⟩
   have hn : n<5:=by omega
   have E:=hid (show x7 (n : Int)=dC[n]'(by exact hn) by
    unfold x7
    rw [if_neg h0,if_pos h5,List.getD_eq_getElem?_getD,Int.toNat_natCast,List.getElem?_eq_getElem (by exact hn)]
    rfl)
   go_enter Tryz.func35,Tryz.ntmps35
   go_wp2_with fail
   (with_reducible refine Calls.mono C.out ?_)
   rintro e w2 ⟨rfl,hw2⟩
   have hb:=hid (show Below w.heap.size w w2 from hw2 ▸ a7 _ _)
   have c0 : w2.cell? ⟨w.heap.size,n,none⟩=some (Z3 dC[n]):=by rw [hw2]; exact kU w dC _ n hn
   clear hw2 C
   generalize dC[n]=x at c0 E
   unfold Z3 at c0
   go_wp2_with fail
   go_ret
   exact ⟨by rw [E.out]; rfl,hb⟩
  ·have d1 : decide (t - 5<0)=false:=decide_eq_false (by omega)
   by_cases h31 : t<31
   ·have d2 : decide (t - 5<26)=true:=decide_eq_true (by omega)
    obtain ⟨n,hn⟩ : ∃ n : Nat,t - 5=n:=⟨(t - 5).toNat,by omega⟩
    have hn26 : n<26:=by omega
    have E:=hid (show x7 t=[UInt8.ofNat (97 + n)] by
     unfold x7
     rw [if_neg h0,if_neg h5,if_pos h31,hn,Int.toNat_natCast])
    rw [hn] at e1 d1 d2
    have e2 : IntKind.i32.wrap (n : Int)=n:=IntWalk.i32_in _ (by omega)
    go_enter Tryz.func35,Tryz.ntmps35
    go_wp2_with fail
    have EL:=a4H n hn26
    go_ret
    exact ⟨by rw [E.out,← EL]; rfl,Below.refl _ _⟩
   ·have d2 : decide (t - 5<26)=false:=decide_eq_false (by omega)
    have C:=hid (Tryz.strconv_Itoa (t - 5) (by omega) (by omega) w hp)
    have E:=hid (show x7 t=116 :: Lib.itoa (t - 5) by unfold x7; rw [if_neg h0,if_neg h5,if_neg h31])
    go_enter Tryz.func35,Tryz.ntmps35
    go_wp2_with fail
    (with_reducible refine Calls.mono C.out ?_)
    rintro e w2 ⟨rfl,k,os,hw2⟩
    have hb:=hid (show Below w.heap.size w w2 from hw2 ▸ jM w k os)
    have hil:=Lib.itoa_length_le (t - 5) (by omega) (by omega)
    clear hw2 C
    generalize Lib.itoa (t - 5)=l at E hil
    go_wp2_with fail
    go_ret
    exact ⟨by rw [E.out]; rfl,hb⟩
end Go.Proofs.YtppcfebnaieciaaGreatDoor

namespace Go.Proofs.YtppcfebnaieciaaGreatDoor
open Lib (hid)
open Go.RowKit
set_option maxRecDepth 100000
def oT (d : Sch) : List UInt8:=d.name ++ ((if d.params=[] then [] else 40 :: (Lib.join (d.params.map x7) [44,32] ++ [41])) ++ (58 :: 32 :: x7 d.result))
def a3D (t : Int) : Prop:=-9223372036854775808≤t∧t≤9223372036854775807
theorem tF {t : Int} (h : a3D t) : (x7 t).length≤22∧x7 t≠[]:=by
 unfold a3D at h
 unfold x7
 split
 ·exact ⟨by decide,by simp⟩
 split
 ·rename_i h0 h5
  obtain ⟨n,rfl⟩ : ∃ n : Nat,t=n:=⟨t.toNat,by omega⟩
  have hn : n<5:=by omega
  have : ∀ n,n<5→(dC.getD n []).length≤22∧dC.getD n []≠[]:=by decide
  exact this n hn
 split
 ·exact ⟨by simp,by simp⟩
 ·have:=Lib.itoa_length_le (t - 5) (by omega) (by omega)
  exact ⟨by simp only [List.length_cons]; omega,by simp⟩
theorem sI : ∀ (l : List (List UInt8)) (sep : List UInt8) (m : Nat),(∀ x∈l,x.length≤m)→(Lib.join l sep).length≤l.length * (m + sep.length)
 | [],_,_,_ => by simp [Lib.join]
 | [x],sep,m,h => by
   have:=h x (List.mem_cons_self ..)
   simp [Lib.join]
   omega
 | x :: y :: l,sep,m,h => by
   have h1:=h x (List.mem_cons_self ..)
   have h2:=sI (y :: l) sep m fun z hz => h z (List.mem_cons_of_mem _ hz)
   have e : Lib.join (x :: y :: l) sep=x ++ (sep ++ Lib.join (y :: l) sep):=by simp [Lib.join,List.intercalate,List.intersperse]
   rw [e]
   simp only [List.length_append,List.length_cons,Nat.succ_mul] at h2 ⊢
   omega
def lZ (l : List Int) : List Value:=l.map fun t => Z3 (x7 t)
theorem L4 (a b : List UInt8) : bsA a ++ bsA b=bsA (a ++ b):=by
 apply ByteArray.ext
 rw [ByteArray.data_append]
 simp [bsA]
theorem a2x {w : World} {v : Value} {T : TypeId} : ∀ (j : Nat) u,[v][j]?=some u→(w.alloc (.cells #[v] T)).cell? ((⟨w.heap.size,0,none⟩ : Addr).add j)=some u:=by
 intro j u hu
 cases j with
 | zero => cases hu; rw [Go.WideShapes.add_plain]; simp
 | succ j => cases hu
set_option maxHeartbeats 4000000 in
theorem uX (av : Nat→Prop) (d : Sch) (pa : Option Addr) (pc : Nat) (w : World) (hI : y6 av w pa d.params) (hc : d.params.length≤pc∧pc≤maxLen) (hr : ∀ t∈d.params ++ [d.result],a3D t) (hn : d.params.length≤2000000) (hs : d.name.length≤1000000000000) (hi : bZ w) (hp : Tab w) :
 Calls Tryz.prog 15 #[.agg #[.string (bsA d.name),.slice pa d.params.length pc,.int .i64 d.result]] w fun e w' => e=.returned (.string (bsA (oT d)))∧Below w.heap.size w w':=by
 obtain ⟨W1,hW1⟩ : ∃ W,W=w.alloc (.cells #[.string (bsA d.name),.slice pa d.params.length pc,.int .i64 d.result] 36):=⟨_,rfl⟩
 have B1:=hid (show Below w.heap.size w W1 from hW1 ▸ a7 _ _)
 have K1:=hid (show y5 w.heap.size (bsA d.name) pa d.params.length pc d.result W1 from hW1 ▸ y5.make _ _ _ _ _ _)
 have HI:=hid (aV hI)
 have HR:=hid hr
 have HTI:=hid hi
 have HTP:=hid hp
 have hkl : d.params.length≤9223372036854775806:=by omega
 have HC:=hid hc
 clear hI hr hi hp hc
 go_enter Tryz.func15,Tryz.ntmps15
 go_upto_region 1 with fail
 rw [← hW1]
 clear hW1
 obtain ⟨⟨k0,k1,k2⟩,-,hkl1⟩:=K1.out.cells
 go_wp2_with fail
 go_loopw [10,3] (fun i v wr => ∃ k : Nat,i=.int .i64 k∧k≤d.params.length∧Hid (Below W1.heap.size W1 wr)∧Hid (wr.ownsRow W1.heap.size 9 1 v k (lZ (d.params.take k)))) (fun i _ _ => d.params.length - (intOf i).toNat)
 case atStart => exact ⟨0,rfl,Nat.zero_le _,Below.refl _ _,rfl,.inl ⟨rfl,rfl⟩⟩
 case round =>
  obtain ⟨k,rfl,hk,HBr,HROW⟩:=hrel
  have HBw:=hid (B1.out.trans (HBr.out.mono B1.out.size))
  by_cases hlt : k<d.params.length
  ·obtain ⟨b,off,rfl,hav,c0⟩:=HI.out k hlt
   have c0 : wr.cell? ⟨b,off + k,none⟩=some (.int .i64 d.params[k]):=(HBw.out.cell (p:=⟨b,off + k,none⟩) hav.2).trans c0
   have hbr : b<wr.heap.size:=by have:=HBw.out.size; have:=hav.2; omega
   have hcl:=HC.out
   have C:=hid (oG d.params[k] (HR.out _ (by simp)) wr (HTI.out.below HBw) (HTP.out.below HBw))
   have HT:=hid (show lZ (d.params.take (k + 1))=lZ (d.params.take k) ++ [Z3 (x7 d.params[k])] by unfold lZ; rw [List.take_succ_eq_append_getElem hlt,List.map_append]; rfl)
   generalize d.params[k]=t at c0 C HT
   go_upto_region 5 with fail
   go_wp2_with fail
   (with_reducible refine Calls.mono C.out ?_)
   rintro e w5 ⟨rfl,hb⟩
   obtain ⟨W6,hW6⟩ : ∃ W,W=w5.alloc (.cells #[Z3 (x7 t)] 9):=⟨_,rfl⟩
   have B6:=hid (show Below wr.heap.size wr W6 from hb.trans ((hW6 ▸ a7 _ _ : Below w5.heap.size w5 W6).mono hb.size))
   have R6:=hid (n8 HROW B6)
   have NEW:=hid (show ∀ (j : Nat) u,[Z3 (x7 t)][j]?=some u→W6.cell? ((⟨w5.heap.size,0,none⟩ : Addr).add j)=some u from fun j u hu => hW6 ▸ a2x j u hu)
   have HB6:=hid (HBr.out.trans (B6.out.mono HBr.out.size))
   obtain ⟨i0,hi,hz0,hz1',hz2⟩:=info_parts (show (Tryz.prog.info? 9).map (fun i => (i.zero,i.size,i.bytes))=some (some (.string ⟨#[]⟩),1,16) by kernel_rfl)
   have HI9:=hid (show _∧_∧_∧_ from ⟨hi,hz0,hz1',hz2⟩)
   unfold Z3 at hW6
   have HW6:=hid hW6
   clear hi hz0 hz1' hz2 hW6 C hb c0
   go_wp2_with (at_builtin; rw [← HW6.out]; refine wpList_append_lies _ rfl _ _ 38 rfl W1.heap.size 9 i0 (.string ⟨#[]⟩) 1 16 Tryz.underlying38 HI9.out.1 HI9.out.2.1 HI9.out.2.2.1 HI9.out.2.2.2 rfl (by decide) _ k _ rfl R6 ⟨w5.heap.size,0,none⟩ 1 1 [Z3 (x7 t)] rfl rfl NEW (by intro u hu; simp at hu; subst hu; rfl) (by decide) (by unfold maxLen; omega) (by omega) HB6.out.size _ rfl ?_)
   intro g cap' w7 hown hgrow hat hlt'
   have HB7:=hid (HB6.out.grown hgrow HB6.out.size (fun r e => (R6.out.lt r e).1))
   rw [← HT.out] at hown
   have HO7:=hid hown
   clear hown hgrow hat hlt'
   go_wp2_with fail
   go_roundw
   case rel => exact ⟨k + 1,by go_num,by omega,HB7,HO7⟩
   case measure => simp [intOf]; omega
  ·obtain rfl : k=d.params.length:=by omega
   rw [List.take_length] at HROW
   have k0r : wr.cell? ⟨w.heap.size,0,none⟩=some (.string (bsA d.name)):=(HBr.out.cell (p:=⟨w.heap.size,0,none⟩) hkl1).trans k0
   have k2r : wr.cell? ⟨w.heap.size,2,none⟩=some (.int .i64 d.result):=(HBr.out.cell (p:=⟨w.heap.size,2,none⟩) hkl1).trans k2
   have hqr : w.heap.size<wr.heap.size:=by have:=HBr.out.size; omega
   have CW:=hid (fun cur (hb : Below wr.heap.size wr cur) => oG d.result (HR.out _ (by simp)) cur (HTI.out.below (HBw.out.trans (hb.mono HBw.out.size))) (HTP.out.below (HBw.out.trans (hb.mono HBw.out.size))))
   have hwl:=(tF (HR.out d.result (by simp))).1
   clear k0 k2
   obtain ⟨x,c,hv⟩ : ∃ x c,u3=.slice x d.params.length c:=by
    rcases HROW.out.2 with ⟨e,h0⟩ | ⟨g,cap',cur,e,-⟩
    ·exact ⟨none,0,by rw [e,h0]⟩
    ·exact ⟨_,_,e⟩
   subst hv
   by_cases hp0 : d.params=[]
   ·have h0 : d.params.length=0:=List.length_eq_zero_iff.2 hp0
    have E:=hid (show oT d=d.name ++ (58 :: 32 :: x7 d.result) by unfold oT; rw [if_pos hp0]; rfl)
    rw [h0]
    clear HROW
    have C:=hid (CW.out wr (Below.refl _ _))
    have hbs : (bsA d.name).size=d.name.length:=by simp [bsA,ByteArray.size]
    go_wp2_with fail
    (with_reducible refine Calls.mono C.out ?_)
    rintro e w5 ⟨rfl,hb⟩
    have HB5:=hid (HBw.out.trans (hb.mono HBw.out.size))
    clear hb C CW
    generalize x7 d.result=l at E hwl
    go_wp2_with fail
    go_ret
    refine ⟨?_,HB5⟩
    rw [E.out]
    show Ending.returned (.string (bsA d.name ++ bsA [58,32] ++ bsA l))=_
    rw [L4,L4,List.append_assoc]
    rfl
   ·have h1 : 0<d.params.length:=List.length_pos_iff.2 hp0
    obtain ⟨g,rfl,hgl,hgc⟩ : ∃ g,x=some ⟨g,0,none⟩∧d.params.length≤c∧g<wr.heap.size:=by
     rcases HROW.out.2 with ⟨e,h0⟩ | ⟨g,cap',cur,e,hb,hg,q1,q2,q3⟩
     ·omega
     ·cases e; exact ⟨g,rfl,q1,(Array.getElem?_eq_some_iff.1 hg).1⟩
    have hcl:=HROW.out.cells (g:=g) rfl
    have hxs : (d.params.map fun t => bsA (x7 t)).length=d.params.length:=List.length_map ..
    have hxm : ((d.params.map fun t => bsA (x7 t)).map (·.data.toList))=d.params.map x7:=by
     rw [List.map_map]
     apply List.map_congr_left
     intro t _
     rfl
    have hjl : (Lib.join (d.params.map x7) [44,32]).length≤100000000:=by
     have:=sI (d.params.map x7) [44,32] 22 fun z hz => by
      obtain ⟨t,ht,rfl⟩:=List.mem_map.1 hz
      exact (tF (HR.out t (List.mem_append_left _ ht))).1
     rw [List.length_map,show (22 + ([44,32] : List UInt8).length)=24 from rfl] at this
     omega
    have CJ:=Tryz.strings_Join g 0 c (d.params.map fun t => bsA (x7 t)) (bsA [44,32]) wr (fun j z hz => by
     rw [List.getElem?_map] at hz
     cases hp : d.params[j]? with
     | none => rw [hp] at hz; cases hz
     | some t =>
       rw [hp] at hz
       cases hz
       have:=hcl j (Z3 (x7 t)) (by unfold lZ; rw [List.getElem?_map,hp]; rfl)
       rwa [Go.WideShapes.add_plain] at this) hgc (by rw [hxs]; omega) (by rw [hxs]; exact hgl) (by rw [hxm]; show (Lib.join _ [44,32]).length≤_; omega)
    rw [hxs,hxm] at CJ
    have CJ:=hid CJ
    have E:=hid (show oT d=d.name ++ ((40 :: (Lib.join (d.params.map x7) [44,32] ++ [41])) ++ (58 :: 32 :: x7 d.result)) by unfold oT; rw [if_neg hp0])
    have hbs : (bsA d.name).size=d.name.length:=by simp [bsA,ByteArray.size]
    rw [show (bsA [44,32]).data.toList=[44,32] from rfl] at CJ
    have d0 : decide (0<(d.params.length : Int))=true:=decide_eq_true (by omega)
    generalize Lib.join (d.params.map x7) [44,32]=jn at CJ E hjl
    unfold bsA at CJ
    clear HROW hcl hxs hxm
    go_wp2_with fail
    (with_reducible refine Calls.mono CJ.out ?_)
    rintro e w4 ⟨rfl,hb4⟩
    have HB4:=hid (HBw.out.trans (hb4.mono HBw.out.size))
    have C:=hid (CW.out w4 hb4)
    have k2r' : w4.cell? ⟨w.heap.size,2,none⟩=some (.int .i64 d.result):=(hb4.cell (p:=⟨w.heap.size,2,none⟩) hqr).trans k2r
    have hq4 : w.heap.size<w4.heap.size:=by have:=hb4.size; omega
    clear k0r k2r hqr CJ CW hb4
    go_wp2_with fail
    (with_reducible refine Calls.mono C.out ?_)
    rintro e w5 ⟨rfl,hb⟩
    have HB5:=hid (HB4.out.trans (hb.mono HB4.out.size))
    clear hb C
    generalize x7 d.result=l at E hwl
    have hsz : (bsA d.name ++ ({ data:=#[40] } ++ { data:=jn.toArray } ++ { data:=#[41] }) ++ { data:=#[58,32] } : ByteArray).size=d.name.length + jn.length + 4:=by
     show (bsA d.name ++ (bsA [40] ++ bsA jn ++ bsA [41]) ++ bsA [58,32]).size=_
     rw [L4,L4,L4,L4]
     simp [bsA,ByteArray.size]
     omega
    go_wp2_with fail
    go_ret
    refine ⟨?_,HB5⟩
    rw [E.out]
    show Ending.returned (.string (bsA d.name ++ (bsA [40] ++ bsA jn ++ bsA [41]) ++ bsA [58,32] ++ bsA l))=_
    rw [L4,L4,L4,L4,L4]
    simp only [List.append_assoc,List.cons_append,List.nil_append]
end Go.Proofs.YtppcfebnaieciaaGreatDoor

namespace Go.Proofs.YtppcfebnaieciaaGreatDoor
open Go.RowKit
set_option maxRecDepth 100000
end Go.Proofs.YtppcfebnaieciaaGreatDoor

namespace Go.Proofs.YtppcfebnaieciaaGreatDoor
open Go.RowKit
set_option maxRecDepth 100000
end Go.Proofs.YtppcfebnaieciaaGreatDoor

namespace Go.Proofs.YtppcfebnaieciaaGreatDoor
open Go.RowKit
set_option maxRecDepth 100000
end Go.Proofs.YtppcfebnaieciaaGreatDoor

namespace Go.Proofs.YtppcfebnaieciaaGreatDoor
open Go.RowKit
set_option maxRecDepth 100000
def a4h : List UInt8:=[109,111,100,117,108,101,32,109,59,32,108,101,116,32,99,104,111,111,115,101,40,98,44,32,120,44,32,121,41,32,61,32,105,102,32,98,32,116,104,101,110,32,120,32,101,108,115,101,32,121,59]
def F8 : Nd:=mkN 1 [109] 0 [mkN 3 [99,104,111,111,115,101] 0 [mkN 4 [98] 0 [] 21,mkN 4 [120] 0 [] 24,mkN 4 [121] 0 [] 27,mkN 14 [] 0 [mkN 10 [98] 0 [] 35,mkN 10 [120] 0 [] 42,mkN 10 [121] 0 [] 49] 32] 14] 0
def O4 : Sch:=⟨[99,104,111,111,115,101],[1,5,5],5⟩
theorem uB : bE a4h=.ok F8:=by kernel_rfl
theorem qM : r9 F8 []=.ok ⟨[109],[O4]⟩:=by kernel_rfl
theorem rA : oT O4=[99,104,111,111,115,101,40,98,111,111,108,44,32,97,44,32,97,41,58,32,97]:=by kernel_rfl
theorem pV : o6 F8:=by
 refine ⟨by decide,⟨by decide,⟨by decide,trivial⟩,⟨by decide,trivial⟩,⟨by decide,trivial⟩,⟨by decide,⟨by decide,trivial⟩,⟨by decide,trivial⟩,⟨by decide,trivial⟩,trivial⟩,trivial⟩,trivial⟩
end Go.Proofs.YtppcfebnaieciaaGreatDoor

namespace Go.Proofs.YtppcfebnaieciaaGreatDoor
open Lib (hid)
open Go.RowKit
set_option maxRecDepth 100000
set_option maxHeartbeats 4000000 in
theorem vI (w : World) (he : Env w) (hta : Tab w) (hti : bZ w) : Calls Tryz.prog 10 #[] w fun e w' => e=.returned (.bool true)∧Below w.heap.size w w':=by
 have C1:=hid (pM ⟨#[109,111,100,117,108,101,32,109,59,32,108,101,116,32,99,104,111,111,115,101,40,98,44,32,120,44,32,121,41,32,61,32,105,102,32,98,32,116,104,101,110,32,120,32,101,108,115,101,32,121,59]⟩ w (by unfold maxLen; decide))
 have HE:=hid he
 have HT:=hid hta
 have HTI:=hid hti
 clear he hta hti
 go_enter Tryz.func10,Tryz.ntmps10
 go_wp2_with fail
 (with_reducible refine Calls.mono C1.out ?_)
 rintro e w1 ⟨t,a,cp,f,k,rfl,hb,hx⟩
 rw [show bE (ByteArray.mk #[109,111,100,117,108,101,32,109,59,32,108,101,116,32,99,104,111,111,115,101,40,98,44,32,120,44,32,121,41,32,61,32,105,102,32,98,32,116,104,101,110,32,120,32,101,108,115,101,32,121,59]).data.toList=.ok F8 from uB] at hx
 obtain ⟨rfl,rfl,rfl,hl⟩:=hx
 have HL:=hid (show F8.hold w1.heap.size w1 a cp from Nd.lies.hold F8 (d6 hl (f8.refl _ _) fun b hb => hb.2))
 have HB1:=hid hb
 obtain ⟨W2,hW2⟩ : ∃ W,W=w1.alloc (.cells #[.int .i64 F8.kind,.string F8.text,.int .i64 F8.n,.slice a F8.kids.length cp,.int .i64 F8.place] 24):=⟨_,rfl⟩
 have N2:=hid (show c6 w1.heap.size F8 a cp W2 from hW2 ▸ c6.make w1 F8 a cp)
 have E2:=hid (show Below w1.heap.size w1 W2 from hW2 ▸ a7 _ _)
 have HA:=hid (HB1.out.trans (E2.out.mono HB1.out.size))
 clear hb hl C1
 have C2:=hid (mD [] none 0 F8 a cp w1.heap.size W2 (HL.out.below E2) pV E2.out.size (HE.out.below HA) (HT.out.below HA) (HTI.out.below HA) (fun j hj => absurd hj (Nat.not_lt_zero _)) ⟨Nat.le_refl _,Nat.zero_le _⟩ (fun s hs => (List.not_mem_nil hs).elim) (mF 0 _ (Nat.zero_le _)))
 obtain ⟨N,hN⟩ : ∃ N,N=F8:=⟨_,rfl⟩
 unfold lC at C2
 rw [qM] at C2
 rw [← hN] at C2 hW2 N2 ⊢
 clear hN HL
 obtain ⟨⟨n0,n1,n2,n3,n4⟩,-⟩:=N2.out.cells
 have hlt : w1.heap.size<W2.heap.size:=N2.out.lt
 unfold Nd.val
 go_upto_region 2 with fail
 rw [← hW2]
 clear hW2
 go_wp2_with fail
 (with_reducible refine Calls.mono C2.out ?_)
 rintro e w3 ⟨hb,da,dc,rfl,hS,h1,h2,h3⟩
 obtain ⟨b,off,rfl,hav,hbl,pa,pc,c0,c1,c2,hI,hp1,hp2,hp3⟩:=hS 0 (by decide)
 have HB3:=hid (HA.out.trans (hb.mono HA.out.size))
 have HI:=hid hI
 have HPC:=hid (show O4.params.length≤pc∧pc≤maxLen from ⟨hp1,hp2⟩)
 have c0 : w3.cell? ⟨b,off,none⟩=some (.string (bsA O4.name)):=by have:=c0; rwa [Nat.zero_mul,Nat.add_zero] at this
 have c1 : w3.cell? ⟨b,off + 1,none⟩=some (.slice pa O4.params.length pc):=by have:=c1; rwa [Nat.zero_mul,Nat.add_zero] at this
 have c2 : w3.cell? ⟨b,off + 2,none⟩=some (.int .i64 O4.result):=by have:=c2; rwa [Nat.zero_mul,Nat.add_zero] at this
 clear hb hS h3 hI hp1 hp2 hp3 C2
 rw [show [O4].length=1 from rfl] at h1 ⊢
 obtain ⟨W4,hW4⟩ : ∃ W,W=w3.alloc (.cells #[.string (bsA [109]),.slice (some ⟨b,off,none⟩) 1 dc] 29):=⟨_,rfl⟩
 have E4:=hid (show Below w3.heap.size w3 W4 from hW4 ▸ a7 _ _)
 have hB4 : W4.heap[w3.heap.size]?=some (.cells #[.string (bsA [109]),.slice (some ⟨b,off,none⟩) 1 dc] 29 (0,0)):=by rw [hW4]; exact O0 _ _ rfl
 have s1 : W4.cell? ⟨w3.heap.size,1,none⟩=some (.slice (some ⟨b,off,none⟩) 1 dc):=by simp [World.cell?,hB4]
 have hs4 : w3.heap.size<W4.heap.size:=(Array.getElem?_eq_some_iff.1 hB4).1
 have k0 : W4.cell? ⟨b,off,none⟩=some (.string (bsA O4.name)):=(E4.out.cell (p:=⟨b,off,none⟩) hbl).trans c0
 have k1 : W4.cell? ⟨b,off + 1,none⟩=some (.slice pa O4.params.length pc):=(E4.out.cell (p:=⟨b,off + 1,none⟩) hbl).trans c1
 have k2 : W4.cell? ⟨b,off + 2,none⟩=some (.int .i64 O4.result):=(E4.out.cell (p:=⟨b,off + 2,none⟩) hbl).trans c2
 have hb4 : b<W4.heap.size:=by omega
 have HA4:=hid (HB3.out.trans (E4.out.mono HB3.out.size))
 have C5:=hid (uX _ O4 pa pc W4 ((aV HI).move (fun b hb => E4.out.block b hb.2) fun _ h => h) HPC (by unfold O4 a3D; decide) (by decide) (by decide) (HTI.out.below HA4) (HT.out.below HA4))
 rw [rA,show bsA [99,104,111,111,115,101,40,98,111,111,108,44,32,97,44,32,97,41,58,32,97]=⟨#[99,104,111,111,115,101,40,98,111,111,108,44,32,97,44,32,97,41,58,32,97]⟩ from rfl] at C5
 generalize O4=D at k0 k1 k2 C5
 clear c0 c1 c2 hB4 HI HPC E4
 go_upto_region 3 with fail
 rw [← hW4]
 clear hW4
 go_wp2_with fail
 (with_reducible refine Calls.mono C5.out ?_)
 rintro e w5 ⟨rfl,hb⟩
 have HA5:=hid (HA4.out.trans (hb.mono HA4.out.size))
 clear hb C5
 go_wp2_with fail
 go_ret
 exact ⟨rfl,HA5⟩
end Go.Proofs.YtppcfebnaieciaaGreatDoor

namespace Go.Proofs.YtppcfebnaieciaaGreatDoor
open Go.RowKit
set_option maxRecDepth 100000
theorem yV {av : Nat→Prop} {W : World} {a : Option Addr} {l : List Sch} (h : bS av W a l) : bS (fun b => av b∧b<W.heap.size) W a l:=fun j hj => by
 obtain ⟨b,off,h1,h2,h3,pa,pc,c0,c1,c2,hI,hp⟩:=h j hj
 exact ⟨b,off,h1,⟨h2,h3⟩,h3,pa,pc,c0,c1,c2,aV hI,hp⟩
end Go.Proofs.YtppcfebnaieciaaGreatDoor

namespace Go.Proofs.YtppcfebnaieciaaGreatDoor
open Go.RowKit
set_option maxRecDepth 100000
end Go.Proofs.YtppcfebnaieciaaGreatDoor

namespace Go.Proofs.YtppcfebnaieciaaGreatDoor
open Go.RowKit
set_option maxRecDepth 100000
abbrev ndA (t : Nd) (a : Option Addr) (cap : Nat) : Array Value:=#[.int .i64 t.kind,.string t.text,.int .i64 t.n,.slice a t.kids.length cap,.int .i64 t.place]
end Go.Proofs.YtppcfebnaieciaaGreatDoor

namespace Go.Proofs.YtppcfebnaieciaaGreatDoor
open Go.RowKit
set_option maxRecDepth 100000
structure FarW (W : World) (mb : Nat) (nm : List UInt8) (ds : List Sch) (ws : List Int) (g gc : Nat) (L : List Ent) (v : Value) (wr : World) : Prop where
 bl : Below W.heap.size W wr
 le : W.heap.size≤mb
 box : wr.heap[mb]?=some (.cells #[.int .i64 1,.string ⟨#[122,122]⟩,.int .i64 0,.slice (some ⟨g,0,none⟩) (ds.length + 1) gc,.int .i64 0] 24 (0,0))
 row : wr.ownsRow W.heap.size 24 5 (.slice (some ⟨g,0,none⟩) (ds.length + 1) gc) (ds.length + 1) (bH L)
 kids : L.map (·.1)=(aG nm ds).kids
 lies : ∀ e∈L,e.1.lies (fun b => W.heap.size≤b∧b<wr.heap.size∧b≠mb∧b≠g∧v.ownBlock≠some b) wr e.2.1 e.2.2
 want : wr.ownsRow W.heap.size 3 1 v ws.length (ws.map fun (r : Int) => .int .i64 r)
 sep : g≠mb∧v.ownBlock≠some mb∧v.ownBlock≠some g
namespace FarW
variable {W wr : World} {mb g gc : Nat} {nm : List UInt8} {ds : List Sch} {ws : List Int} {L : List Ent} {v : Value}
theorem lt (h : FarW W mb nm ds ws g gc L v wr) : mb<wr.heap.size∧g<wr.heap.size∧W.heap.size≤g∧∀ c,v.ownBlock=some c→W.heap.size≤c∧c<wr.heap.size :=
 ⟨(Array.getElem?_eq_some_iff.1 h.box).1,(h.row.lt g rfl).2,(h.row.lt g rfl).1,fun c hc => h.want.lt c hc⟩
theorem below (h : FarW W mb nm ds ws g gc L v wr) {w' : World} (hb : Below wr.heap.size wr w') : FarW W mb nm ds ws g gc L v w' :=
 ⟨h.bl.trans (hb.mono h.bl.size),h.le,(hb.block mb h.lt.1).trans h.box,n8 h.row hb,h.kids,fun e he => Nd.lies.kept (fun b hb' => ⟨⟨hb'.1,Nat.lt_of_lt_of_le hb'.2.1 hb.size,hb'.2.2⟩,fun o => hb.cell (p:=⟨b,o,none⟩) hb'.2.1⟩) _ (h.lies e he),n8 h.want hb,h.sep⟩
theorem cells (h : FarW W mb nm ds ws g gc L v wr) : (wr.cell? ⟨mb,0,none⟩=some (.int .i64 1)∧wr.cell? ⟨mb,1,none⟩=some (.string ⟨#[122,122]⟩)∧wr.cell? ⟨mb,2,none⟩=some (.int .i64 0)∧wr.cell? ⟨mb,3,none⟩=some (.slice (some ⟨g,0,none⟩) (ds.length + 1) gc)∧wr.cell? ⟨mb,4,none⟩=some (.int .i64 0))∧wr.frozen? ⟨mb,3,none⟩=false:=by
 have hb:=h.box
 refine ⟨⟨?_,?_,?_,?_,?_⟩,?_⟩ <;> simp [World.cell?,World.frozen?,hb]
theorem use (h : FarW W mb nm ds ws g gc L v wr) {W2 w3 : World} {d : Sch} {x g' gc' : Nat} (hnm : nm.length≤24) (hd : d.name.length≤24) (hb : Below wr.heap.size wr W2)
 (hx : W2.heap[x]?=some (.cells (ndA (mkN 10 (U4 nm d) 0 [] 0) none 0) 24 (0,0))) (hxl : wr.heap.size≤x)
 (hg : W2.grownBy w3 (some g)) (own : w3.ownsRow W.heap.size 24 5 (.slice (some ⟨g',0,none⟩) (ds.length + 1 + 1) gc') (ds.length + 1 + 1) (bH L ++ ndC (p5 nm ds.length d,some ⟨x,0,none⟩,1))) (hat : some g=some g'∨g'=W2.heap.size) :
 FarW W mb nm (ds ++ [d]) ws g' gc' (L ++ [(p5 nm ds.length d,some ⟨x,0,none⟩,1)]) v (w3.setCell ⟨mb,3,none⟩ (.slice (some ⟨g',0,none⟩) (ds.length + 1 + 1) gc')):=by
 obtain ⟨hm,hgl,hgW,hv⟩:=h.lt
 have h2:=hb.size
 have h3:=hg.size
 have hxs : x<W2.heap.size:=(Array.getElem?_eq_some_iff.1 hx).1
 have hg' : g'≠mb∧v.ownBlock≠some g'∧(∀ b,b<wr.heap.size→b≠g→b≠g')∧x≠g':=by
  rcases hat with e | e
  ·obtain rfl:=Option.some.inj e
   exact ⟨h.sep.1,h.sep.2.2,fun b _ hb => hb,by omega⟩
  ·exact ⟨by omega,fun e2 => by have:=(hv _ e2).2; omega,fun b hb' _ => by omega,by omega⟩
 have hxm : x≠mb:=by omega
 have hxg : x≠g:=by omega
 have hlow : ∀ b,b<wr.heap.size→b≠g→b≠mb→(w3.setCell ⟨mb,3,none⟩ (.slice (some ⟨g',0,none⟩) (ds.length + 1 + 1) gc')).heap[b]?=wr.heap[b]?:=fun b hb' hbg hbm =>
  (Below.heap_setCell _ _ _ _ (show b≠mb from hbm)).trans ((hg.block b (by omega) (fun e => hbg (Option.some.inj e))).trans (hb.block b hb'))
 have hs : (w3.setCell ⟨mb,3,none⟩ (.slice (some ⟨g',0,none⟩) (ds.length + 1 + 1) gc')).heap.size=w3.heap.size:=by simp [World.setCell]
 have hx4 : (w3.setCell ⟨mb,3,none⟩ (.slice (some ⟨g',0,none⟩) (ds.length + 1 + 1) gc')).heap[x]?=some (.cells (ndA (mkN 10 (U4 nm d) 0 [] 0) none 0) 24 (0,0)) :=
  (Below.heap_setCell _ _ _ _ (show x≠mb from hxm)).trans ((hg.block x hxs (fun e => hxg (Option.some.inj e))).trans hx)
 have hgW':=(own.lt g' rfl).1
 have hvx : v.ownBlock≠some x:=fun e => by have:=(hv _ e).2; omega
 have hlW:=h.le
 have hWr:=h.bl.size
 refine ⟨?_,h.le,?_,?_,?_,?_,?_,⟨hg'.1,h.sep.2.1,hg'.2.1⟩⟩
 ·exact ((h.bl.trans (hb.mono h.bl.size)).grown hg (by omega) (fun r e => by cases e; exact hgW)).setCell (p:=⟨mb,3,none⟩) h.le _
 ·have hb3 : w3.heap[mb]?=some (.cells #[.int .i64 1,.string ⟨#[122,122]⟩,.int .i64 0,.slice (some ⟨g,0,none⟩) (ds.length + 1) gc,.int .i64 0] 24 (0,0)):=(hg.block mb (by omega) (fun e => h.sep.1 (Option.some.inj e).symm)).trans ((hb.block mb hm).trans h.box)
  rw [List.length_append]
  exact j9 hb3 3 _
 ·rw [List.length_append,fX]
  exact fI own (Below.heap_setCell _ _ _ _ (show g'≠mb from hg'.1))
 ·rw [List.map_append,h.kids]
  show (mkN 2 nm 0 [] 0 :: ds.mapIdx fun k d => p5 nm k d) ++ [p5 nm ds.length d]=mkN 2 nm 0 [] 0 :: (ds ++ [d]).mapIdx fun k d => p5 nm k d
  rw [List.mapIdx_concat]
  rfl
 ·intro e he
  rw [hs]
  rcases List.mem_append.1 he with he | he
  ·refine Nd.lies.kept (fun b hb' => ⟨⟨hb'.1,by omega,hb'.2.2.1,hg'.2.2.1 b hb'.2.1 hb'.2.2.2.1,hb'.2.2.2.2⟩,fun o => World.cell?_of_block (hlow b hb'.2.1 hb'.2.2.2.1 hb'.2.2.1)⟩) _ (h.lies e he)
  ·obtain rfl:=List.mem_singleton.1 he
   have hft : (U4 nm d).length≤100:=by unfold U4; simp only [List.length_append,List.length_cons,List.length_nil]; omega
   refine Nd.lies.mk' (by decide) (by show (aH ds.length).toArray.size≤_; unfold aH maxLen; simp) (by decide) (by decide) (Nat.le_refl 1) (show 1≤maxLen by unfold maxLen; omega) (Nd.lie.of _ 0 fun j hj => ?_)
   obtain rfl : j=0:=by simpa using hj
   refine ⟨x,0,none,0,rfl,⟨by omega,by omega,hxm,hg'.2.2.2,hvx⟩,?_,?_,?_,?_,?_,?_⟩
   iterate 5 simp [World.cell?,hx4]
   exact Nd.lies.mk' (by decide) (by show (U4 nm d).toArray.size≤_; simp [maxLen]; omega) (by decide) (by decide) (Nat.le_refl 0) (Nat.zero_le _) trivial
 ·refine Y0 h.want fun c hc => ?_
  exact hlow c (hv c hc).2 (fun e => h.sep.2.2 (e ▸ hc)) (fun e => h.sep.2.1 (e ▸ hc))
theorem note (h : FarW W mb nm ds ws g gc L v wr) {W1 w3 : World} {r : Int} {g' c' : Nat} (hb : Below wr.heap.size wr W1) (hg : W1.grownBy w3 v.ownBlock)
 (own : w3.ownsRow W.heap.size 3 1 (.slice (some ⟨g',0,none⟩) (ws.length + 1) c') (ws.length + 1) (ws.map (fun (r : Int) => Value.int .i64 r) ++ [.int .i64 r])) (hat : v.ownBlock=some g'∨g'=W1.heap.size) :
 FarW W mb nm ds (ws ++ [r]) g gc L (.slice (some ⟨g',0,none⟩) (ws.length + 1) c') w3:=by
 obtain ⟨hm,hgl,hgW,hv⟩:=h.lt
 have h2:=hb.size
 have h3:=hg.size
 have hWr:=h.bl.size
 have hne : ∀ b,b<wr.heap.size→v.ownBlock≠some b→b≠g':=fun b hb' hvb => by
  rcases hat with e | e
  ·intro e2; exact hvb (e2 ▸ e)
  ·omega
 have hlow : ∀ b,b<wr.heap.size→v.ownBlock≠some b→w3.heap[b]?=wr.heap[b]?:=fun b hb' hvb => (hg.block b (by omega) (fun e => hvb e.symm)).trans (hb.block b hb')
 refine ⟨?_,h.le,(hlow mb hm h.sep.2.1).trans h.box,fI h.row (hlow g hgl h.sep.2.2),h.kids,fun e he => ?_,?_,⟨h.sep.1,fun e => hne mb hm h.sep.2.1 (Option.some.inj e).symm,fun e => hne g hgl h.sep.2.2 (Option.some.inj e).symm⟩⟩
 ·cases hvo : v.ownBlock with
  | none => exact (h.bl.trans (hb.mono h.bl.size)).grown (hvo ▸ hg) (by omega) (fun r e => by cases e)
  | some c => exact (h.bl.trans (hb.mono h.bl.size)).grown (hvo ▸ hg) (by omega) (fun r e => by cases e; exact (hv c hvo).1)
 ·refine Nd.lies.kept (fun b hb' => ⟨⟨hb'.1,by omega,hb'.2.2.1,hb'.2.2.2.1,fun e => hne b hb'.2.1 hb'.2.2.2.2 (Option.some.inj e).symm⟩,fun o => World.cell?_of_block (hlow b hb'.2.1 hb'.2.2.2.2)⟩) _ (h.lies e he)
 ·rw [List.length_append,List.map_append]
  exact own
theorem caps (h : FarW W mb nm ds ws g gc L v wr) : gc≤maxLen∧ds.length + 1≤gc:=by
 rcases h.row.2 with ⟨e,-⟩ | ⟨g1,cap,cur,e,-,-,h1,h2,-⟩
 ·cases e
 ·cases e; exact ⟨h2,h1⟩
theorem tree (h : FarW W mb nm ds ws g gc L v wr) (hgc : gc≤maxLen∧ds.length + 1≤gc) : (aG nm ds).hold wr.heap.size wr (some ⟨g,0,none⟩) gc:=by
 have hrow:=h.row
 have hlen : L.length=ds.length + 1:=by
  have:=congrArg List.length h.kids
  rw [List.length_map] at this
  rw [this]
  show (mkN 2 nm 0 [] 0 :: ds.mapIdx fun k d => p5 nm k d).length=_
  simp
 rw [← hlen] at hrow
 have hl:=jY (av:=(· < wr.heap.size)) hrow h.lt.2.1 fun e he => Nd.lies.kept (fun b hb' => ⟨hb'.2.1,fun o => rfl⟩) _ (h.lies e he)
 rw [h.kids] at hl
 refine Nd.lies.hold _ (Nd.lies.mk' (by decide) (by decide) (by decide) (by decide) ?_ hgc.1 hl)
 show (mkN 2 nm 0 [] 0 :: ds.mapIdx fun k d => p5 nm k d).length≤gc
 simp
 exact hgc.2
end FarW
end Go.Proofs.YtppcfebnaieciaaGreatDoor
