/-
  Laws that the proof rests on.
-/
import Derived.Test.YtppcfebnaieciaaGreatDoorE30
import Derived.Lib.ItoaLen
import Derived.Test.YtppcfebnaieciaaGreatDoorE27
import Derived.Test.YtppcfebnaieciaaGreatDoorE22
import Derived.Test.YtppcfebnaieciaaGreatDoorE17
import Derived.Test.YtppcfebnaieciaaGreatDoorE12
namespace Go.Proofs.YtppcfebnaieciaaGreatDoor
set_option maxRecDepth 100000
set_option maxHeartbeats 16000000
section
open Lib (hid)
open Go.RowKit Go.Maps Go.WideMaps
theorem SSM.all {av : Nat→Prop} {b n : Nat} {sheets : List Sht} {w : World} (h : SSM av b n sheets w) {s : ByteArray} (hs : s.data.toList.length≤maxLen) : ∃ mo : Option Nat,∀ cur : World,cur.heap[b]?=w.heap[b]?→(Instr.lookup 55 (.map (some b)) (.string s) true).run Tryz.prog cur=.ok (.tuple #[.map mo,.bool (D5 sheets s.data.toList).isSome]) cur:=by
 have hbt:=bV s
 obtain ⟨f,h2,h4⟩:=h
 have h5:=h4 s.data.toList
 have hl : ∀ cur : World,cur.heap[b]?=w.heap[b]?→_:=fun cur hc => ((h2.kept hc).look fM Tryz.underlying55 (a2y cur) (cO hs)).1
 rw [hbt] at hl
 cases e : D5 sheets s.data.toList with
 | none =>
   rw [e] at h5
   rw [show f (.string s.data.toList)=none from h5] at hl
   exact ⟨none,hl⟩
 | some d =>
   rw [e] at h5
   obtain ⟨bi,ni,e1,-⟩:=h5
   rw [e1] at hl
   exact ⟨some bi,hl⟩
theorem dS (ic A : Nat) (hic : ic≤maxLen) : a3B [] none ic A:=by
 intro F b0 b1 b2 n0 n1 n2 sheets defs own v t a cap w hA hown hn hbare hI hE
 have hts : t.text.data.toList.length≤24:=r8 (J7 hbare).1
 obtain ⟨mo,hlk⟩:=hE.ss.all (s:=t.text) (by unfold maxLen; omega)
 obtain ⟨W1,hW1⟩ : ∃ W,W=(w.alloc (.cells #[.pointer (some ⟨F,0,none⟩)] 54)).alloc (.cells #[.int .i64 t.kind,.string t.text,.int .i64 t.n,.slice a t.kids.length cap,.int .i64 t.place] 24):=⟨_,rfl⟩
 have B1:=hid (show Below w.heap.size w W1 from hW1 ▸ ((a7 _ _).alloc (by simp) _))
 have Z1:=hid (show W1.heap.size=w.heap.size + 2 by rw [hW1]; simp)
 have p1 : W1.heap[w.heap.size]?=some (.cells #[.pointer (some ⟨F,0,none⟩)] 54 (0,0)):=by rw [hW1]; exact iZ (by simp) (Q8 _ _ rfl)
 have N1:=hid (show c6 (w.heap.size + 1) t a cap W1 by
  have:=c6.make (w.alloc (.cells #[.pointer (some ⟨F,0,none⟩)] 54)) t a cap
  rw [show (w.alloc (.cells #[.pointer (some ⟨F,0,none⟩)] 54)).heap.size=w.heap.size + 1 by simp] at this
  rwa [← hW1] at this)
 have HS:=hid (show ∀ cur,Below W1.heap.size W1 cur→cur.cell? ⟨w.heap.size,0,none⟩=some (.pointer (some ⟨F,0,none⟩))∧cur.cell? ⟨F,0,none⟩=some (.map (some b0))∧c6 (w.heap.size + 1) t a cap cur∧(Instr.lookup 55 (.map (some b0)) (.string t.text) true).run Tryz.prog cur=.ok (.tuple #[.map mo,.bool (D5 sheets t.text.data.toList).isSome]) cur from fun cur hb => by
  have hb0:=hE.ss.in
  have h1:=hb.block w.heap.size (by have:=Z1.out; omega)
  refine ⟨by simp [World.cell?,h1.trans p1],((hE.fb.below B1).below hb).cells.1,N1.out.below hb,hlk _ ((hb.block b0 (by have:=Z1.out; omega)).trans (B1.out.block b0 hb0))⟩)
 have HX:=hid (show L3 own.data.toList [] sheets t=if t.text.data.toList=own.data.toList || (D5 sheets t.text.data.toList).isSome then .error (111,t.place) else .error (112,t.place) by
  unfold L3
  split
  ·rfl
  ·rfl)
 clear hA hown hn hbare hI hE hts hlk p1
 go_enter Tryz.func29,Tryz.ntmps29
 go_upto_region 1 with fail
 rw [← hW1]
 clear hW1
 have HB0:=hid (show Below W1.heap.size W1 W1.drew from x9 (Below.refl W1.heap.size W1))
 obtain ⟨p0,f0,hn0,hl0⟩:=HS.out _ HB0
 obtain ⟨⟨n0',n1',n2',n3',n4'⟩,-⟩:=hn0.cells
 refine wp_region_held_drew (S:=fun cur => Below W1.heap.size W1 cur∧cur.cell? ⟨w.heap.size,0,none⟩=some (.pointer (some ⟨F,0,none⟩))∧cur.cell? ⟨F,0,none⟩=some (.map (some b0))∧cur.cell? ⟨w.heap.size + 1,1,none⟩=some (.string t.text)∧(Instr.lookup 55 (.map (some b0)) (.string t.text) true).run Tryz.prog cur=.ok (.tuple #[.map mo,.bool (D5 sheets t.text.data.toList).isSome]) cur) (by kernel_rfl) ?_ (fun hHeld => ?_)
 ·exact ⟨HB0,p0,f0,n1',hl0⟩
 refine a8 0 ?_; refine a8 1 ?_; refine a8 2 ?_; refine a8 3 ?_; refine a8 4 ?_; refine a8 5 ?_; refine a8 6 ?_; refine a8 7 ?_; refine a8 8 ?_; refine a8 9 ?_; refine a8 10 ?_; refine a8 11 ?_
 refine wpAnyH_done (by kernel_rfl) ?_ _
 clear hHeld p0 f0 hn0 hl0 n0' n1' n2' n3' n4'
 obtain ⟨w2,hw2⟩ : ∃ V,V=W1.drew:=⟨_,rfl⟩
 rw [← hw2]
 rw [← hw2] at HB0
 clear hw2
 obtain ⟨p0,f0,hn0,-⟩:=HS.out _ HB0
 obtain ⟨⟨q0,q1,q2,q3,q4⟩,-⟩:=hn0.cells
 have HBw:=hid (show Below w.heap.size w w2 from B1.out.trans (HB0.out.mono B1.out.size))
 have C1:=hid (U8 111 t.place w2)
 have C3:=hid (a1g (fun _ => True) [] none ic t a cap (w.heap.size + 1) w2 (fun j hj => absurd hj (Nat.not_lt_zero _)) ⟨Nat.zero_le _,hic⟩ hn0)
 have HNB:=hid hn0
 clear hn0 HS N1 B1
 cases hs : (D5 sheets t.text.data.toList).isSome with
 | true =>
   have FX:=hid (show L3 own.data.toList [] sheets t=.error (111,t.place) by rw [HX.out,hs,Bool.or_true]; rfl)
   clear hs HX
   go_wp2_with fail
   (with_reducible refine Calls.mono C1.out ?_)
   rintro e w3 ⟨rfl,rfl⟩
   refine And.intro rfl ?_
   unfold mC
   rw [FX.out]
   exact ⟨rfl,HBw⟩
 | false =>
   have EO : Hid (decide (t.text.data.toList=own.data.toList)=(t.text.toList == own.toList)):=by
    rw [Lib.toList_data,Lib.toList_data]; exact (Bool.beq_eq_decide_eq _ _).symm
   cases ho : (t.text.toList == own.toList) with
   | true =>
     have FX:=hid (show L3 own.data.toList [] sheets t=.error (111,t.place) by rw [HX.out,EO.out,ho]; rfl)
     clear hs HX
     go_wp2_with fail
     (with_reducible refine Calls.mono C1.out ?_)
     rintro e w3 ⟨rfl,rfl⟩
     refine And.intro rfl ?_
     unfold mC
     rw [FX.out]
     exact ⟨rfl,HBw⟩
   | false =>
     have FX:=hid (show L3 own.data.toList [] sheets t=.error (112,t.place) by rw [HX.out,EO.out,ho,hs]; rfl)
     clear hs HX
     go_wp2_with fail
     (with_reducible refine Calls.mono C3.out ?_)
     rintro e w3 ⟨rfl,hb⟩
     have N3:=HNB.out.below hb
     obtain ⟨⟨q0,q1,q2,q3,q4⟩,-⟩:=N3.cells
     have C4:=hid (U8 112 t.place w3)
     have HB3:=hid (HBw.out.trans (hb.mono HBw.out.size))
     clear hb N3
     rw [show dV (fun s : Sht => s.name == t.text.data.toList) []=-1 from rfl]
     go_wp2_with fail
     (with_reducible refine Calls.mono C4.out ?_)
     rintro e w4 ⟨rfl,rfl⟩
     refine And.intro rfl ?_
     unfold mC
     rw [FX.out]
     exact ⟨rfl,HB3⟩
end
section
open Lib (hid)
open Go.RowKit
def nI : ByteArray:=⟨#[110,117,109,32,98,111,111,108,32,100,97,116,101,32,99,117,114,114,101,110,99,121,32,99,111,110,116,114,97,99,116]⟩
def cR : List (List UInt8):=[[110,117,109],[98,111,111,108],[100,97,116,101],[99,117,114,114,101,110,99,121],[99,111,110,116,114,97,99,116]]
def i8 (t : Int) : List UInt8:=if t<0 then [63] else if t<5 then cR.getD t.toNat [] else if t<31 then [UInt8.ofNat (97 + (t - 5).toNat)] else 116 :: Lib.itoa (t - 5)
theorem rH : Lib.fields nI.data.toList=cR:=by decide +kernel
theorem vO : ∀ (j : Nat) b,nI.data.toList[j]?=some b→b.toNat<128:=ascii_of_all (by decide)
theorem rB (w : World) (ht : bB w) : Calls Tryz.prog 47 #[.string nI] w fun e w' => e=.returned (.slice (some ⟨w.heap.size,0,none⟩) 5 5)∧w'=w.alloc (a5j cR):=by
 refine (Tryz.strings_Fields nI w (by decide) vO ht).mono ?_
 rintro e w' ⟨rfl,rfl⟩
 rw [rH]
 exact ⟨rfl,rfl⟩
theorem a5r : ∀ n : Nat,n<26→Utf8.encode (97 + (n : Int))=⟨#[UInt8.ofNat (97 + n)]⟩:=by decide +kernel
theorem qJ (t : Int) (ht : -9223372036854775808≤t∧t≤9223372036854775807) (w : World) (hi : bB w) (hp : Tab w) :
 Calls Tryz.prog 35 #[.int .i64 t] w fun e w' => e=.returned (.string ⟨(i8 t).toArray⟩)∧Below w.heap.size w w':=by
 by_cases h0 : t<0
 ·have E:=hid (show i8 t=[63] by unfold i8; rw [if_pos h0])
  have d0 : decide (t<0)=true:=decide_eq_true h0
  go_enter Tryz.func35,Tryz.ntmps35
  go_wp2_with fail
  go_ret
  exact ⟨by rw [E.out]; rfl,Below.refl _ _⟩
 ·have d0 : decide (t<0)=false:=decide_eq_false h0
  have e1 : IntKind.i64.wrap (t - 5)=t - 5:=IntWalk.i64_in _ (by omega)
  by_cases h5 : t<5
  ·have d1 : decide (t - 5<0)=true:=decide_eq_true (by omega)
   have C:=hid (rB w hi)
   unfold nI at C
   obtain ⟨n,rfl⟩ : ∃ n : Nat,t=n:=⟨t.toNat,by omega⟩
   have hn : n<5:=by omega
   have E:=hid (show i8 (n : Int)=cR[n]'(by exact hn) by
    unfold i8
    rw [if_neg h0,if_pos h5,List.getD_eq_getElem?_getD,Int.toNat_natCast,List.getElem?_eq_getElem (by exact hn)]
    rfl)
   go_enter Tryz.func35,Tryz.ntmps35
   go_wp2_with fail
   (with_reducible refine Calls.mono C.out ?_)
   rintro e w2 ⟨rfl,hw2⟩
   have hb:=hid (show Below w.heap.size w w2 from hw2 ▸ a7 _ _)
   have c0 : w2.cell? ⟨w.heap.size,n,none⟩=some (H5 cR[n]):=by rw [hw2]; exact hZ w cR _ n hn
   clear hw2 C
   generalize cR[n]=x at c0 E
   unfold H5 at c0
   go_wp2_with fail
   go_ret
   exact ⟨by rw [E.out]; rfl,hb⟩
  ·have d1 : decide (t - 5<0)=false:=decide_eq_false (by omega)
   by_cases h31 : t<31
   ·have d2 : decide (t - 5<26)=true:=decide_eq_true (by omega)
    obtain ⟨n,hn⟩ : ∃ n : Nat,t - 5=n:=⟨(t - 5).toNat,by omega⟩
    have hn26 : n<26:=by omega
    have E:=hid (show i8 t=[UInt8.ofNat (97 + n)] by
     unfold i8
     rw [if_neg h0,if_neg h5,if_pos h31,hn,Int.toNat_natCast])
    rw [hn] at e1 d1 d2
    have e2 : IntKind.i32.wrap (n : Int)=n:=IntWalk.i32_in _ (by omega)
    go_enter Tryz.func35,Tryz.ntmps35
    go_wp2_with fail
    have EL:=a5r n hn26
    go_ret
    exact ⟨by rw [E.out,← EL]; rfl,Below.refl _ _⟩
   ·have d2 : decide (t - 5<26)=false:=decide_eq_false (by omega)
    have C:=hid (Tryz.strconv_Itoa (t - 5) (by omega) (by omega) w hp)
    have E:=hid (show i8 t=116 :: Lib.itoa (t - 5) by unfold i8; rw [if_neg h0,if_neg h5,if_neg h31])
    go_enter Tryz.func35,Tryz.ntmps35
    go_wp2_with fail
    (with_reducible refine Calls.mono C.out ?_)
    rintro e w2 ⟨rfl,k,os,hw2⟩
    have hb:=hid (show Below w.heap.size w w2 from hw2 ▸ jY w k os)
    have hil:=Lib.itoa_length_le (t - 5) (by omega) (by omega)
    clear hw2 C
    generalize Lib.itoa (t - 5)=l at E hil
    go_wp2_with fail
    go_ret
    exact ⟨by rw [E.out]; rfl,hb⟩
end
section
open Lib (hid)
open Go.RowKit
def dU (d : Sch) : List UInt8:=d.name ++ ((if d.params=[] then [] else 40 :: (Lib.join (d.params.map i8) [44,32] ++ [41])) ++ (58 :: 32 :: i8 d.result))
def lU (t : Int) : Prop:=-9223372036854775808≤t∧t≤9223372036854775807
theorem dF {t : Int} (h : lU t) : (i8 t).length≤22∧i8 t≠[]:=by
 unfold lU at h
 unfold i8
 split
 ·exact ⟨by decide,by simp⟩
 split
 ·rename_i h0 h5
  obtain ⟨n,rfl⟩ : ∃ n : Nat,t=n:=⟨t.toNat,by omega⟩
  have hn : n<5:=by omega
  have : ∀ n,n<5→(cR.getD n []).length≤22∧cR.getD n []≠[]:=by decide
  exact this n hn
 split
 ·exact ⟨by simp,by simp⟩
 ·have:=Lib.itoa_length_le (t - 5) (by omega) (by omega)
  exact ⟨by simp only [List.length_cons]; omega,by simp⟩
theorem tZ : ∀ (l : List (List UInt8)) (sep : List UInt8) (m : Nat),(∀ x∈l,x.length≤m)→(Lib.join l sep).length≤l.length * (m + sep.length)
 | [],_,_,_ => by simp [Lib.join]
 | [x],sep,m,h => by
   have:=h x (List.mem_cons_self ..)
   simp [Lib.join]
   omega
 | x :: y :: l,sep,m,h => by
   have h1:=h x (List.mem_cons_self ..)
   have h2:=tZ (y :: l) sep m fun z hz => h z (List.mem_cons_of_mem _ hz)
   have e : Lib.join (x :: y :: l) sep=x ++ (sep ++ Lib.join (y :: l) sep):=by simp [Lib.join,List.intercalate,List.intersperse]
   rw [e]
   simp only [List.length_append,List.length_cons,Nat.succ_mul] at h2 ⊢
   omega
def kW (l : List Int) : List Value:=l.map fun t => H5 (i8 t)
theorem D7 (a b : List UInt8) : bsA a ++ bsA b=bsA (a ++ b):=by
 apply ByteArray.ext
 rw [ByteArray.data_append]
 simp [bsA]
theorem a2t {w : World} {v : Value} {T : TypeId} : ∀ (j : Nat) u,[v][j]?=some u→(w.alloc (.cells #[v] T)).cell? ((⟨w.heap.size,0,none⟩ : Addr).add j)=some u:=by
 intro j u hu
 cases j with
 | zero => cases hu; rw [Go.WideShapes.add_plain]; simp
 | succ j => cases hu
theorem nT (av : Nat→Prop) (d : Sch) (pa : Option Addr) (pc : Nat) (w : World) (hI : v6 av w pa d.params) (hc : d.params.length≤pc∧pc≤maxLen) (hr : ∀ t∈d.params ++ [d.result],lU t) (hn : d.params.length≤2000000) (hs : d.name.length≤1000000000000) (hi : bB w) (hp : Tab w) :
 Calls Tryz.prog 15 #[.agg #[.string (bsA d.name),.slice pa d.params.length pc,.int .i64 d.result]] w fun e w' => e=.returned (.string (bsA (dU d)))∧Below w.heap.size w w':=by
 obtain ⟨W1,hW1⟩ : ∃ W,W=w.alloc (.cells #[.string (bsA d.name),.slice pa d.params.length pc,.int .i64 d.result] 36):=⟨_,rfl⟩
 have B1:=hid (show Below w.heap.size w W1 from hW1 ▸ a7 _ _)
 have K1:=hid (show y7 w.heap.size (bsA d.name) pa d.params.length pc d.result W1 from hW1 ▸ y7.make _ _ _ _ _ _)
 have HI:=hid (aZ hI)
 have HR:=hid hr
 have HTI:=hid hi
 have HTP:=hid hp
 have hkl : d.params.length≤9223372036854775806:=by omega
 have HC:=hid hc
 clear hI hr hi hp hc
 go_enter Tryz.func15,Tryz.ntmps15
 go_upto_region 1 with fail
 rw [← hW1]
 clear hW1
 obtain ⟨⟨k0,k1,k2⟩,-,hkl1⟩:=K1.out.cells
 go_wp2_with fail
 go_loopw [10,3] (fun i v wr => ∃ k : Nat,i=.int .i64 k∧k≤d.params.length∧Hid (Below W1.heap.size W1 wr)∧Hid (wr.ownsRow W1.heap.size 9 1 v k (kW (d.params.take k)))) (fun i _ _ => d.params.length - (intOf i).toNat)
 case atStart => exact ⟨0,rfl,Nat.zero_le _,Below.refl _ _,rfl,.inl ⟨rfl,rfl⟩⟩
 case round =>
  obtain ⟨k,rfl,hk,HBr,HROW⟩:=hrel
  have HBw:=hid (B1.out.trans (HBr.out.mono B1.out.size))
  by_cases hlt : k<d.params.length
  ·obtain ⟨b,off,rfl,hav,c0⟩:=HI.out k hlt
   have c0 : wr.cell? ⟨b,off + k,none⟩=some (.int .i64 d.params[k]):=(HBw.out.cell (p:=⟨b,off + k,none⟩) hav.2).trans c0
   have hbr : b<wr.heap.size:=by have:=HBw.out.size; have:=hav.2; omega
   have hcl:=HC.out
   have C:=hid (qJ d.params[k] (HR.out _ (by simp)) wr (HTI.out.below HBw) (HTP.out.below HBw))
   have HT:=hid (show kW (d.params.take (k + 1))=kW (d.params.take k) ++ [H5 (i8 d.params[k])] by unfold kW; rw [List.take_succ_eq_append_getElem hlt,List.map_append]; rfl)
   generalize d.params[k]=t at c0 C HT
   go_upto_region 5 with fail
   go_wp2_with fail
   (with_reducible refine Calls.mono C.out ?_)
   rintro e w5 ⟨rfl,hb⟩
   obtain ⟨W6,hW6⟩ : ∃ W,W=w5.alloc (.cells #[H5 (i8 t)] 9):=⟨_,rfl⟩
   have B6:=hid (show Below wr.heap.size wr W6 from hb.trans ((hW6 ▸ a7 _ _ : Below w5.heap.size w5 W6).mono hb.size))
   have R6:=hid (r6 HROW B6)
   have NEW:=hid (show ∀ (j : Nat) u,[H5 (i8 t)][j]?=some u→W6.cell? ((⟨w5.heap.size,0,none⟩ : Addr).add j)=some u from fun j u hu => hW6 ▸ a2t j u hu)
   have HB6:=hid (HBr.out.trans (B6.out.mono HBr.out.size))
   obtain ⟨i0,hi,hz0,hz1',hz2⟩:=info_parts (show (Tryz.prog.info? 9).map (fun i => (i.zero,i.size,i.bytes))=some (some (.string ⟨#[]⟩),1,16) by kernel_rfl)
   have HI9:=hid (show _∧_∧_∧_ from ⟨hi,hz0,hz1',hz2⟩)
   unfold H5 at hW6
   have HW6:=hid hW6
   clear hi hz0 hz1' hz2 hW6 C hb c0
   go_wp2_with (at_builtin; rw [← HW6.out]; refine wpList_append_lies _ rfl _ _ 38 rfl W1.heap.size 9 i0 (.string ⟨#[]⟩) 1 16 Tryz.underlying38 HI9.out.1 HI9.out.2.1 HI9.out.2.2.1 HI9.out.2.2.2 rfl (by decide) _ k _ rfl R6 ⟨w5.heap.size,0,none⟩ 1 1 [H5 (i8 t)] rfl rfl NEW (by intro u hu; simp at hu; subst hu; rfl) (by decide) (by unfold maxLen; omega) (by omega) HB6.out.size _ rfl ?_)
   intro g cap' w7 hown hgrow hat hlt'
   have HB7:=hid (HB6.out.grown hgrow HB6.out.size (fun r e => (R6.out.lt r e).1))
   rw [← HT.out] at hown
   have HO7:=hid hown
   clear hown hgrow hat hlt'
   go_wp2_with fail
   go_roundw
   case rel => exact ⟨k + 1,by go_num,by omega,HB7,HO7⟩
   case measure => simp [intOf]; omega
  ·obtain rfl : k=d.params.length:=by omega
   rw [List.take_length] at HROW
   have k0r : wr.cell? ⟨w.heap.size,0,none⟩=some (.string (bsA d.name)):=(HBr.out.cell (p:=⟨w.heap.size,0,none⟩) hkl1).trans k0
   have k2r : wr.cell? ⟨w.heap.size,2,none⟩=some (.int .i64 d.result):=(HBr.out.cell (p:=⟨w.heap.size,2,none⟩) hkl1).trans k2
   have hqr : w.heap.size<wr.heap.size:=by have:=HBr.out.size; omega
   have CW:=hid (fun cur (hb : Below wr.heap.size wr cur) => qJ d.result (HR.out _ (by simp)) cur (HTI.out.below (HBw.out.trans (hb.mono HBw.out.size))) (HTP.out.below (HBw.out.trans (hb.mono HBw.out.size))))
   have hwl:=(dF (HR.out d.result (by simp))).1
   clear k0 k2
   obtain ⟨x,c,hv⟩ : ∃ x c,u3=.slice x d.params.length c:=by
    rcases HROW.out.2 with ⟨e,h0⟩ | ⟨g,cap',cur,e,-⟩
    ·exact ⟨none,0,by rw [e,h0]⟩
    ·exact ⟨_,_,e⟩
   subst hv
   by_cases hp0 : d.params=[]
   ·have h0 : d.params.length=0:=List.length_eq_zero_iff.2 hp0
    have E:=hid (show dU d=d.name ++ (58 :: 32 :: i8 d.result) by unfold dU; rw [if_pos hp0]; rfl)
    rw [h0]
    clear HROW
    have C:=hid (CW.out wr (Below.refl _ _))
    have hbs : (bsA d.name).size=d.name.length:=by simp [bsA,ByteArray.size]
    go_wp2_with fail
    (with_reducible refine Calls.mono C.out ?_)
    rintro e w5 ⟨rfl,hb⟩
    have HB5:=hid (HBw.out.trans (hb.mono HBw.out.size))
    clear hb C CW
    generalize i8 d.result=l at E hwl
    go_wp2_with fail
    go_ret
    refine ⟨?_,HB5⟩
    rw [E.out]
    show Ending.returned (.string (bsA d.name ++ bsA [58,32] ++ bsA l))=_
    rw [D7,D7,List.append_assoc]
    rfl
   ·have h1 : 0<d.params.length:=List.length_pos_iff.2 hp0
    obtain ⟨g,rfl,hgl,hgc⟩ : ∃ g,x=some ⟨g,0,none⟩∧d.params.length≤c∧g<wr.heap.size:=by
     rcases HROW.out.2 with ⟨e,h0⟩ | ⟨g,cap',cur,e,hb,hg,q1,q2,q3⟩
     ·omega
     ·cases e; exact ⟨g,rfl,q1,(Array.getElem?_eq_some_iff.1 hg).1⟩
    have hcl:=HROW.out.cells (g:=g) rfl
    have hxs : (d.params.map fun t => bsA (i8 t)).length=d.params.length:=List.length_map ..
    have hxm : ((d.params.map fun t => bsA (i8 t)).map (·.data.toList))=d.params.map i8:=by
     rw [List.map_map]
     apply List.map_congr_left
     intro t _
     rfl
    have hjl : (Lib.join (d.params.map i8) [44,32]).length≤100000000:=by
     have:=tZ (d.params.map i8) [44,32] 22 fun z hz => by
      obtain ⟨t,ht,rfl⟩:=List.mem_map.1 hz
      exact (dF (HR.out t (List.mem_append_left _ ht))).1
     rw [List.length_map,show (22 + ([44,32] : List UInt8).length)=24 from rfl] at this
     omega
    have CJ:=Tryz.strings_Join g 0 c (d.params.map fun t => bsA (i8 t)) (bsA [44,32]) wr (fun j z hz => by
     rw [List.getElem?_map] at hz
     cases hp : d.params[j]? with
     | none => rw [hp] at hz; cases hz
     | some t =>
       rw [hp] at hz
       cases hz
       have:=hcl j (H5 (i8 t)) (by unfold kW; rw [List.getElem?_map,hp]; rfl)
       rwa [Go.WideShapes.add_plain] at this) hgc (by rw [hxs]; omega) (by rw [hxs]; exact hgl) (by rw [hxm]; show (Lib.join _ [44,32]).length≤_; omega)
    rw [hxs,hxm] at CJ
    have CJ:=hid CJ
    have E:=hid (show dU d=d.name ++ ((40 :: (Lib.join (d.params.map i8) [44,32] ++ [41])) ++ (58 :: 32 :: i8 d.result)) by unfold dU; rw [if_neg hp0])
    have hbs : (bsA d.name).size=d.name.length:=by simp [bsA,ByteArray.size]
    rw [show (bsA [44,32]).data.toList=[44,32] from rfl] at CJ
    have d0 : decide (0<(d.params.length : Int))=true:=decide_eq_true (by omega)
    generalize Lib.join (d.params.map i8) [44,32]=jn at CJ E hjl
    unfold bsA at CJ
    clear HROW hcl hxs hxm
    go_wp2_with fail
    (with_reducible refine Calls.mono CJ.out ?_)
    rintro e w4 ⟨rfl,hb4⟩
    have HB4:=hid (HBw.out.trans (hb4.mono HBw.out.size))
    have C:=hid (CW.out w4 hb4)
    have k2r' : w4.cell? ⟨w.heap.size,2,none⟩=some (.int .i64 d.result):=(hb4.cell (p:=⟨w.heap.size,2,none⟩) hqr).trans k2r
    have hq4 : w.heap.size<w4.heap.size:=by have:=hb4.size; omega
    clear k0r k2r hqr CJ CW hb4
    go_wp2_with fail
    (with_reducible refine Calls.mono C.out ?_)
    rintro e w5 ⟨rfl,hb⟩
    have HB5:=hid (HB4.out.trans (hb.mono HB4.out.size))
    clear hb C
    generalize i8 d.result=l at E hwl
    have hsz : (bsA d.name ++ ({ data:=#[40] } ++ { data:=jn.toArray } ++ { data:=#[41] }) ++ { data:=#[58,32] } : ByteArray).size=d.name.length + jn.length + 4:=by
     show (bsA d.name ++ (bsA [40] ++ bsA jn ++ bsA [41]) ++ bsA [58,32]).size=_
     rw [D7,D7,D7,D7]
     simp [bsA,ByteArray.size]
     omega
    go_wp2_with fail
    go_ret
    refine ⟨?_,HB5⟩
    rw [E.out]
    show Ending.returned (.string (bsA d.name ++ (bsA [40] ++ bsA jn ++ bsA [41]) ++ bsA [58,32] ++ bsA l))=_
    rw [D7,D7,D7,D7,D7]
    simp only [List.append_assoc,List.cons_append,List.nil_append]
end
section
open Go.RowKit
def a4Y : List UInt8:=[109,111,100,117,108,101,32,109,59,32,108,101,116,32,99,104,111,111,115,101,40,98,44,32,120,44,32,121,41,32,61,32,105,102,32,98,32,116,104,101,110,32,120,32,101,108,115,101,32,121,59]
def H8 : Nd:=mkN 1 [109] 0 [mkN 3 [99,104,111,111,115,101] 0 [mkN 4 [98] 0 [] 21,mkN 4 [120] 0 [] 24,mkN 4 [121] 0 [] 27,mkN 14 [] 0 [mkN 10 [98] 0 [] 35,mkN 10 [120] 0 [] 42,mkN 10 [121] 0 [] 49] 32] 14] 0
def O6 : Sch:=⟨[99,104,111,111,115,101],[1,5,5],5⟩
theorem sW : bQ a4Y=.ok H8:=by kernel_rfl
theorem qZ : o9 H8 []=.ok ⟨[109],[O6]⟩:=by kernel_rfl
theorem tK : dU O6=[99,104,111,111,115,101,40,98,111,111,108,44,32,97,44,32,97,41,58,32,97]:=by kernel_rfl
theorem qX : o8 H8:=by
 refine ⟨by decide,⟨by decide,⟨by decide,trivial⟩,⟨by decide,trivial⟩,⟨by decide,trivial⟩,⟨by decide,⟨by decide,trivial⟩,⟨by decide,trivial⟩,⟨by decide,trivial⟩,trivial⟩,trivial⟩,trivial⟩
end
section
open Lib (hid)
open Go.RowKit
theorem fZ (w : World) (he : Env w) (hta : Tab w) (hti : bB w) : Calls Tryz.prog 10 #[] w fun e w' => e=.returned (.bool true)∧Below w.heap.size w w':=by
 have C1:=hid (rF ⟨#[109,111,100,117,108,101,32,109,59,32,108,101,116,32,99,104,111,111,115,101,40,98,44,32,120,44,32,121,41,32,61,32,105,102,32,98,32,116,104,101,110,32,120,32,101,108,115,101,32,121,59]⟩ w (by unfold maxLen; decide))
 have HE:=hid he
 have HT:=hid hta
 have HTI:=hid hti
 clear he hta hti
 go_enter Tryz.func10,Tryz.ntmps10
 go_wp2_with fail
 (with_reducible refine Calls.mono C1.out ?_)
 rintro e w1 ⟨t,a,cp,f,k,rfl,hb,hx⟩
 rw [show bQ (ByteArray.mk #[109,111,100,117,108,101,32,109,59,32,108,101,116,32,99,104,111,111,115,101,40,98,44,32,120,44,32,121,41,32,61,32,105,102,32,98,32,116,104,101,110,32,120,32,101,108,115,101,32,121,59]).data.toList=.ok H8 from sW] at hx
 obtain ⟨rfl,rfl,rfl,hl⟩:=hx
 have HL:=hid (show H8.hold w1.heap.size w1 a cp from Nd.lies.hold H8 (d8 hl (j6.refl _ _) fun b hb => hb.2))
 have HB1:=hid hb
 obtain ⟨W2,hW2⟩ : ∃ W,W=w1.alloc (.cells #[.int .i64 H8.kind,.string H8.text,.int .i64 H8.n,.slice a H8.kids.length cp,.int .i64 H8.place] 24):=⟨_,rfl⟩
 have N2:=hid (show c6 w1.heap.size H8 a cp W2 from hW2 ▸ c6.make w1 H8 a cp)
 have E2:=hid (show Below w1.heap.size w1 W2 from hW2 ▸ a7 _ _)
 have HA:=hid (HB1.out.trans (E2.out.mono HB1.out.size))
 clear hb hl C1
 have C2:=hid (dH [] none 0 H8 a cp w1.heap.size W2 (HL.out.below E2) qX E2.out.size (HE.out.below HA) (HT.out.below HA) (HTI.out.below HA) (fun j hj => absurd hj (Nat.not_lt_zero _)) ⟨Nat.le_refl _,Nat.zero_le _⟩ (fun s hs => (List.not_mem_nil hs).elim) (dS 0 _ (Nat.zero_le _)))
 obtain ⟨N,hN⟩ : ∃ N,N=H8:=⟨_,rfl⟩
 unfold oE at C2
 rw [qZ] at C2
 rw [← hN] at C2 hW2 N2 ⊢
 clear hN HL
 obtain ⟨⟨n0,n1,n2,n3,n4⟩,-⟩:=N2.out.cells
 have hlt : w1.heap.size<W2.heap.size:=N2.out.lt
 unfold Nd.val
 go_upto_region 2 with fail
 rw [← hW2]
 clear hW2
 go_wp2_with fail
 (with_reducible refine Calls.mono C2.out ?_)
 rintro e w3 ⟨hb,da,dc,rfl,hS,h1,h2,h3⟩
 obtain ⟨b,off,rfl,hav,hbl,pa,pc,c0,c1,c2,hI,hp1,hp2,hp3⟩:=hS 0 (by decide)
 have HB3:=hid (HA.out.trans (hb.mono HA.out.size))
 have HI:=hid hI
 have HPC:=hid (show O6.params.length≤pc∧pc≤maxLen from ⟨hp1,hp2⟩)
 have c0 : w3.cell? ⟨b,off,none⟩=some (.string (bsA O6.name)):=by have:=c0; rwa [Nat.zero_mul,Nat.add_zero] at this
 have c1 : w3.cell? ⟨b,off + 1,none⟩=some (.slice pa O6.params.length pc):=by have:=c1; rwa [Nat.zero_mul,Nat.add_zero] at this
 have c2 : w3.cell? ⟨b,off + 2,none⟩=some (.int .i64 O6.result):=by have:=c2; rwa [Nat.zero_mul,Nat.add_zero] at this
 clear hb hS h3 hI hp1 hp2 hp3 C2
 rw [show [O6].length=1 from rfl] at h1 ⊢
 obtain ⟨W4,hW4⟩ : ∃ W,W=w3.alloc (.cells #[.string (bsA [109]),.slice (some ⟨b,off,none⟩) 1 dc] 29):=⟨_,rfl⟩
 have E4:=hid (show Below w3.heap.size w3 W4 from hW4 ▸ a7 _ _)
 have hB4 : W4.heap[w3.heap.size]?=some (.cells #[.string (bsA [109]),.slice (some ⟨b,off,none⟩) 1 dc] 29 (0,0)):=by rw [hW4]; exact Q8 _ _ rfl
 have s1 : W4.cell? ⟨w3.heap.size,1,none⟩=some (.slice (some ⟨b,off,none⟩) 1 dc):=by simp [World.cell?,hB4]
 have hs4 : w3.heap.size<W4.heap.size:=(Array.getElem?_eq_some_iff.1 hB4).1
 have k0 : W4.cell? ⟨b,off,none⟩=some (.string (bsA O6.name)):=(E4.out.cell (p:=⟨b,off,none⟩) hbl).trans c0
 have k1 : W4.cell? ⟨b,off + 1,none⟩=some (.slice pa O6.params.length pc):=(E4.out.cell (p:=⟨b,off + 1,none⟩) hbl).trans c1
 have k2 : W4.cell? ⟨b,off + 2,none⟩=some (.int .i64 O6.result):=(E4.out.cell (p:=⟨b,off + 2,none⟩) hbl).trans c2
 have hb4 : b<W4.heap.size:=by omega
 have HA4:=hid (HB3.out.trans (E4.out.mono HB3.out.size))
 have C5:=hid (nT _ O6 pa pc W4 ((aZ HI).move (fun b hb => E4.out.block b hb.2) fun _ h => h) HPC (by unfold O6 lU; decide) (by decide) (by decide) (HTI.out.below HA4) (HT.out.below HA4))
 rw [tK,show bsA [99,104,111,111,115,101,40,98,111,111,108,44,32,97,44,32,97,41,58,32,97]=⟨#[99,104,111,111,115,101,40,98,111,111,108,44,32,97,44,32,97,41,58,32,97]⟩ from rfl] at C5
 generalize O6=D at k0 k1 k2 C5
 clear c0 c1 c2 hB4 HI HPC E4
 go_upto_region 3 with fail
 rw [← hW4]
 clear hW4
 go_wp2_with fail
 (with_reducible refine Calls.mono C5.out ?_)
 rintro e w5 ⟨rfl,hb⟩
 have HA5:=hid (HA4.out.trans (hb.mono HA4.out.size))
 clear hb C5
 go_wp2_with fail
 go_ret
 exact ⟨rfl,HA5⟩
end
section
open Lib (hid)
open Go.RowKit
theorem vH {s : Sht} (h : r7 s=true) : s.name.length≤maxLen∧∀ d∈s.defs,d.name.length≤maxLen:=by
 unfold r7 at h
 simp only [Bool.and_eq_true,List.all_eq_true] at h
 refine ⟨by have:=r8 h.1.1; unfold maxLen; omega,fun d hd => ?_⟩
 have h2:=h.2 d hd
 unfold O9 at h2
 simp only [Bool.and_eq_true] at h2
 have:=r8 h2.1.1.1
 unfold maxLen; omega
theorem rM {av : Nat→Prop} {W : World} {a : Option Addr} {l : List Sch} (h : Y1 av W a l) : Y1 (fun b => av b∧b<W.heap.size) W a l:=fun j hj => by
 obtain ⟨b,off,h1,h2,h3,pa,pc,c0,c1,c2,hI,hp⟩:=h j hj
 exact ⟨b,off,h1,⟨h2,h3⟩,h3,pa,pc,c0,c1,c2,aZ hI,hp⟩
theorem uH (t : Nd) (a : Option Addr) (cap n₀ : Nat) (w : World) (hh : t.hold n₀ w a cap) (hs : o8 t) (hn : n₀≤w.heap.size) (he : Env w) (hta : Tab w) (hti : bB w) :
 Calls Tryz.prog 8 #[.agg #[.int .i64 t.kind,.string t.text,.int .i64 t.n,.slice a t.kids.length cap,.int .i64 t.place]] w fun e w' => e=.returned (.bool true)∧Below w.heap.size w w':=by
 obtain ⟨W1,hW1⟩ : ∃ W,W=w.alloc (.cells #[.int .i64 t.kind,.string t.text,.int .i64 t.n,.slice a t.kids.length cap,.int .i64 t.place] 24):=⟨_,rfl⟩
 have B1:=hid (show Below w.heap.size w W1 from hW1 ▸ a7 _ _)
 have N1:=hid (show c6 w.heap.size t a cap W1 from hW1 ▸ c6.make w t a cap)
 have HX:=hid (show ∀ cur,Below w.heap.size w cur→t.hold n₀ cur a cap∧n₀≤cur.heap.size∧Env cur∧Tab cur∧bB cur from fun cur hb => ⟨hh.below (hb.mono hn),Nat.le_trans hn hb.size,he.below hb,hta.below hb,hti.below hb⟩)
 have HS:=hid hs
 have HKC:=hid hh.bounds.2.2.2.2
 have C1:=hid (fZ W1 (HX.out _ B1).2.2.1 (HX.out _ B1).2.2.2.1 (HX.out _ B1).2.2.2.2)
 clear hh hs hn he hta hti
 go_enter Tryz.func8,Tryz.ntmps8
 go_upto_region 1 with fail
 rw [← hW1]
 clear hW1
 go_wp2_with fail
 (with_reducible refine Calls.mono C1.out ?_)
 rintro e w2 ⟨rfl,hb⟩
 have B2:=hid (show Below w.heap.size w w2 from B1.out.trans (hb.mono B1.out.size))
 have N2:=hid (N1.out.below hb)
 clear hb C1 B1 N1
 have C2:=hid (dH [] none 0 t a cap n₀ w2 (HX.out _ B2).1 HS (HX.out _ B2).2.1 (HX.out _ B2).2.2.1 (HX.out _ B2).2.2.2.1 (HX.out _ B2).2.2.2.2 (fun j hj => absurd hj (Nat.not_lt_zero _)) ⟨Nat.le_refl _,Nat.zero_le _⟩ (fun s hs => (List.not_mem_nil hs).elim) (dS 0 _ (Nat.zero_le _)))
 rw [show ([] : List Sht).length=0 from rfl] at C2
 unfold oE at C2
 obtain ⟨⟨n0,n1,n2,n3,n4⟩,-⟩:=N2.out.cells
 have hlt : w.heap.size<w2.heap.size:=N2.out.lt
 cases hm : o9 t [] with
 | error q =>
   obtain ⟨k,p⟩:=q
   rw [hm] at C2
   have HM:=hid (a0L hm)
   have ek : (k != 0)=true:=bne_iff_ne.2 (zO hm)
   clear hm
   go_wp2_with fail
   (with_reducible refine Calls.mono C2.out ?_)
   rintro e w3 ⟨hb,rfl⟩
   have B3:=hid (show Below w.heap.size w w3 from B2.out.trans (hb.mono B2.out.size))
   have N3:=hid (N2.out.below hb)
   clear hb C2 B2 N2
   obtain ⟨W4,hW4⟩ : ∃ W,W=w3.alloc (.cells #[.string ⟨#[]⟩,.slice none 0 0] 29):=⟨_,rfl⟩
   have E4:=hid (show Below w3.heap.size w3 W4 from hW4 ▸ a7 _ _)
   have B4:=hid (B3.out.trans (E4.out.mono B3.out.size))
   have C3:=hid (lG t a cap n₀ W4 (HX.out _ B4).1 (HX.out _ B4).2.1)
   clear n0 n1 n2 n3 n4 hlt
   obtain ⟨⟨n0,n1,n2,n3,n4⟩,-⟩:=(N3.out.below E4).cells
   have hlt : w.heap.size<W4.heap.size:=(N3.out.below E4).lt
   go_upto_region 3 with fail
   rw [← hW4]
   clear hW4
   go_wp2_with fail
   (with_reducible refine Calls.mono C3.out ?_)
   rintro e w5 ⟨rfl,hb⟩
   have B5:=hid (show Below w.heap.size w w5 from B4.out.trans (hb.mono B4.out.size))
   clear hb C3
   cases hmo : o7 t with
   | true =>
     go_wp2_with fail
     go_ret
     exact ⟨rfl,B5⟩
   | false =>
     have e1 : (k == 110)=true:=by
      rcases HM.out with h | h
      ·rw [hmo] at h; cases h
      ·rw [h]; rfl
     go_wp2_with fail
     go_ret
     exact ⟨rfl,B5⟩
 | ok s =>
   rw [hm] at C2
   have HM:=hid (iX hm)
   clear hm
   go_wp2_with fail
   (with_reducible refine Calls.mono C2.out ?_)
   rintro e w3 ⟨hb,da,dc,rfl,hS,h1,h2,h3⟩
   have B3:=hid (show Below w.heap.size w w3 from B2.out.trans (hb.mono B2.out.size))
   have N3:=hid (N2.out.below hb)
   have SD3:=hid (rM hS)
   have HDC:=hid (show s.defs.length≤dc∧dc≤maxLen from ⟨h1,h2⟩)
   clear hb C2 B2 N2 hS h1 h2 h3
   obtain ⟨W4,hW4⟩ : ∃ W,W=w3.alloc (.cells #[.string (bsA s.name),.slice da s.defs.length dc] 29):=⟨_,rfl⟩
   have E4:=hid (show Below w3.heap.size w3 W4 from hW4 ▸ a7 _ _)
   have B4:=hid (B3.out.trans (E4.out.mono B3.out.size))
   have hsb : W4.heap[w3.heap.size]?=some (.cells #[.string (bsA s.name),.slice da s.defs.length dc] 29 (0,0)):=by rw [hW4]; exact Q8 _ _ rfl
   have HSB:=hid hsb
   have N4:=hid (N3.out.below E4)
   have C3:=hid (lG t a cap n₀ W4 (HX.out _ B4).1 (HX.out _ B4).2.1)
   rw [HM.out.1] at C3
   clear n0 n1 n2 n3 n4 hlt hsb
   obtain ⟨⟨n0,n1,n2,n3,n4⟩,-⟩:=N4.out.cells
   have hlt : w.heap.size<W4.heap.size:=N4.out.lt
   go_upto_region 3 with fail
   rw [← hW4]
   clear hW4
   go_wp2_with fail
   (with_reducible refine Calls.mono C3.out ?_)
   rintro e w5 ⟨rfl,hb⟩
   have B5:=hid (show Below w.heap.size w w5 from B4.out.trans (hb.mono B4.out.size))
   have N5:=hid (N4.out.below hb)
   have hs4:=(Array.getElem?_eq_some_iff.1 HSB).1
   have hsb:=(hb.block _ hs4).trans HSB
   have SD5:=hid (SD3.out.move (fun b h => (hb.block b (by have:=h.2; have:=E4.out.size; omega)).trans (E4.out.block b h.2)) (fun _ h => h) (Nat.le_trans E4.out.size hb.size))
   have HS5:=hid hsb
   have s0 : w5.cell? ⟨w3.heap.size,0,none⟩=some (.string (bsA s.name)):=by simp [World.cell?,hsb]
   have s1 : w5.cell? ⟨w3.heap.size,1,none⟩=some (.slice da s.defs.length dc):=by simp [World.cell?,hsb]
   have hs5 : w3.heap.size<w5.heap.size:=by have:=hb.size; omega
   have C5:=hid (xZ _ s da dc w5 SD5 HDC (vH HM.out.2.1).1 (vH HM.out.2.1).2 (fun b h => by have:=h.2; omega))
   rw [HM.out.2.1] at C5
   clear hb C3 hsb SD3 HSB B4 N4 E4 N3 B3 n0 n1 n2 n3 n4 hlt
   go_wp2_with fail
   (with_reducible refine Calls.mono C5.out ?_)
   rintro e w6 ⟨rfl,hb⟩
   have B6:=hid (show Below w.heap.size w w6 from B5.out.trans (hb.mono B5.out.size))
   have N6:=hid (N5.out.below hb)
   have S6:=hid ((hb.block _ hs5).trans HS5)
   have SD6:=hid (dB SD5 hb)
   clear hb C5 B5 N5 HS5 SD5 s0 s1
   have hkc:=HKC.out
   have hkl : t.kids.length≤300:=(U1 HM.out.1).2.2
   have hdl : s.defs.length=t.kids.length:=HM.out.2.2.2.1
   generalize w3.heap.size=sb at S6 SD6 hs5 ⊢
   go_wp2_with fail
   go_loopw [9,10] (fun k i wr => ∃ j : Nat,k=.int .i64 j∧i=.int .i64 j∧j≤t.kids.length∧Hid (Below w6.heap.size w6 wr)) (fun _ i _ => t.kids.length - (intOf i).toNat)
   case atStart => exact ⟨0,rfl,rfl,Nat.zero_le _,Below.refl _ _⟩
   case round =>
    obtain ⟨j,rfl,rfl,hj,HB⟩:=hrel
    have HBw:=hid (B6.out.trans (HB.out.mono B6.out.size))
    have N7:=hid (N6.out.below HB)
    have hsbl : sb<wr.heap.size:=by have:=(Array.getElem?_eq_some_iff.1 S6).1; have:=HB.out.size; omega
    have hsb:=(HB.out.block sb (Array.getElem?_eq_some_iff.1 S6).1).trans S6
    have s0 : wr.cell? ⟨sb,0,none⟩=some (.string (bsA s.name)):=by simp [World.cell?,hsb]
    have s1 : wr.cell? ⟨sb,1,none⟩=some (.slice da s.defs.length dc):=by simp [World.cell?,hsb]
    obtain ⟨⟨n0,n1,n2,n3,n4⟩,-⟩:=N7.out.cells
    have hnl:=N7.out.lt
    clear hsb
    by_cases hlt : j<t.kids.length
    ·obtain ⟨kb,ko,ka,kc,A⟩:=(HX.out _ HBw).1.kid j hlt
     obtain ⟨rfl,hkb,c0,c1,c2,c3,c4,-⟩:=A
     have hjd : j<s.defs.length:=by omega
     obtain ⟨b,off,rfl,-,hbl,pa,pc,d0,d1,d2,-⟩:=SD6.out j hjd
     have d0 : wr.cell? ⟨b,off + j * 3,none⟩=some (.string (bsA s.defs[j].name)):=(HB.out.cell (p:=⟨b,off + j * 3,none⟩) hbl).trans d0
     have d1 : wr.cell? ⟨b,off + j * 3 + 1,none⟩=some (.slice pa s.defs[j].params.length pc):=(HB.out.cell (p:=⟨b,off + j * 3 + 1,none⟩) hbl).trans d1
     have hbr : b<wr.heap.size:=by have:=HB.out.size; omega
     have LO:=HM.out.2.2.2.2 j hlt hjd
     have hk3:=LO.kind
     rw [show bsA s.defs[j].name=t.kids[j].text by rw [LO.name,bV]] at d0
     have hpl:=LO.pars
     generalize s.defs[j].params.length=M at d1 hpl
     rw [hk3] at c0
     have hkq : t.kids[j].kids.length≤9:=by
      rcases kN HM.out.1 j hlt with ⟨e,-⟩ | ⟨-,e⟩
      ·omega
      ·exact (eW e).2.2.1
     generalize t.kids[j].text=tx at c1 d0
     generalize t.kids[j].kids.length=Q at c3 hpl hkq
     have hQM : IntKind.i64.wrap ((Q : Int) - 1)=(M : Int):=by rw [IntWalk.i64_in _ (by omega)]; omega
     have hdc:=HDC.out
     have dj : decide ((s.defs.length : Int)≤(j : Int))=false:=decide_eq_false (by omega)
     have dn : decide (s.defs.length≤j)=false:=decide_eq_false (by omega)
     clear d2 c2 c4 hk3 LO
     go_upto_region 13 with fail
     refine wp_region_held_drew (S:=fun cur => cur.cell? ⟨w.heap.size,3,none⟩=some (.slice (some ⟨kb,ko,none⟩) t.kids.length cap)∧cur.cell? ⟨sb,1,none⟩=some (.slice (some ⟨b,off,none⟩) s.defs.length dc)∧cur.cell? ⟨b,off + j * 3,none⟩=some (.string tx)∧cur.cell? ⟨b,off + j * 3 + 1,none⟩=some (.slice pa M pc)∧cur.cell? ⟨kb,ko + j * 5 + 1,none⟩=some (.string tx)∧cur.cell? ⟨kb,ko + j * 5 + 3,none⟩=some (.slice ka Q kc)) (by kernel_rfl) ?_ (fun hHeld => ?_)
     ·exact ⟨n3,s1,d0,d1,c1,c3⟩
     refine a8 0 ?_; refine a8 1 ?_; refine a8 2 ?_; refine a8 3 ?_; refine a8 (v:=.bool false) 4 ?_; refine a8 5 ?_; refine a8 6 ?_; refine a8 7 ?_; refine a8 8 ?_; refine a8 9 ?_; refine a8 10 ?_; refine a8 11 ?_; refine a8 12 ?_; refine a8 13 ?_; refine a8 14 ?_; refine a8 15 ?_; refine a8 16 ?_; refine a8 17 ?_; refine a8 (v:=.bool false) 18 ?_; refine a8 19 ?_; refine a8 20 ?_; refine a8 21 ?_; refine a8 22 ?_; refine a8 23 ?_; refine a8 24 ?_; refine a8 25 ?_; refine a8 26 ?_; refine a8 27 ?_; refine a8 28 ?_; refine a8 29 ?_; refine a8 30 ?_; refine a8 31 ?_; refine a8 32 ?_; refine a8 33 ?_; refine a8 34 ?_; refine a8 35 ?_; refine a8 (v:=.bool false) 36 ?_; refine a8 37 ?_
     refine wpAnyH_done (by kernel_rfl) ?_ _
     clear hHeld n0 n1 n2 n3 n4 s0 s1 c0 c1 c3 d0 d1
     have BN:=hid (show Below w6.heap.size w6 wr.drew from x9 HB)
     go_wp2_with fail
     go_roundw
     case rel => exact ⟨j + 1,by go_num,by go_num,by omega,BN⟩
     case measure => simp [intOf]; omega
    ·obtain rfl : j=t.kids.length:=by omega
     have hnm : bsA s.name=t.text:=by rw [HM.out.2.2.1,bV]
     rw [hnm] at s0
     rw [hdl] at s1
     go_wp2_with fail
     go_ret
     exact ⟨rfl,HBw⟩
end
end Go.Proofs.YtppcfebnaieciaaGreatDoor
