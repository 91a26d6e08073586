/-
  Laws that the proof rests on.
-/
import Derived.Test.YteefedkmgnepmaaGreatDoorE33
import Derived.Lib.ItoaLen
import Derived.Test.YteefedkmgnepmaaGreatDoorE06
import Derived.Test.YteefedkmgnepmaaGreatDoorE18
import Derived.Test.YteefedkmgnepmaaGreatDoorE01
import Derived.Test.YteefedkmgnepmaaGreatDoorE29
import Derived.Test.YteefedkmgnepmaaGreatDoorE31
import Derived.Test.YteefedkmgnepmaaGreatDoorE23
import Derived.Test.YteefedkmgnepmaaGreatDoorE14
namespace Go.Proofs.YteefedkmgnepmaaGreatDoor
set_option maxRecDepth 100000
set_option maxHeartbeats 16000000
section
open Lib (hid)
open Go.RowKit Go.Maps Go.WideMaps
theorem SSM.all {av : Nat→Prop} {b n : Nat} {sheets : List Sht} {w : World} (h : SSM av b n sheets w) {s : ByteArray} (hs : s.data.toList.length≤maxLen) : ∃ mo : Option Nat,∀ cur : World,cur.heap[b]?=w.heap[b]?→(Instr.lookup 50 (.map (some b)) (.string s) true).run Tryz.prog cur=.ok (.tuple #[.map mo,.bool (D8 sheets s.data.toList).isSome]) cur:=by
 have hbt:=gU s
 obtain ⟨f,h2,h4⟩:=h
 have h5:=h4 s.data.toList
 have hl : ∀ cur : World,cur.heap[b]?=w.heap[b]?→_:=fun cur hc => ((h2.kept hc).look iI Tryz.underlying50 (a4h cur) (eB hs)).1
 rw [hbt] at hl
 cases e : D8 sheets s.data.toList with
 | none =>
   rw [e] at h5
   rw [show f (.string s.data.toList)=none from h5] at hl
   exact ⟨none,hl⟩
 | some d =>
   rw [e] at h5
   obtain ⟨bi,ni,e1,-⟩:=h5
   rw [e1] at hl
   exact ⟨some bi,hl⟩
theorem jG (ic A : Nat) (hic : ic≤maxLen) : a4v [] none ic A:=by
 intro F b0 b1 b2 n0 n1 n2 sheets defs own v t a cap w hA hown hn hbare hI hE
 have hts : t.text.data.toList.length≤24:=s5 (V1 hbare).1
 obtain ⟨mo,hlk⟩:=hE.ss.all (s:=t.text) (by unfold maxLen; omega)
 obtain ⟨W1,hW1⟩ : ∃ W,W=(w.alloc (.cells #[.pointer (some ⟨F,0,none⟩)] 49)).alloc (.cells #[.int .i64 t.kind,.string t.text,.int .i64 t.n,.slice a t.kids.length cap,.int .i64 t.place] 24):=⟨_,rfl⟩
 have B1:=hid (show Below w.heap.size w W1 from hW1 ▸ ((a7 _ _).alloc (by simp) _))
 have Z1:=hid (show W1.heap.size=w.heap.size + 2 by rw [hW1]; simp)
 have p1 : W1.heap[w.heap.size]?=some (.cells #[.pointer (some ⟨F,0,none⟩)] 49 (0,0)):=by rw [hW1]; exact cC (by simp) (bL _ _ rfl)
 have N1:=hid (show c9 (w.heap.size + 1) t a cap W1 by
  have:=c9.make (w.alloc (.cells #[.pointer (some ⟨F,0,none⟩)] 49)) t a cap
  rw [show (w.alloc (.cells #[.pointer (some ⟨F,0,none⟩)] 49)).heap.size=w.heap.size + 1 by simp] at this
  rwa [← hW1] at this)
 have HS:=hid (show ∀ cur,Below W1.heap.size W1 cur→cur.cell? ⟨w.heap.size,0,none⟩=some (.pointer (some ⟨F,0,none⟩))∧cur.cell? ⟨F,0,none⟩=some (.map (some b0))∧c9 (w.heap.size + 1) t a cap cur∧(Instr.lookup 50 (.map (some b0)) (.string t.text) true).run Tryz.prog cur=.ok (.tuple #[.map mo,.bool (D8 sheets t.text.data.toList).isSome]) cur from fun cur hb => by
  have hb0:=hE.ss.in
  have h1:=hb.block w.heap.size (by have:=Z1.out; omega)
  refine ⟨by simp [World.cell?,h1.trans p1],((hE.fb.below B1).below hb).cells.1,N1.out.below hb,hlk _ ((hb.block b0 (by have:=Z1.out; omega)).trans (B1.out.block b0 hb0))⟩)
 have HX:=hid (show Q8 own.data.toList [] sheets t=if t.text.data.toList=own.data.toList || (D8 sheets t.text.data.toList).isSome then .error (111,t.place) else .error (112,t.place) by
  unfold Q8
  split
  ·rfl
  ·rfl)
 clear hA hown hn hbare hI hE hts hlk p1
 go_enter Tryz.func18,Tryz.ntmps18
 go_upto_region 1 with fail
 rw [← hW1]
 clear hW1
 have HB0:=hid (show Below W1.heap.size W1 W1.drew from A8 (Below.refl W1.heap.size W1))
 obtain ⟨p0,f0,hn0,hl0⟩:=HS.out _ HB0
 obtain ⟨⟨n0',n1',n2',n3',n4'⟩,-⟩:=hn0.cells
 refine wp_region_held_drew (S:=fun cur => Below W1.heap.size W1 cur∧cur.cell? ⟨w.heap.size,0,none⟩=some (.pointer (some ⟨F,0,none⟩))∧cur.cell? ⟨F,0,none⟩=some (.map (some b0))∧cur.cell? ⟨w.heap.size + 1,1,none⟩=some (.string t.text)∧(Instr.lookup 50 (.map (some b0)) (.string t.text) true).run Tryz.prog cur=.ok (.tuple #[.map mo,.bool (D8 sheets t.text.data.toList).isSome]) cur) (by kernel_rfl) ?_ (fun hHeld => ?_)
 ·exact ⟨HB0,p0,f0,n1',hl0⟩
 refine a8 0 ?_; refine a8 1 ?_; refine a8 2 ?_; refine a8 3 ?_; refine a8 4 ?_; refine a8 5 ?_; refine a8 6 ?_; refine a8 7 ?_; refine a8 8 ?_; refine a8 9 ?_; refine a8 10 ?_; refine a8 11 ?_
 refine wpAnyH_done (by kernel_rfl) ?_ _
 clear hHeld p0 f0 hn0 hl0 n0' n1' n2' n3' n4'
 obtain ⟨w2,hw2⟩ : ∃ V,V=W1.drew:=⟨_,rfl⟩
 rw [← hw2]
 rw [← hw2] at HB0
 clear hw2
 obtain ⟨p0,f0,hn0,-⟩:=HS.out _ HB0
 obtain ⟨⟨q0,q1,q2,q3,q4⟩,-⟩:=hn0.cells
 have HBw:=hid (show Below w.heap.size w w2 from B1.out.trans (HB0.out.mono B1.out.size))
 have C1:=hid (Y6 111 t.place w2)
 have C3:=hid (a3z (fun _ => True) [] none ic t a cap (w.heap.size + 1) w2 (fun j hj => absurd hj (Nat.not_lt_zero _)) ⟨Nat.zero_le _,hic⟩ hn0)
 have HNB:=hid hn0
 clear hn0 HS N1 B1
 cases hs : (D8 sheets t.text.data.toList).isSome with
 | true =>
   have FX:=hid (show Q8 own.data.toList [] sheets t=.error (111,t.place) by rw [HX.out,hs,Bool.or_true]; rfl)
   clear hs HX
   go_wp2_with fail
   (with_reducible refine Calls.mono C1.out ?_)
   rintro e w3 ⟨rfl,rfl⟩
   refine And.intro rfl ?_
   unfold qM
   rw [FX.out]
   exact ⟨rfl,HBw⟩
 | false =>
   have EO : Hid (decide (t.text.data.toList=own.data.toList)=(t.text.toList == own.toList)):=by
    rw [Lib.toList_data,Lib.toList_data]; exact (Bool.beq_eq_decide_eq _ _).symm
   cases ho : (t.text.toList == own.toList) with
   | true =>
     have FX:=hid (show Q8 own.data.toList [] sheets t=.error (111,t.place) by rw [HX.out,EO.out,ho]; rfl)
     clear hs HX
     go_wp2_with fail
     (with_reducible refine Calls.mono C1.out ?_)
     rintro e w3 ⟨rfl,rfl⟩
     refine And.intro rfl ?_
     unfold qM
     rw [FX.out]
     exact ⟨rfl,HBw⟩
   | false =>
     have FX:=hid (show Q8 own.data.toList [] sheets t=.error (112,t.place) by rw [HX.out,EO.out,ho,hs]; rfl)
     clear hs HX
     go_wp2_with fail
     (with_reducible refine Calls.mono C3.out ?_)
     rintro e w3 ⟨rfl,hb⟩
     have N3:=HNB.out.below hb
     obtain ⟨⟨q0,q1,q2,q3,q4⟩,-⟩:=N3.cells
     have C4:=hid (Y6 112 t.place w3)
     have HB3:=hid (HBw.out.trans (hb.mono HBw.out.size))
     clear hb N3
     rw [show fV (fun s : Sht => s.name == t.text.data.toList) []=-1 from rfl]
     go_wp2_with fail
     (with_reducible refine Calls.mono C4.out ?_)
     rintro e w4 ⟨rfl,rfl⟩
     refine And.intro rfl ?_
     unfold qM
     rw [FX.out]
     exact ⟨rfl,HB3⟩
end
section
open Lib (hid)
open Go.RowKit
def oP : ByteArray:=⟨#[110,117,109,32,98,111,111,108,32,100,97,116,101,32,99,117,114,114,101,110,99,121,32,99,111,110,116,114,97,99,116]⟩
def fJ : List (List UInt8):=[[110,117,109],[98,111,111,108],[100,97,116,101],[99,117,114,114,101,110,99,121],[99,111,110,116,114,97,99,116]]
def z6 (t : Int) : List UInt8:=if t<0 then [63] else if t<5 then fJ.getD t.toNat [] else if t<31 then [UInt8.ofNat (97 + (t - 5).toNat)] else 116 :: Lib.itoa (t - 5)
theorem vL : Lib.fields oP.data.toList=fJ:=by decide +kernel
theorem wT : ∀ (j : Nat) b,oP.data.toList[j]?=some b→b.toNat<128:=ascii_of_all (by decide)
theorem uA (w : World) (ht : eH w) : Calls Tryz.prog 29 #[.string oP] w fun e w' => e=.returned (.slice (some ⟨w.heap.size,0,none⟩) 5 5)∧w'=w.alloc (a7k fJ):=by
 refine (Tryz.strings_Fields oP w (by decide) wT ht).mono ?_
 rintro e w' ⟨rfl,rfl⟩
 rw [vL]
 exact ⟨rfl,rfl⟩
theorem a7v : ∀ n : Nat,n<26→Utf8.encode (97 + (n : Int))=⟨#[UInt8.ofNat (97 + n)]⟩:=by decide +kernel
theorem sU (t : Int) (ht : -9223372036854775808≤t∧t≤9223372036854775807) (w : World) (hi : eH w) (hp : Tab w) :
 Calls Tryz.prog 23 #[.int .i64 t] w fun e w' => e=.returned (.string ⟨(z6 t).toArray⟩)∧Below w.heap.size w w':=by
 by_cases h0 : t<0
 ·have E:=hid (show z6 t=[63] by unfold z6; rw [if_pos h0])
  have d0 : decide (t<0)=true:=decide_eq_true h0
  go_enter Tryz.func23,Tryz.ntmps23
  go_wp2_with fail
  go_ret
  exact ⟨by rw [E.out]; rfl,Below.refl _ _⟩
 ·have d0 : decide (t<0)=false:=decide_eq_false h0
  have e1 : IntKind.i64.wrap (t - 5)=t - 5:=IntWalk.i64_in _ (by omega)
  by_cases h5 : t<5
  ·have d1 : decide (t - 5<0)=true:=decide_eq_true (by omega)
   have C:=hid (uA w hi)
   unfold oP at C
   obtain ⟨n,rfl⟩ : ∃ n : Nat,t=n:=⟨t.toNat,by omega⟩
   have hn : n<5:=by omega
   have E:=hid (show z6 (n : Int)=fJ[n]'(by exact hn) by
    unfold z6
    rw [if_neg h0,if_pos h5,List.getD_eq_getElem?_getD,Int.toNat_natCast,List.getElem?_eq_getElem (by exact hn)]
    rfl)
   go_enter Tryz.func23,Tryz.ntmps23
   go_wp2_with fail
   (with_reducible refine Calls.mono C.out ?_)
   rintro e w2 ⟨rfl,hw2⟩
   have hb:=hid (show Below w.heap.size w w2 from hw2 ▸ a7 _ _)
   have c0 : w2.cell? ⟨w.heap.size,n,none⟩=some (bP fJ[n]):=by rw [hw2]; exact qC w fJ _ n hn
   clear hw2 C
   generalize fJ[n]=x at c0 E
   unfold bP at c0
   go_wp2_with fail
   go_ret
   exact ⟨by rw [E.out]; rfl,hb⟩
  ·have d1 : decide (t - 5<0)=false:=decide_eq_false (by omega)
   by_cases h31 : t<31
   ·have d2 : decide (t - 5<26)=true:=decide_eq_true (by omega)
    obtain ⟨n,hn⟩ : ∃ n : Nat,t - 5=n:=⟨(t - 5).toNat,by omega⟩
    have hn26 : n<26:=by omega
    have E:=hid (show z6 t=[UInt8.ofNat (97 + n)] by
     unfold z6
     rw [if_neg h0,if_neg h5,if_pos h31,hn,Int.toNat_natCast])
    rw [hn] at e1 d1 d2
    have e2 : IntKind.i32.wrap (n : Int)=n:=IntWalk.i32_in _ (by omega)
    go_enter Tryz.func23,Tryz.ntmps23
    go_wp2_with fail
    have EL:=a7v n hn26
    go_ret
    exact ⟨by rw [E.out,← EL]; rfl,Below.refl _ _⟩
   ·have d2 : decide (t - 5<26)=false:=decide_eq_false (by omega)
    have C:=hid (Tryz.strconv_Itoa (t - 5) (by omega) (by omega) w hp)
    have E:=hid (show z6 t=116 :: Lib.itoa (t - 5) by unfold z6; rw [if_neg h0,if_neg h5,if_neg h31])
    go_enter Tryz.func23,Tryz.ntmps23
    go_wp2_with fail
    (with_reducible refine Calls.mono C.out ?_)
    rintro e w2 ⟨rfl,k,os,hw2⟩
    have hb:=hid (show Below w.heap.size w w2 from hw2 ▸ mG w k os)
    have hil:=Lib.itoa_length_le (t - 5) (by omega) (by omega)
    clear hw2 C
    generalize Lib.itoa (t - 5)=l at E hil
    go_wp2_with fail
    go_ret
    exact ⟨by rw [E.out]; rfl,hb⟩
end
section
open Lib (hid)
open Go.RowKit
def tT (d : Sch) : List UInt8:=d.name ++ ((if d.params=[] then [] else 40 :: (Lib.join (d.params.map z6) [44,32] ++ [41])) ++ (58 :: 32 :: z6 d.result))
def a6T (t : Int) : Prop:=-9223372036854775808≤t∧t≤9223372036854775807
theorem yQ {t : Int} (h : a6T t) : (z6 t).length≤22∧z6 t≠[]:=by
 unfold a6T at h
 unfold z6
 split
 ·exact ⟨by decide,by simp⟩
 split
 ·rename_i h0 h5
  obtain ⟨n,rfl⟩ : ∃ n : Nat,t=n:=⟨t.toNat,by omega⟩
  have hn : n<5:=by omega
  have : ∀ n,n<5→(fJ.getD n []).length≤22∧fJ.getD n []≠[]:=by decide
  exact this n hn
 split
 ·exact ⟨by simp,by simp⟩
 ·have:=Lib.itoa_length_le (t - 5) (by omega) (by omega)
  exact ⟨by simp only [List.length_cons]; omega,by simp⟩
theorem yH : ∀ (l : List (List UInt8)) (sep : List UInt8) (m : Nat),(∀ x∈l,x.length≤m)→(Lib.join l sep).length≤l.length * (m + sep.length)
 | [],_,_,_ => by simp [Lib.join]
 | [x],sep,m,h => by
   have:=h x (List.mem_cons_self ..)
   simp [Lib.join]
   omega
 | x :: y :: l,sep,m,h => by
   have h1:=h x (List.mem_cons_self ..)
   have h2:=yH (y :: l) sep m fun z hz => h z (List.mem_cons_of_mem _ hz)
   have e : Lib.join (x :: y :: l) sep=x ++ (sep ++ Lib.join (y :: l) sep):=by simp [Lib.join,List.intercalate,List.intersperse]
   rw [e]
   simp only [List.length_append,List.length_cons,Nat.succ_mul] at h2 ⊢
   omega
def qD (l : List Int) : List Value:=l.map fun t => bP (z6 t)
theorem T1 (a b : List UInt8) : bsA a ++ bsA b=bsA (a ++ b):=by
 apply ByteArray.ext
 rw [ByteArray.data_append]
 simp [bsA]
theorem a43 {w : World} {v : Value} {T : TypeId} : ∀ (j : Nat) u,[v][j]?=some u→(w.alloc (.cells #[v] T)).cell? ((⟨w.heap.size,0,none⟩ : Addr).add j)=some u:=by
 intro j u hu
 cases j with
 | zero => cases hu; rw [Go.WideShapes.add_plain]; simp
 | succ j => cases hu
theorem a06 (av : Nat→Prop) (d : Sch) (pa : Option Addr) (pc : Nat) (w : World) (hI : H5 av w pa d.params) (hc : d.params.length≤pc∧pc≤maxLen) (hr : ∀ t∈d.params ++ [d.result],a6T t) (hn : d.params.length≤2000000) (hs : d.name.length≤1000000000000) (hi : eH w) (hp : Tab w) :
 Calls Tryz.prog 11 #[.agg #[.string (bsA d.name),.slice pa d.params.length pc,.int .i64 d.result]] w fun e w' => e=.returned (.string (bsA (tT d)))∧Below w.heap.size w w':=by
 obtain ⟨W1,hW1⟩ : ∃ W,W=w.alloc (.cells #[.string (bsA d.name),.slice pa d.params.length pc,.int .i64 d.result] 34):=⟨_,rfl⟩
 have B1:=hid (show Below w.heap.size w W1 from hW1 ▸ a7 _ _)
 have K1:=hid (show z8 w.heap.size (bsA d.name) pa d.params.length pc d.result W1 from hW1 ▸ z8.make _ _ _ _ _ _)
 have HI:=hid (cN hI)
 have HR:=hid hr
 have HTI:=hid hi
 have HTP:=hid hp
 have hkl : d.params.length≤9223372036854775806:=by omega
 have HC:=hid hc
 clear hI hr hi hp hc
 go_enter Tryz.func11,Tryz.ntmps11
 go_upto_region 1 with fail
 rw [← hW1]
 clear hW1
 obtain ⟨⟨k0,k1,k2⟩,-,hkl1⟩:=K1.out.cells
 go_wp2_with fail
 go_loopw [10,3] (fun i v wr => ∃ k : Nat,i=.int .i64 k∧k≤d.params.length∧Hid (Below W1.heap.size W1 wr)∧Hid (wr.ownsRow W1.heap.size 9 1 v k (qD (d.params.take k)))) (fun i _ _ => d.params.length - (intOf i).toNat)
 case atStart => exact ⟨0,rfl,Nat.zero_le _,Below.refl _ _,rfl,.inl ⟨rfl,rfl⟩⟩
 case round =>
  obtain ⟨k,rfl,hk,HBr,HROW⟩:=hrel
  have HBw:=hid (B1.out.trans (HBr.out.mono B1.out.size))
  by_cases hlt : k<d.params.length
  ·obtain ⟨b,off,rfl,hav,c0⟩:=HI.out k hlt
   have c0 : wr.cell? ⟨b,off + k,none⟩=some (.int .i64 d.params[k]):=(HBw.out.cell (p:=⟨b,off + k,none⟩) hav.2).trans c0
   have hbr : b<wr.heap.size:=by have:=HBw.out.size; have:=hav.2; omega
   have hcl:=HC.out
   have C:=hid (sU d.params[k] (HR.out _ (by simp)) wr (HTI.out.below HBw) (HTP.out.below HBw))
   have HT:=hid (show qD (d.params.take (k + 1))=qD (d.params.take k) ++ [bP (z6 d.params[k])] by unfold qD; rw [List.take_succ_eq_append_getElem hlt,List.map_append]; rfl)
   generalize d.params[k]=t at c0 C HT
   go_upto_region 5 with fail
   go_wp2_with fail
   (with_reducible refine Calls.mono C.out ?_)
   rintro e w5 ⟨rfl,hb⟩
   obtain ⟨W6,hW6⟩ : ∃ W,W=w5.alloc (.cells #[bP (z6 t)] 9):=⟨_,rfl⟩
   have B6:=hid (show Below wr.heap.size wr W6 from hb.trans ((hW6 ▸ a7 _ _ : Below w5.heap.size w5 W6).mono hb.size))
   have R6:=hid (s7 HROW B6)
   have NEW:=hid (show ∀ (j : Nat) u,[bP (z6 t)][j]?=some u→W6.cell? ((⟨w5.heap.size,0,none⟩ : Addr).add j)=some u from fun j u hu => hW6 ▸ a43 j u hu)
   have HB6:=hid (HBr.out.trans (B6.out.mono HBr.out.size))
   obtain ⟨i0,hi,hz0,hz1',hz2⟩:=info_parts (show (Tryz.prog.info? 9).map (fun i => (i.zero,i.size,i.bytes))=some (some (.string ⟨#[]⟩),1,16) by kernel_rfl)
   have HI9:=hid (show _∧_∧_∧_ from ⟨hi,hz0,hz1',hz2⟩)
   unfold bP at hW6
   have HW6:=hid hW6
   clear hi hz0 hz1' hz2 hW6 C hb c0
   go_wp2_with (at_builtin; rw [← HW6.out]; refine wpList_append_lies _ rfl _ _ 35 rfl W1.heap.size 9 i0 (.string ⟨#[]⟩) 1 16 Tryz.underlying35 HI9.out.1 HI9.out.2.1 HI9.out.2.2.1 HI9.out.2.2.2 rfl (by decide) _ k _ rfl R6 ⟨w5.heap.size,0,none⟩ 1 1 [bP (z6 t)] rfl rfl NEW (by intro u hu; simp at hu; subst hu; rfl) (by decide) (by unfold maxLen; omega) (by omega) HB6.out.size _ rfl ?_)
   intro g cap' w7 hown hgrow hat hlt'
   have HB7:=hid (HB6.out.grown hgrow HB6.out.size (fun r e => (R6.out.lt r e).1))
   rw [← HT.out] at hown
   have HO7:=hid hown
   clear hown hgrow hat hlt'
   go_wp2_with fail
   go_roundw
   case rel => exact ⟨k + 1,by go_num,by omega,HB7,HO7⟩
   case measure => simp [intOf]; omega
  ·obtain rfl : k=d.params.length:=by omega
   rw [List.take_length] at HROW
   have k0r : wr.cell? ⟨w.heap.size,0,none⟩=some (.string (bsA d.name)):=(HBr.out.cell (p:=⟨w.heap.size,0,none⟩) hkl1).trans k0
   have k2r : wr.cell? ⟨w.heap.size,2,none⟩=some (.int .i64 d.result):=(HBr.out.cell (p:=⟨w.heap.size,2,none⟩) hkl1).trans k2
   have hqr : w.heap.size<wr.heap.size:=by have:=HBr.out.size; omega
   have CW:=hid (fun cur (hb : Below wr.heap.size wr cur) => sU d.result (HR.out _ (by simp)) cur (HTI.out.below (HBw.out.trans (hb.mono HBw.out.size))) (HTP.out.below (HBw.out.trans (hb.mono HBw.out.size))))
   have hwl:=(yQ (HR.out d.result (by simp))).1
   clear k0 k2
   obtain ⟨x,c,hv⟩ : ∃ x c,u3=.slice x d.params.length c:=by
    rcases HROW.out.2 with ⟨e,h0⟩ | ⟨g,cap',cur,e,-⟩
    ·exact ⟨none,0,by rw [e,h0]⟩
    ·exact ⟨_,_,e⟩
   subst hv
   by_cases hp0 : d.params=[]
   ·have h0 : d.params.length=0:=List.length_eq_zero_iff.2 hp0
    have E:=hid (show tT d=d.name ++ (58 :: 32 :: z6 d.result) by unfold tT; rw [if_pos hp0]; rfl)
    rw [h0]
    clear HROW
    have C:=hid (CW.out wr (Below.refl _ _))
    have hbs : (bsA d.name).size=d.name.length:=by simp [bsA,ByteArray.size]
    go_wp2_with fail
    (with_reducible refine Calls.mono C.out ?_)
    rintro e w5 ⟨rfl,hb⟩
    have HB5:=hid (HBw.out.trans (hb.mono HBw.out.size))
    clear hb C CW
    generalize z6 d.result=l at E hwl
    go_wp2_with fail
    go_ret
    refine ⟨?_,HB5⟩
    rw [E.out]
    show Ending.returned (.string (bsA d.name ++ bsA [58,32] ++ bsA l))=_
    rw [T1,T1,List.append_assoc]
    rfl
   ·have h1 : 0<d.params.length:=List.length_pos_iff.2 hp0
    obtain ⟨g,rfl,hgl,hgc⟩ : ∃ g,x=some ⟨g,0,none⟩∧d.params.length≤c∧g<wr.heap.size:=by
     rcases HROW.out.2 with ⟨e,h0⟩ | ⟨g,cap',cur,e,hb,hg,q1,q2,q3⟩
     ·omega
     ·cases e; exact ⟨g,rfl,q1,(Array.getElem?_eq_some_iff.1 hg).1⟩
    have hcl:=HROW.out.cells (g:=g) rfl
    have hxs : (d.params.map fun t => bsA (z6 t)).length=d.params.length:=List.length_map ..
    have hxm : ((d.params.map fun t => bsA (z6 t)).map (·.data.toList))=d.params.map z6:=by
     rw [List.map_map]
     apply List.map_congr_left
     intro t _
     rfl
    have hjl : (Lib.join (d.params.map z6) [44,32]).length≤100000000:=by
     have:=yH (d.params.map z6) [44,32] 22 fun z hz => by
      obtain ⟨t,ht,rfl⟩:=List.mem_map.1 hz
      exact (yQ (HR.out t (List.mem_append_left _ ht))).1
     rw [List.length_map,show (22 + ([44,32] : List UInt8).length)=24 from rfl] at this
     omega
    have CJ:=Tryz.strings_Join g 0 c (d.params.map fun t => bsA (z6 t)) (bsA [44,32]) wr (fun j z hz => by
     rw [List.getElem?_map] at hz
     cases hp : d.params[j]? with
     | none => rw [hp] at hz; cases hz
     | some t =>
       rw [hp] at hz
       cases hz
       have:=hcl j (bP (z6 t)) (by unfold qD; rw [List.getElem?_map,hp]; rfl)
       rwa [Go.WideShapes.add_plain] at this) hgc (by rw [hxs]; omega) (by rw [hxs]; exact hgl) (by rw [hxm]; show (Lib.join _ [44,32]).length≤_; omega)
    rw [hxs,hxm] at CJ
    have CJ:=hid CJ
    have E:=hid (show tT d=d.name ++ ((40 :: (Lib.join (d.params.map z6) [44,32] ++ [41])) ++ (58 :: 32 :: z6 d.result)) by unfold tT; rw [if_neg hp0])
    have hbs : (bsA d.name).size=d.name.length:=by simp [bsA,ByteArray.size]
    rw [show (bsA [44,32]).data.toList=[44,32] from rfl] at CJ
    have d0 : decide (0<(d.params.length : Int))=true:=decide_eq_true (by omega)
    generalize Lib.join (d.params.map z6) [44,32]=jn at CJ E hjl
    unfold bsA at CJ
    clear HROW hcl hxs hxm
    go_wp2_with fail
    (with_reducible refine Calls.mono CJ.out ?_)
    rintro e w4 ⟨rfl,hb4⟩
    have HB4:=hid (HBw.out.trans (hb4.mono HBw.out.size))
    have C:=hid (CW.out w4 hb4)
    have k2r' : w4.cell? ⟨w.heap.size,2,none⟩=some (.int .i64 d.result):=(hb4.cell (p:=⟨w.heap.size,2,none⟩) hqr).trans k2r
    have hq4 : w.heap.size<w4.heap.size:=by have:=hb4.size; omega
    clear k0r k2r hqr CJ CW hb4
    go_wp2_with fail
    (with_reducible refine Calls.mono C.out ?_)
    rintro e w5 ⟨rfl,hb⟩
    have HB5:=hid (HB4.out.trans (hb.mono HB4.out.size))
    clear hb C
    generalize z6 d.result=l at E hwl
    have hsz : (bsA d.name ++ ({ data:=#[40] } ++ { data:=jn.toArray } ++ { data:=#[41] }) ++ { data:=#[58,32] } : ByteArray).size=d.name.length + jn.length + 4:=by
     show (bsA d.name ++ (bsA [40] ++ bsA jn ++ bsA [41]) ++ bsA [58,32]).size=_
     rw [T1,T1,T1,T1]
     simp [bsA,ByteArray.size]
     omega
    go_wp2_with fail
    go_ret
    refine ⟨?_,HB5⟩
    rw [E.out]
    show Ending.returned (.string (bsA d.name ++ (bsA [40] ++ bsA jn ++ bsA [41]) ++ bsA [58,32] ++ bsA l))=_
    rw [T1,T1,T1,T1,T1]
    simp only [List.append_assoc,List.cons_append,List.nil_append]
end
section
open Go.RowKit
def eL (q : Nat) : List UInt8:=if q=0 then [40] else [44,32]
def aL (f : Int→List UInt8) : Nat→List Int→List UInt8
 | _,[] => []
 | i,t :: ts => eL i ++ f t ++ aL f (i + 1) ts
theorem wA (f : Int→List UInt8) : ∀ (ts : List Int) (i : Nat) (t : Int),aL f i (ts ++ [t])=aL f i ts ++ (eL (i + ts.length) ++ f t)
 | [],i,t => by show aL f i [t]=[] ++ _; rw [aL,aL,List.append_nil]; rfl
 | x :: ts,i,t => by
   show aL f i (x :: (ts ++ [t]))=_
   rw [aL,wA f ts (i + 1) t,aL,List.length_cons,show i + 1 + ts.length=i + (ts.length + 1) by omega]
   simp only [List.append_assoc]
theorem a5u (f : Int→List UInt8) (l : List Int) (q : Nat) (h : q<l.length) : aL f 0 (l.take (q + 1))=aL f 0 (l.take q) ++ (eL q ++ f l[q]):=by
 rw [← List.take_append_getElem h,wA,List.length_take,Nat.min_eq_left (Nat.le_of_lt h),Nat.zero_add]
theorem vE (f : Int→List UInt8) (m : Nat) : ∀ (ts : List Int) (i : Nat),(∀ t∈ts,(f t).length≤m)→(aL f i ts).length≤ts.length * (m + 2)
 | [],i,_ => by rw [aL]; exact Nat.zero_le _
 | t :: ts,i,h => by
   have h1:=vE f m ts (i + 1) fun x hx => h x (List.mem_cons_of_mem _ hx)
   have h2:=h t (List.mem_cons_self ..)
   have h3 : (eL i).length≤2:=by unfold eL; split <;> decide
   rw [aL,List.length_cons,Nat.succ_mul]
   simp only [List.length_append]
   omega
theorem yI (w : World) (j : Nat) {q : Nat} (h : j=min q 1) : (w.alloc (.cells #[.string ⟨#[40]⟩,.string ⟨#[44,32]⟩] 9)).cell? ⟨w.heap.size,j,none⟩=some (.string (bsA (eL q))):=by
 unfold eL bsA
 by_cases hq : q=0
 ·subst hq; subst h; simp
 ·have : j=1:=by omega
  subst this
  rw [if_neg hq]
  simp
end
section
open Lib (hid)
open Go.RowKit
theorem a2q (n : Nat) (w : World) : Calls Tryz.prog 6 #[.int .i64 n] w fun e w' => e=.returned (.string (bsA (H8 n)))∧Below w.heap.size w w':=by
 by_cases h5 : n<5
 ·have hn : n=0∨n=1∨n=2∨n=3∨n=4:=by omega
  clear h5
  have m0 : min (0 : Int) 5=0:=rfl
  have m1 : min (1 : Int) 5=1:=rfl
  have m2 : min (2 : Int) 5=2:=rfl
  have m3 : min (3 : Int) 5=3:=rfl
  have m4 : min (4 : Int) 5=4:=rfl
  go_enter Tryz.func6,Tryz.ntmps6
  rcases hn with rfl | rfl | rfl | rfl | rfl
  all_goals go_wp2_with fail
  all_goals go_ret
  all_goals exact ⟨rfl,a7 _ _⟩
 ·have hm : min (n : Int) 5=5:=by omega
  have E:=hid (show H8 n=[50] by
   rcases dB n with ⟨h,-⟩ | ⟨h,-⟩ | ⟨h,-⟩ | ⟨h,-⟩ | ⟨h,-⟩ | ⟨-,-,e⟩
   all_goals first | omega | exact e)
  go_enter Tryz.func6,Tryz.ntmps6
  go_wp2_with fail
  go_ret
  exact ⟨by rw [E.out]; rfl,a7 _ _⟩
theorem a3h (av : Nat→Prop) (s : Sht) (da : Option Addr) (dc : Nat) (nm : List UInt8) (w : World) (hS : dK av w da s.defs) (hc : s.defs.length≤dc∧dc≤maxLen) :
 Calls Tryz.prog 8 #[.agg #[.string (bsA s.name),.slice da s.defs.length dc],.string (bsA nm)] w fun e w' => (∃ i : Int,e=.returned (.tuple #[.int .i64 i,.bool (i8 s.defs nm).isSome]))∧Below w.heap.size w w':=by
 obtain ⟨W1,hW1⟩ : ∃ W,W=w.alloc (.cells #[.string (bsA s.name),.slice da s.defs.length dc] 28):=⟨_,rfl⟩
 have B1:=hid (show Below w.heap.size w W1 from hW1 ▸ a7 _ _)
 have HB1:=hid (show W1.heap[w.heap.size]?=some (.cells #[.string (bsA s.name),.slice da s.defs.length dc] 28 (0,0)) by rw [hW1]; exact O7 _ _)
 have HS:=hid hS
 have hl : s.defs.length≤9223372036854775807:=by have:=hc; unfold maxLen at this; omega
 have hdm : dc≤9223372036854775807:=by have:=hc; unfold maxLen at this; omega
 have hz1 : w.heap.size<W1.heap.size:=(Array.getElem?_eq_some_iff.1 HB1).1
 have z1 : W1.cell? ⟨w.heap.size,1,none⟩=some (.slice da s.defs.length dc):=by simp [World.cell?,HB1.out]
 have hdc:=hc.1
 clear hS hc
 go_enter Tryz.func8,Tryz.ntmps8
 go_upto_region 1 with fail
 rw [← hW1]
 clear hW1
 go_wp2_with fail
 go_loop [6] (fun v => ∃ k : Nat,k≤s.defs.length∧v=.int .i64 k∧Hid (∀ j (hj : j<s.defs.length),j<k→s.defs[j].name≠nm)) (fun v => s.defs.length - (intOf v).toNat)
 case atStart => exact ⟨0,Nat.zero_le _,rfl,hid fun j _ h => absurd h (Nat.not_lt_zero _)⟩
 case round =>
  obtain ⟨k,hk,rfl,HN⟩:=hrel
  by_cases hlt : k<s.defs.length
  ·obtain ⟨b,off,rfl,hav,hbl,pa,pc,c0,-⟩:=HS.out k hlt
   have k0 : W1.cell? ⟨b,off + k * 3,none⟩=some (.string (bsA s.defs[k].name)):=(B1.out.cell (p:=⟨b,off + k * 3,none⟩) hbl).trans c0
   clear c0
   have hb1 : b<W1.heap.size:=by have:=B1.out.size; omega
   by_cases he : s.defs[k].name=nm
   ·have e1 : ((bsA s.defs[k].name).toList == (bsA nm).toList)=true:=by rw [he]; exact beq_self_eq_true _
    have HF:=hid (a0i HN hlt he)
    clear he
    go_wp2_with fail
    refine bodyPost_ret (v:=.tuple #[.int .i64 k,.bool true]) (by simp [results,Tryz.results8,go_sem]) rfl ?_
    rw [HF.out]
    exact ⟨⟨_,rfl⟩,B1⟩
   ·have e1 : ((bsA s.defs[k].name).toList == (bsA nm).toList)=false:=beq_eq_false_iff_ne.2 (fun h => he (a78 h))
    have HE:=hid he
    clear he
    go_wp2_with fail
    go_round
    case rel =>
     refine ⟨k + 1,by omega,by go_num,hid fun j hj hjk => ?_⟩
     by_cases e : j=k
     ·subst e; exact HE
     ·exact HN.out j hj (by omega)
    case measure => simp [intOf]; omega
  ·have HF:=hid (iY (l:=s.defs) (s:=nm) fun j hj => HN.out j hj (by omega))
   go_wp2_with fail
   refine bodyPost_ret (v:=.tuple #[.int .i64 0,.bool false]) (by simp [results,Tryz.results8,go_sem]) rfl ?_
   rw [HF.out]
   exact ⟨⟨_,rfl⟩,B1⟩
end
section
open Go.RowKit
def a6r : List UInt8:=[109,111,100,117,108,101,32,109,59,32,108,101,116,32,99,104,111,111,115,101,40,98,44,32,120,44,32,121,41,32,61,32,105,102,32,98,32,116,104,101,110,32,120,32,101,108,115,101,32,121,59]
def O1 : Nd:=mkN 1 [109] 0 [mkN 3 [99,104,111,111,115,101] 0 [mkN 4 [98] 0 [] 21,mkN 4 [120] 0 [] 24,mkN 4 [121] 0 [] 27,mkN 14 [] 0 [mkN 10 [98] 0 [] 35,mkN 10 [120] 0 [] 42,mkN 10 [121] 0 [] 49] 32] 14] 0
def V2 : Sch:=⟨[99,104,111,111,115,101],[1,5,5],5⟩
theorem yZ : cY a6r=.ok O1:=by kernel_rfl
theorem vI : y4 O1 []=.ok ⟨[109],[V2]⟩:=by kernel_rfl
theorem xS : tT V2=[99,104,111,111,115,101,40,98,111,111,108,44,32,97,44,32,97,41,58,32,97]:=by kernel_rfl
theorem uQ : n5 O1:=by
 refine ⟨by decide,⟨by decide,⟨by decide,trivial⟩,⟨by decide,trivial⟩,⟨by decide,trivial⟩,⟨by decide,⟨by decide,trivial⟩,⟨by decide,trivial⟩,⟨by decide,trivial⟩,trivial⟩,trivial⟩,trivial⟩
end
section
open Lib (hid)
open Go.RowKit
theorem a0P (w : World) (he : Env w) (hta : Tab w) (hti : eH w) : Calls Tryz.prog 4 #[] w fun e w' => e=.returned (.bool true)∧Below w.heap.size w w':=by
 have C1:=hid (uX ⟨#[109,111,100,117,108,101,32,109,59,32,108,101,116,32,99,104,111,111,115,101,40,98,44,32,120,44,32,121,41,32,61,32,105,102,32,98,32,116,104,101,110,32,120,32,101,108,115,101,32,121,59]⟩ w (by unfold maxLen; decide))
 have HE:=hid he
 have HT:=hid hta
 have HTI:=hid hti
 clear he hta hti
 go_enter Tryz.func4,Tryz.ntmps4
 go_wp2_with fail
 (with_reducible refine Calls.mono C1.out ?_)
 rintro e w1 ⟨t,a,cp,f,k,rfl,hb,hx⟩
 rw [show cY (ByteArray.mk #[109,111,100,117,108,101,32,109,59,32,108,101,116,32,99,104,111,111,115,101,40,98,44,32,120,44,32,121,41,32,61,32,105,102,32,98,32,116,104,101,110,32,120,32,101,108,115,101,32,121,59]).data.toList=.ok O1 from yZ] at hx
 obtain ⟨rfl,rfl,rfl,hl⟩:=hx
 have HL:=hid (show O1.hold w1.heap.size w1 a cp from Nd.lies.hold O1 (e7 hl (j4.refl _ _) fun b hb => hb.2))
 have HB1:=hid hb
 obtain ⟨W2,hW2⟩ : ∃ W,W=w1.alloc (.cells #[.int .i64 O1.kind,.string O1.text,.int .i64 O1.n,.slice a O1.kids.length cp,.int .i64 O1.place] 24):=⟨_,rfl⟩
 have N2:=hid (show c9 w1.heap.size O1 a cp W2 from hW2 ▸ c9.make w1 O1 a cp)
 have E2:=hid (show Below w1.heap.size w1 W2 from hW2 ▸ a7 _ _)
 have HA:=hid (HB1.out.trans (E2.out.mono HB1.out.size))
 clear hb hl C1
 have C2:=hid (iU [] none 0 O1 a cp w1.heap.size W2 (HL.out.below E2) uQ E2.out.size (HE.out.below HA) (HT.out.below HA) (HTI.out.below HA) (fun j hj => absurd hj (Nat.not_lt_zero _)) ⟨Nat.le_refl _,Nat.zero_le _⟩ (fun s hs => (List.not_mem_nil hs).elim) (jG 0 _ (Nat.zero_le _)))
 obtain ⟨N,hN⟩ : ∃ N,N=O1:=⟨_,rfl⟩
 unfold rD at C2
 rw [vI] at C2
 rw [← hN] at C2 hW2 N2 ⊢
 clear hN HL
 obtain ⟨⟨n0,n1,n2,n3,n4⟩,-⟩:=N2.out.cells
 have hlt : w1.heap.size<W2.heap.size:=N2.out.lt
 unfold Nd.val
 go_upto_region 2 with fail
 rw [← hW2]
 clear hW2
 go_wp2_with fail
 (with_reducible refine Calls.mono C2.out ?_)
 rintro e w3 ⟨hb,da,dc,rfl,hS,h1,h2,h3⟩
 obtain ⟨b,off,rfl,hav,hbl,pa,pc,c0,c1,c2,hI,hp1,hp2,hp3⟩:=hS 0 (by decide)
 have HB3:=hid (HA.out.trans (hb.mono HA.out.size))
 have HI:=hid hI
 have HPC:=hid (show V2.params.length≤pc∧pc≤maxLen from ⟨hp1,hp2⟩)
 have c0 : w3.cell? ⟨b,off,none⟩=some (.string (bsA V2.name)):=by have:=c0; rwa [Nat.zero_mul,Nat.add_zero] at this
 have c1 : w3.cell? ⟨b,off + 1,none⟩=some (.slice pa V2.params.length pc):=by have:=c1; rwa [Nat.zero_mul,Nat.add_zero] at this
 have c2 : w3.cell? ⟨b,off + 2,none⟩=some (.int .i64 V2.result):=by have:=c2; rwa [Nat.zero_mul,Nat.add_zero] at this
 clear hb hS h3 hI hp1 hp2 hp3 C2
 rw [show [V2].length=1 from rfl] at h1 ⊢
 obtain ⟨W4,hW4⟩ : ∃ W,W=w3.alloc (.cells #[.string (bsA [109]),.slice (some ⟨b,off,none⟩) 1 dc] 28):=⟨_,rfl⟩
 have E4:=hid (show Below w3.heap.size w3 W4 from hW4 ▸ a7 _ _)
 have hB4 : W4.heap[w3.heap.size]?=some (.cells #[.string (bsA [109]),.slice (some ⟨b,off,none⟩) 1 dc] 28 (0,0)):=by rw [hW4]; exact bL _ _ rfl
 have s1 : W4.cell? ⟨w3.heap.size,1,none⟩=some (.slice (some ⟨b,off,none⟩) 1 dc):=by simp [World.cell?,hB4]
 have hs4 : w3.heap.size<W4.heap.size:=(Array.getElem?_eq_some_iff.1 hB4).1
 have k0 : W4.cell? ⟨b,off,none⟩=some (.string (bsA V2.name)):=(E4.out.cell (p:=⟨b,off,none⟩) hbl).trans c0
 have k1 : W4.cell? ⟨b,off + 1,none⟩=some (.slice pa V2.params.length pc):=(E4.out.cell (p:=⟨b,off + 1,none⟩) hbl).trans c1
 have k2 : W4.cell? ⟨b,off + 2,none⟩=some (.int .i64 V2.result):=(E4.out.cell (p:=⟨b,off + 2,none⟩) hbl).trans c2
 have hb4 : b<W4.heap.size:=by omega
 have HA4:=hid (HB3.out.trans (E4.out.mono HB3.out.size))
 have C5:=hid (a06 _ V2 pa pc W4 ((cN HI).move (fun b hb => E4.out.block b hb.2) fun _ h => h) HPC (by unfold V2 a6T; decide) (by decide) (by decide) (HTI.out.below HA4) (HT.out.below HA4))
 rw [xS,show bsA [99,104,111,111,115,101,40,98,111,111,108,44,32,97,44,32,97,41,58,32,97]=⟨#[99,104,111,111,115,101,40,98,111,111,108,44,32,97,44,32,97,41,58,32,97]⟩ from rfl] at C5
 generalize V2=D at k0 k1 k2 C5
 clear c0 c1 c2 hB4 HI HPC E4
 go_upto_region 3 with fail
 rw [← hW4]
 clear hW4
 go_wp2_with fail
 (with_reducible refine Calls.mono C5.out ?_)
 rintro e w5 ⟨rfl,hb⟩
 have HA5:=hid (HA4.out.trans (hb.mono HA4.out.size))
 clear hb C5
 go_wp2_with fail
 go_ret
 exact ⟨rfl,HA5⟩
end
section
open Go.RowKit
theorem a1E {av : Nat→Prop} {W : World} {a : Option Addr} {l : List Sch} (h : dK av W a l) : dK (fun b => av b∧b<W.heap.size) W a l:=fun j hj => by
 obtain ⟨b,off,h1,h2,h3,pa,pc,c0,c1,c2,hI,hp⟩:=h j hj
 exact ⟨b,off,h1,⟨h2,h3⟩,h3,pa,pc,c0,c1,c2,cN hI,hp⟩
end
end Go.Proofs.YteefedkmgnepmaaGreatDoor
