/-
  Laws that the proof rests on.
-/
import Derived.Test.YtibiccacafjjfaaGreatDoorR03
import Derived.Deep.LoopGhost
import Derived.Shelf.Abstract
import Derived.Sort.Walk7a
import Derived.Test.YtibiccacafjjfaaGreatDoorRows
import Derived.WalkKit
import Derived.ProofKit
import Derived.OpenShut
import Derived.Carry
import Derived.Deep.DeepHandedRow
import Derived.Lib.LaidTab
import Derived.Test.YtibiccacafjjfaaGreatDoorCards
import Derived.Test.YtibiccacafjjfaaGreatDoorTie
import Derived.Stop.LaidErr
import Derived.Shelf.Strings.Builder1
import Derived.Shelf.Strings.Builder2
import Derived.Shelf.Strings.Trim
import Derived.Shelf.Small.Utf8
import Derived.Shelf.Small.Strs
import Derived.Shelf.Small.Wraps
import Derived.Shelf.Strings.BuilderF
import Derived.Shelf.Strings.BuilderK
import Derived.Shelf.Strconv.Itoa0
import Derived.Shelf.Strconv.Itoa1
import Derived.Shelf.LaysM
import Derived.Shelf.Strconv.Itoa2
import Derived.Shelf.Strconv.Itoa3
import Derived.Shelf.Strings.Search1
import Derived.Shelf.Strings.Search2
import Derived.Shelf.Strings.Search3
import Derived.Shelf.Strings.Cut
import Derived.Shelf.Strings.Shaped
import Derived.Shelf.GgClosure.StringsIndexFunc
import Derived.Ground.GgwProg
import Derived.Shelf.GgClosure.StringsIndexFuncTop
import Derived.Shelf.Strings.Prefix
import Derived.Shelf.Strings.Fields
import Derived.Shelf.Unicode.Latin
import Derived.Shelf.Strings.Runes
import Derived.Shelf.Strings.AsciiSet
import Derived.Shelf.Bits.Mul64
import Derived.Shelf.Strings.Repeat
import Derived.Shelf.Unicode.DecodeSlow
import Derived.Shelf.Unicode.Is16White
import Derived.Shelf.Unicode.IsSpaceAny
import Derived.Shelf.Unicode.Is16WhiteD
import Derived.Shelf.Unicode.IsSpaceAnyD
import Derived.Shelf.Strings.FieldsAny
import Derived.Shelf.Strings.FieldsFuncAny
import Derived.Shelf.Unicode.Is16Any
import Derived.Shelf.Unicode.Is32Any
import Derived.Shelf.Unicode.ExclAny
import Derived.Test.YtibiccacafjjfaaGreatDoorProg

namespace Go.Proofs.YtibiccacafjjfaaGreatDoor
open Lib (hid)
open Go.RowKit Go.Shelf
set_option maxRecDepth 100000
set_option maxHeartbeats 4000000 in
theorem a0K (t u : Nd) (a : Option Addr) (cap : Nat) (a' : Option Addr) (cap' n₀ : Nat) (w : World) (hh : t.hold n₀ w a cap) (hu : u.hold n₀ w a' cap') (hn : n₀≤w.heap.size)
 (ih : ∀ (k : Nat) (hk : k<t.kids.length) (v : Nd) (x : Option Addr) (cx : Nat) (x' : Option Addr) (cx' : Nat) (cur : World),t.kids[k].hold n₀ cur x cx→v.hold n₀ cur x' cx'→n₀≤cur.heap.size →
   Calls Tryz.prog 27 #[.agg #[.int .i64 t.kids[k].kind,.string t.kids[k].text,.int .i64 t.kids[k].n,.slice x t.kids[k].kids.length cx,.int .i64 t.kids[k].place],.agg #[.int .i64 v.kind,.string v.text,.int .i64 v.n,.slice x' v.kids.length cx',.int .i64 v.place]] cur fun e w' => e=.returned (.bool (bH t.kids[k] v))∧Below cur.heap.size cur w') :
 Calls Tryz.prog 58 #[.slice a t.kids.length cap,.slice a' u.kids.length cap',.func (.func 27) #[] #[]] w fun e w' => e=.returned (.bool (D7 t.kids u.kids))∧Below w.heap.size w w':=by
 have eg:=enters_of Tryz.func27 (by kernel_rfl) rfl
 have hkl:=hh.bounds.2.2.2.2
 have hkl':=hu.bounds.2.2.2.2
 have hm:=hkl
 have hm':=hkl'
 unfold maxLen at hm hm'
 have HH:=hid hh
 have HU:=hid hu
 have IH:=hid ih
 clear hh hu ih
 obtain ⟨ks,hks⟩ : ∃ ks,t.kids=ks:=⟨_,rfl⟩
 obtain ⟨ks',hks'⟩ : ∃ ks',u.kids=ks':=⟨_,rfl⟩
 by_cases q4 : t.kids.length=u.kids.length
 case neg =>
  have e4 : ((t.kids.length : Int) != (u.kids.length : Int))=true:=by rw [bne_iff_ne]; omega
  have F:=hid (show D7 t.kids u.kids=false from Bool.eq_false_iff.2 fun e => q4 (jE _ _ e))
  clear q4 hks hks'
  go_enter Tryz.func58,Tryz.ntmps58
  go_wp2
  go_ret
  exact ⟨x8 F.out.symm,Below.refl _ _⟩
 have e4 : ((t.kids.length : Int) != (u.kids.length : Int))=false:=by rw [bne_eq_false_iff_eq,q4]
 have Q4:=hid q4
 clear q4 hks hks'
 go_enter Tryz.func58,Tryz.ntmps58
 go_wp2
 go_loopw [17] (fun i wr => ∃ (k : Nat),k≤t.kids.length∧i=.int .i64 k∧Hid (D7 (t.kids.drop k) (u.kids.drop k)=D7 t.kids u.kids)∧Hid (Below w.heap.size w wr)) (fun i _ => (t.kids.length - (intOf i).toNat))
 case atStart => exact ⟨0,Nat.zero_le _,rfl,rfl,Below.refl _ _⟩
 case round =>
  obtain ⟨k,hk,rfl,HI,HBr⟩:=hrel
  by_cases hlt : k<t.kids.length
  ·have hlt' : k<u.kids.length:=Q4.out ▸ hlt
   obtain ⟨b,off,x,cx,A⟩:=(HH.out.below (HBr.out.mono hn)).kid k hlt
   obtain ⟨b',off',x',cx',A'⟩:=(HU.out.below (HBr.out.mono hn)).kid k hlt'
   obtain ⟨rfl,hb0,c0,c1,c2,c3,c4,hk1⟩:=A
   obtain ⟨rfl,hb0',c0',c1',c2',c3',c4',hk1'⟩:=A'
   have HK:=hid hk1
   have HK':=hid hk1'
   clear hk1 hk1'
   have S:=hid (yV t.kids u.kids k hlt hlt')
   have hnr : n₀≤wr.heap.size:=Nat.le_trans hn HBr.out.size
   have hbw : b<wr.heap.size:=Nat.lt_of_lt_of_le hb0 hnr
   have hbw' : b'<wr.heap.size:=Nat.lt_of_lt_of_le hb0' hnr
   cases hsm : bH t.kids[k] u.kids[k]
   all_goals
    go_wp2_with fail
    refine Calls.mono (IH.out k hlt u.kids[k] x cx x' cx' _ (HK.out.below (((c6 wr _).alloc (by simp) _).mono hnr)) (HK'.out.below (((c6 wr _).alloc (by simp) _).mono hnr)) (Nat.le_trans hnr (by simp; omega))) ?_
    rintro e w' ⟨rfl,hb⟩
    have HR:=hid (HBr.out.trans ((((c6 wr _).alloc (by simp) _).trans (hb.mono (by simp; omega))).mono HBr.out.size))
    clear hb
    rw [hsm]
    go_wp2_with fail
   ·go_ret
    exact ⟨x8 (by rw [← HI.out,S.out,hsm]; rfl),HR⟩
   ·go_roundw
    case rel => exact ⟨k + 1,by omega,by go_num,by show _=_; rw [← HI.out,S.out,hsm]; rfl,HR⟩
    case measure => simp [intOf]; omega
  ·have S:=hid (a09 t.kids u.kids k hlt (by rw [← Q4.out]; exact hlt))
   go_wp2
   go_ret
   exact ⟨x8 (by rw [← HI.out,S.out]),HBr⟩
set_option maxHeartbeats 4000000 in
theorem a0h (N : Nat) : ∀ (t : Nd),SizeOf.sizeOf t<N→∀ (u : Nd) (a : Option Addr) (cap : Nat) (a' : Option Addr) (cap' n₀ : Nat) (w : World),t.hold n₀ w a cap→u.hold n₀ w a' cap'→n₀≤w.heap.size →
 Calls Tryz.prog 27 #[.agg #[.int .i64 t.kind,.string t.text,.int .i64 t.n,.slice a t.kids.length cap,.int .i64 t.place],.agg #[.int .i64 u.kind,.string u.text,.int .i64 u.n,.slice a' u.kids.length cap',.int .i64 u.place]] w fun e w' => e=.returned (.bool (bH t u))∧Below w.heap.size w w':=by
 induction N with
 | zero => intro t ht; omega
 | succ N ih =>
 intro t ht u a cap a' cap' n₀ w hh hu hn
 have hk : ∀ (k : Nat) (hk : k<t.kids.length),SizeOf.sizeOf t.kids[k]<N:=by
  cases t with
  | mk kind s n ks p => exact fun k hk => iR hk ht
 have IH:=hid fun (k : Nat) (h : k<t.kids.length) => ih _ (hk k h)
 have HH:=hid hh
 have HU:=hid hu
 clear hh hu ih ht hk
 have E:=hid (kI t u)
 cases t with
 | mk kind s n ks p =>
 cases u with
 | mk kind' s' n' ks' p' =>
 show Calls Tryz.prog 27 #[.agg #[.int .i64 kind,.string s,.int .i64 n,.slice a ks.length cap,.int .i64 p],.agg #[.int .i64 kind',.string s',.int .i64 n',.slice a' ks'.length cap',.int .i64 p']] w _
 by_cases q1 : kind=kind'
 case neg =>
  have HB : Hid (Below w.heap.size w ((w.alloc (.cells #[.int .i64 kind,.string s,.int .i64 n,.slice a ks.length cap,.int .i64 p] 24)).alloc (.cells #[.int .i64 kind',.string s',.int .i64 n',.slice a' ks'.length cap',.int .i64 p'] 24))):=(c6 _ _).alloc (by simp) _
  have e1 : (kind == kind')=false:=by simpa using q1
  have F:=hid (show bH (.mk kind s n ks p) (.mk kind' s' n' ks' p')=false by rw [E.out,show ((Nd.mk kind s n ks p).kind == (Nd.mk kind' s' n' ks' p').kind)=false from e1]; rfl)
  clear q1
  go_enter Tryz.func27,Tryz.ntmps27
  go_wp2
  go_ret
  exact ⟨x8 F.out.symm,HB⟩
 subst q1
 by_cases q2 : s=s'
 case neg =>
  have HB : Hid (Below w.heap.size w ((w.alloc (.cells #[.int .i64 kind,.string s,.int .i64 n,.slice a ks.length cap,.int .i64 p] 24)).alloc (.cells #[.int .i64 kind,.string s',.int .i64 n',.slice a' ks'.length cap',.int .i64 p'] 24))):=(c6 _ _).alloc (by simp) _
  have e2 : (s.toList == s'.toList)=false:=beq_eq_false_iff_ne.2 fun e => q2 (a4Q e)
  have F:=hid (show bH (.mk kind s n ks p) (.mk kind s' n' ks' p')=false by rw [E.out,show ((Nd.mk kind s n ks p).text.toList == (Nd.mk kind s' n' ks' p').text.toList)=false from e2]; simp)
  have e2' : ¬ s.toList=s'.toList:=fun e => q2 (a4Q e)
  clear q2 e2
  go_enter Tryz.func27,Tryz.ntmps27
  go_wp2
  go_ret
  exact ⟨x8 F.out.symm,HB⟩
 subst q2
 by_cases q3 : n=n'
 case neg =>
  have HB : Hid (Below w.heap.size w ((w.alloc (.cells #[.int .i64 kind,.string s,.int .i64 n,.slice a ks.length cap,.int .i64 p] 24)).alloc (.cells #[.int .i64 kind,.string s,.int .i64 n',.slice a' ks'.length cap',.int .i64 p'] 24))):=(c6 _ _).alloc (by simp) _
  have e3 : (n == n')=false:=by simpa using q3
  have F:=hid (show bH (.mk kind s n ks p) (.mk kind s n' ks' p')=false by rw [E.out,show ((Nd.mk kind s n ks p).n == (Nd.mk kind s n' ks' p').n)=false from e3]; simp)
  clear q3
  go_enter Tryz.func27,Tryz.ntmps27
  go_wp2
  go_ret
  exact ⟨x8 F.out.symm,HB⟩
 subst q3
 have HB : Hid (Below w.heap.size w ((w.alloc (.cells #[.int .i64 kind,.string s,.int .i64 n,.slice a ks.length cap,.int .i64 p] 24)).alloc (.cells #[.int .i64 kind,.string s,.int .i64 n,.slice a' ks'.length cap',.int .i64 p'] 24))):=(c6 _ _).alloc (by simp) _
 have F:=hid (show bH (.mk kind s n ks p) (.mk kind s n ks' p')=D7 ks ks' by rw [E.out]; simp [Nd.kind,Nd.text,Nd.n,Nd.kids])
 go_enter Tryz.func27,Tryz.ntmps27
 go_wp2_with (first | (go_at_call 58; refine (a0K (.mk kind s n ks p) (.mk kind s n ks' p') a cap a' cap' n₀ _ (HH.out.below (HB.out.mono hn)) (HU.out.below (HB.out.mono hn)) (Nat.le_trans hn HB.out.size) (fun k hk v x cx x' cx' cur h h' hc => IH.out k hk v x cx x' cx' n₀ cur h h' hc)).mono ?_; rintro e w' ⟨rfl,hb⟩))
 go_ret
 exact ⟨x8 F.out.symm,HB.out.trans (hb.mono HB.out.size)⟩
theorem a3u (t u : Nd) (a : Option Addr) (cap : Nat) (a' : Option Addr) (cap' n₀ : Nat) (w : World) (h : t.hold n₀ w a cap) (h' : u.hold n₀ w a' cap') (hn : n₀≤w.heap.size) :
 Calls Tryz.prog 27 #[.agg #[.int .i64 t.kind,.string t.text,.int .i64 t.n,.slice a t.kids.length cap,.int .i64 t.place],.agg #[.int .i64 u.kind,.string u.text,.int .i64 u.n,.slice a' u.kids.length cap',.int .i64 u.place]] w fun e w' => e=.returned (.bool (bH t u))∧Below w.heap.size w w' :=
 a0h _ t (Nat.lt_succ_self _) u a cap a' cap' n₀ w h h' hn
end Go.Proofs.YtibiccacafjjfaaGreatDoor

namespace Go.Proofs.YtibiccacafjjfaaGreatDoor
open Lib (hid)
open Go.RowKit Go.Shelf
set_option maxRecDepth 100000
theorem iO {B : Nat} {A C : World} (h : Below B A C) (p : Addr) (v : Value) : Below B (A.setCell p v) (C.setCell p v) :=
 ⟨h.os,h.tape,h.output,by simpa [World.setCell] using h.size,fun k hk => by
  have e:=h.block k hk
  simp only [World.setCell,Array.getElem?_modify]
  rw [e]⟩
theorem a1j {B : Nat} {A C D : World} {L : Nat} {v v' : Value} (h : Below B (A.setCell ⟨L,0,none⟩ v) C) (h' : Below B (C.setCell ⟨L,0,none⟩ v') D) : Below B (A.setCell ⟨L,0,none⟩ v') D:=by
 have:=iO h ⟨L,0,none⟩ v'
 rw [Go.Proofs.setCell_setCell] at this
 exact this.trans h'
theorem wQ {n₀ L : Nat} {w : World} {t : Nd} {a : Option Addr} {cap : Nat} (h : t.hold n₀ w a cap) (hL : n₀≤L) (v : Value) : t.hold n₀ (w.setCell ⟨L,0,none⟩ v) a cap :=
 h.below ((Below.refl n₀ w).setCell (p:=⟨L,0,none⟩) hL v)
abbrev a1M (L K : Nat) : Value:=.func (.func 55) #[] #[.pointer (some ⟨L,0,none⟩),.pointer (some ⟨K,0,none⟩)]
structure Cnt (L K : Nat) (m : Int) (w : World) : Prop where
 lt : L<w.heap.size
 lk : K<w.heap.size
 ne : L≠K
 cell : w.cell? ⟨L,0,none⟩=some (.int .i64 m)
 froz : w.frozen? ⟨L,0,none⟩=false
 own : w.cell? ⟨K,0,none⟩=some (a1M L K)
theorem Cnt.set {L K : Nat} {m : Int} {w : World} (h : Cnt L K m w) (y : Int) : Cnt L K y (w.setCell ⟨L,0,none⟩ (.int .i64 y)) :=
 ⟨by simpa [World.setCell] using h.lt,by simpa [World.setCell] using h.lk,h.ne,World.cell?_setCell_same' _ _ _ (by rw [h.cell]; rfl),by rw [World.frozen?_setCell]; exact h.froz,by rw [World.cell?_setCell_other _ _ _ _ (by simp; exact fun e => h.ne e)]; exact h.own⟩
theorem Cnt.below {L K : Nat} {m : Int} {w w' : World} (h : Cnt L K m w) {B : Nat} (hb : Below B w w') (hL : L<B) (hK : K<B) : Cnt L K m w' :=
 ⟨Nat.lt_of_lt_of_le h.lt hb.size,Nat.lt_of_lt_of_le h.lk hb.size,h.ne,(hb.cell (p:=⟨L,0,none⟩) hL).trans h.cell,(hb.frozen (p:=⟨L,0,none⟩) hL).trans h.froz,(hb.cell (p:=⟨K,0,none⟩) hK).trans h.own⟩
def yS (t : Nd) (L K n₀ : Nat) : Prop:=∀ (a : Option Addr) (cap : Nat) (m : Int) (w : World),t.hold n₀ w a cap→n₀≤L→n₀≤K→Cnt L K m w→0≤m→m≤8192 →
 Calls Tryz.prog 55 #[.agg #[.int .i64 t.kind,.string t.text,.int .i64 t.n,.slice a t.kids.length cap,.int .i64 t.place],.pointer (some ⟨L,0,none⟩),.pointer (some ⟨K,0,none⟩)] w fun e w' => e=.returned (.bool (decide (0≤aY t m)))∧Below w.heap.size (w.setCell ⟨L,0,none⟩ (.int .i64 (aY t m))) w'
set_option maxHeartbeats 1000000 in
theorem a5n (t : Nd) (L K n₀ : Nat) (ih : yS t L K n₀) (a : Option Addr) (cap : Nat) (m : Int) (w : World) (hh : t.hold n₀ w a cap) (hL : n₀≤L) (hK : n₀≤K) (hc : Cnt L K m w) (h0 : 0≤m) (h1 : m≤8192) :
 Calls Tryz.prog 57 #[.agg #[.int .i64 t.kind,.string t.text,.int .i64 t.n,.slice a t.kids.length cap,.int .i64 t.place],.pointer (some ⟨K,0,none⟩)] w fun e w' => e=.returned (.bool (!decide (0≤aY t m)))∧Below w.heap.size (w.setCell ⟨L,0,none⟩ (.int .i64 (aY t m))) w':=by
 have eg:=enters_of Tryz.func55 (by kernel_rfl) rfl
 have HH:=hid hh
 have HC:=hid hc
 have IH:=hid ih
 have ow:=hc.own
 have lk:=hc.lk
 have hn : n₀≤w.heap.size:=Nat.le_trans hL (Nat.le_of_lt hc.lt)
 clear hh hc ih
 go_enter Tryz.func57,Tryz.ntmps57
 go_wp2_with fail
 have hb1:=c6 w (.cells #[.int .i64 t.kind,.string t.text,.int .i64 t.n,.slice a t.kids.length cap,.int .i64 t.place] 24)
 refine Calls.mono (IH.out a cap m _ (HH.out.below (hb1.mono hn)) hL hK (HC.out.below hb1 HC.out.lt HC.out.lk) h0 h1) ?_
 rintro e w' ⟨rfl,hb⟩
 have HB:=hid ((iO hb1 ⟨L,0,none⟩ (.int .i64 (aY t m))).trans (hb.mono (by simp)))
 clear hb hb1
 go_wp2_with fail
 go_ret
 exact ⟨rfl,HB⟩
set_option maxHeartbeats 2000000 in
theorem a0V (t : Nd) (L K n₀ : Nat) (ih : ∀ k (hk : k<t.kids.length),yS t.kids[k] L K n₀) (a : Option Addr) (cap : Nat) (m : Int) (w : World) (hh : t.hold n₀ w a cap) (hL : n₀≤L) (hK : n₀≤K) (hc : Cnt L K m w) (h0 : 0≤m) (h1 : m≤8192)
 (hw : w.setCell ⟨L,0,none⟩ (.int .i64 m)=w) :
 Calls Tryz.prog 33 #[.slice a t.kids.length cap,.func (.func 57) #[] #[.pointer (some ⟨K,0,none⟩)]] w fun e w' => ∃ r : Int,e=.returned (.int .i64 r)∧(0≤r↔F8 t.kids m<0)∧Below w.heap.size (w.setCell ⟨L,0,none⟩ (.int .i64 (F8 t.kids m))) w':=by
 have eg:=enters_of Tryz.func57 (by kernel_rfl) rfl
 have hkl:=hh.bounds.2.2.2.2
 have hm:=hkl
 unfold maxLen at hm
 have HH:=hid hh
 have HC:=hid hc
 have IH:=hid ih
 have HW:=hid hw
 have hn : n₀≤w.heap.size:=Nat.le_trans hL (Nat.le_of_lt hc.lt)
 clear hh hc ih hw
 go_enter Tryz.func33,Tryz.ntmps33
 go_wp2_with fail
 go_loopw [8] (fun i wr => ∃ (k : Nat) (z : Int),k≤t.kids.length∧i=.int .i64 k∧0≤z∧z≤8192∧Hid (F8 (t.kids.drop k) z=F8 t.kids m)∧Hid (Below w.heap.size (w.setCell ⟨L,0,none⟩ (.int .i64 z)) wr)) (fun i _ => (t.kids.length - (intOf i).toNat))
 case atStart => exact ⟨0,m,Nat.zero_le _,rfl,h0,h1,rfl,by show Below _ _ _; rw [HW.out]; exact Below.refl _ _⟩
 case round =>
  obtain ⟨k,z,hk,rfl,hz0,hz1,HI,HBr⟩:=hrel
  have hnr : w.heap.size≤wr.heap.size:=by have:=HBr.out.size; simpa [World.setCell] using this
  by_cases hlt : k<t.kids.length
  ·have CR:=hid ((HC.out.set z).below HBr HC.out.lt HC.out.lk)
   obtain ⟨b,off,x,cx,A⟩:=((wQ HH hL (.int .i64 z)).below (HBr.out.mono hn)).kid k hlt
   obtain ⟨rfl,hb0,c0,c1,c2,c3,c4,hk1⟩:=A
   have HK:=hid hk1
   clear hk1
   have R:=yX t.kids[k] z hz0
   have S:=hid (yM t.kids k hlt z)
   by_cases hl : 0≤aY t.kids[k] z
   all_goals
    go_wp2_with fail
    refine Calls.mono (a5n t.kids[k] L K n₀ (IH.out k hlt) x cx z _ HK hL hK CR hz0 hz1) ?_
    rintro e w' ⟨rfl,hb⟩
    have HB:=hid (a1j HBr (hb.mono hnr))
    clear hb
   ·rw [decide_eq_true hl]
    go_wp2_with fail
    go_roundw
    case rel => exact ⟨k + 1,_,by omega,by go_num,hl,by omega,by show _=_; rw [← HI.out,S.out,if_pos hz0],HB⟩
    case measure => simp [intOf]; omega
   ·rw [decide_eq_false (show ¬ 0≤aY t.kids[k] z by omega)]
    have F:=hid (show F8 t.kids m=aY t.kids[k] z by rw [← HI.out,S.out,if_pos hz0,jS _ (show ¬ 0≤aY t.kids[k] z by omega)])
    go_wp2_with fail
    go_ret
    exact ⟨k,rfl,by rw [F.out]; omega,by rw [F.out]; exact HB⟩
  ·have S:=hid (a0Z t.kids k hlt z)
   have F:=hid (show F8 t.kids m=z by rw [← HI.out,S.out])
   go_wp2_with fail
   go_ret
   exact ⟨-1,rfl,by rw [F.out]; omega,by rw [F.out]; exact HBr⟩
set_option maxHeartbeats 1000000 in
theorem sG (t : Nd) (L K n₀ : Nat) (ih : ∀ k (hk : k<t.kids.length),yS t.kids[k] L K n₀) (a : Option Addr) (cap : Nat) (m : Int) (w : World) (hh : t.hold n₀ w a cap) (hL : n₀≤L) (hK : n₀≤K) (hc : Cnt L K m w) (h0 : 0≤m) (h1 : m≤8192)
 (hw : w.setCell ⟨L,0,none⟩ (.int .i64 m)=w) :
 Calls Tryz.prog 56 #[.slice a t.kids.length cap,.func (.func 57) #[] #[.pointer (some ⟨K,0,none⟩)]] w fun e w' => e=.returned (.bool (decide (F8 t.kids m<0)))∧Below w.heap.size (w.setCell ⟨L,0,none⟩ (.int .i64 (F8 t.kids m))) w':=by
 have C:=hid (a0V t L K n₀ ih a cap m w hh hL hK hc h0 h1 hw)
 clear ih hh hc hw
 go_enter Tryz.func56,Tryz.ntmps56
 go_wp2_with fail
 refine Calls.mono C.out ?_
 rintro e w' ⟨r,rfl,hr,hb⟩
 have HB:=hid hb
 have HR:=hid hr
 clear hb hr
 go_wp2_with fail
 go_ret
 exact ⟨x8 (by rw [Bool.eq_iff_iff]; simp only [decide_eq_true_eq]; exact HR),HB⟩
set_option maxHeartbeats 2000000 in
theorem a2I (N : Nat) : ∀ (t : Nd),SizeOf.sizeOf t<N→∀ (L K n₀ : Nat),yS t L K n₀:=by
 induction N with
 | zero => intro t ht; omega
 | succ N ih =>
 intro t ht L K n₀ a cap m w hh hL hK hc h0 h1
 have hk : ∀ (k : Nat) (hk : k<t.kids.length),yS t.kids[k] L K n₀:=by
  cases t with
  | mk kind s n ks p => exact fun k hk => ih _ (iR hk ht) L K n₀
 have E:=hid (show aY t m=F8 t.kids (m - 1) by cases t; rw [aY]; rfl)
 have IH:=hid hk
 have HH:=hid hh
 have HC:=hid hc
 have hn : n₀≤w.heap.size:=Nat.le_trans hL (Nat.le_of_lt hc.lt)
 clear hh hc hk ih ht
 have hb1:=c6 w (.cells #[.int .i64 t.kind,.string t.text,.int .i64 t.n,.slice a t.kids.length cap,.int .i64 t.place] 24)
 obtain ⟨c,z⟩ : _∧_:=⟨(HC.out.below hb1 HC.out.lt HC.out.lk).cell,(HC.out.below hb1 HC.out.lt HC.out.lk).froz⟩
 go_enter Tryz.func55,Tryz.ntmps55
 by_cases hm : 0≤m - 1
 ·go_wp2_with fail
  refine Calls.mono (sG t L K n₀ IH a cap (m - 1) _ (wQ (HH.out.below (hb1.mono hn)) hL _) hL hK ((HC.out.below hb1 HC.out.lt HC.out.lk).set (m - 1)) hm (by omega) (Go.Proofs.setCell_setCell _ _ _ _ _)) ?_
  rintro e w' ⟨rfl,hb⟩
  rw [Go.Proofs.setCell_setCell] at hb
  have HB:=hid ((iO hb1 ⟨L,0,none⟩ (.int .i64 (F8 t.kids (m - 1)))).trans (hb.mono (by simp [World.setCell])))
  clear hb hb1 c z
  go_wp2_with fail
  go_ret
  exact ⟨x8 (by rw [E.out,Bool.eq_iff_iff]; simp),by rw [E.out]; exact HB⟩
 ·have F:=hid (show aY t m=m - 1 by rw [E.out,jS _ hm])
  have HB:=hid (iO hb1 ⟨L,0,none⟩ (.int .i64 (m - 1)))
  go_wp2_with fail
  go_ret
  exact ⟨x8 (by rw [F.out,decide_eq_false (show ¬ 0≤m - 1 by omega)]),by rw [F.out]; exact HB⟩
end Go.Proofs.YtibiccacafjjfaaGreatDoor

namespace Go.Proofs.YtibiccacafjjfaaGreatDoor
open Lib (hid)
open Go.RowKit Go.Shelf
set_option maxRecDepth 100000
theorem qN (P : Program) (w : World) (p : Addr) (f : Fn) (x y : Array Value) (v : Value) (m : Mode) (h : w.cell? p=some v) (hf : w.frozen? p=false) : (store p (.func f x y) m).run P w=.ok () (w.setCell p (.func f x y)):=by
 rw [run_store P w p _ m rfl,h]
 simp [hf]
def a3q (w : World) (K : Value) : World:=((w.alloc (.cells #[.int .i64 8192] 3)).alloc (.cells #[.nilFunc] 26)).setCell ⟨w.heap.size + 1,0,none⟩ K
theorem a7s (w : World) : Cnt w.heap.size (w.heap.size + 1) 8192 (a3q w (a1M w.heap.size (w.heap.size + 1))):=by
 unfold a3q
 refine ⟨by simp [World.setCell]; omega,by simp [World.setCell],by omega,?_,?_,?_⟩
 ·rw [World.cell?_setCell_other _ _ _ _ (by simp)]; simp
 ·rw [World.frozen?_setCell]; simp
 ·exact World.cell?_setCell_same' _ _ _ (by simp)
theorem a0X (w : World) (K : Value) : Below w.heap.size w (a3q w K) :=
 ((c6 w _).alloc (by simp) _).setCell (p:=⟨w.heap.size + 1,0,none⟩) (by show w.heap.size≤w.heap.size + 1; omega) _
set_option maxHeartbeats 1000000 in
theorem eF (t : Nd) (a : Option Addr) (cap n₀ : Nat) (w : World) (hh : t.hold n₀ w a cap) (hn : n₀≤w.heap.size) :
 Calls Tryz.prog 26 #[.agg #[.int .i64 t.kind,.string t.text,.int .i64 t.n,.slice a t.kids.length cap,.int .i64 t.place]] w fun e w' => e=.returned (.bool (z6 t))∧Below w.heap.size w w':=by
 have HH:=hid hh
 clear hh
 have E:=hid (show z6 t=decide (0≤aY t 8192) from rfl)
 go_enter Tryz.func26,Tryz.ntmps26
 go_wp2_with fail
 obtain ⟨W1,hW1⟩ : ∃ W1,W1=w.alloc (.cells #[.int .i64 t.kind,.string t.text,.int .i64 t.n,.slice a t.kids.length cap,.int .i64 t.place] 24):=⟨_,rfl⟩
 have HB:=hid (show Below w.heap.size w W1 from hW1 ▸ c6 _ _)
 have hsz : W1.heap.size=w.heap.size + 1:=by rw [hW1]; simp
 have hbx:=a7N w (.int .i64 t.kind) (.string t.text) (.int .i64 t.n) (.slice a t.kids.length cap) (.int .i64 t.place)
 rw [← hW1] at hbx ⊢
 clear hW1
 rw [qN _ _ _ _ _ _ .nilFunc _ (by rw [← hsz]; simp) (by rw [← hsz]; simp)]
 have hc0:=a7s W1
 have hb0:=a0X W1 (a1M W1.heap.size (W1.heap.size + 1))
 have ew : ∀ v,((W1.alloc (.cells #[.int .i64 8192] 3)).alloc (.cells #[.nilFunc] 26)).setCell ⟨w.heap.size + 1 + 1,0,none⟩ v=a3q W1 v:=fun v => by unfold a3q; rw [hsz]
 rw [ew]
 clear ew
 rw [hsz] at hc0 hb0
 generalize a3q W1 (a1M (w.heap.size + 1) (w.heap.size + 1 + 1))=W2 at hc0 hb0 ⊢
 have HC:=hid hc0
 have HB1:=hid (show Below W1.heap.size W1 W2 from hsz.symm ▸ hb0)
 clear hc0 hb0
 have ow:=HC.out.own
 obtain ⟨b0,b1,b2,b3,b4⟩:=hbx
 have lt : w.heap.size<W1.heap.size:=by omega
 have d0:=(HB1.out.cell (p:=⟨w.heap.size,0,none⟩) lt).trans b0
 have d1:=(HB1.out.cell (p:=⟨w.heap.size,1,none⟩) lt).trans b1
 have d2:=(HB1.out.cell (p:=⟨w.heap.size,2,none⟩) lt).trans b2
 have d3:=(HB1.out.cell (p:=⟨w.heap.size,3,none⟩) lt).trans b3
 have d4:=(HB1.out.cell (p:=⟨w.heap.size,4,none⟩) lt).trans b4
 clear b0 b1 b2 b3 b4
 go_wp2_with fail
 have hn1 : n₀≤W1.heap.size:=by omega
 have HT:=hid ((HH.out.below (HB.out.mono hn)).below (HB1.out.mono hn1))
 refine Calls.mono (a2I _ t (Nat.lt_succ_self _) (w.heap.size + 1) (w.heap.size + 1 + 1) n₀ a cap 8192 W2 HT (by omega) (by omega) HC (by omega) (by omega)) ?_
 rintro e w' ⟨rfl,hb⟩
 have HW:=hid (HB.out.trans (((HB1.out.mono (Nat.le_of_lt lt)).setCell (p:=⟨w.heap.size + 1,0,none⟩) (by show w.heap.size≤w.heap.size + 1; omega) (.int .i64 (aY t 8192))).trans (hb.mono (Nat.le_trans (Nat.le_of_lt lt) HB1.out.size))))
 clear hb
 go_wp2_with fail
 go_ret
 exact ⟨x8 E.out.symm,HW⟩
structure Boxed (b : Nat) (t : Nd) (a : Option Addr) (cap : Nat) (w : World) : Prop where
 lt : b<w.heap.size
 c0 : w.cell? ⟨b,0,none⟩=some (.int .i64 t.kind)
 c1 : w.cell? ⟨b,1,none⟩=some (.string t.text)
 c2 : w.cell? ⟨b,2,none⟩=some (.int .i64 t.n)
 c3 : w.cell? ⟨b,3,none⟩=some (.slice a t.kids.length cap)
 c4 : w.cell? ⟨b,4,none⟩=some (.int .i64 t.place)
theorem Boxed.below {b : Nat} {t : Nd} {a : Option Addr} {cap : Nat} {w w' : World} (h : Boxed b t a cap w) (hb : Below w.heap.size w w') : Boxed b t a cap w' :=
 ⟨Nat.lt_of_lt_of_le h.lt hb.size,(hb.cell (p:=⟨b,0,none⟩) h.lt).trans h.c0,(hb.cell (p:=⟨b,1,none⟩) h.lt).trans h.c1,(hb.cell (p:=⟨b,2,none⟩) h.lt).trans h.c2,(hb.cell (p:=⟨b,3,none⟩) h.lt).trans h.c3,(hb.cell (p:=⟨b,4,none⟩) h.lt).trans h.c4⟩
theorem Boxed.cells {b : Nat} {t : Nd} {a : Option Addr} {cap : Nat} {w : World} (h : Boxed b t a cap w) : w.cell? ⟨b,0,none⟩=some (.int .i64 t.kind)∧w.cell? ⟨b,1,none⟩=some (.string t.text)∧w.cell? ⟨b,2,none⟩=some (.int .i64 t.n) ∧
 w.cell? ⟨b,3,none⟩=some (.slice a t.kids.length cap)∧w.cell? ⟨b,4,none⟩=some (.int .i64 t.place):=⟨h.c0,h.c1,h.c2,h.c3,h.c4⟩
theorem Boxed.make (w : World) (t : Nd) (a : Option Addr) (cap : Nat) : Boxed w.heap.size t a cap (w.alloc (.cells #[.int .i64 t.kind,.string t.text,.int .i64 t.n,.slice a t.kids.length cap,.int .i64 t.place] 24)):=by
 refine ⟨?_,?_,?_,?_,?_,?_⟩ <;> simp
set_option maxHeartbeats 2000000 in
theorem a2P (t u : Nd) (a : Option Addr) (cap : Nat) (a' : Option Addr) (cap' n₀ : Nat) (w : World) (hh : t.hold n₀ w a cap) (hu : u.hold n₀ w a' cap') (hn : n₀≤w.heap.size) :
 Calls Tryz.prog 11 #[.agg #[.int .i64 t.kind,.string t.text,.int .i64 t.n,.slice a t.kids.length cap,.int .i64 t.place],.agg #[.int .i64 u.kind,.string u.text,.int .i64 u.n,.slice a' u.kids.length cap',.int .i64 u.place]] w
  fun e w' => e=.returned (.bool (z6 t && z6 u && bH t u))∧Below w.heap.size w w':=by
 have HB : Hid (Below w.heap.size w ((w.alloc (.cells #[.int .i64 t.kind,.string t.text,.int .i64 t.n,.slice a t.kids.length cap,.int .i64 t.place] 24)).alloc (.cells #[.int .i64 u.kind,.string u.text,.int .i64 u.n,.slice a' u.kids.length cap',.int .i64 u.place] 24))):=(c6 _ _).alloc (by simp) _
 have HH:=hid (hh.below (HB.out.mono hn))
 have HU:=hid (hu.below (HB.out.mono hn))
 have b0 : Hid (Boxed w.heap.size t a cap ((w.alloc (.cells #[.int .i64 t.kind,.string t.text,.int .i64 t.n,.slice a t.kids.length cap,.int .i64 t.place] 24)).alloc (.cells #[.int .i64 u.kind,.string u.text,.int .i64 u.n,.slice a' u.kids.length cap',.int .i64 u.place] 24))):=by
  refine ⟨by simp <;> omega,?_,?_,?_,?_,?_⟩ <;> simp
 have b1 : Hid (Boxed (w.heap.size + 1) u a' cap' ((w.alloc (.cells #[.int .i64 t.kind,.string t.text,.int .i64 t.n,.slice a t.kids.length cap,.int .i64 t.place] 24)).alloc (.cells #[.int .i64 u.kind,.string u.text,.int .i64 u.n,.slice a' u.kids.length cap',.int .i64 u.place] 24))):=by
  refine ⟨by simp <;> omega,?_,?_,?_,?_,?_⟩ <;> simp
 clear hh hu
 cases h1 : z6 t
 ·go_enter Tryz.func11,Tryz.ntmps11
  go_wp2_with fail
  refine Calls.mono (eF t a cap n₀ _ HH (Nat.le_trans hn HB.out.size)) ?_
  rintro e w' ⟨rfl,hb⟩
  rw [h1]
  have HW:=hid (HB.out.trans (hb.mono HB.out.size))
  go_wp2_with fail
  go_ret
  exact ⟨rfl,HW⟩
 ·cases h2 : z6 u
  all_goals
   go_enter Tryz.func11,Tryz.ntmps11
   go_wp2_with fail
   refine Calls.mono (eF t a cap n₀ _ HH (Nat.le_trans hn HB.out.size)) ?_
   rintro e w1 ⟨rfl,hb⟩
   rw [h1]
   have HW:=hid (HB.out.trans (hb.mono HB.out.size))
   have c0:=hid (b0.out.below hb)
   have c1:=hid (b1.out.below hb)
   have H1:=hid (HH.out.below (hb.mono (Nat.le_trans hn HB.out.size)))
   have U1:=hid (HU.out.below (hb.mono (Nat.le_trans hn HB.out.size)))
   clear hb b0 b1
   obtain ⟨y0,y1,y2,y3,y4⟩:=c1.out.cells
   go_wp2_with fail
   refine Calls.mono (eF u a' cap' n₀ _ U1 (Nat.le_trans hn HW.out.size)) ?_
   rintro e w2 ⟨rfl,hb⟩
   rw [h2]
   clear y0 y1 y2 y3 y4
   have HX:=hid (HW.out.trans (hb.mono HW.out.size))
   have d0:=hid (c0.out.below hb)
   have d1:=hid (c1.out.below hb)
   have H2:=hid (H1.out.below (hb.mono (Nat.le_trans hn HW.out.size)))
   have U2:=hid (U1.out.below (hb.mono (Nat.le_trans hn HW.out.size)))
   clear hb c0 c1 HW HB
   obtain ⟨x0,x1,x2,x3,x4⟩:=d0.out.cells
   obtain ⟨y0,y1,y2,y3,y4⟩:=d1.out.cells
   go_wp2_with fail
  ·go_ret
   exact ⟨rfl,HX⟩
  ·refine Calls.mono (a3u t u a cap a' cap' n₀ _ H2 U2 (Nat.le_trans hn HX.out.size)) ?_
   rintro e w3 ⟨rfl,hb⟩
   have HZ:=hid (HX.out.trans (hb.mono HX.out.size))
   clear hb
   go_wp2_with fail
   go_ret
   exact ⟨rfl,HZ⟩
end Go.Proofs.YtibiccacafjjfaaGreatDoor

namespace Go.Proofs.YtibiccacafjjfaaGreatDoor
open Go.ChangeShapes Go.WideShapes Go.ChangeAt Go.RowKit
set_option maxRecDepth 100000
section
variable {H : Type} {enc : TypeId × Value→H} {P : Program}
theorem jF (hl : laidOutB P=true) {W W' : World} (hb : Below W.heap.size W W') {sp : Nat→Bool} :
 ∀ (ts : List TypeId) (vs : List Value) (ds : List (DataW H)) (ps : List MemPlace),(∀ t∈ts,P.readableRec t=true∧t<P.types.size)→(∀ p∈ps,p.block<W.heap.size)→(∀ p∈ps,sp p.block=true) →
  DataW.TrodAll enc P W 0 (fun _ => true) true ts vs ds ps→DataW.TrodAll enc P W' 0 sp true ts vs ds ps
 | [],vs,ds,ps,_,_,_,h => by
   obtain ⟨rfl,rfl,rfl⟩:=trodAll_nil h
   exact trodAll_mk0
 | t :: ts,vs,ds,ps,ht,hlt,hs,h => by
   obtain ⟨v,vs',d,ds',p,q,rfl,rfl,rfl,h0,h1⟩:=trodAll_cons h
   have a:=ht t (by simp)
   refine trodAll_cons_mk (WideElems.Trod_stays hl a.1 a.2 h0 (fun x hx => hb.same (hlt x (by simp [hx]))) (fun x hx => hs x (by simp [hx]))) ?_
   exact jF hl hb ts vs' ds' q (fun u hu => ht u (by simp [hu])) (fun x hx => hlt x (by simp [hx])) (fun x hx => hs x (by simp [hx])) h1
theorem a4i {f : Func} {s : ChangeSpec} {apart fresh handsOn again : Bool} {W W' : World} {args : Array Value} {ds gs : List (DataW H)} {before : List MemPlace} {tb : TypeId}
 (hl : laidOutB P=true) (hts : ∀ t∈f.params.toList,P.readableRec t=true∧t<P.types.size) (hv : s.vars=[]) (hr : f.resultTypes=#[tb]) (hu : P.underlying tb=some .bool)
 (hfn : s.fn H (ds ++ gs)={ results:=[.lit (.bool true)],args:=ds })
 (hW : DataW.Whole enc P f.params.toList s.vars apart W args.toList ds gs before) (hb : Below W.heap.size W W') :
 s.post enc P f apart fresh handsOn again W args (.bool true) W':=by
 have hlt : ∀ p∈before,p.block<W.heap.size:=fun p hp => hW.lt p hp
 have hW':=hW
 obtain ⟨p,q,hA,hV,rfl,hz,hn⟩:=hW
 rw [hv] at hV
 obtain ⟨rfl,rfl⟩:=trodVars_none hV
 have hargs : ∀ sp : Nat→Bool,(∀ x∈p ++ [],sp x.block=true)→DataW.TrodAll enc P W' 0 sp true f.params.toList args.toList ds p:=fun sp hs =>
  jF hl hb _ _ _ _ hts (fun x hx => hlt x (by simpa using hx)) (fun x hx => hs x (by simpa using hx)) hA
 have hres : ∀ (b : Nat) (sp : Nat→Bool) (hd : Bool),DataW.TrodAll enc P W' b sp hd f.resultTypes.toList ((Value.bool true).resultList f.resultTypes.size) [DataW.lit (.bool true)] []:=fun b sp hd => by
  rw [hr]
  exact trodAll_mk1 (shut_bool hu true)
 have hok : ∀ (j : Nat) (t : TypeId) (r : Value),f.resultTypes[j]?=some t→((Value.bool true).resultList f.resultTypes.size)[j]?=some r→Value.okWide P W' .any 0 t r :=
  ok_one hr rfl (okWide_bool_mk hu _)
 refine ⟨ds,[],p ++ [],[],p,[],hW',?_,?_,?_,World.keptBut_mono (fun x hx => ⟨hx,?_⟩) (hb.frame (· ∈ p ++ [])),fun _ => ⟨hok,[DataW.lit (.bool true)] ++ ds,[],([] ++ p) ++ [],⟨[] ++ p,[],trodAll_append (hargs _ (fun _ _ => rfl)) (hres _ _ _),?_,rfl,?_,?_⟩,?_⟩⟩
 ·rw [hfn]; exact hres _ _ _
 ·rw [hfn]; exact hargs _ (fun x hx => by simpa using hlt x hx)
 ·rw [hv,hfn]; rfl
 ·exact .inr (.inl (by simpa using hx))
 ·rw [hv]; rfl
 ·intro b off hp
  have hin : MemPlace.cell b off∈p ++ []:=by simpa using hp
  rw [hb.frozen (p:=⟨b,off,none⟩) (hlt _ hin)]
  exact hz b off hin
 ·intro ha
  simpa using hn ha
 ·intro x hx _
  simpa using hx
end
theorem own : ownKnob Tryz.prog.godebug=none:=by kernel_rfl
theorem a5W : laidOutB Tryz.prog=true:=by kernel_rfl
theorem a7J : Tryz.prog.underlying 4=some .bool:=by kernel_rfl
end Go.Proofs.YtibiccacafjjfaaGreatDoor

namespace Go.Proofs.YtibiccacafjjfaaGreatDoor
open Go.ChangeShapes Go.WideShapes Go.ChangeAt Go.RowKit
set_option maxRecDepth 100000
end Go.Proofs.YtibiccacafjjfaaGreatDoor

namespace Go.Proofs
open Go.Shelf
def Tryz.lays169_ren : Go.Shelf.Ren:=⟨fun | 169 => 21 | n => n,fun | 70 => 38 | 9 => 9 | 0 => 0 | 72 => 41 | 37 => 39 | 127 => 65 | 3 => 3 | 5 => 5 | n => n,fun | n => n⟩
theorem Tryz.lays169 : Go.Proofs.Lays.n169 Tryz.prog Tryz.lays169_ren:={
 mixed:=by kernel_rfl
 f169:=Tryz.func21.trans (congrArg some (by kernel_rfl))
 t0:=Tryz.underlying0
 a0:=Tryz.isAgg0
 z0:=Tryz.sizeOf0
 v0:=Tryz.zeroValue0
 t3:=Tryz.underlying3
 a3:=Tryz.isAgg3
 z3:=Tryz.sizeOf3
 v3:=Tryz.zeroValue3
 t9:=Tryz.underlying9
 a9:=Tryz.isAgg9
 z9:=Tryz.sizeOf9
 v9:=Tryz.zeroValue9
 t37:=Tryz.underlying39
 a37:=Tryz.isAgg39
 z37:=Tryz.sizeOf39
 v37:=Tryz.zeroValue39
 t70:=Tryz.underlying38
 a70:=Tryz.isAgg38
 z70:=Tryz.sizeOf38
 v70:=Tryz.zeroValue38
 t72:=Tryz.underlying41
 a72:=Tryz.isAgg41
 z72:=Tryz.sizeOf41
 v72:=Tryz.zeroValue41
 t127:=Tryz.underlying65
 a127:=Tryz.isAgg65
 z127:=Tryz.sizeOf65
 v127:=Tryz.zeroValue65 }
theorem Tryz.Builder_Extra_169 : Builder.Extra Tryz.prog Tryz.lays169_ren:={
 sizeBuilder:=by kernel_rfl
 liesBuilder:=by kernel_rfl
 t5:=Tryz.underlying5
 a5:=Tryz.isAgg5
 z5:=Tryz.sizeOf5
 v5:=Tryz.zeroValue5
 infoByte:=by kernel_rfl
 cellsByte:=by kernel_rfl
 sizeByte:=by kernel_rfl
 neB5:=by decide }
def Tryz.lays162_ren : Go.Shelf.Ren:=⟨fun | 162 => 133 | 232 => 160 | 227 => 161 | 234 => 162 | 236 => 163 | 228 => 185 | 271 => 186 | 151 => 187 | 120 => 200 | 197 => 190 | 152 => 201 | 260 => 206 | 137 => 123 | 119 => 211 | 224 => 155 | 225 => 154 | 217 => 151 | 266 => 179 | n => n,fun | 9 => 9 | 4 => 4 | 3 => 3 | 5 => 5 | 117 => 162 | 116 => 161 | 0 => 0 | 124 => 165 | 21 => 21 | 105 => 186 | 46 => 156 | 119 => 152 | 139 => 223 | 138 => 222 | n => n,fun | 3 => 4 | 4 => 5 | n => n⟩
theorem Tryz.lays162 : Go.Proofs.Lays.n162 Tryz.prog Tryz.lays162_ren:={
 mixed:=by kernel_rfl
 f119:=Tryz.func211.trans (congrArg some (by kernel_rfl))
 f120:=Tryz.func200.trans (congrArg some (by kernel_rfl))
 f137:=Tryz.func123.trans (congrArg some (by kernel_rfl))
 f151:=Tryz.func187.trans (congrArg some (by kernel_rfl))
 f152:=Tryz.func201.trans (congrArg some (by kernel_rfl))
 f162:=Tryz.func133.trans (congrArg some (by kernel_rfl))
 f197:=Tryz.func190.trans (congrArg some (by kernel_rfl))
 f217:=Tryz.func151.trans (congrArg some (by kernel_rfl))
 f224:=Tryz.func155.trans (congrArg some (by kernel_rfl))
 f225:=Tryz.func154.trans (congrArg some (by kernel_rfl))
 f227:=Tryz.func161.trans (congrArg some (by kernel_rfl))
 f228:=Tryz.func185.trans (congrArg some (by kernel_rfl))
 f232:=Tryz.func160.trans (congrArg some (by kernel_rfl))
 f234:=Tryz.func162.trans (congrArg some (by kernel_rfl))
 f236:=Tryz.func163.trans (congrArg some (by kernel_rfl))
 f260:=Tryz.func206.trans (congrArg some (by kernel_rfl))
 f266:=Tryz.func179.trans (congrArg some (by kernel_rfl))
 f271:=Tryz.func186.trans (congrArg some (by kernel_rfl))
 t0:=Tryz.underlying0
 a0:=Tryz.isAgg0
 z0:=Tryz.sizeOf0
 v0:=Tryz.zeroValue0
 t3:=Tryz.underlying3
 a3:=Tryz.isAgg3
 z3:=Tryz.sizeOf3
 v3:=Tryz.zeroValue3
 t4:=Tryz.underlying4
 a4:=Tryz.isAgg4
 z4:=Tryz.sizeOf4
 v4:=Tryz.zeroValue4
 t5:=Tryz.underlying5
 a5:=Tryz.isAgg5
 z5:=Tryz.sizeOf5
 v5:=Tryz.zeroValue5
 t9:=Tryz.underlying9
 a9:=Tryz.isAgg9
 z9:=Tryz.sizeOf9
 v9:=Tryz.zeroValue9
 t21:=Tryz.underlying21
 a21:=Tryz.isAgg21
 z21:=Tryz.sizeOf21
 v21:=Tryz.zeroValue21
 t46:=Tryz.underlying156
 a46:=Tryz.isAgg156
 z46:=Tryz.sizeOf156
 v46:=Tryz.zeroValue156
 t105:=Tryz.underlying186
 a105:=Tryz.isAgg186
 z105:=Tryz.sizeOf186
 v105:=Tryz.zeroValue186
 t116:=Tryz.underlying161
 a116:=Tryz.isAgg161
 z116:=Tryz.sizeOf161
 t117:=Tryz.underlying162
 a117:=Tryz.isAgg162
 z117:=Tryz.sizeOf162
 v117:=Tryz.zeroValue162
 t119:=Tryz.underlying152
 a119:=Tryz.isAgg152
 z119:=Tryz.sizeOf152
 t124:=Tryz.underlying165
 a124:=Tryz.isAgg165
 z124:=Tryz.sizeOf165
 v124:=Tryz.zeroValue165
 t138:=Tryz.underlying222
 a138:=Tryz.isAgg222
 z138:=Tryz.sizeOf222
 v138:=Tryz.zeroValue222
 t139:=Tryz.underlying223
 a139:=Tryz.isAgg223
 z139:=Tryz.sizeOf223
 v139:=Tryz.zeroValue223
 g3:=by kernel_rfl
 g4:=by kernel_rfl }
open Go.RowKit in
theorem Tryz.strings_TrimRight_one (s : ByteArray) (c : UInt8) (hc : c.toNat<128) (w : World) (hs : s.size≤9223372036854775807) :
 Calls Tryz.prog 133 #[.string s,.string ⟨#[c]⟩] w fun e w' => e=.returned (.string ⟨(Lib.trimRightB s.data.toList c).toArray⟩)∧w'=w:=Any.strings_TrimRight_one Tryz.lays162 s c hc w hs
def Tryz.lays160_ren : Go.Shelf.Ren:=⟨fun | 160 => 137 | 232 => 160 | 231 => 168 | 227 => 161 | 234 => 162 | 233 => 169 | 236 => 163 | 235 => 170 | 228 => 185 | 271 => 186 | 151 => 187 | 197 => 190 | 120 => 200 | 152 => 201 | 260 => 206 | 137 => 123 | 119 => 211 | 224 => 155 | 225 => 154 | 217 => 151 | 266 => 179 | n => n,fun | 9 => 9 | 4 => 4 | 3 => 3 | 5 => 5 | 117 => 162 | 116 => 161 | 0 => 0 | 124 => 165 | 21 => 21 | 105 => 186 | 46 => 156 | 119 => 152 | 139 => 223 | 138 => 222 | n => n,fun | 3 => 4 | 4 => 5 | n => n⟩
theorem Tryz.lays160 : Go.Proofs.Lays.n160 Tryz.prog Tryz.lays160_ren:={
 mixed:=by kernel_rfl
 f119:=Tryz.func211.trans (congrArg some (by kernel_rfl))
 f120:=Tryz.func200.trans (congrArg some (by kernel_rfl))
 f137:=Tryz.func123.trans (congrArg some (by kernel_rfl))
 f151:=Tryz.func187.trans (congrArg some (by kernel_rfl))
 f152:=Tryz.func201.trans (congrArg some (by kernel_rfl))
 f160:=Tryz.func137.trans (congrArg some (by kernel_rfl))
 f197:=Tryz.func190.trans (congrArg some (by kernel_rfl))
 f217:=Tryz.func151.trans (congrArg some (by kernel_rfl))
 f224:=Tryz.func155.trans (congrArg some (by kernel_rfl))
 f225:=Tryz.func154.trans (congrArg some (by kernel_rfl))
 f227:=Tryz.func161.trans (congrArg some (by kernel_rfl))
 f228:=Tryz.func185.trans (congrArg some (by kernel_rfl))
 f231:=Tryz.func168.trans (congrArg some (by kernel_rfl))
 f232:=Tryz.func160.trans (congrArg some (by kernel_rfl))
 f233:=Tryz.func169.trans (congrArg some (by kernel_rfl))
 f234:=Tryz.func162.trans (congrArg some (by kernel_rfl))
 f235:=Tryz.func170.trans (congrArg some (by kernel_rfl))
 f236:=Tryz.func163.trans (congrArg some (by kernel_rfl))
 f260:=Tryz.func206.trans (congrArg some (by kernel_rfl))
 f266:=Tryz.func179.trans (congrArg some (by kernel_rfl))
 f271:=Tryz.func186.trans (congrArg some (by kernel_rfl))
 t0:=Tryz.underlying0
 a0:=Tryz.isAgg0
 z0:=Tryz.sizeOf0
 v0:=Tryz.zeroValue0
 t3:=Tryz.underlying3
 a3:=Tryz.isAgg3
 z3:=Tryz.sizeOf3
 v3:=Tryz.zeroValue3
 t4:=Tryz.underlying4
 a4:=Tryz.isAgg4
 z4:=Tryz.sizeOf4
 v4:=Tryz.zeroValue4
 t5:=Tryz.underlying5
 a5:=Tryz.isAgg5
 z5:=Tryz.sizeOf5
 v5:=Tryz.zeroValue5
 t9:=Tryz.underlying9
 a9:=Tryz.isAgg9
 z9:=Tryz.sizeOf9
 v9:=Tryz.zeroValue9
 t21:=Tryz.underlying21
 a21:=Tryz.isAgg21
 z21:=Tryz.sizeOf21
 v21:=Tryz.zeroValue21
 t46:=Tryz.underlying156
 a46:=Tryz.isAgg156
 z46:=Tryz.sizeOf156
 v46:=Tryz.zeroValue156
 t105:=Tryz.underlying186
 a105:=Tryz.isAgg186
 z105:=Tryz.sizeOf186
 v105:=Tryz.zeroValue186
 t116:=Tryz.underlying161
 a116:=Tryz.isAgg161
 z116:=Tryz.sizeOf161
 t117:=Tryz.underlying162
 a117:=Tryz.isAgg162
 z117:=Tryz.sizeOf162
 v117:=Tryz.zeroValue162
 t119:=Tryz.underlying152
 a119:=Tryz.isAgg152
 z119:=Tryz.sizeOf152
 t124:=Tryz.underlying165
 a124:=Tryz.isAgg165
 z124:=Tryz.sizeOf165
 v124:=Tryz.zeroValue165
 t138:=Tryz.underlying222
 a138:=Tryz.isAgg222
 z138:=Tryz.sizeOf222
 v138:=Tryz.zeroValue222
 t139:=Tryz.underlying223
 a139:=Tryz.isAgg223
 z139:=Tryz.sizeOf223
 v139:=Tryz.zeroValue223
 g3:=by kernel_rfl
 g4:=by kernel_rfl }
def Tryz.lays137_ren : Go.Shelf.Ren:=⟨fun | 137 => 123 | 217 => 151 | 266 => 179 | n => n,fun | 9 => 9 | 5 => 5 | 3 => 3 | n => n,fun | n => n⟩
theorem Tryz.lays137 : Go.Proofs.Lays.n137 Tryz.prog Tryz.lays137_ren:={
 mixed:=by kernel_rfl
 f137:=Tryz.func123.trans (congrArg some (by kernel_rfl))
 f217:=Tryz.func151.trans (congrArg some (by kernel_rfl))
 f266:=Tryz.func179.trans (congrArg some (by kernel_rfl))
 t3:=Tryz.underlying3
 a3:=Tryz.isAgg3
 z3:=Tryz.sizeOf3
 v3:=Tryz.zeroValue3
 t5:=Tryz.underlying5
 a5:=Tryz.isAgg5
 z5:=Tryz.sizeOf5
 v5:=Tryz.zeroValue5
 t9:=Tryz.underlying9
 a9:=Tryz.isAgg9
 z9:=Tryz.sizeOf9
 v9:=Tryz.zeroValue9 }
open Go.RowKit in
theorem Tryz.strings_IndexByte (s : ByteArray) (c : Int) (w : World) :
 Calls Tryz.prog 123 #[.string s,.int .u8 c] w fun e w' => e=.returned (.int .i64 (Lib.indexByte s.data.toList c.toNat.toUInt8))∧w'=w:=Any.strings_IndexByte Tryz.lays137 s c w
def Tryz.lays210_ren : Go.Shelf.Ren:=⟨fun | 210 => 193 | 206 => 150 | n => n,fun | 9 => 9 | 4 => 4 | 3 => 3 | n => n,fun | n => n⟩
def Tryz.lays103_ren : Go.Shelf.Ren:=⟨fun | 103 => 176 | 210 => 193 | 206 => 150 | n => n,fun | 9 => 9 | 4 => 4 | 24 => 180 | 3 => 3 | n => n,fun | n => n⟩
theorem Tryz.lays103 : Go.Proofs.Lays.n103 Tryz.prog Tryz.lays103_ren:={
 mixed:=by kernel_rfl
 f103:=Tryz.func176.trans (congrArg some (by kernel_rfl))
 f206:=Tryz.func150.trans (congrArg some (by kernel_rfl))
 f210:=Tryz.func193.trans (congrArg some (by kernel_rfl))
 t3:=Tryz.underlying3
 a3:=Tryz.isAgg3
 z3:=Tryz.sizeOf3
 v3:=Tryz.zeroValue3
 t4:=Tryz.underlying4
 a4:=Tryz.isAgg4
 z4:=Tryz.sizeOf4
 v4:=Tryz.zeroValue4
 t9:=Tryz.underlying9
 a9:=Tryz.isAgg9
 z9:=Tryz.sizeOf9
 v9:=Tryz.zeroValue9
 t24:=Tryz.underlying180
 a24:=Tryz.isAgg180
 z24:=Tryz.sizeOf180
 v24:=Tryz.zeroValue180 }
open Go.RowKit in
theorem Tryz.strings_CutPrefix (s p : ByteArray) (w : World) :
 Calls Tryz.prog 176 #[.string s,.string p] w fun e w' => e=.returned (.tuple #[.string ⟨(Lib.trimPrefix s.data.toList p.data.toList).toArray⟩,.bool (Lib.hasPrefix s.data.toList p.data.toList)])∧w'=w:=Any.strings_CutPrefix Tryz.lays103 s p w
open Go.RowKit in
theorem Tryz.Builder_String_any_k (B b : Nat) (l : List UInt8) (w : World) (h : Lib.IsBuilderF 41 5 B b (Lib.byteCells l) w) (hBw : B≤w.heap.size) :
 Calls Tryz.prog 21 #[.pointer (some ⟨b,0,none⟩)] w fun e w' => e=.returned (.string ⟨l.toArray⟩)∧(Lib.IsBuilderF 41 5 B b (Lib.byteCells l) w'∧Below B w w'∧Lib.OthersKept 5 (some b) w w'):=Any.Builder_String_any_k Tryz.lays169 Tryz.Builder_Extra_169 B b l w h hBw
def Tryz.laysM246_ren : Go.Shelf.Ren:=⟨fun | 246 => 189 | 283 => 202 | 284 => 203 | 285 => 204 | 286 => 205 | 129 => 213 | 317 => 212 | 318 => 214 | 319 => 215 | 320 => 216 | 337 => 220 | 338 => 221 | n => n,fun | 2 => 2 | 3 => 3 | 9 => 9 | 4 => 4 | 171 => 207 | 0 => 0 | 53 => 140 | 37 => 39 | 5 => 5 | 173 => 210 | 212 => 218 | 51 => 176 | 20 => 20 | 213 => 219 | 46 => 156 | 232 => 227 | 233 => 228 | n => n,fun | 17 => 3 | 18 => 6 | 19 => 7 | n => n⟩
def Tryz.laysM243_ren : Go.Shelf.Ren:=⟨fun | 243 => 167 | 246 => 189 | 283 => 202 | 284 => 203 | 285 => 204 | 286 => 205 | 129 => 213 | 317 => 212 | 318 => 214 | 319 => 215 | 320 => 216 | 337 => 220 | 338 => 221 | n => n,fun | 3 => 3 | 9 => 9 | 2 => 2 | 4 => 4 | 171 => 207 | 0 => 0 | 53 => 140 | 37 => 39 | 5 => 5 | 173 => 210 | 212 => 218 | 51 => 176 | 20 => 20 | 213 => 219 | 46 => 156 | 232 => 227 | 233 => 228 | n => n,fun | 17 => 3 | 18 => 6 | 19 => 7 | n => n⟩
def Tryz.laysM171_ren : Go.Shelf.Ren:=⟨fun | 171 => 136 | 243 => 167 | 246 => 189 | 283 => 202 | 284 => 203 | 285 => 204 | 286 => 205 | 129 => 213 | 317 => 212 | 318 => 214 | 319 => 215 | 320 => 216 | 337 => 220 | 338 => 221 | n => n,fun | 3 => 3 | 9 => 9 | 2 => 2 | 4 => 4 | 171 => 207 | 0 => 0 | 53 => 140 | 37 => 39 | 5 => 5 | 173 => 210 | 212 => 218 | 51 => 176 | 20 => 20 | 213 => 219 | 46 => 156 | 232 => 227 | 233 => 228 | n => n,fun | 17 => 3 | 18 => 6 | 19 => 7 | n => n⟩
theorem Tryz.laysM171 : Go.Proofs.LaysM.n171 Tryz.prog Tryz.laysM171_ren:={
 mixed:=by kernel_rfl
 f129:=Tryz.func213.trans (congrArg some (by kernel_rfl))
 f171:=Tryz.func136.trans (congrArg some (by kernel_rfl))
 f243:=Tryz.func167.trans (congrArg some (by kernel_rfl))
 f246:=Tryz.func189.trans (congrArg some (by kernel_rfl))
 f283:=Tryz.func202.trans (congrArg some (by kernel_rfl))
 f284:=Tryz.func203.trans (congrArg some (by kernel_rfl))
 f285:=Tryz.func204.trans (congrArg some (by kernel_rfl))
 f286:=Tryz.func205.trans (congrArg some (by kernel_rfl))
 f317:=Tryz.func212.trans (congrArg some (by kernel_rfl))
 f318:=Tryz.func214.trans (congrArg some (by kernel_rfl))
 f319:=Tryz.func215.trans (congrArg some (by kernel_rfl))
 f320:=Tryz.func216.trans (congrArg some (by kernel_rfl))
 f337:=Tryz.func220.trans (congrArg some (by kernel_rfl))
 f338:=Tryz.func221.trans (congrArg some (by kernel_rfl))
 t0:=Tryz.underlying0
 a0:=Tryz.isAgg0
 z0:=Tryz.sizeOf0
 v0:=Tryz.zeroValue0
 t2:=Tryz.underlying2
 a2:=Tryz.isAgg2
 z2:=Tryz.sizeOf2
 v2:=Tryz.zeroValue2
 t3:=Tryz.underlying3
 a3:=Tryz.isAgg3
 z3:=Tryz.sizeOf3
 v3:=Tryz.zeroValue3
 t4:=Tryz.underlying4
 a4:=Tryz.isAgg4
 z4:=Tryz.sizeOf4
 v4:=Tryz.zeroValue4
 t5:=Tryz.underlying5
 a5:=Tryz.isAgg5
 z5:=Tryz.sizeOf5
 v5:=Tryz.zeroValue5
 t9:=Tryz.underlying9
 a9:=Tryz.isAgg9
 z9:=Tryz.sizeOf9
 v9:=Tryz.zeroValue9
 t20:=Tryz.underlying20
 a20:=Tryz.isAgg20
 z20:=Tryz.sizeOf20
 v20:=Tryz.zeroValue20
 t37:=Tryz.underlying39
 a37:=Tryz.isAgg39
 z37:=Tryz.sizeOf39
 v37:=Tryz.zeroValue39
 t46:=Tryz.underlying156
 a46:=Tryz.isAgg156
 z46:=Tryz.sizeOf156
 v46:=Tryz.zeroValue156
 t51:=Tryz.underlying176
 a51:=Tryz.isAgg176
 z51:=Tryz.sizeOf176
 v51:=Tryz.zeroValue176
 t53:=Tryz.underlying140
 a53:=Tryz.isAgg140
 z53:=Tryz.sizeOf140
 v53:=Tryz.zeroValue140
 t171:=Tryz.underlying207
 a171:=Tryz.isAgg207
 z171:=Tryz.sizeOf207
 v171:=Tryz.zeroValue207
 t173:=Tryz.underlying210
 a173:=Tryz.isAgg210
 z173:=Tryz.sizeOf210
 v173:=Tryz.zeroValue210
 t212:=Tryz.underlying218
 a212:=Tryz.isAgg218
 z212:=Tryz.sizeOf218
 v212:=Tryz.zeroValue218
 t213:=Tryz.underlying219
 a213:=Tryz.isAgg219
 z213:=Tryz.sizeOf219
 t232:=Tryz.underlying227
 a232:=Tryz.isAgg227
 z232:=Tryz.sizeOf227
 v232:=Tryz.zeroValue227
 t233:=Tryz.underlying228
 a233:=Tryz.isAgg228
 z233:=Tryz.sizeOf228
 v233:=Tryz.zeroValue228
 g17:=by kernel_rfl
 g18:=by kernel_rfl
 g19:=by kernel_rfl
 i0:=by kernel_rfl
 i2:=by kernel_rfl
 i3:=by kernel_rfl
 i4:=by kernel_rfl
 i5:=by kernel_rfl
 i9:=by kernel_rfl
 i20:=by kernel_rfl
 i37:=by kernel_rfl
 i46:=by kernel_rfl
 i51:=by kernel_rfl
 i53:=by kernel_rfl
 i171:=by kernel_rfl
 i173:=by kernel_rfl
 i212:=by kernel_rfl
 i232:=by kernel_rfl
 i233:=by kernel_rfl
 m17:=by kernel_rfl
 m18:=by kernel_rfl
 m19:=by kernel_rfl }
open Go.RowKit Go.Sort Go.Lib in
theorem Tryz.strconv_Itoa (n : Int) (h0 : -9223372036854775808≤n) (h1 : n≤9223372036854775807) (w : World) (htab : Lib.TabIs Tryz.prog w "internal/strconv.uint64pow10" .u64 Lib.pow10Tab) :
 Calls Tryz.prog 136 #[.int .i64 n] w fun e w' => e=.returned (.string ⟨(Lib.itoa n).toArray⟩)∧∃ k os,w'=grow (w.drewN k) os:=Any.strconv_Itoa Tryz.laysM171 n h0 h1 w htab
def Tryz.lays219_ren : Go.Shelf.Ren:=⟨fun | 219 => 127 | 217 => 151 | 225 => 154 | 224 => 155 | 267 => 156 | 266 => 179 | 314 => 182 | n => n,fun | 9 => 9 | 3 => 3 | 4 => 4 | 5 => 5 | 46 => 156 | 146 => 183 | 51 => 176 | n => n,fun | 1 => 1 | n => n⟩
theorem Tryz.lays219 : Go.Proofs.Lays.n219 Tryz.prog Tryz.lays219_ren:={
 mixed:=by kernel_rfl
 f217:=Tryz.func151.trans (congrArg some (by kernel_rfl))
 f219:=Tryz.func127.trans (congrArg some (by kernel_rfl))
 f224:=Tryz.func155.trans (congrArg some (by kernel_rfl))
 f225:=Tryz.func154.trans (congrArg some (by kernel_rfl))
 f266:=Tryz.func179.trans (congrArg some (by kernel_rfl))
 f267:=Tryz.func156.trans (congrArg some (by kernel_rfl))
 f314:=Tryz.func182.trans (congrArg some (by kernel_rfl))
 t3:=Tryz.underlying3
 a3:=Tryz.isAgg3
 z3:=Tryz.sizeOf3
 v3:=Tryz.zeroValue3
 t4:=Tryz.underlying4
 a4:=Tryz.isAgg4
 z4:=Tryz.sizeOf4
 v4:=Tryz.zeroValue4
 t5:=Tryz.underlying5
 a5:=Tryz.isAgg5
 z5:=Tryz.sizeOf5
 v5:=Tryz.zeroValue5
 t9:=Tryz.underlying9
 a9:=Tryz.isAgg9
 z9:=Tryz.sizeOf9
 v9:=Tryz.zeroValue9
 t46:=Tryz.underlying156
 a46:=Tryz.isAgg156
 z46:=Tryz.sizeOf156
 v46:=Tryz.zeroValue156
 t51:=Tryz.underlying176
 a51:=Tryz.isAgg176
 z51:=Tryz.sizeOf176
 v51:=Tryz.zeroValue176
 t146:=Tryz.underlying183
 a146:=Tryz.isAgg183
 z146:=Tryz.sizeOf183
 v146:=Tryz.zeroValue183
 g1:=by kernel_rfl }
open Go.RowKit Go.Lib in
theorem Tryz.stringslite_Index_one (s : ByteArray) (c : UInt8) (w : World) :
 Calls Tryz.prog 127 #[.string s,.string ⟨#[c]⟩] w fun e w' => e=.returned (.int .i64 (Lib.indexByte s.data.toList c))∧w'=w:=Any.stringslite_Index_one Tryz.lays219 s c w
def Tryz.lays144_ren : Go.Shelf.Ren:=⟨fun | 144 => 62 | 143 => 95 | 219 => 127 | 217 => 151 | 225 => 154 | 224 => 155 | 267 => 156 | 266 => 179 | 314 => 182 | n => n,fun | 9 => 9 | 4 => 4 | 3 => 3 | 5 => 5 | 46 => 156 | 146 => 183 | 51 => 176 | n => n,fun | 1 => 1 | n => n⟩
theorem Tryz.lays144 : Go.Proofs.Lays.n144 Tryz.prog Tryz.lays144_ren:={
 mixed:=by kernel_rfl
 f143:=Tryz.func95.trans (congrArg some (by kernel_rfl))
 f144:=Tryz.func62.trans (congrArg some (by kernel_rfl))
 f217:=Tryz.func151.trans (congrArg some (by kernel_rfl))
 f219:=Tryz.func127.trans (congrArg some (by kernel_rfl))
 f224:=Tryz.func155.trans (congrArg some (by kernel_rfl))
 f225:=Tryz.func154.trans (congrArg some (by kernel_rfl))
 f266:=Tryz.func179.trans (congrArg some (by kernel_rfl))
 f267:=Tryz.func156.trans (congrArg some (by kernel_rfl))
 f314:=Tryz.func182.trans (congrArg some (by kernel_rfl))
 t3:=Tryz.underlying3
 a3:=Tryz.isAgg3
 z3:=Tryz.sizeOf3
 v3:=Tryz.zeroValue3
 t4:=Tryz.underlying4
 a4:=Tryz.isAgg4
 z4:=Tryz.sizeOf4
 v4:=Tryz.zeroValue4
 t5:=Tryz.underlying5
 a5:=Tryz.isAgg5
 z5:=Tryz.sizeOf5
 v5:=Tryz.zeroValue5
 t9:=Tryz.underlying9
 a9:=Tryz.isAgg9
 z9:=Tryz.sizeOf9
 v9:=Tryz.zeroValue9
 t46:=Tryz.underlying156
 a46:=Tryz.isAgg156
 z46:=Tryz.sizeOf156
 v46:=Tryz.zeroValue156
 t51:=Tryz.underlying176
 a51:=Tryz.isAgg176
 z51:=Tryz.sizeOf176
 v51:=Tryz.zeroValue176
 t146:=Tryz.underlying183
 a146:=Tryz.isAgg183
 z146:=Tryz.sizeOf183
 v146:=Tryz.zeroValue183
 g1:=by kernel_rfl }
open Go.RowKit Go.Lib in
theorem Tryz.strings_Contains_one (s : ByteArray) (c : UInt8) (w : World) :
 Calls Tryz.prog 62 #[.string s,.string ⟨#[c]⟩] w fun e w' => e=.returned (.bool (decide (0≤Lib.indexByte s.data.toList c)))∧w'=w:=Any.strings_Contains_one Tryz.lays144 s c w
open Go.RowKit Go.Lib in
theorem Tryz.strings_Contains (s sub : ByteArray) (m : Int) (w : World) (hs : s.size<4294967281) (hm : w.cell? ⟨1,0,none⟩=some (.int .i64 m)) :
 Calls Tryz.prog 62 #[.string s,.string sub] w fun e w' => e=.returned (.bool (Lib.contains s.data.toList sub.data.toList))∧w'=w:=Any.strings_Contains Tryz.lays144 s sub m w hs hm
def Tryz.laysGw15_ren : Go.Shelf.Ren:=⟨fun | 15 => 92 | 20 => 126 | n => n,fun | 9 => 9 | 23 => 119 | 3 => 3 | 4 => 4 | 0 => 0 | 21 => 21 | n => n,fun | n => n⟩
theorem Tryz.laysGw15 : Go.Proofs.LaysGw.n15 Tryz.prog Tryz.laysGw15_ren:={
 mixed:=by kernel_rfl
 f15:=Tryz.func92.trans (congrArg some (by kernel_rfl))
 f20:=Tryz.func126.trans (congrArg some (by kernel_rfl))
 t0:=Tryz.underlying0
 a0:=Tryz.isAgg0
 z0:=Tryz.sizeOf0
 v0:=Tryz.zeroValue0
 i0:=by kernel_rfl
 t3:=Tryz.underlying3
 a3:=Tryz.isAgg3
 z3:=Tryz.sizeOf3
 v3:=Tryz.zeroValue3
 i3:=by kernel_rfl
 t4:=Tryz.underlying4
 a4:=Tryz.isAgg4
 z4:=Tryz.sizeOf4
 v4:=Tryz.zeroValue4
 i4:=by kernel_rfl
 t9:=Tryz.underlying9
 a9:=Tryz.isAgg9
 z9:=Tryz.sizeOf9
 v9:=Tryz.zeroValue9
 i9:=by kernel_rfl
 t21:=Tryz.underlying21
 a21:=Tryz.isAgg21
 z21:=Tryz.sizeOf21
 v21:=Tryz.zeroValue21
 i21:=by kernel_rfl
 t23:=Tryz.underlying119
 a23:=Tryz.isAgg119
 z23:=Tryz.sizeOf119
 v23:=Tryz.zeroValue119
 i23:=by kernel_rfl }
open Go.RowKit Go.Lib in
theorem Tryz.strings_IndexFunc (g : Nat) (lb : Array Value) (eg : ∀ args w,(callFunc g args).run Tryz.prog w=.ok (.enter g args) w) (p : Nat→Bool) (s : ByteArray) (w : World) (hp : PredAt Tryz.prog g lb encR p w) :
 Calls Tryz.prog 92 #[.string s,.func (.func g) #[] lb] w fun e w' => e=.returned (.int .i64 (Lib.idxFunc p true s))∧Below w.heap.size w w':=Any.strings_IndexFunc Tryz.laysGw15 g lb eg p s w hp
def Tryz.lays99_ren : Go.Shelf.Ren:=⟨fun | 99 => 122 | 206 => 150 | n => n,fun | 9 => 9 | 4 => 4 | 3 => 3 | n => n,fun | n => n⟩
theorem Tryz.lays99 : Go.Proofs.Lays.n99 Tryz.prog Tryz.lays99_ren:={
 mixed:=by kernel_rfl
 f99:=Tryz.func122.trans (congrArg some (by kernel_rfl))
 f206:=Tryz.func150.trans (congrArg some (by kernel_rfl))
 t3:=Tryz.underlying3
 a3:=Tryz.isAgg3
 z3:=Tryz.sizeOf3
 v3:=Tryz.zeroValue3
 t4:=Tryz.underlying4
 a4:=Tryz.isAgg4
 z4:=Tryz.sizeOf4
 v4:=Tryz.zeroValue4
 t9:=Tryz.underlying9
 a9:=Tryz.isAgg9
 z9:=Tryz.sizeOf9
 v9:=Tryz.zeroValue9 }
open Go.RowKit Go.Lib in
theorem Tryz.strings_HasPrefix (s p : ByteArray) (w : World) :
 Calls Tryz.prog 122 #[.string s,.string p] w fun e w' => e=.returned (.bool (Lib.hasPrefix s.data.toList p.data.toList))∧w'=w:=Any.strings_HasPrefix Tryz.lays99 s p w
def Tryz.lays157_ren : Go.Shelf.Ren:=⟨fun | 157 => 115 | 229 => 142 | 199 => 143 | 261 => 173 | 311 => 191 | 312 => 192 | n => n,fun | 9 => 9 | 31 => 116 | 3 => 3 | 5 => 5 | 4 => 4 | 119 => 152 | 0 => 0 | 40 => 119 | 152 => 173 | 21 => 21 | 154 => 175 | 51 => 176 | 141 => 178 | 196 => 193 | 193 => 190 | 198 => 196 | 49 => 194 | 194 => 191 | 201 => 199 | 226 => 212 | 46 => 156 | 227 => 213 | n => n,fun | 0 => 0 | 6 => 2 | n => n⟩
theorem Tryz.lays157 : Go.Proofs.Lays.n157 Tryz.prog Tryz.lays157_ren:={
 mixed:=by kernel_rfl
 f157:=Tryz.func115.trans (congrArg some (by kernel_rfl))
 f199:=Tryz.func143.trans (congrArg some (by kernel_rfl))
 f229:=Tryz.func142.trans (congrArg some (by kernel_rfl))
 f261:=Tryz.func173.trans (congrArg some (by kernel_rfl))
 f311:=Tryz.func191.trans (congrArg some (by kernel_rfl))
 f312:=Tryz.func192.trans (congrArg some (by kernel_rfl))
 t0:=Tryz.underlying0
 a0:=Tryz.isAgg0
 z0:=Tryz.sizeOf0
 v0:=Tryz.zeroValue0
 t3:=Tryz.underlying3
 a3:=Tryz.isAgg3
 z3:=Tryz.sizeOf3
 v3:=Tryz.zeroValue3
 t4:=Tryz.underlying4
 a4:=Tryz.isAgg4
 z4:=Tryz.sizeOf4
 v4:=Tryz.zeroValue4
 t5:=Tryz.underlying5
 a5:=Tryz.isAgg5
 z5:=Tryz.sizeOf5
 v5:=Tryz.zeroValue5
 t9:=Tryz.underlying9
 a9:=Tryz.isAgg9
 z9:=Tryz.sizeOf9
 v9:=Tryz.zeroValue9
 t21:=Tryz.underlying21
 a21:=Tryz.isAgg21
 z21:=Tryz.sizeOf21
 v21:=Tryz.zeroValue21
 t31:=Tryz.underlying116
 a31:=Tryz.isAgg116
 z31:=Tryz.sizeOf116
 v31:=Tryz.zeroValue116
 t40:=Tryz.underlying119
 a40:=Tryz.isAgg119
 z40:=Tryz.sizeOf119
 v40:=Tryz.zeroValue119
 t46:=Tryz.underlying156
 a46:=Tryz.isAgg156
 z46:=Tryz.sizeOf156
 v46:=Tryz.zeroValue156
 t49:=Tryz.underlying194
 a49:=Tryz.isAgg194
 z49:=Tryz.sizeOf194
 v49:=Tryz.zeroValue194
 t51:=Tryz.underlying176
 a51:=Tryz.isAgg176
 z51:=Tryz.sizeOf176
 v51:=Tryz.zeroValue176
 t119:=Tryz.underlying152
 a119:=Tryz.isAgg152
 z119:=Tryz.sizeOf152
 t141:=Tryz.underlying178
 a141:=Tryz.isAgg178
 z141:=Tryz.sizeOf178
 v141:=Tryz.zeroValue178
 t152:=Tryz.underlying173
 a152:=Tryz.isAgg173
 z152:=Tryz.sizeOf173
 v152:=Tryz.zeroValue173
 t154:=Tryz.underlying175
 a154:=Tryz.isAgg175
 z154:=Tryz.sizeOf175
 v154:=Tryz.zeroValue175
 t193:=Tryz.underlying190
 a193:=Tryz.isAgg190
 z193:=Tryz.sizeOf190
 v193:=Tryz.zeroValue190
 t194:=Tryz.underlying191
 a194:=Tryz.isAgg191
 z194:=Tryz.sizeOf191
 v194:=Tryz.zeroValue191
 t196:=Tryz.underlying193
 a196:=Tryz.isAgg193
 z196:=Tryz.sizeOf193
 v196:=Tryz.zeroValue193
 t198:=Tryz.underlying196
 a198:=Tryz.isAgg196
 z198:=Tryz.sizeOf196
 v198:=Tryz.zeroValue196
 t201:=Tryz.underlying199
 a201:=Tryz.isAgg199
 z201:=Tryz.sizeOf199
 v201:=Tryz.zeroValue199
 t226:=Tryz.underlying212
 a226:=Tryz.isAgg212
 z226:=Tryz.sizeOf212
 v226:=Tryz.zeroValue212
 t227:=Tryz.underlying213
 a227:=Tryz.isAgg213
 z227:=Tryz.sizeOf213
 v227:=Tryz.zeroValue213
 g0:=by kernel_rfl
 g6:=by kernel_rfl }
open Go.RowKit Go.Lib in
theorem Tryz.strings_Fields (s : ByteArray) (w : World) (hs : s.size<4294967281) (hascii : ∀ (j : Nat) b,s.data.toList[j]?=some b→b.toNat<128) (htab : Lib.TabIs Tryz.prog w "strings.asciiSpace" .u8 Lib.asciiSpaceTab) :
 Calls Tryz.prog 115 #[.string s] w fun e w' =>
  e=.returned (.slice (some ⟨w.heap.size,0,none⟩) (Lib.fields s.data.toList).length (Lib.fields s.data.toList).length)∧w'=w.alloc (.cells ((Lib.fields s.data.toList).map fun l => Value.string ⟨l.toArray⟩).toArray 9):=Any.strings_Fields Tryz.lays157 (by kernel_rfl) (by kernel_rfl) s w hs hascii htab
def Tryz.lays105_ren : Go.Shelf.Ren:=⟨fun | 105 => 178 | 212 => 194 | 99 => 122 | 165 => 195 | 166 => 32 | 170 => 196 | 169 => 21 | 263 => 207 | 264 => 208 | 206 => 150 | 240 => 63 | 241 => 209 | 276 => 96 | 277 => 217 | n => n,fun | 9 => 9 | 3 => 3 | 4 => 4 | 20 => 20 | 0 => 0 | 46 => 156 | 109 => 202 | 5 => 5 | 72 => 41 | 76 => 55 | 51 => 176 | 146 => 183 | 53 => 140 | 148 => 215 | 70 => 38 | 37 => 39 | 75 => 54 | 127 => 65 | 164 => 121 | 80 => 43 | n => n,fun | n => n⟩
theorem Tryz.lays105 : Go.Proofs.Lays.n105 Tryz.prog Tryz.lays105_ren:={
 mixed:=by kernel_rfl
 f99:=Tryz.func122.trans (congrArg some (by kernel_rfl))
 f105:=Tryz.func178.trans (congrArg some (by kernel_rfl))
 f165:=Tryz.func195.trans (congrArg some (by kernel_rfl))
 f166:=Tryz.func32.trans (congrArg some (by kernel_rfl))
 f169:=Tryz.func21.trans (congrArg some (by kernel_rfl))
 f170:=Tryz.func196.trans (congrArg some (by kernel_rfl))
 f206:=Tryz.func150.trans (congrArg some (by kernel_rfl))
 f212:=Tryz.func194.trans (congrArg some (by kernel_rfl))
 f240:=Tryz.func63.trans (congrArg some (by kernel_rfl))
 f241:=Tryz.func209.trans (congrArg some (by kernel_rfl))
 f263:=Tryz.func207.trans (congrArg some (by kernel_rfl))
 f264:=Tryz.func208.trans (congrArg some (by kernel_rfl))
 f276:=Tryz.func96.trans (congrArg some (by kernel_rfl))
 f277:=Tryz.func217.trans (congrArg some (by kernel_rfl))
 t0:=Tryz.underlying0
 a0:=Tryz.isAgg0
 z0:=Tryz.sizeOf0
 v0:=Tryz.zeroValue0
 t3:=Tryz.underlying3
 a3:=Tryz.isAgg3
 z3:=Tryz.sizeOf3
 v3:=Tryz.zeroValue3
 t4:=Tryz.underlying4
 a4:=Tryz.isAgg4
 z4:=Tryz.sizeOf4
 v4:=Tryz.zeroValue4
 t5:=Tryz.underlying5
 a5:=Tryz.isAgg5
 z5:=Tryz.sizeOf5
 v5:=Tryz.zeroValue5
 t9:=Tryz.underlying9
 a9:=Tryz.isAgg9
 z9:=Tryz.sizeOf9
 v9:=Tryz.zeroValue9
 t20:=Tryz.underlying20
 a20:=Tryz.isAgg20
 z20:=Tryz.sizeOf20
 v20:=Tryz.zeroValue20
 t37:=Tryz.underlying39
 a37:=Tryz.isAgg39
 z37:=Tryz.sizeOf39
 v37:=Tryz.zeroValue39
 t46:=Tryz.underlying156
 a46:=Tryz.isAgg156
 z46:=Tryz.sizeOf156
 v46:=Tryz.zeroValue156
 t51:=Tryz.underlying176
 a51:=Tryz.isAgg176
 z51:=Tryz.sizeOf176
 v51:=Tryz.zeroValue176
 t53:=Tryz.underlying140
 a53:=Tryz.isAgg140
 z53:=Tryz.sizeOf140
 v53:=Tryz.zeroValue140
 t70:=Tryz.underlying38
 a70:=Tryz.isAgg38
 z70:=Tryz.sizeOf38
 v70:=Tryz.zeroValue38
 t72:=Tryz.underlying41
 a72:=Tryz.isAgg41
 z72:=Tryz.sizeOf41
 v72:=Tryz.zeroValue41
 t75:=Tryz.underlying54
 a75:=Tryz.isAgg54
 z75:=Tryz.sizeOf54
 v75:=Tryz.zeroValue54
 t76:=Tryz.underlying55
 a76:=Tryz.isAgg55
 z76:=Tryz.sizeOf55
 v76:=Tryz.zeroValue55
 t109:=Tryz.underlying202
 a109:=Tryz.isAgg202
 z109:=Tryz.sizeOf202
 v109:=Tryz.zeroValue202
 t127:=Tryz.underlying65
 a127:=Tryz.isAgg65
 z127:=Tryz.sizeOf65
 v127:=Tryz.zeroValue65
 t146:=Tryz.underlying183
 a146:=Tryz.isAgg183
 z146:=Tryz.sizeOf183
 v146:=Tryz.zeroValue183
 t148:=Tryz.underlying215
 a148:=Tryz.isAgg215
 z148:=Tryz.sizeOf215
 v148:=Tryz.zeroValue215
 t164:=Tryz.underlying121
 a164:=Tryz.isAgg121
 z164:=Tryz.sizeOf121
 v164:=Tryz.zeroValue121 }
theorem Tryz.Builder_Extra_105 : Builder.Extra Tryz.prog Tryz.lays105_ren:={
 sizeBuilder:=by kernel_rfl
 liesBuilder:=by kernel_rfl
 t5:=Tryz.underlying5
 a5:=Tryz.isAgg5
 z5:=Tryz.sizeOf5
 v5:=Tryz.zeroValue5
 infoByte:=by kernel_rfl
 cellsByte:=by kernel_rfl
 sizeByte:=by kernel_rfl
 neB5:=by decide }
open Go.RowKit Go.Lib in
theorem Tryz.strings_Repeat_main (s : ByteArray) (c : Nat) (w : World) (hc2 : 2≤c) (hc : c≤9223372036854775807) (hlen : s.size * c≤140737488355328) (h0 : 0<s.size) :
 Calls Tryz.prog 178 #[.string s,.int .i64 c] w fun e w' => e=.returned (.string ⟨(Lib.repeatL s.data.toList c).toArray⟩)∧Below w.heap.size w w':=Any.strings_Repeat_main Tryz.lays105 Tryz.Builder_Extra_105 s c w hc2 hc hlen h0
open Go.RowKit Go.Lib in
theorem Tryz.strings_Repeat_zero (s : ByteArray) (w : World) :
 Calls Tryz.prog 178 #[.string s,.int .i64 0] w fun e w' => e=.returned (.string ⟨#[]⟩)∧w'=w:=Any.strings_Repeat_zero Tryz.lays105 s w
open Go.RowKit Go.Lib in
theorem Tryz.strings_Repeat_one (s : ByteArray) (w : World) :
 Calls Tryz.prog 178 #[.string s,.int .i64 1] w fun e w' => e=.returned (.string s)∧w'=w:=Any.strings_Repeat_one Tryz.lays105 s w
end Go.Proofs
