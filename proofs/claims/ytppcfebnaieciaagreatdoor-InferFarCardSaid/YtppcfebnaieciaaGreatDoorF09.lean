/-
  Laws that the proof rests on.
-/
import Derived.Test.YtppcfebnaieciaaGreatDoorF06
import Derived.Test.YtppcfebnaieciaaGreatDoorF02
import Derived.Test.YtppcfebnaieciaaGreatDoorF04
import Derived.Shelf.RegionOpenPlain
import Derived.Lib.CutLaws
import Derived.Shelf.Strings.SlTrimAscii
import Derived.Shelf.Abstract
namespace Go.Proofs.YtppcfebnaieciaaGreatDoor
set_option maxRecDepth 100000
set_option maxHeartbeats 16000000
section
open Lib (hid)
open Go.RowKit Go.Shelf
def Env (w : World) : Prop:=∃ m,w.cell? ⟨2,0,none⟩=some (.int .i64 m)
theorem Env.size {w : World} (h : Env w) : 2<w.heap.size:=by
 obtain ⟨m,hm⟩:=h
 rcases Nat.lt_or_ge 2 w.heap.size with g | g
 ·exact g
 ·have : w.heap[2]?=none:=Array.getElem?_eq_none g
  simp [World.cell?,this] at hm
theorem Env.below {w w' : World} (h : Env w) (hb : Below w.heap.size w w') : Env w':=by
 have hs:=h.size
 obtain ⟨m,hm⟩:=h
 exact ⟨m,(hb.cell (p:=⟨2,0,none⟩) hs).trans hm⟩
theorem dZ (w : World) (n : Nat) : Below w.heap.size w (w.drewN n):=⟨rfl,rfl,rfl,Nat.le_refl _,fun _ _ => rfl⟩
theorem sX (s cut : ByteArray) (w : World) (hs : s.size≤maxLen) (hc : cut.size<4294967281) (ha : ∀ (j : Nat) (b : UInt8),cut.data.toList[j]?=some b→b.toNat<128) :
 Calls Tryz.prog 190 #[.string s,.string cut] w fun e w' => e=.returned (.string ⟨(Lib.trimS s.data.toList cut.data.toList).toArray⟩)∧Below w.heap.size w w' :=
 Any.strings_Trim_laid Tryz.lays160 (by kernel_rfl) s cut w hs hc ha
theorem jI : ∀ (j : Nat) (b : UInt8),wE.data.toList[j]?=some b→b.toNat<128:=ascii_of_all (by decide)
theorem a0D {s : ByteArray} (h : ¬ 0<s.size) : s=⟨#[]⟩:=by
 cases s with
 | mk d => simp only [ByteArray.mk.injEq]; exact Array.eq_empty_of_size_eq_zero (by have : d.size=(ByteArray.mk d).size:=rfl; omega)
theorem a1u {s : ByteArray} (h : 0<s.size) : ¬ s.toList=[]∧s.toList.isEmpty=false:=by
 have : s.toList≠[]:=fun e => by rw [Lib.toList_data] at e; have:=d7 s; rw [e] at this; simp at this; omega
 exact ⟨this,by simpa using this⟩
theorem a12 (s : ByteArray) (w : World) (hs : s.size≤maxLen) :
 Calls Tryz.prog 84 #[.string s,.string ⟨#[46]⟩] w fun e w' => e=.returned (.tuple #[.string ⟨(Lib.cut s.data.toList [46]).1.toArray⟩,.string ⟨(Lib.cut s.data.toList [46]).2.1.toArray⟩,.bool (Lib.cut s.data.toList [46]).2.2])∧Below w.heap.size w w':=by
 have hm : s.size≤9223372036854775807:=hs
 have mixed : Tryz.prog.follows .mixedOrders=true:=by kernel_rfl
 have hio : Lib.indexByte s.data.toList 46=Lib.indexB s ⟨#[46]⟩:=(Lib.index_one _ _).symm
 rcases Lib.indexB_cases s ⟨#[46]⟩ with hix | ⟨i,hix,hroom⟩
 ·obtain ⟨e1,e2,e3⟩:=Lib.cutB_miss s ⟨#[46]⟩ hix
  replace e1 : (⟨(Lib.cut s.data.toList [46]).1.toArray⟩ : ByteArray)=s:=e1
  replace e2 : (⟨(Lib.cut s.data.toList [46]).2.1.toArray⟩ : ByteArray)=ByteArray.empty:=e2
  replace e3 : (Lib.cut s.data.toList [46]).2.2=false:=e3
  rw [e1,e2,e3]
  clear e1 e2 e3
  go_enter Tryz.func84,Tryz.ntmps84
  go_wp2_with (go_at_call 121; refine (Tryz.stringslite_Index_one s 46 _).mono ?_; rintro e w' ⟨rfl,rfl⟩; rw [hio,hix])
  go_ret3
  exact ⟨rfl,Below.refl _ _⟩
 ·obtain ⟨e1,e2,e3⟩:=Lib.cutB_hit s ⟨#[46]⟩ i hix
  replace e1 : (⟨(Lib.cut s.data.toList [46]).1.toArray⟩ : ByteArray)=s.extract 0 i:=e1
  replace e2 : (⟨(Lib.cut s.data.toList [46]).2.1.toArray⟩ : ByteArray)=s.extract (i + 1) s.size:=e2
  replace e3 : (Lib.cut s.data.toList [46]).2.2=true:=e3
  rw [e1,e2,e3]
  clear e1 e2 e3
  replace hroom : i + 1≤s.size:=hroom
  have c1 : (0 : Int)≤↑i:=by omega
  have c2 : (↑i : Int)≤↑s.size:=by omega
  have c3 : (0 : Int)≤↑i + 1:=by omega
  have c4 : (↑i + 1 : Int)≤↑s.size:=by omega
  go_enter Tryz.func84,Tryz.ntmps84
  go_wp2_with (go_at_call 121; refine (Tryz.stringslite_Index_one s 46 _).mono ?_; rintro e w' ⟨rfl,rfl⟩; rw [hio,hix])
  go_region_o
  go_wp2
  go_ret3
  exact ⟨rfl,dZ _ 1⟩
theorem a3r (s : ByteArray) (w : World) (hs : s.size≤maxLen) :
 Calls Tryz.prog 48 #[.string s,.string ⟨#[46]⟩] w fun e w' => e=.returned (.tuple #[.string ⟨(Lib.cut s.data.toList [46]).1.toArray⟩,.string ⟨(Lib.cut s.data.toList [46]).2.1.toArray⟩,.bool (Lib.cut s.data.toList [46]).2.2])∧Below w.heap.size w w':=by
 go_enter Tryz.func48,Tryz.ntmps48
 go_wp2_with (go_at_call 84; refine (a12 s _ hs).mono ?_; rintro e w' ⟨rfl,hb⟩)
 go_ret3
 exact ⟨rfl,hb⟩
def inR (n : Nat) : Bool:=decide (97≤n) && decide (n≤122) || decide (48≤n) && decide (n≤57) || decide (n=95)
theorem oP (c : UInt8) : inR c.toNat=Q4 c:=by
 have:=fY (p:=fun c => inR c.toNat == Q4 c) (by decide +kernel) c
 simpa using this
theorem nZ (s : ByteArray) : ∀ (f pos : Nat),s.size - pos≤f→(Lib.idxFuncFrom (fun n => !inR n) true s f pos<0↔(s.data.toList.drop pos).all Q4=true)
 | 0,pos,h => by
   rw [cT (by omega)]
   simp [Lib.idxFuncFrom]
 | f + 1,pos,h => by
   unfold Lib.idxFuncFrom
   by_cases hp : pos<s.size
   ·rw [if_pos hp,J5 hp,List.all_cons]
    by_cases ha : (s[pos]'hp).toNat<128
    ·rw [decode_ascii s pos hp ha]
     simp only [oP]
     cases hi : Q4 s[pos] with
     | false => simp
     | true =>
       have:=nZ s f (pos + 1) (by omega)
       simpa using this
    ·have hd:=(decode_high s pos hp (by omega)).1
     have hr : inR (Utf8.decode s pos).1=false:=by unfold inR; simp; omega
     have hi : Q4 s[pos]=false:=by
      rw [← oP]; unfold inR; simp; omega
     simp only [hr,hi]
     simp
   ·rw [if_neg hp,cT (by omega)]
    simp
theorem a1y (s : ByteArray) : Lib.idxFunc (fun n => !inR n) true s<0↔s.data.toList.all Q4=true:=nZ s s.size 0 (by omega)
theorem vP (n : Nat) (w : World) : Calls Tryz.prog 148 #[.int .i32 n] w fun e w' => e=.returned (.bool (inR n))∧w=w':=by
 go_enter Tryz.func148,Tryz.ntmps148
 go_wp2
 all_goals go_ret
 all_goals exact ⟨y9 (by unfold inR; rw [Bool.eq_iff_iff]; simp; omega),rfl⟩
theorem pU (n : Nat) (w : World) : Calls Tryz.prog 147 #[.int .i32 n] w fun e w' => e=.returned (.bool (!inR n))∧w=w':=by
 go_enter Tryz.func147,Tryz.ntmps147
 go_wp2_with (go_at_call 148; refine (vP n _).mono ?_; rintro e w' ⟨rfl,rfl⟩)
 go_ret
 exact ⟨rfl,rfl⟩
theorem a1H (s : ByteArray) (w : World) : Calls Tryz.prog 146 #[.string s,.func (.func 147) #[] #[]] w fun e w' => e=.returned (.int .i64 (Lib.idxFunc (fun n => !inR n) true s))∧Below w.heap.size w w' :=
 Tryz.strings_IndexFunc 147 #[] (enters_of Tryz.func147 (by kernel_rfl) rfl) (fun n => !inR n) s w fun W x _ => (pU x W).mono fun e w' ⟨h,h'⟩ => ⟨h,0,h'.symm⟩
theorem bL (s : ByteArray) (w : World) (hs : s.size≤maxLen) :
 Calls Tryz.prog 112 #[.string s] w fun e w' => e=.returned (.bool (x8 s.data.toList))∧Below w.heap.size w w':=by
 have hm:=hs
 unfold maxLen at hm
 by_cases h0 : ¬ 0<s.size
 ·rw [a0D h0]
  go_enter Tryz.func112,Tryz.ntmps112
  go_wp2
  go_ret
  exact ⟨rfl,Below.refl _ _⟩
 have h0 : 0<s.size:=by omega
 obtain ⟨e1,e2⟩:=a1u h0
 have hh:=hid (U3 h0)
 have hl:=hid (d7 s)
 by_cases h1 : ¬ s.size≤24
 ·have e:=hid (show x8 s.data.toList=false by unfold x8; rw [hl.out,decide_eq_false (by omega)]; rfl)
  have h1 : 24<s.size:=by omega
  go_enter Tryz.func112,Tryz.ntmps112
  go_wp2
  go_ret
  exact ⟨y9 e.out.symm,Below.refl _ _⟩
 have h1 : s.size≤24:=by omega
 by_cases h2 : (s[0].toNat : Int)<97
 ·have e:=hid (show x8 s.data.toList=false by unfold x8; rw [hh.out,decide_eq_false (show ¬ (97 : Int)≤(s[0].toNat : Int) by omega)]; simp)
  go_enter Tryz.func112,Tryz.ntmps112
  go_wp2
  go_ret
  exact ⟨y9 e.out.symm,Below.refl _ _⟩
 by_cases h3 : 122<(s[0].toNat : Int)
 ·have e:=hid (show x8 s.data.toList=false by unfold x8; rw [hh.out,decide_eq_false (show ¬ (s[0].toNat : Int)≤122 by omega)]; simp)
  go_enter Tryz.func112,Tryz.ntmps112
  go_wp2
  go_ret
  exact ⟨y9 e.out.symm,Below.refl _ _⟩
 ·have e:=hid (show x8 s.data.toList=decide (Lib.idxFunc (fun n => !inR n) true s<0) by
   unfold x8; rw [hh.out,hl.out,decide_eq_true (show s.size≤24 by omega),decide_eq_true (show (97 : Int)≤(s[0].toNat : Int) by omega),decide_eq_true (show (s[0].toNat : Int)≤122 by omega),Bool.eq_iff_iff,decide_eq_true_eq,a1y]; rfl)
  go_enter Tryz.func112,Tryz.ntmps112
  go_wp2_with (go_at_call 146; refine (a1H s _).mono ?_; rintro e w' ⟨rfl,hb⟩)
  go_ret
  exact ⟨y9 e.out.symm,hb⟩
theorem aB (s : ByteArray) (w : World) (hs : s.size≤maxLen) (he : Env w) :
 Calls Tryz.prog 75 #[.string s] w fun e w' => e=.returned (.bool (l3 s.data.toList))∧Below w.heap.size w w':=by
 have hm:=hs
 unfold maxLen at hm
 cases hn : x8 s.data.toList
 ·have E:=hid (show l3 s.data.toList=false by unfold l3; rw [hn]; rfl)
  go_enter Tryz.func75,Tryz.ntmps75
  go_wp2_with (first | (go_at_call 112; refine (bL s _ hs).mono ?_; rintro e w' ⟨rfl,hb⟩; rw [hn]))
  go_ret
  exact ⟨y9 E.out.symm,hb⟩
 ·have E:=hid (show l3 s.data.toList=!aJ s.data.toList by unfold l3; rw [hn]; rfl)
  have hz : s.size≤24:=by have:=lU hn; rw [d7] at this; exact this
  have C:=hid (nN hn)
  go_enter Tryz.func75,Tryz.ntmps75
  go_wp2_with (first | (go_at_call 112; refine (bL s _ hs).mono ?_; rintro e w1 ⟨rfl,hb1⟩; rw [hn]; obtain ⟨m,hm'⟩:=he.below hb1) | (go_at_call 113; refine (Tryz.strings_Contains _ _ m _ (by decide) hm').mono ?_; rintro e w' ⟨rfl,rfl⟩))
  go_ret
  exact ⟨y9 (by rw [E.out,← C.out]; rfl),hb1⟩
theorem a1c (s : ByteArray) : (⟨(Lib.cut s.data.toList [46]).1.toArray⟩ : ByteArray).size≤s.size∧(⟨(Lib.cut s.data.toList [46]).2.1.toArray⟩ : ByteArray).size≤s.size:=by
 have hl:=d7 s
 show (Lib.cut s.data.toList [46]).1.toArray.size≤s.size∧(Lib.cut s.data.toList [46]).2.1.toArray.size≤s.size
 simp only [List.size_toArray]
 unfold Lib.cut
 split
 ·simp only [List.length_take,List.length_drop]; omega
 ·simp
theorem mZ (s : ByteArray) (w : World) (hs : s.size≤maxLen) (he : Env w) :
 Calls Tryz.prog 151 #[.string s] w fun e w' => e=.returned (.bool (eV s.data.toList))∧Below w.heap.size w w':=by
 obtain ⟨z1,z2⟩:=a1c s
 have E:=hid (show eV s.data.toList=(l3 (Lib.cut s.data.toList [46]).1 && (!(Lib.cut s.data.toList [46]).2.2 || l3 (Lib.cut s.data.toList [46]).2.1)) from rfl)
 cases h1 : l3 (Lib.cut s.data.toList [46]).1
 case' true => cases h2 : (Lib.cut s.data.toList [46]).2.2
 all_goals
  go_enter Tryz.func151,Tryz.ntmps151
  go_wp2_with fail
  refine Calls.mono (a3r s w hs) ?_
  rintro e w1 ⟨rfl,hb1⟩
  have he1:=hid (he.below hb1)
  have HB:=hid hb1
  clear hb1
  (try rw [h2])
  go_wp2_with fail
  refine Calls.mono (aB _ _ (Nat.le_trans z1 hs) he1) ?_
  rintro e w2 ⟨rfl,hb2⟩
  rw [show l3 ({ data:=(Lib.cut s.data.toList [46]).1.toArray } : ByteArray).data.toList=_ from h1]
  have he2:=hid (he1.out.below hb2)
  have HC:=hid (HB.out.trans (hb2.mono HB.out.size))
  clear hb2
  go_wp2_with fail
 ·go_ret
  exact ⟨y9 (by rw [E.out,h1,h2]; rfl),HC⟩
 ·refine Calls.mono (aB _ _ (Nat.le_trans z2 hs) he2) ?_
  rintro e w3 ⟨rfl,hb3⟩
  have HD:=hid (HC.out.trans (hb3.mono HC.out.size))
  clear hb3
  go_wp2_with fail
  go_ret
  exact ⟨y9 (by rw [E.out,h1,h2]; rfl),HD⟩
 ·go_ret
  exact ⟨y9 (by rw [E.out,h1]; rfl),HC⟩
theorem wD (s : ByteArray) (w : World) (hs : s.size≤maxLen) :
 Calls Tryz.prog 173 #[.string s] w fun e w' => e=.returned (.bool (qP s.data.toList))∧Below w.heap.size w w':=by
 have hm:=hs
 unfold maxLen at hm
 have hl:=hid (d7 s)
 by_cases h1 : s.size=3
 ·have e:=hid (show qP s.data.toList=(Lib.trimS s.data.toList wE.data.toList).isEmpty by unfold qP; rw [hl.out,decide_eq_true h1,vF]; rfl)
  go_enter Tryz.func173,Tryz.ntmps173
  go_wp2_with (go_at_call 190; refine (sX _ _ _ hs (by decide) jI).mono ?_; rintro e w' ⟨rfl,hb⟩)
  go_ret
  exact ⟨y9 e.out.symm,hb⟩
 ·have e:=hid (show qP s.data.toList=false by unfold qP; rw [hl.out,decide_eq_false h1]; rfl)
  go_enter Tryz.func173,Tryz.ntmps173
  go_wp2_with (go_at_call 190; refine (sX _ _ _ hs (by decide) jI).mono ?_; rintro e w' ⟨rfl,hb⟩)
  go_ret
  exact ⟨y9 e.out.symm,Below.refl _ _⟩
end
section
open Lib (hid)
open Go.RowKit Go.Shelf
def Z3 (l : List UInt8) : Value:=.string ⟨l.toArray⟩
theorem kU (w : World) (L : List (List UInt8)) (t : TypeId) (k : Nat) (hk : k<L.length) : (w.alloc (.cells (L.map Z3).toArray t)).cell? ⟨w.heap.size,k,none⟩=some (Z3 L[k]):=by
 have h : (w.alloc (.cells (L.map Z3).toArray t)).heap[w.heap.size]?=some (.cells (L.map Z3).toArray t):=by show (w.heap.push _)[w.heap.size]?=_; simp
 rw [Lib.cell_of_heap h]
 simp [hk]
theorem vL (w : World) : Calls Tryz.prog 110 #[] w fun e w' => e=.returned (.slice (some ⟨w.heap.size,0,none⟩) 13 13)∧w'=w.alloc (.cells (J6.map Z3).toArray 9):=by
 go_enter Tryz.func110,Tryz.ntmps110
 go_wp2
 go_ret
 exact ⟨rfl,rfl⟩
theorem a5b {s : ByteArray} {l : List UInt8} (h : l≠s.data.toList) : ¬ (⟨l.toArray⟩ : ByteArray).toList=s.toList:=by
 rw [Lib.toList_data,Lib.toList_data]
 exact h
theorem a3x {s : ByteArray} {l : List UInt8} (h : l≠s.data.toList) : ((⟨l.toArray⟩ : ByteArray).toList == s.toList)=false:=beq_eq_false_iff_ne.2 (a5b h)
theorem a4G {s : ByteArray} {l : List UInt8} (h : l=s.data.toList) : s=⟨l.toArray⟩:=by
 subst h; cases s; simp
theorem a32 {L : List (List UInt8)} {l : List UInt8} {k : Nat} (hk : k<L.length) (h : L[k]=l) : L.contains l=true:=by
 rw [List.contains_iff_mem,← h]; exact List.getElem_mem _
theorem a4J {L : List (List UInt8)} {l : List UInt8} (h : ∀ j (hj : j<L.length),L[j]≠l) : L.contains l=false:=by
 rw [Bool.eq_false_iff]
 intro e
 obtain ⟨j,hj,e2⟩:=List.getElem_of_mem (List.contains_iff_mem.1 e)
 exact h j hj e2
theorem iZ (s : ByteArray) (w : World) : Calls Tryz.prog 73 #[.string s] w fun e w' => e=.returned (.bool (aJ s.data.toList))∧Below w.heap.size w w':=by
 have hc : Hid (∀ (k : Nat) (hk : k<J6.length),(w.alloc (.cells (J6.map Z3).toArray 9)).cell? ⟨w.heap.size,k,none⟩=some (Z3 J6[k])):=kU w J6 _
 have HB:=hid (a7 w (.cells (J6.map Z3).toArray 9))
 go_enter Tryz.func73,Tryz.ntmps73
 go_wp2_with (go_at_call 110; refine (vL _).mono ?_; rintro e w' ⟨rfl,rfl⟩)
 generalize (w.alloc (.cells (J6.map Z3).toArray 9))=W1 at hc HB ⊢
 go_loop [4] (fun i => ∃ k : Nat,k≤13∧i=.int .i64 k∧Hid (∀ j (hj : j<J6.length),j<k→J6[j]≠s.data.toList)) (fun i => 13 - (intOf i).toNat)
 case atStart => exact ⟨0,by omega,rfl,fun j hj h => by omega⟩
 case round =>
  obtain ⟨k,hk,rfl,HI⟩:=hrel
  by_cases hlt : k<13
  ·have c:=hc.out k hlt
   by_cases he : J6[k]'hlt=s.data.toList
   ·have F:=hid (show aJ s.data.toList=true from a32 hlt he)
    have e1:=a4G he
    unfold Z3 at c
    rw [← e1] at c
    clear e1 he
    go_wp2
    go_ret
    exact ⟨y9 F.out.symm,HB⟩
   ·have e1:=a3x he
    unfold Z3 at c
    have HE:=hid he
    clear he
    generalize (⟨(J6[k]'hlt).toArray⟩ : ByteArray)=x at c e1
    go_wp2
    go_round
    case rel =>
     refine ⟨k + 1,by omega,by go_num,fun j hj h => ?_⟩
     by_cases ej : j=k
     ·subst ej; exact HE
     ·exact HI.out j hj (by omega)
    case measure => simp [intOf]; omega
  ·have F:=hid (show aJ s.data.toList=false from a4J fun j hj => HI.out j hj (by have : j<13:=hj; omega))
   go_wp2
   go_ret
   exact ⟨y9 F.out.symm,HB⟩
end
section
open Lib (hid)
open Go.RowKit Go.Shelf
def Fm.ty : Fm→TypeId
 | .leaf _ => 150
 | .called _ _ => 149
 | .unary _ _ => 177
 | .binary _ _ _ => 179
 | .choice _ _ _ => 175
def Fm.fn : Fm→Nat
 | .leaf _ => 232
 | .called _ _ => 119
 | .unary _ _ => 234
 | .binary _ _ _ => 236
 | .choice _ _ _ => 233
mutual
def Fm.is (av : Nat→Prop) (W : World) : Fm→Value→Prop
 | .leaf s,x => x=.string s∧s.size≤maxLen
 | .called h ks,x => ∃ a cap,x=.agg #[.string h,.slice a ks.length cap]∧h.size≤maxLen∧ks.length≤cap∧cap≤maxLen∧Fm.are av W ks a 0
 | .unary s k,x => ∃ y z,x=.agg #[.iface s.ty y,.iface k.ty z]∧Fm.is av W s y∧Fm.is av W k z
 | .binary a s b,x => ∃ y u z,x=.agg #[.iface a.ty y,.iface s.ty u,.iface b.ty z]∧Fm.is av W a y∧Fm.is av W s u∧Fm.is av W b z
 | .choice a b c,x => ∃ y u z,x=.agg #[.iface a.ty y,.iface b.ty u,.iface c.ty z]∧Fm.is av W a y∧Fm.is av W b u∧Fm.is av W c z
def Fm.are (av : Nat→Prop) (W : World) : List Fm→Option Addr→Nat→Prop
 | [],_,_ => True
 | k :: ks,a,i => (∃ g y cur fz,a=some ⟨g,0,none⟩∧av g∧W.heap[g]?=some (.cells cur 145 fz)∧cur[i]?=some (.iface k.ty y)∧Fm.is av W k y)∧Fm.are av W ks a (i + 1)
end
mutual
theorem Fm.is.kept {av av' : Nat→Prop} {W W' : World} (h : ∀ g cur fz,av g→W.heap[g]?=some (.cells cur 145 fz)→av' g∧W'.heap[g]?=some (.cells cur 145 fz)) : ∀ (f : Fm) {x : Value},f.is av W x→f.is av' W' x
 | .leaf _,_,hx => hx
 | .called _ ks,_,⟨a,cap,e,h1,h2,h3,h4⟩ => ⟨a,cap,e,h1,h2,h3,Fm.are.kept h ks h4⟩
 | .unary s k,_,⟨y,z,e,h1,h2⟩ => ⟨y,z,e,Fm.is.kept h s h1,Fm.is.kept h k h2⟩
 | .binary a s b,_,⟨y,u,z,e,h1,h2,h3⟩ => ⟨y,u,z,e,Fm.is.kept h a h1,Fm.is.kept h s h2,Fm.is.kept h b h3⟩
 | .choice a s b,_,⟨y,u,z,e,h1,h2,h3⟩ => ⟨y,u,z,e,Fm.is.kept h a h1,Fm.is.kept h s h2,Fm.is.kept h b h3⟩
theorem Fm.are.kept {av av' : Nat→Prop} {W W' : World} (h : ∀ g cur fz,av g→W.heap[g]?=some (.cells cur 145 fz)→av' g∧W'.heap[g]?=some (.cells cur 145 fz)) : ∀ (fs : List Fm) {a : Option Addr} {i : Nat},Fm.are av W fs a i→Fm.are av' W' fs a i
 | [],_,_,_ => trivial
 | k :: ks,_,_,⟨⟨g,y,cur,fz,e,hg,hh,hc,hi⟩,hr⟩ => ⟨⟨g,y,cur,fz,e,(h g cur fz hg hh).1,(h g cur fz hg hh).2,hc,Fm.is.kept h k hi⟩,Fm.are.kept h ks hr⟩
end
theorem Fm.are.get {av : Nat→Prop} {W : World} {a : Option Addr} : ∀ (fs : List Fm) (i : Nat),Fm.are av W fs a i→∀ j (hj : j<fs.length),∃ g y cur fz,a=some ⟨g,0,none⟩∧av g∧W.heap[g]?=some (.cells cur 145 fz)∧cur[i + j]?=some (.iface fs[j].ty y)∧Fm.is av W fs[j] y
 | k :: ks,i,⟨h,hr⟩,j,hj => by
   cases j with
   | zero => exact h
   | succ j =>
     have:=Fm.are.get ks (i + 1) hr j (by simpa using hj)
     rw [show i + (j + 1)=i + 1 + j by omega]
     exact this
theorem a3B (y : Value) (k : Nat) (w : World) : (method (k + 1) 150 y "usance/show.write").run Tryz.prog w=.ok (232,y) w:=by kernel_rfl
theorem a0z (y : Value) (k : Nat) (w : World) : (method (k + 1) 149 y "usance/show.write").run Tryz.prog w=.ok (119,y) w:=by kernel_rfl
theorem a2X (y : Value) (k : Nat) (w : World) : (method (k + 1) 177 y "usance/show.write").run Tryz.prog w=.ok (234,y) w:=by kernel_rfl
theorem a0q (y : Value) (k : Nat) (w : World) : (method (k + 1) 179 y "usance/show.write").run Tryz.prog w=.ok (236,y) w:=by kernel_rfl
theorem a0u (y : Value) (k : Nat) (w : World) : (method (k + 1) 175 y "usance/show.write").run Tryz.prog w=.ok (233,y) w:=by kernel_rfl
theorem mt (f : Fm) (y : Value) (k : Nat) (w : World) : (method (k + 1) f.ty y "usance/show.write").run Tryz.prog w=.ok (f.fn,y) w:=by
 cases f
 ·exact a3B y k w
 ·exact a0z y k w
 ·exact a2X y k w
 ·exact a0q y k w
 ·exact a0u y k w
theorem en (f : Fm) : ∀ args w,(callFunc f.fn args).run Tryz.prog w=.ok (.enter f.fn args) w:=by
 cases f
 ·exact enters_of Tryz.func232 (by kernel_rfl) rfl
 ·exact enters_of Tryz.func119 (by kernel_rfl) rfl
 ·exact enters_of Tryz.func234 (by kernel_rfl) rfl
 ·exact enters_of Tryz.func236 (by kernel_rfl) rfl
 ·exact enters_of Tryz.func233 (by kernel_rfl) rfl
structure Aft (B b : Nat) (l : List UInt8) (w w' : World) : Prop where
 bld : Bld B b l w'
 below : Below B w w'
 keeps : yA b w w'
theorem Aft.start {B b : Nat} {l : List UInt8} {w : World} (h : Bld B b l w) : Aft B b l w w:=⟨h,Below.refl _ _,Lib.OthersKept.refl _ _ _⟩
theorem Aft.alloc {B b : Nat} {l : List UInt8} {w w' : World} (h : Aft B b l w w') (hB : B≤w.heap.size) (o : Obj) : Aft B b l w (w'.alloc o) :=
 ⟨Lib.IsBuilderF.alloc h.bld o,h.below.alloc (Nat.le_trans hB h.below.size) o,h.keeps.alloc o⟩
theorem Aft.trans {B b : Nat} {l l' : List UInt8} {w w1 w2 : World} (h : Aft B b l w w1) (k : Aft B b l' w1 w2) : Aft B b l' w w2 :=
 ⟨k.bld,h.below.trans k.below,h.keeps.trans k.keeps⟩
theorem Aft.size {B b : Nat} {l : List UInt8} {w w' : World} (h : Aft B b l w w') (hB : B≤w.heap.size) : B≤w'.heap.size:=Nat.le_trans hB h.below.size
theorem Aft.block {B b : Nat} {l : List UInt8} {w w' : World} (h : Aft B b l w w') {k : Nat} {cs : Array Value} {T : TypeId} {fz : Nat × Nat} (hk : w.heap[k]?=some (.cells cs T fz)) (hb : k≠b) (hT : T≠5) : w'.heap[k]?=some (.cells cs T fz) :=
 h.keeps k _ hk (fun e => hb (Option.some.inj e)) (fun c z e => hT (by injection e))
theorem Fm.is.aft {B b : Nat} {l : List UInt8} {w w' : World} (h : Aft B b l w w') {f : Fm} {x : Value} (hf : f.is (· ≠ b) w x) : f.is (· ≠ b) w' x :=
 Fm.is.kept (fun g _ _ hg hh => ⟨hg,h.block hh hg (by decide)⟩) f hf
theorem Fm.are.aft {B b : Nat} {l : List UInt8} {w w' : World} (h : Aft B b l w w') {fs : List Fm} {a : Option Addr} {i : Nat} (hf : Fm.are (· ≠ b) w fs a i) : Fm.are (· ≠ b) w' fs a i :=
 Fm.are.kept (fun g _ _ hg hh => ⟨hg,h.block hh hg (by decide)⟩) fs hf
theorem Bld.lt {B b : Nat} {l : List UInt8} {w : World} (h : Bld B b l w) : b<w.heap.size:=by
 rcases h with h | h <;> exact h.lt
theorem Y7 (w : World) (o : Obj) : (w.alloc o).heap[w.heap.size]?=some o:=by show (w.heap.push o)[w.heap.size]?=_; simp
def L3 (f : Fm) : Prop:=∀ (x : Value) (B b : Nat) (l : List UInt8) (w : World),f.is (· ≠ b) w x→Bld B b l w→l.length + f.text.length≤1099511627776→B≤w.heap.size →
 Calls Tryz.prog f.fn #[x,.pointer (some ⟨b,0,none⟩)] w fun e w' => e=.returned (.tuple #[])∧Aft B b (l ++ f.text) w w'
theorem l7 (B b : Nat) (l : List UInt8) (s : ByteArray) (w : World) (h : Bld B b l w) (hlen : l.length + s.size≤1099511627776) (hBw : B≤w.heap.size) :
 Calls Tryz.prog 69 #[.pointer (some ⟨b,0,none⟩),.string s] w fun e w' => e=.returned (.tuple #[.int .i64 s.size,.nilIface])∧Aft B b (l ++ s.data.toList) w w' :=
 (uO B b l s w h (by omega) hBw).mono fun _ _ ⟨h1,h2,h3,h4⟩ => ⟨h1,h2,h3,h4⟩
theorem a0t (s : ByteArray) : L3 (.leaf s):=by
 intro x B b l w hf hb hlen hB
 obtain ⟨rfl,-⟩:=hf
 have hl : l.length + s.size≤1099511627776:=by
  have : (Fm.leaf s).text.length=s.size:=by rw [Fm.text]; exact d7 s
  omega
 show Calls Tryz.prog 232 _ w _
 go_enter Tryz.func232,Tryz.ntmps232
 go_wp2_with (go_at_call 69; refine (l7 B b l s _ hb hl hB).mono ?_; rintro e w' ⟨rfl,ha⟩)
 refine bodyPost_end (results_none rfl _ _ _) rfl ?_
 exact ⟨rfl,by rw [Fm.text]; exact ha⟩
theorem nL (v : Value) (w : World) : (Instr.typeAssert (.iface 150 v) 145 177 true).run Tryz.prog w=.ok (.tuple #[.agg #[.nilIface,.nilIface],.bool false]) w:=by kernel_rfl
theorem jR (v : Value) (w : World) : (Instr.typeAssert (.iface 149 v) 145 177 true).run Tryz.prog w=.ok (.tuple #[.agg #[.nilIface,.nilIface],.bool false]) w:=by kernel_rfl
theorem lA (v : Value) (w : World) : (Instr.typeAssert (.iface 177 v) 145 177 true).run Tryz.prog w=.ok (.tuple #[v,.bool true]) w:=by kernel_rfl
theorem jV (v : Value) (w : World) : (Instr.typeAssert (.iface 179 v) 145 177 true).run Tryz.prog w=.ok (.tuple #[.agg #[.nilIface,.nilIface],.bool false]) w:=by kernel_rfl
theorem jQ (v : Value) (w : World) : (Instr.typeAssert (.iface 175 v) 145 177 true).run Tryz.prog w=.ok (.tuple #[.agg #[.nilIface,.nilIface],.bool false]) w:=by kernel_rfl
theorem mO (v : Value) (w : World) : (Instr.typeAssert (.iface 150 v) 145 179 true).run Tryz.prog w=.ok (.tuple #[.agg #[.nilIface,.nilIface,.nilIface],.bool false]) w:=by kernel_rfl
theorem iW (v : Value) (w : World) : (Instr.typeAssert (.iface 149 v) 145 179 true).run Tryz.prog w=.ok (.tuple #[.agg #[.nilIface,.nilIface,.nilIface],.bool false]) w:=by kernel_rfl
theorem jS (v : Value) (w : World) : (Instr.typeAssert (.iface 177 v) 145 179 true).run Tryz.prog w=.ok (.tuple #[.agg #[.nilIface,.nilIface,.nilIface],.bool false]) w:=by kernel_rfl
theorem iI (v : Value) (w : World) : (Instr.typeAssert (.iface 179 v) 145 179 true).run Tryz.prog w=.ok (.tuple #[v,.bool true]) w:=by kernel_rfl
theorem iE (v : Value) (w : World) : (Instr.typeAssert (.iface 175 v) 145 179 true).run Tryz.prog w=.ok (.tuple #[.agg #[.nilIface,.nilIface,.nilIface],.bool false]) w:=by kernel_rfl
theorem kL (v : Value) (w : World) : (Instr.typeAssert (.iface 150 v) 145 175 true).run Tryz.prog w=.ok (.tuple #[.agg #[.nilIface,.nilIface,.nilIface],.bool false]) w:=by kernel_rfl
theorem iC (v : Value) (w : World) : (Instr.typeAssert (.iface 149 v) 145 175 true).run Tryz.prog w=.ok (.tuple #[.agg #[.nilIface,.nilIface,.nilIface],.bool false]) w:=by kernel_rfl
theorem jW (v : Value) (w : World) : (Instr.typeAssert (.iface 177 v) 145 175 true).run Tryz.prog w=.ok (.tuple #[.agg #[.nilIface,.nilIface,.nilIface],.bool false]) w:=by kernel_rfl
theorem iJ (v : Value) (w : World) : (Instr.typeAssert (.iface 179 v) 145 175 true).run Tryz.prog w=.ok (.tuple #[.agg #[.nilIface,.nilIface,.nilIface],.bool false]) w:=by kernel_rfl
theorem iT (v : Value) (w : World) : (Instr.typeAssert (.iface 175 v) 145 175 true).run Tryz.prog w=.ok (.tuple #[v,.bool true]) w:=by kernel_rfl
theorem lD (f : Fm) (hw : L3 f) (x : Value) (B b : Nat) (l : List UInt8) (w : World) (hf : f.is (· ≠ b) w x) (hb : Bld B b l w) (hlen : l.length + (T3 f.wrap f.text).length≤1099511627776) (hB : B≤w.heap.size) :
 Calls Tryz.prog 235 #[.pointer (some ⟨b,0,none⟩),.iface f.ty x] w fun e w' => e=.returned (.tuple #[])∧Aft B b (l ++ T3 f.wrap f.text) w w':=by
 have M:=mt f x
 have eg:=en f
 have HW:=hid hw
 clear hw
 by_cases hwr : f.wrap=true
 ·have E:=hid (show l ++ T3 f.wrap f.text=l ++ [40] ++ f.text ++ [41] by rw [hwr]; simp [T3])
  replace hlen : l.length + f.text.length + 2≤1099511627776:=by
   rw [hwr] at hlen
   simp [T3] at hlen
   omega
  have h1 : l.length + (⟨#[40]⟩ : ByteArray).size≤1099511627776:=by show l.length + 1≤_; omega
  cases f
  case leaf => cases hwr
  case called => cases hwr
  case' unary u1 u2 => have a1:=lA x; have a2:=jS x; have a3:=jW x; generalize hg : Fm.unary u1 u2=g at M eg HW E hf hlen ⊢; have ht : g.ty=177:=(by rw [← hg]; rfl); have HF:=hid (show g.fn=234 from hg ▸ rfl)
  case' binary u1 u2 u3 => have a1:=jV x; have a2:=iI x; have a3:=iJ x; generalize hg : Fm.binary u1 u2 u3=g at M eg HW E hf hlen ⊢; have ht : g.ty=179:=(by rw [← hg]; rfl); have HF:=hid (show g.fn=236 from hg ▸ rfl)
  case' choice u1 u2 u3 => have a1:=jQ x; have a2:=iE x; have a3:=iT x; generalize hg : Fm.choice u1 u2 u3=g at M eg HW E hf hlen ⊢; have ht : g.ty=175:=(by rw [← hg]; rfl); have HF:=hid (show g.fn=233 from hg ▸ rfl)
  all_goals
   rw [ht] at M ⊢
   clear ht hg hwr
   go_enter Tryz.func235,Tryz.ntmps235
   go_wp2_with fail
   refine Calls.mono (l7 B b l ⟨#[40]⟩ _ hb h1 hB) ?_
   rintro e w1 ⟨rfl,ha⟩
   have HA:=hid ha
   clear ha
   go_wp2_with fail
   first | refine Calls.mono (HW.out x B b (l ++ [40]) _ (Fm.is.aft HA hf) HA.out.bld (by simp; omega) (HA.out.size hB)) ?_ | refine Calls.mono (HW.out.at HF x B b (l ++ [40]) _ (Fm.is.aft HA hf) HA.out.bld (by simp; omega) (HA.out.size hB)) ?_
   rintro e w2 ⟨rfl,ha⟩
   have HA2:=hid (HA.out.trans ha)
   clear ha
   go_wp2_with fail
   refine Calls.mono (l7 B b _ ⟨#[41]⟩ _ HA2.out.bld (by simp [ByteArray.size]; omega) (HA2.out.size hB)) ?_
   rintro e w3 ⟨rfl,ha⟩
   have HA3:=hid (HA2.out.trans ha)
   clear ha
   go_wp2_with fail
   refine bodyPost_end (results_none rfl _ _ _) rfl ?_
   exact ⟨rfl,by rw [E.out]; exact HA3⟩
 ·have E:=hid (show l ++ T3 f.wrap f.text=l ++ f.text by rw [Bool.eq_false_iff.2 hwr]; rfl)
  replace hlen : l.length + f.text.length≤1099511627776:=by
   rw [Bool.eq_false_iff.2 hwr] at hlen
   exact hlen
  cases f
  case unary => exact absurd rfl hwr
  case binary => exact absurd rfl hwr
  case choice => exact absurd rfl hwr
  case' leaf u1 => have a1:=nL x; have a2:=mO x; have a3:=kL x; generalize hg : Fm.leaf u1=g at M eg HW E hf hlen ⊢; have ht : g.ty=150:=(by rw [← hg]; rfl); have HF:=hid (show g.fn=232 from hg ▸ rfl)
  case' called u1 u2 => have a1:=jR x; have a2:=iW x; have a3:=iC x; generalize hg : Fm.called u1 u2=g at M eg HW E hf hlen ⊢; have ht : g.ty=149:=(by rw [← hg]; rfl); have HF:=hid (show g.fn=119 from hg ▸ rfl)
  all_goals
   rw [ht] at M ⊢
   clear ht hg hwr
   go_enter Tryz.func235,Tryz.ntmps235
   go_wp2_with fail
   first | refine Calls.mono (HW.out x B b l _ hf hb (by omega) hB) ?_ | refine Calls.mono (HW.out.at HF x B b l _ hf hb (by omega) hB) ?_
   rintro e w2 ⟨rfl,ha⟩
   have HA:=hid ha
   clear ha
   go_wp2_with fail
   refine bodyPost_end (results_none rfl _ _ _) rfl ?_
   exact ⟨rfl,by rw [E.out]; exact HA⟩
end
section
open Go.RowKit Go.Shelf
theorem Boxed.kind {b : Nat} {t : Nd} {a : Option Addr} {cap : Nat} {w : World} (h : Boxed b t a cap w) {k : Int} (hk : t.kind=k) : w.cell? ⟨b,0,none⟩=some (.int .i64 k):=hk ▸ h.c0
end
section
open Lib (hid)
open Go.RowKit Go.Shelf
theorem zF (b : Bool) (l : List UInt8) : l.length≤(T3 b l).length∧(T3 b l).length≤l.length + 2:=by
 unfold T3
 split <;> simp <;> omega
theorem Fm.is.alloc {b : Nat} {w : World} {f : Fm} {x : Value} (hf : f.is (· ≠ b) w x) (o : Obj) : f.is (· ≠ b) (w.alloc o) x :=
 Fm.is.kept (fun g _ _ hg hh => ⟨hg,(Lib.alloc_old w o g (Array.getElem?_eq_some_iff.1 hh).1).trans hh⟩) f hf
theorem Fm.are.alloc {b : Nat} {w : World} {fs : List Fm} {a : Option Addr} {i : Nat} (hf : Fm.are (· ≠ b) w fs a i) (o : Obj) : Fm.are (· ≠ b) (w.alloc o) fs a i :=
 Fm.are.kept (fun g _ _ hg hh => ⟨hg,(Lib.alloc_old w o g (Array.getElem?_eq_some_iff.1 hh).1).trans hh⟩) fs hf
theorem uU (s k : Fm) (hs : L3 s) (hk : L3 k) : L3 (.unary s k):=by
 intro x B b l w hf hb hlen hB
 obtain ⟨y,z,rfl,hy,hz⟩:=hf
 have E:=hid (show (Fm.unary s k).text=s.text ++ T3 k.wrap k.text by rw [Fm.text])
 have hl : l.length + s.text.length + (T3 k.wrap k.text).length≤1099511627776:=by
  rw [E.out,List.length_append] at hlen; omega
 have hwl:=zF k.wrap k.text
 clear hlen
 have hne : w.heap.size≠b:=by have:=hb.lt; omega
 have A0:=hid ((Aft.start hb).alloc hB (.cells #[.iface s.ty y,.iface k.ty z] 177))
 have hbk:=Y7 w (.cells #[.iface s.ty y,.iface k.ty z] 177)
 have HY:=hid (hy.alloc (.cells #[.iface s.ty y,.iface k.ty z] 177))
 have HZ:=hid (hz.alloc (.cells #[.iface s.ty y,.iface k.ty z] 177))
 have HS:=hid hs
 have HK:=hid hk
 clear hs hk hy hz hb
 have M:=mt s y
 have eg:=en s
 show Calls Tryz.prog 234 _ w _
 go_enter Tryz.func234,Tryz.ntmps234
 go_wp2_with fail
 generalize hW : w.alloc (.cells #[.iface s.ty y,.iface k.ty z] 177)=W1 at A0 hbk HY HZ ⊢
 clear hW
 refine Calls.mono (HS.out y B b l _ HY A0.out.bld (by omega) (A0.out.size hB)) ?_
 rintro e w1 ⟨rfl,ha⟩
 have A1:=hid (A0.out.trans ha)
 have hbk1:=ha.block hbk hne (by decide)
 have HZ1:=hid (Fm.is.aft ha HZ)
 clear ha
 have c1 : w1.cell? ⟨w.heap.size,1,none⟩=some (.iface k.ty z):=by rw [Lib.cell_of_heap hbk1]; rfl
 go_wp2_with fail
 refine Calls.mono (lD k HK z B b (l ++ s.text) _ HZ1 A1.out.bld (by rw [List.length_append]; omega) (A1.out.size hB)) ?_
 rintro e w2 ⟨rfl,ha⟩
 have A2:=hid (A1.out.trans ha)
 clear ha
 go_wp2_with fail
 refine bodyPost_end (results_none rfl _ _ _) rfl ?_
 exact ⟨rfl,by rw [E.out,← List.append_assoc]; exact A2⟩
theorem uE (f s k : Fm) (hf : L3 f) (hs : L3 s) (hk : L3 k) : L3 (.binary f s k):=by
 intro x B b l w hx hb hlen hB
 obtain ⟨v,y,z,rfl,hv,hy,hz⟩:=hx
 have E:=hid (show l ++ (Fm.binary f s k).text=l ++ T3 f.wrap f.text ++ [32] ++ s.text ++ [32] ++ T3 k.wrap k.text by rw [Fm.text]; simp)
 have hl : l.length + (T3 f.wrap f.text).length + 1 + s.text.length + 1 + (T3 k.wrap k.text).length≤1099511627776:=by
  rw [Fm.text] at hlen
  simp only [List.length_append,List.length_cons,List.length_nil] at hlen
  omega
 clear hlen
 have hne : w.heap.size≠b:=by have:=hb.lt; omega
 have A0:=hid ((Aft.start hb).alloc hB (.cells #[.iface f.ty v,.iface s.ty y,.iface k.ty z] 179))
 have hbk:=Y7 w (.cells #[.iface f.ty v,.iface s.ty y,.iface k.ty z] 179)
 have HV:=hid (hv.alloc (.cells #[.iface f.ty v,.iface s.ty y,.iface k.ty z] 179))
 have HY:=hid (hy.alloc (.cells #[.iface f.ty v,.iface s.ty y,.iface k.ty z] 179))
 have HZ:=hid (hz.alloc (.cells #[.iface f.ty v,.iface s.ty y,.iface k.ty z] 179))
 have HF:=hid hf
 have HS:=hid hs
 have HK:=hid hk
 clear hf hs hk hv hy hz hb
 have M:=mt s y
 have eg:=en s
 show Calls Tryz.prog 236 _ w _
 go_enter Tryz.func236,Tryz.ntmps236
 go_wp2_with fail
 generalize hW : w.alloc (.cells #[.iface f.ty v,.iface s.ty y,.iface k.ty z] 179)=W1 at A0 hbk HV HY HZ ⊢
 clear hW
 refine Calls.mono (lD f HF v B b l _ HV A0.out.bld (by omega) (A0.out.size hB)) ?_
 rintro e w1 ⟨rfl,ha⟩
 have A1:=hid (A0.out.trans ha)
 have hbk1:=ha.block hbk hne (by decide)
 have HY1:=hid (Fm.is.aft ha HY)
 have HZ1:=hid (Fm.is.aft ha HZ)
 clear ha hbk A0 HY HZ
 go_wp2_with fail
 refine Calls.mono (l7 B b _ ⟨#[32]⟩ _ A1.out.bld (by rw [List.length_append]; show _ + 1≤_; omega) (A1.out.size hB)) ?_
 rintro e w2 ⟨rfl,ha⟩
 have A2:=hid (A1.out.trans ha)
 have hbk2:=ha.block hbk1 hne (by decide)
 have HY2:=hid (Fm.is.aft ha HY1)
 have HZ2:=hid (Fm.is.aft ha HZ1)
 clear ha hbk1 A1 HY1 HZ1
 have c1 : w2.cell? ⟨w.heap.size,1,none⟩=some (.iface s.ty y):=by rw [Lib.cell_of_heap hbk2]; rfl
 go_wp2_with fail
 refine Calls.mono (HS.out y B b _ _ HY2 A2.out.bld (by simp only [List.length_append]; show _ + 1 + _≤_; omega) (A2.out.size hB)) ?_
 rintro e w3 ⟨rfl,ha⟩
 have A3:=hid (A2.out.trans ha)
 have hbk3:=ha.block hbk2 hne (by decide)
 have HZ3:=hid (Fm.is.aft ha HZ2)
 clear ha hbk2 A2 HY2 HZ2 c1
 go_wp2_with fail
 refine Calls.mono (l7 B b _ ⟨#[32]⟩ _ A3.out.bld (by simp only [List.length_append]; show _ + 1 + _ + 1≤_; omega) (A3.out.size hB)) ?_
 rintro e w4 ⟨rfl,ha⟩
 have A4:=hid (A3.out.trans ha)
 have hbk4:=ha.block hbk3 hne (by decide)
 have HZ4:=hid (Fm.is.aft ha HZ3)
 clear ha hbk3 A3 HZ3
 have c2 : w4.cell? ⟨w.heap.size,2,none⟩=some (.iface k.ty z):=by rw [Lib.cell_of_heap hbk4]; rfl
 go_wp2_with fail
 refine Calls.mono (lD k HK z B b _ _ HZ4 A4.out.bld (by simp only [List.length_append]; show _ + 1 + _ + 1 + _≤_; omega) (A4.out.size hB)) ?_
 rintro e w5 ⟨rfl,ha⟩
 have A5:=hid (A4.out.trans ha)
 clear ha
 go_wp2_with fail
 refine bodyPost_end (results_none rfl _ _ _) rfl ?_
 exact ⟨rfl,by rw [E.out]; exact A5⟩
def chT (f g h : Fm) : Nat→List UInt8
 | 0 => []
 | 1 => [105,102,32] ++ f.text
 | 2 => [105,102,32] ++ f.text ++ [32,116,104,101,110,32] ++ g.text
 | _ => [105,102,32] ++ f.text ++ [32,116,104,101,110,32] ++ g.text ++ [32,101,108,115,101,32] ++ h.text
theorem pN (w : World) (o o' : Obj) : ((w.alloc o).alloc o').heap[w.heap.size]?=some o∧((w.alloc o).alloc o').heap[w.heap.size + 1]?=some o':=by
 constructor
 ·rw [Lib.alloc_old _ _ _ (by simp)]; exact Y7 w o
 ·have:=Y7 (w.alloc o) o'
  rw [show (w.alloc o).heap.size=w.heap.size + 1 by simp] at this
  exact this
theorem sP (f g k : Fm) (hf : L3 f) (hg : L3 g) (hk : L3 k) : L3 (.choice f g k):=by
 intro x B b l w hx hb hlen hB
 obtain ⟨v,y,z,rfl,hv,hy,hz⟩:=hx
 have E:=hid (show l ++ (Fm.choice f g k).text=l ++ chT f g k 3 by rw [Fm.text]; rfl)
 have hl : l.length + f.text.length + g.text.length + k.text.length + 15≤1099511627776:=by
  rw [Fm.text] at hlen
  simp only [List.length_append,List.length_cons,List.length_nil] at hlen
  omega
 clear hlen
 have hne : w.heap.size≠b:=by have:=hb.lt; omega
 have hne' : w.heap.size + 1≠b:=by have:=hb.lt; omega
 have A0:=hid (((Aft.start hb).alloc hB (.cells #[.iface f.ty v,.iface g.ty y,.iface k.ty z] 175)).alloc hB (.cells #[.string ⟨#[105,102,32]⟩,.string ⟨#[32,116,104,101,110,32]⟩,.string ⟨#[32,101,108,115,101,32]⟩] 9))
 have HB0:=hid (pN w (.cells #[.iface f.ty v,.iface g.ty y,.iface k.ty z] 175) (.cells #[.string ⟨#[105,102,32]⟩,.string ⟨#[32,116,104,101,110,32]⟩,.string ⟨#[32,101,108,115,101,32]⟩] 9))
 have HV:=hid hv
 have HY:=hid hy
 have HZ:=hid hz
 have HF:=hid hf
 have HG:=hid hg
 have HK:=hid hk
 clear hf hg hk hv hy hz hb
 have M1:=mt f v
 have eg1:=en f
 have M2:=mt g y
 have eg2:=en g
 have M3:=mt k z
 have eg3:=en k
 show Calls Tryz.prog 233 _ w _
 go_enter Tryz.func233,Tryz.ntmps233
 go_wp2_with fail
 go_loopw [8] (fun i wr => ∃ n : Nat,n≤3∧i=.int .i64 n∧Hid (Aft B b (l ++ chT f g k n) w wr)∧Hid (wr.heap[w.heap.size]?=some (.cells #[.iface f.ty v,.iface g.ty y,.iface k.ty z] 175))∧Hid (wr.heap[w.heap.size + 1]?=some (.cells #[.string ⟨#[105,102,32]⟩,.string ⟨#[32,116,104,101,110,32]⟩,.string ⟨#[32,101,108,115,101,32]⟩] 9))) (fun i _ => 3 - (intOf i).toNat)
 case atStart => exact ⟨0,by omega,rfl,by show Aft B b (l ++ []) w _; rw [List.append_nil]; exact A0,HB0.out.1,HB0.out.2⟩
 case round =>
  obtain ⟨n,hn,rfl,AR,HR,HR'⟩:=hrel
  clear A0 HB0
  by_cases hlt : n<3
  ·have d0 : wr.cell? ⟨w.heap.size,0,none⟩=some (.iface f.ty v):=by rw [Lib.cell_of_heap HR.out]; rfl
   have d1 : wr.cell? ⟨w.heap.size,1,none⟩=some (.iface g.ty y):=by rw [Lib.cell_of_heap HR.out]; rfl
   have d2 : wr.cell? ⟨w.heap.size,2,none⟩=some (.iface k.ty z):=by rw [Lib.cell_of_heap HR.out]; rfl
   have r0 : wr.cell? ⟨w.heap.size + 1,0,none⟩=some (.string ⟨#[105,102,32]⟩):=by rw [Lib.cell_of_heap HR'.out]; rfl
   have r1 : wr.cell? ⟨w.heap.size + 1,1,none⟩=some (.string ⟨#[32,116,104,101,110,32]⟩):=by rw [Lib.cell_of_heap HR'.out]; rfl
   have r2 : wr.cell? ⟨w.heap.size + 1,2,none⟩=some (.string ⟨#[32,101,108,115,101,32]⟩):=by rw [Lib.cell_of_heap HR'.out]; rfl
   have hn3 : n=0∨n=1∨n=2:=by omega
   rcases hn3 with rfl | rfl | rfl
   ·go_wp2_with fail
    refine Calls.mono (l7 B b _ ⟨#[105,102,32]⟩ _ AR.out.bld (by rw [List.length_append]; show _ + 0 + 3≤_; omega) (AR.out.size hB)) ?_
    rintro e w2 ⟨rfl,ha⟩
    have A2:=hid (AR.out.trans ha)
    have hb2:=ha.block HR hne (by decide)
    have hb2':=ha.block HR' hne' (by decide)
    clear ha d0 d1 d2 r0 r1 r2 AR HR HR'
    have d0 : w2.cell? ⟨w.heap.size,0,none⟩=some (.iface f.ty v):=by rw [Lib.cell_of_heap hb2]; rfl
    go_wp2_with fail
    refine Calls.mono (HF.out v B b _ _ (Fm.is.aft A2 HV) A2.out.bld (by simp only [List.length_append]; show _ + 0 + 3 + _≤_; omega) (A2.out.size hB)) ?_
    rintro e w3 ⟨rfl,ha⟩
    have A3:=hid (A2.out.trans ha)
    have hb3:=hid (ha.block hb2 hne (by decide))
    have hb3':=hid (ha.block hb2' hne' (by decide))
    clear ha d0
    go_wp2_with fail
    go_roundw
    case rel => exact ⟨1,by omega,by go_num,by show Aft B b (l ++ ([105,102,32] ++ f.text)) w _; have:=A3.out; simpa [chT] using this,hb3,hb3'⟩
    case measure => simp [intOf]
   ·go_wp2_with fail
    refine Calls.mono (l7 B b _ ⟨#[32,116,104,101,110,32]⟩ _ AR.out.bld (by simp only [List.length_append,chT,List.length_cons,List.length_nil]; show _ + 6≤_; omega) (AR.out.size hB)) ?_
    rintro e w2 ⟨rfl,ha⟩
    have A2:=hid (AR.out.trans ha)
    have hb2:=ha.block HR hne (by decide)
    have hb2':=ha.block HR' hne' (by decide)
    clear ha d0 d1 d2 r0 r1 r2 AR HR HR'
    have d1 : w2.cell? ⟨w.heap.size,1,none⟩=some (.iface g.ty y):=by rw [Lib.cell_of_heap hb2]; rfl
    go_wp2_with fail
    refine Calls.mono (HG.out y B b _ _ (Fm.is.aft A2 HY) A2.out.bld (by simp only [List.length_append,chT,List.length_cons,List.length_nil]; omega) (A2.out.size hB)) ?_
    rintro e w3 ⟨rfl,ha⟩
    have A3:=hid (A2.out.trans ha)
    have hb3:=hid (ha.block hb2 hne (by decide))
    have hb3':=hid (ha.block hb2' hne' (by decide))
    clear ha d1
    go_wp2_with fail
    go_roundw
    case rel => exact ⟨2,by omega,by go_num,by have:=A3.out; show Aft B b _ w _; simpa [chT] using this,hb3,hb3'⟩
    case measure => simp [intOf]
   ·go_wp2_with fail
    refine Calls.mono (l7 B b _ ⟨#[32,101,108,115,101,32]⟩ _ AR.out.bld (by simp only [List.length_append,chT,List.length_cons,List.length_nil]; show _ + 6≤_; omega) (AR.out.size hB)) ?_
    rintro e w2 ⟨rfl,ha⟩
    have A2:=hid (AR.out.trans ha)
    have hb2:=ha.block HR hne (by decide)
    have hb2':=ha.block HR' hne' (by decide)
    clear ha d0 d1 d2 r0 r1 r2 AR HR HR'
    have d2 : w2.cell? ⟨w.heap.size,2,none⟩=some (.iface k.ty z):=by rw [Lib.cell_of_heap hb2]; rfl
    go_wp2_with fail
    refine Calls.mono (HK.out z B b _ _ (Fm.is.aft A2 HZ) A2.out.bld (by simp only [List.length_append,chT,List.length_cons,List.length_nil]; omega) (A2.out.size hB)) ?_
    rintro e w3 ⟨rfl,ha⟩
    have A3:=hid (A2.out.trans ha)
    have hb3:=hid (ha.block hb2 hne (by decide))
    have hb3':=hid (ha.block hb2' hne' (by decide))
    clear ha d2
    go_wp2_with fail
    go_roundw
    case rel => exact ⟨3,by omega,by go_num,by have:=A3.out; show Aft B b _ w _; simpa [chT] using this,hb3,hb3'⟩
    case measure => simp [intOf]
  ·obtain rfl : n=3:=by omega
   go_wp2_with fail
   refine bodyPost_end (results_none rfl _ _ _) rfl ?_
   exact ⟨rfl,by rw [E.out]; exact AR⟩
def a2z (n : Nat) : List UInt8:=if n=0 then [40] else [44,32]
theorem rB (h : ByteArray) (ks : List Fm) (ih : ∀ (n : Nat) (hn : n<ks.length),L3 ks[n]) : L3 (.called h ks):=by
 intro x B b l w hx hb hlen hB
 obtain ⟨a,cap,rfl,hh,hkc,hcm,hks⟩:=hx
 have hm : ks.length≤9223372036854775807:=Nat.le_trans hkc hcm
 have E:=hid (show l ++ (Fm.called h ks).text=l ++ h.data.toList ++ Fm.texts true ks ++ [41] by rw [Fm.text]; simp)
 have hl : l.length + h.size + (Fm.texts true ks).length + 1≤1099511627776:=by
  rw [Fm.text] at hlen
  simp only [List.length_append,List.length_cons,List.length_nil,d7] at hlen
  omega
 clear hlen
 have hne : w.heap.size≠b:=by have:=hb.lt; omega
 have A0:=hid ((Aft.start hb).alloc hB (.cells #[.string h,.slice a ks.length cap] 149))
 have hbk:=Y7 w (.cells #[.string h,.slice a ks.length cap] 149)
 have HS:=hid (hks.alloc (.cells #[.string h,.slice a ks.length cap] 149))
 have IH:=hid ih
 clear ih hks hb
 show Calls Tryz.prog 119 _ w _
 go_enter Tryz.func119,Tryz.ntmps119
 go_wp2_with fail
 generalize hW : w.alloc (.cells #[.string h,.slice a ks.length cap] 149)=W1 at A0 hbk HS ⊢
 clear hW
 refine Calls.mono (l7 B b _ h _ A0.out.bld (by omega) (A0.out.size hB)) ?_
 rintro e w1 ⟨rfl,ha⟩
 have A1:=hid (A0.out.trans ha)
 have hb1:=ha.block hbk hne (by decide)
 have HS1:=hid (Fm.are.aft ha HS)
 clear ha A0 HS hbk
 have c1 : w1.cell? ⟨w.heap.size,1,none⟩=some (.slice a ks.length cap):=by rw [Lib.cell_of_heap hb1]; rfl
 clear hb1
 go_wp2_with fail
 clear c1
 go_loopw [13] (fun i wr => ∃ (n : Nat) (t : List UInt8),n≤ks.length∧i=.int .i64 n∧Hid (t ++ Fm.texts (decide (n=0)) (ks.drop n)=l ++ h.data.toList ++ Fm.texts true ks)∧Hid (Aft B b t w wr)∧Hid (Fm.are (· ≠ b) wr ks a 0)) (fun i _ => ks.length - (intOf i).toNat)
 case atStart => exact ⟨0,l ++ h.data.toList,by omega,rfl,rfl,A1,HS1⟩
 case round =>
  obtain ⟨n,t,hn,rfl,HI,AR,HR⟩:=hrel
  clear A1 HS1
  have hlen : t.length + (Fm.texts (decide (n=0)) (ks.drop n)).length + 1≤1099511627776:=by
   have:=congrArg List.length HI
   simp only [List.length_append,d7] at this
   omega
  by_cases hlt : n<ks.length
  ·obtain ⟨g,y,cur,fz,rfl,hgb,hg,hcur,hy⟩:=Fm.are.get ks 0 HR n hlt
   rw [Nat.zero_add] at hcur
   have S:=hid (vJ ks n hlt)
   have hsz : t.length + (a2z n).length + ks[n].text.length + 1≤1099511627776:=by
    rw [S.out] at hlen
    simp only [List.length_append] at hlen
    unfold a2z
    omega
   clear hlen
   have cg : wr.cell? ⟨g,n,none⟩=some (.iface ks[n].ty y):=by rw [Lib.cell_of_heap hg]; exact hcur
   have M:=mt ks[n] y
   have eg:=en ks[n]
   have AR2:=hid (AR.out.alloc hB (.cells #[.string ⟨#[40]⟩,.string ⟨#[44,32]⟩] 9))
   have HY:=hid (Fm.is.alloc hy (.cells #[.string ⟨#[40]⟩,.string ⟨#[44,32]⟩] 9))
   have HR2:=hid (HR.out.alloc (.cells #[.string ⟨#[40]⟩,.string ⟨#[44,32]⟩] 9))
   have hrow:=Y7 wr (.cells #[.string ⟨#[40]⟩,.string ⟨#[44,32]⟩] 9)
   have r0 : (wr.alloc (.cells #[.string ⟨#[40]⟩,.string ⟨#[44,32]⟩] 9)).cell? ⟨wr.heap.size,0,none⟩=some (.string ⟨#[40]⟩):=by rw [Lib.cell_of_heap hrow]; rfl
   have r1 : (wr.alloc (.cells #[.string ⟨#[40]⟩,.string ⟨#[44,32]⟩] 9)).cell? ⟨wr.heap.size,1,none⟩=some (.string ⟨#[44,32]⟩):=by rw [Lib.cell_of_heap hrow]; rfl
   clear hrow hy hg hcur
   have IHn:=hid (IH.out n hlt)
   generalize ks[n]=f at M eg hsz S HY cg IHn
   by_cases hn0 : n=0
   ·subst hn0
    have e0 : (a2z 0).length=1:=rfl
    have r0' : (wr.alloc (.cells #[.string ⟨#[40]⟩,.string ⟨#[44,32]⟩] 9)).cell? ⟨wr.heap.size,(min (0 : Int) 1).toNat,none⟩=some (.string ⟨#[40]⟩):=r0
    go_wp2_with fail
    refine Calls.mono (l7 B b t ⟨#[40]⟩ _ AR2.out.bld (by show _ + 1≤_; omega) (AR2.out.size hB)) ?_
    rintro e w2 ⟨rfl,ha⟩
    have A2:=hid (AR2.out.trans ha)
    have HY2:=hid (Fm.is.aft ha HY)
    have HR3:=hid (Fm.are.aft ha HR2)
    clear ha r0 r1 r0'
    go_wp2_with fail
    refine Calls.mono (IHn.out y B b _ _ HY2 A2.out.bld (by rw [List.length_append]; show _ + 1 + _≤_; omega) (A2.out.size hB)) ?_
    rintro e w3 ⟨rfl,ha⟩
    have A3:=hid (A2.out.trans ha)
    have HR4:=hid (Fm.are.aft ha HR3)
    clear ha
    go_wp2_with fail
    go_roundw
    case rel => exact ⟨1,_,by omega,by go_num,by show _=_; rw [← HI.out,S.out]; simp,A3,HR4⟩
    case measure => simp [intOf]; omega
   ·have e0 : (a2z n).length=2:=by unfold a2z; rw [if_neg hn0]; rfl
    have hmin : min (n : Int) 1=1:=by omega
    have r1' : (wr.alloc (.cells #[.string ⟨#[40]⟩,.string ⟨#[44,32]⟩] 9)).cell? ⟨wr.heap.size,(min (n : Int) 1).toNat,none⟩=some (.string ⟨#[44,32]⟩):=by rw [hmin]; exact r1
    have m1 : (0 : Int)≤min (n : Int) 1:=by omega
    have m2 : min (n : Int) 1<2:=by omega
    clear hmin
    go_wp2_with fail
    refine Calls.mono (l7 B b t ⟨#[44,32]⟩ _ AR2.out.bld (by show _ + 2≤_; omega) (AR2.out.size hB)) ?_
    rintro e w2 ⟨rfl,ha⟩
    have A2:=hid (AR2.out.trans ha)
    have HY2:=hid (Fm.is.aft ha HY)
    have HR3:=hid (Fm.are.aft ha HR2)
    clear ha r0 r1 r1'
    go_wp2_with fail
    refine Calls.mono (IHn.out y B b _ _ HY2 A2.out.bld (by rw [List.length_append]; show _ + 2 + _≤_; omega) (A2.out.size hB)) ?_
    rintro e w3 ⟨rfl,ha⟩
    have A3:=hid (A2.out.trans ha)
    have HR4:=hid (Fm.are.aft ha HR3)
    clear ha
    go_wp2_with fail
    go_roundw
    case rel => exact ⟨n + 1,_,by omega,by go_num,by show _=_; rw [← HI.out,S.out,if_neg hn0]; simp,A3,HR4⟩
    case measure => simp [intOf]; omega
  ·have hz : ks.drop n=[]:=List.drop_of_length_le (by omega)
   have HF : Hid (t=l ++ h.data.toList ++ Fm.texts true ks):=by
    show _=_
    have:=HI.out
    rw [hz,Fm.texts,List.append_nil] at this
    exact this
   go_wp2_with fail
   refine Calls.mono (l7 B b t ⟨#[41]⟩ _ AR.out.bld (by show _ + 1≤_; omega) (AR.out.size hB)) ?_
   rintro e w2 ⟨rfl,ha⟩
   have A2:=hid (AR.out.trans ha)
   clear ha
   go_wp2_with fail
   refine bodyPost_end (results_none rfl _ _ _) rfl ?_
   exact ⟨rfl,by rw [E.out,← HF.out]; exact A2⟩
theorem a3I (N : Nat) : ∀ f : Fm,SizeOf.sizeOf f<N→L3 f:=by
 induction N with
 | zero => intro f h; omega
 | succ N ih =>
 intro f h
 cases f with
 | leaf s => exact a0t s
 | called hd ks => exact rB hd ks fun n hn => ih _ (xB hn h)
 | unary s k => exact uU s k (ih s (by simp only [Fm.unary.sizeOf_spec] at h; omega)) (ih k (by simp only [Fm.unary.sizeOf_spec] at h; omega))
 | binary a s k => exact uE a s k (ih a (by simp only [Fm.binary.sizeOf_spec] at h; omega)) (ih s (by simp only [Fm.binary.sizeOf_spec] at h; omega)) (ih k (by simp only [Fm.binary.sizeOf_spec] at h; omega))
 | choice a s k => exact sP a s k (ih a (by simp only [Fm.choice.sizeOf_spec] at h; omega)) (ih s (by simp only [Fm.choice.sizeOf_spec] at h; omega)) (ih k (by simp only [Fm.choice.sizeOf_spec] at h; omega))
theorem xO (f : Fm) : L3 f:=a3I _ f (Nat.lt_succ_self _)
end
end Go.Proofs.YtppcfebnaieciaaGreatDoor
