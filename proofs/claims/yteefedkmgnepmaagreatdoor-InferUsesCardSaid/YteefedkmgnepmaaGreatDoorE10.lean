/-
  Laws that the proof rests on.
-/
import Derived.Test.YteefedkmgnepmaaGreatDoorE06
import Derived.WalkKit
import Derived.Lib.Hide
import Derived.Deep.AppendLies
import Derived.Lib.LaidTab
import Derived.Test.YteefedkmgnepmaaGreatDoorE02
import Derived.Test.YteefedkmgnepmaaGreatDoorE04
import Derived.Shelf.RegionOpenPlain
import Derived.Lib.CutLaws
import Derived.Shelf.Strings.SlTrimAscii
import Derived.Shelf.Abstract
namespace Go.Proofs.YteefedkmgnepmaaGreatDoor
set_option maxRecDepth 100000
set_option maxHeartbeats 16000000
section
open Go.RowKit
def bK (t : Tk) : List Value:=[.int .i64 t.kind,.string ⟨t.text.toArray⟩,.int .i64 t.n,.int .i64 t.pos]
def F4 (ts : List Tk) : List Value:=ts.flatMap bK
theorem a5o (ts : List Tk) (t : Tk) : F4 (ts ++ [t])=F4 ts ++ bK t:=by unfold F4; simp
theorem a1o : ∀ (ts : List Tk) (j : Nat) (hj : j<ts.length) (i : Nat) (_ : i<4),(F4 ts)[j * 4 + i]?=(bK ts[j])[i]?
 | t :: ts,0,_,i,hi => by
   unfold F4
   rw [List.flatMap_cons,Nat.zero_mul,Nat.zero_add,List.getElem?_append_left (by exact hi)]
   rfl
 | t :: ts,j + 1,hj,i,hi => by
   have:=a1o ts j (by simpa using hj) i hi
   unfold F4 at this ⊢
   rw [List.flatMap_cons,List.getElem?_append_right (by show 4≤_; omega)]
   rw [show (j + 1) * 4 + i - (bK t).length=j * 4 + i by show (j + 1) * 4 + i - 4=_; omega]
   exact this
def a0R (W : World) (b off : Nat) (ts : List Tk) : Prop:=∀ j (hj : j<ts.length),W.cell? ⟨b,off + j * 4,none⟩=some (.int .i64 ts[j].kind)∧W.cell? ⟨b,off + j * 4 + 1,none⟩=some (.string ⟨ts[j].text.toArray⟩)∧W.cell? ⟨b,off + j * 4 + 2,none⟩=some (.int .i64 ts[j].n)∧W.cell? ⟨b,off + j * 4 + 3,none⟩=some (.int .i64 ts[j].pos)
theorem a0R.below {n₀ : Nat} {W W' : World} {b off : Nat} {ts : List Tk} (h : a0R W b off ts) (hb : Below n₀ W W') (hl : b<n₀) : a0R W' b off ts:=fun j hj => by
 obtain ⟨h0,h1,h2,h3⟩:=h j hj
 exact ⟨(hb.cell (p:=⟨b,off + j * 4,none⟩) hl).trans h0,(hb.cell (p:=⟨b,off + j * 4 + 1,none⟩) hl).trans h1,(hb.cell (p:=⟨b,off + j * 4 + 2,none⟩) hl).trans h2,(hb.cell (p:=⟨b,off + j * 4 + 3,none⟩) hl).trans h3⟩
theorem a0R.of_row {base T : Nat} {W : World} {g cap : Nat} {ts : List Tk} (h : W.ownsRow base T 4 (.slice (some ⟨g,0,none⟩) ts.length cap) ts.length (F4 ts)) : a0R W g 0 ts:=by
 have hc:=h.cells (g:=g) rfl
 intro j hj
 have q : ∀ i,i<4→∀ u,(bK ts[j])[i]?=some u→W.cell? ⟨g,0 + j * 4 + i,none⟩=some u:=fun i hi u hu => by
  have:=hc (j * 4 + i) u (by rw [a1o ts j hj i hi]; exact hu)
  rw [Go.WideShapes.add_plain] at this
  rw [Nat.add_assoc]
  exact this
 exact ⟨q 0 (by decide) _ rfl,q 1 (by decide) _ rfl,q 2 (by decide) _ rfl,q 3 (by decide) _ rfl⟩
theorem pA (W : World) (T : TypeId) (v0 v1 v2 v3 : Value) : ∀ j u,[v0,v1,v2,v3][j]?=some u→(W.alloc (.cells #[v0,v1,v2,v3] T)).cell? ((⟨W.heap.size,0,none⟩ : Addr).add j)=some u:=by
 intro j u h
 rw [Go.WideShapes.add_plain,Nat.zero_add]
 have h' : (W.alloc (.cells #[v0,v1,v2,v3] T)).heap[W.heap.size]?=some (.cells #[v0,v1,v2,v3] T (0,0)):=by show (W.heap.push _)[W.heap.size]?=_; simp
 rw [World.cell?]
 simp only [h']
 match j,h with
 | 0,h => exact h
 | 1,h => exact h
 | 2,h => exact h
 | 3,h => exact h
theorem a5a (t : Tk) : ∀ u∈bK t,u.oneCell'=true:=by
 intro u hu
 unfold bK at hu
 simp only [List.mem_cons,List.not_mem_nil,or_false] at hu
 rcases hu with rfl | rfl | rfl | rfl <;> rfl
theorem s7 {W W' : World} {B T k : Nat} {v : Value} {n : Nat} {xs : List Value} (h : W.ownsRow B T k v n xs) (hb : Below W.heap.size W W') : W'.ownsRow B T k v n xs :=
 h.kept (row:=none) ⟨hb.os,hb.tape,hb.output,hb.size,fun i hi _ => hb.block i hi⟩ (by cases hv : v.ownBlock <;> simp)
theorem nZ {T : TypeId} {B : Nat} {w W w5 : World} {v : Value} {ts : List Tk} {t : Tk} {g cap' : Nat} (hB : Below B w W) (how : W.ownsRow B T 4 v ts.length (F4 ts))
 (hown' : w5.ownsRow B T 4 (.slice (some ⟨g,0,none⟩) (ts.length + 1) cap') (ts.length + 1) (F4 ts ++ bK t)) (hgrow' : W.grownBy w5 v.ownBlock) (hBW : B≤W.heap.size) :
 Below B w w5∧w5.ownsRow B T 4 (.slice (some ⟨g,0,none⟩) (ts ++ [t]).length cap') (ts ++ [t]).length (F4 (ts ++ [t])):=by
 refine ⟨hB.grown hgrow' hBW (fun r e => (how.lt r e).1),?_⟩
 rw [a5o,List.length_append]
 exact hown'
end
section
open Lib (hid)
open Go.RowKit Go.Shelf
def Env (w : World) : Prop:=∃ m,w.cell? ⟨2,0,none⟩=some (.int .i64 m)
theorem Env.size {w : World} (h : Env w) : 2<w.heap.size:=by
 obtain ⟨m,hm⟩:=h
 rcases Nat.lt_or_ge 2 w.heap.size with g | g
 ·exact g
 ·have : w.heap[2]?=none:=Array.getElem?_eq_none g
  simp [World.cell?,this] at hm
theorem Env.below {w w' : World} (h : Env w) (hb : Below w.heap.size w w') : Env w':=by
 have hs:=h.size
 obtain ⟨m,hm⟩:=h
 exact ⟨m,(hb.cell (p:=⟨2,0,none⟩) hs).trans hm⟩
theorem fX (w : World) (n : Nat) : Below w.heap.size w (w.drewN n):=⟨rfl,rfl,rfl,Nat.le_refl _,fun _ _ => rfl⟩
theorem yD (s cut : ByteArray) (w : World) (hs : s.size≤maxLen) (hc : cut.size<4294967281) (ha : ∀ (j : Nat) (b : UInt8),cut.data.toList[j]?=some b→b.toNat<128) :
 Calls Tryz.prog 149 #[.string s,.string cut] w fun e w' => e=.returned (.string ⟨(Lib.trimS s.data.toList cut.data.toList).toArray⟩)∧Below w.heap.size w w' :=
 Any.strings_Trim_laid Tryz.lays160 (by kernel_rfl) s cut w hs hc ha
theorem lZ : ∀ (j : Nat) (b : UInt8),zU.data.toList[j]?=some b→b.toNat<128:=ascii_of_all (by decide)
theorem a3e {s : ByteArray} (h : ¬ 0<s.size) : s=⟨#[]⟩:=by
 cases s with
 | mk d => simp only [ByteArray.mk.injEq]; exact Array.eq_empty_of_size_eq_zero (by have : d.size=(ByteArray.mk d).size:=rfl; omega)
theorem a4o {s : ByteArray} (h : 0<s.size) : ¬ s.toList=[]∧s.toList.isEmpty=false:=by
 have : s.toList≠[]:=fun e => by rw [Lib.toList_data] at e; have:=f8 s; rw [e] at this; simp at this; omega
 exact ⟨this,by simpa using this⟩
theorem a32 (s : ByteArray) (w : World) (hs : s.size≤maxLen) :
 Calls Tryz.prog 56 #[.string s,.string ⟨#[46]⟩] w fun e w' => e=.returned (.tuple #[.string ⟨(Lib.cut s.data.toList [46]).1.toArray⟩,.string ⟨(Lib.cut s.data.toList [46]).2.1.toArray⟩,.bool (Lib.cut s.data.toList [46]).2.2])∧Below w.heap.size w w':=by
 have hm : s.size≤9223372036854775807:=hs
 have mixed : Tryz.prog.follows .mixedOrders=true:=by kernel_rfl
 have hio : Lib.indexByte s.data.toList 46=Lib.indexB s ⟨#[46]⟩:=(Lib.index_one _ _).symm
 rcases Lib.indexB_cases s ⟨#[46]⟩ with hix | ⟨i,hix,hroom⟩
 ·obtain ⟨e1,e2,e3⟩:=Lib.cutB_miss s ⟨#[46]⟩ hix
  replace e1 : (⟨(Lib.cut s.data.toList [46]).1.toArray⟩ : ByteArray)=s:=e1
  replace e2 : (⟨(Lib.cut s.data.toList [46]).2.1.toArray⟩ : ByteArray)=ByteArray.empty:=e2
  replace e3 : (Lib.cut s.data.toList [46]).2.2=false:=e3
  rw [e1,e2,e3]
  clear e1 e2 e3
  go_enter Tryz.func56,Tryz.ntmps56
  go_wp2_with (go_at_call 87; refine (Tryz.stringslite_Index_one s 46 _).mono ?_; rintro e w' ⟨rfl,rfl⟩; rw [hio,hix])
  go_ret3
  exact ⟨rfl,Below.refl _ _⟩
 ·obtain ⟨e1,e2,e3⟩:=Lib.cutB_hit s ⟨#[46]⟩ i hix
  replace e1 : (⟨(Lib.cut s.data.toList [46]).1.toArray⟩ : ByteArray)=s.extract 0 i:=e1
  replace e2 : (⟨(Lib.cut s.data.toList [46]).2.1.toArray⟩ : ByteArray)=s.extract (i + 1) s.size:=e2
  replace e3 : (Lib.cut s.data.toList [46]).2.2=true:=e3
  rw [e1,e2,e3]
  clear e1 e2 e3
  replace hroom : i + 1≤s.size:=hroom
  have c1 : (0 : Int)≤↑i:=by omega
  have c2 : (↑i : Int)≤↑s.size:=by omega
  have c3 : (0 : Int)≤↑i + 1:=by omega
  have c4 : (↑i + 1 : Int)≤↑s.size:=by omega
  go_enter Tryz.func56,Tryz.ntmps56
  go_wp2_with (go_at_call 87; refine (Tryz.stringslite_Index_one s 46 _).mono ?_; rintro e w' ⟨rfl,rfl⟩; rw [hio,hix])
  go_region_o
  go_wp2
  go_ret3
  exact ⟨rfl,fX _ 1⟩
theorem a6H (s : ByteArray) (w : World) (hs : s.size≤maxLen) :
 Calls Tryz.prog 30 #[.string s,.string ⟨#[46]⟩] w fun e w' => e=.returned (.tuple #[.string ⟨(Lib.cut s.data.toList [46]).1.toArray⟩,.string ⟨(Lib.cut s.data.toList [46]).2.1.toArray⟩,.bool (Lib.cut s.data.toList [46]).2.2])∧Below w.heap.size w w':=by
 go_enter Tryz.func30,Tryz.ntmps30
 go_wp2_with (go_at_call 56; refine (a32 s _ hs).mono ?_; rintro e w' ⟨rfl,hb⟩)
 go_ret3
 exact ⟨rfl,hb⟩
def inR (n : Nat) : Bool:=decide (97≤n) && decide (n≤122) || decide (48≤n) && decide (n≤57) || decide (n=95)
theorem sT (c : UInt8) : inR c.toNat=O3 c:=by
 have:=R8 (p:=fun c => inR c.toNat == O3 c) (by decide +kernel) c
 simpa using this
theorem tC (s : ByteArray) : ∀ (f pos : Nat),s.size - pos≤f→(Lib.idxFuncFrom (fun n => !inR n) true s f pos<0↔(s.data.toList.drop pos).all O3=true)
 | 0,pos,h => by
   rw [eO (by omega)]
   simp [Lib.idxFuncFrom]
 | f + 1,pos,h => by
   unfold Lib.idxFuncFrom
   by_cases hp : pos<s.size
   ·rw [if_pos hp,T3 hp,List.all_cons]
    by_cases ha : (s[pos]'hp).toNat<128
    ·rw [decode_ascii s pos hp ha]
     simp only [sT]
     cases hi : O3 s[pos] with
     | false => simp
     | true =>
       have:=tC s f (pos + 1) (by omega)
       simpa using this
    ·have hd:=(decode_high s pos hp (by omega)).1
     have hr : inR (Utf8.decode s pos).1=false:=by unfold inR; simp; omega
     have hi : O3 s[pos]=false:=by
      rw [← sT]; unfold inR; simp; omega
     simp only [hr,hi]
     simp
   ·rw [if_neg hp,eO (by omega)]
    simp
theorem a5E (s : ByteArray) : Lib.idxFunc (fun n => !inR n) true s<0↔s.data.toList.all O3=true:=tC s s.size 0 (by omega)
theorem zQ (n : Nat) (w : World) : Calls Tryz.prog 106 #[.int .i32 n] w fun e w' => e=.returned (.bool (inR n))∧w=w':=by
 go_enter Tryz.func106,Tryz.ntmps106
 go_wp2
 all_goals go_ret
 all_goals exact ⟨D7 (by unfold inR; rw [Bool.eq_iff_iff]; simp; omega),rfl⟩
theorem uI (n : Nat) (w : World) : Calls Tryz.prog 105 #[.int .i32 n] w fun e w' => e=.returned (.bool (!inR n))∧w=w':=by
 go_enter Tryz.func105,Tryz.ntmps105
 go_wp2_with (go_at_call 106; refine (zQ n _).mono ?_; rintro e w' ⟨rfl,rfl⟩)
 go_ret
 exact ⟨rfl,rfl⟩
theorem a5z (s : ByteArray) (w : World) : Calls Tryz.prog 104 #[.string s,.func (.func 105) #[] #[]] w fun e w' => e=.returned (.int .i64 (Lib.idxFunc (fun n => !inR n) true s))∧Below w.heap.size w w' :=
 Tryz.strings_IndexFunc 105 #[] (enters_of Tryz.func105 (by kernel_rfl) rfl) (fun n => !inR n) s w fun W x _ => (uI x W).mono fun e w' ⟨h,h'⟩ => ⟨h,0,h'.symm⟩
theorem dM (s : ByteArray) (w : World) (hs : s.size≤maxLen) :
 Calls Tryz.prog 78 #[.string s] w fun e w' => e=.returned (.bool (p6 s.data.toList))∧Below w.heap.size w w':=by
 have hm:=hs
 unfold maxLen at hm
 by_cases h0 : ¬ 0<s.size
 ·rw [a3e h0]
  go_enter Tryz.func78,Tryz.ntmps78
  go_wp2
  go_ret
  exact ⟨rfl,Below.refl _ _⟩
 have h0 : 0<s.size:=by omega
 obtain ⟨e1,e2⟩:=a4o h0
 have hh:=hid (Y4 h0)
 have hl:=hid (f8 s)
 by_cases h1 : ¬ s.size≤24
 ·have e:=hid (show p6 s.data.toList=false by unfold p6; rw [hl.out,decide_eq_false (by omega)]; rfl)
  have h1 : 24<s.size:=by omega
  go_enter Tryz.func78,Tryz.ntmps78
  go_wp2
  go_ret
  exact ⟨D7 e.out.symm,Below.refl _ _⟩
 have h1 : s.size≤24:=by omega
 by_cases h2 : (s[0].toNat : Int)<97
 ·have e:=hid (show p6 s.data.toList=false by unfold p6; rw [hh.out,decide_eq_false (show ¬ (97 : Int)≤(s[0].toNat : Int) by omega)]; simp)
  go_enter Tryz.func78,Tryz.ntmps78
  go_wp2
  go_ret
  exact ⟨D7 e.out.symm,Below.refl _ _⟩
 by_cases h3 : 122<(s[0].toNat : Int)
 ·have e:=hid (show p6 s.data.toList=false by unfold p6; rw [hh.out,decide_eq_false (show ¬ (s[0].toNat : Int)≤122 by omega)]; simp)
  go_enter Tryz.func78,Tryz.ntmps78
  go_wp2
  go_ret
  exact ⟨D7 e.out.symm,Below.refl _ _⟩
 ·have e:=hid (show p6 s.data.toList=decide (Lib.idxFunc (fun n => !inR n) true s<0) by
   unfold p6; rw [hh.out,hl.out,decide_eq_true (show s.size≤24 by omega),decide_eq_true (show (97 : Int)≤(s[0].toNat : Int) by omega),decide_eq_true (show (s[0].toNat : Int)≤122 by omega),Bool.eq_iff_iff,decide_eq_true_eq,a5E]; rfl)
  go_enter Tryz.func78,Tryz.ntmps78
  go_wp2_with (go_at_call 104; refine (a5z s _).mono ?_; rintro e w' ⟨rfl,hb⟩)
  go_ret
  exact ⟨D7 e.out.symm,hb⟩
theorem bS (s : ByteArray) (w : World) (hs : s.size≤maxLen) (he : Env w) :
 Calls Tryz.prog 47 #[.string s] w fun e w' => e=.returned (.bool (l9 s.data.toList))∧Below w.heap.size w w':=by
 have hm:=hs
 unfold maxLen at hm
 cases hn : p6 s.data.toList
 ·have E:=hid (show l9 s.data.toList=false by unfold l9; rw [hn]; rfl)
  go_enter Tryz.func47,Tryz.ntmps47
  go_wp2_with (first | (go_at_call 78; refine (dM s _ hs).mono ?_; rintro e w' ⟨rfl,hb⟩; rw [hn]))
  go_ret
  exact ⟨D7 E.out.symm,hb⟩
 ·have E:=hid (show l9 s.data.toList=!X3 s.data.toList by unfold l9; rw [hn]; rfl)
  have hz : s.size≤24:=by have:=qK hn; rw [f8] at this; exact this
  have C:=hid (qW hn)
  go_enter Tryz.func47,Tryz.ntmps47
  go_wp2_with (first | (go_at_call 78; refine (dM s _ hs).mono ?_; rintro e w1 ⟨rfl,hb1⟩; rw [hn]; obtain ⟨m,hm'⟩:=he.below hb1) | (go_at_call 79; refine (Tryz.strings_Contains _ _ m _ (by decide) hm').mono ?_; rintro e w' ⟨rfl,rfl⟩))
  go_ret
  exact ⟨D7 (by rw [E.out,← C.out]; rfl),hb1⟩
theorem a3n (s : ByteArray) : (⟨(Lib.cut s.data.toList [46]).1.toArray⟩ : ByteArray).size≤s.size∧(⟨(Lib.cut s.data.toList [46]).2.1.toArray⟩ : ByteArray).size≤s.size:=by
 have hl:=f8 s
 show (Lib.cut s.data.toList [46]).1.toArray.size≤s.size∧(Lib.cut s.data.toList [46]).2.1.toArray.size≤s.size
 simp only [List.size_toArray]
 unfold Lib.cut
 split
 ·simp only [List.length_take,List.length_drop]; omega
 ·simp
theorem pC (s : ByteArray) (w : World) (hs : s.size≤maxLen) (he : Env w) :
 Calls Tryz.prog 109 #[.string s] w fun e w' => e=.returned (.bool (eX s.data.toList))∧Below w.heap.size w w':=by
 obtain ⟨z1,z2⟩:=a3n s
 have E:=hid (show eX s.data.toList=(l9 (Lib.cut s.data.toList [46]).1 && (!(Lib.cut s.data.toList [46]).2.2 || l9 (Lib.cut s.data.toList [46]).2.1)) from rfl)
 cases h1 : l9 (Lib.cut s.data.toList [46]).1
 case' true => cases h2 : (Lib.cut s.data.toList [46]).2.2
 all_goals
  go_enter Tryz.func109,Tryz.ntmps109
  go_wp2_with fail
  refine Calls.mono (a6H s w hs) ?_
  rintro e w1 ⟨rfl,hb1⟩
  have he1:=hid (he.below hb1)
  have HB:=hid hb1
  clear hb1
  (try rw [h2])
  go_wp2_with fail
  refine Calls.mono (bS _ _ (Nat.le_trans z1 hs) he1) ?_
  rintro e w2 ⟨rfl,hb2⟩
  rw [show l9 ({ data:=(Lib.cut s.data.toList [46]).1.toArray } : ByteArray).data.toList=_ from h1]
  have he2:=hid (he1.out.below hb2)
  have HC:=hid (HB.out.trans (hb2.mono HB.out.size))
  clear hb2
  go_wp2_with fail
 ·go_ret
  exact ⟨D7 (by rw [E.out,h1,h2]; rfl),HC⟩
 ·refine Calls.mono (bS _ _ (Nat.le_trans z2 hs) he2) ?_
  rintro e w3 ⟨rfl,hb3⟩
  have HD:=hid (HC.out.trans (hb3.mono HC.out.size))
  clear hb3
  go_wp2_with fail
  go_ret
  exact ⟨D7 (by rw [E.out,h1,h2]; rfl),HD⟩
 ·go_ret
  exact ⟨D7 (by rw [E.out,h1]; rfl),HC⟩
theorem zZ (s : ByteArray) (w : World) (hs : s.size≤maxLen) :
 Calls Tryz.prog 130 #[.string s] w fun e w' => e=.returned (.bool (oA s.data.toList))∧Below w.heap.size w w':=by
 have hm:=hs
 unfold maxLen at hm
 have hl:=hid (f8 s)
 by_cases h1 : s.size=3
 ·have e:=hid (show oA s.data.toList=(Lib.trimS s.data.toList zU.data.toList).isEmpty by unfold oA; rw [hl.out,decide_eq_true h1,a0z]; rfl)
  go_enter Tryz.func130,Tryz.ntmps130
  go_wp2_with (go_at_call 149; refine (yD _ _ _ hs (by decide) lZ).mono ?_; rintro e w' ⟨rfl,hb⟩)
  go_ret
  exact ⟨D7 e.out.symm,hb⟩
 ·have e:=hid (show oA s.data.toList=false by unfold oA; rw [hl.out,decide_eq_false h1]; rfl)
  go_enter Tryz.func130,Tryz.ntmps130
  go_wp2_with (go_at_call 149; refine (yD _ _ _ hs (by decide) lZ).mono ?_; rintro e w' ⟨rfl,hb⟩)
  go_ret
  exact ⟨D7 e.out.symm,Below.refl _ _⟩
end
section
open Lib (hid)
open Go.RowKit Go.Shelf
def bP (l : List UInt8) : Value:=.string ⟨l.toArray⟩
theorem qC (w : World) (L : List (List UInt8)) (t : TypeId) (k : Nat) (hk : k<L.length) : (w.alloc (.cells (L.map bP).toArray t)).cell? ⟨w.heap.size,k,none⟩=some (bP L[k]):=by
 have h : (w.alloc (.cells (L.map bP).toArray t)).heap[w.heap.size]?=some (.cells (L.map bP).toArray t):=by show (w.heap.push _)[w.heap.size]?=_; simp
 rw [Lib.cell_of_heap h]
 simp [hk]
theorem a0g (w : World) : Calls Tryz.prog 133 #[] w fun e w' => e=.returned (.slice (some ⟨w.heap.size,0,none⟩) 13 13)∧w'=w.alloc (.cells (R9.map bP).toArray 9):=by
 go_enter Tryz.func133,Tryz.ntmps133
 go_wp2
 go_ret
 exact ⟨rfl,rfl⟩
theorem a7O {s : ByteArray} {l : List UInt8} (h : l≠s.data.toList) : ¬ (⟨l.toArray⟩ : ByteArray).toList=s.toList:=by
 rw [Lib.toList_data,Lib.toList_data]
 exact h
theorem a6k {s : ByteArray} {l : List UInt8} (h : l≠s.data.toList) : ((⟨l.toArray⟩ : ByteArray).toList == s.toList)=false:=beq_eq_false_iff_ne.2 (a7O h)
theorem a7M {s : ByteArray} {l : List UInt8} (h : l=s.data.toList) : s=⟨l.toArray⟩:=by
 subst h; cases s; simp
theorem a63 {L : List (List UInt8)} {l : List UInt8} {k : Nat} (hk : k<L.length) (h : L[k]=l) : L.contains l=true:=by
 rw [List.contains_iff_mem,← h]; exact List.getElem_mem _
theorem a7J {L : List (List UInt8)} {l : List UInt8} (h : ∀ j (hj : j<L.length),L[j]≠l) : L.contains l=false:=by
 rw [Bool.eq_false_iff]
 intro e
 obtain ⟨j,hj,e2⟩:=List.getElem_of_mem (List.contains_iff_mem.1 e)
 exact h j hj e2
theorem mD (s : ByteArray) (w : World) : Calls Tryz.prog 116 #[.string s] w fun e w' => e=.returned (.bool (X3 s.data.toList))∧Below w.heap.size w w':=by
 have hc : Hid (∀ (k : Nat) (hk : k<R9.length),(w.alloc (.cells (R9.map bP).toArray 9)).cell? ⟨w.heap.size,k,none⟩=some (bP R9[k])):=qC w R9 _
 have HB:=hid (a7 w (.cells (R9.map bP).toArray 9))
 go_enter Tryz.func116,Tryz.ntmps116
 go_wp2_with (go_at_call 133; refine (a0g _).mono ?_; rintro e w' ⟨rfl,rfl⟩)
 generalize (w.alloc (.cells (R9.map bP).toArray 9))=W1 at hc HB ⊢
 go_loop [4] (fun i => ∃ k : Nat,k≤13∧i=.int .i64 k∧Hid (∀ j (hj : j<R9.length),j<k→R9[j]≠s.data.toList)) (fun i => 13 - (intOf i).toNat)
 case atStart => exact ⟨0,by omega,rfl,fun j hj h => by omega⟩
 case round =>
  obtain ⟨k,hk,rfl,HI⟩:=hrel
  by_cases hlt : k<13
  ·have c:=hc.out k hlt
   by_cases he : R9[k]'hlt=s.data.toList
   ·have F:=hid (show X3 s.data.toList=true from a63 hlt he)
    have e1:=a7M he
    unfold bP at c
    rw [← e1] at c
    clear e1 he
    go_wp2
    go_ret
    exact ⟨D7 F.out.symm,HB⟩
   ·have e1:=a6k he
    unfold bP at c
    have HE:=hid he
    clear he
    generalize (⟨(R9[k]'hlt).toArray⟩ : ByteArray)=x at c e1
    go_wp2
    go_round
    case rel =>
     refine ⟨k + 1,by omega,by go_num,fun j hj h => ?_⟩
     by_cases ej : j=k
     ·subst ej; exact HE
     ·exact HI.out j hj (by omega)
    case measure => simp [intOf]; omega
  ·have F:=hid (show X3 s.data.toList=false from a7J fun j hj => HI.out j hj (by have : j<13:=hj; omega))
   go_wp2
   go_ret
   exact ⟨D7 F.out.symm,HB⟩
end
section
open Lib (hid)
open Go.RowKit Go.Shelf
def Fm.ty : Fm→TypeId
 | .leaf _ => 134
 | .called _ _ => 133
 | .unary _ _ => 156
 | .binary _ _ _ => 158
 | .choice _ _ _ => 154
def Fm.fn : Fm→Nat
 | .leaf _ => 191
 | .called _ _ => 85
 | .unary _ _ => 193
 | .binary _ _ _ => 195
 | .choice _ _ _ => 192
mutual
def Fm.is (av : Nat→Prop) (W : World) : Fm→Value→Prop
 | .leaf s,x => x=.string s∧s.size≤maxLen
 | .called h ks,x => ∃ a cap,x=.agg #[.string h,.slice a ks.length cap]∧h.size≤maxLen∧ks.length≤cap∧cap≤maxLen∧Fm.are av W ks a 0
 | .unary s k,x => ∃ y z,x=.agg #[.iface s.ty y,.iface k.ty z]∧Fm.is av W s y∧Fm.is av W k z
 | .binary a s b,x => ∃ y u z,x=.agg #[.iface a.ty y,.iface s.ty u,.iface b.ty z]∧Fm.is av W a y∧Fm.is av W s u∧Fm.is av W b z
 | .choice a b c,x => ∃ y u z,x=.agg #[.iface a.ty y,.iface b.ty u,.iface c.ty z]∧Fm.is av W a y∧Fm.is av W b u∧Fm.is av W c z
def Fm.are (av : Nat→Prop) (W : World) : List Fm→Option Addr→Nat→Prop
 | [],_,_ => True
 | k :: ks,a,i => (∃ g y cur fz,a=some ⟨g,0,none⟩∧av g∧W.heap[g]?=some (.cells cur 129 fz)∧cur[i]?=some (.iface k.ty y)∧Fm.is av W k y)∧Fm.are av W ks a (i + 1)
end
mutual
theorem Fm.is.kept {av av' : Nat→Prop} {W W' : World} (h : ∀ g cur fz,av g→W.heap[g]?=some (.cells cur 129 fz)→av' g∧W'.heap[g]?=some (.cells cur 129 fz)) : ∀ (f : Fm) {x : Value},f.is av W x→f.is av' W' x
 | .leaf _,_,hx => hx
 | .called _ ks,_,⟨a,cap,e,h1,h2,h3,h4⟩ => ⟨a,cap,e,h1,h2,h3,Fm.are.kept h ks h4⟩
 | .unary s k,_,⟨y,z,e,h1,h2⟩ => ⟨y,z,e,Fm.is.kept h s h1,Fm.is.kept h k h2⟩
 | .binary a s b,_,⟨y,u,z,e,h1,h2,h3⟩ => ⟨y,u,z,e,Fm.is.kept h a h1,Fm.is.kept h s h2,Fm.is.kept h b h3⟩
 | .choice a s b,_,⟨y,u,z,e,h1,h2,h3⟩ => ⟨y,u,z,e,Fm.is.kept h a h1,Fm.is.kept h s h2,Fm.is.kept h b h3⟩
theorem Fm.are.kept {av av' : Nat→Prop} {W W' : World} (h : ∀ g cur fz,av g→W.heap[g]?=some (.cells cur 129 fz)→av' g∧W'.heap[g]?=some (.cells cur 129 fz)) : ∀ (fs : List Fm) {a : Option Addr} {i : Nat},Fm.are av W fs a i→Fm.are av' W' fs a i
 | [],_,_,_ => trivial
 | k :: ks,_,_,⟨⟨g,y,cur,fz,e,hg,hh,hc,hi⟩,hr⟩ => ⟨⟨g,y,cur,fz,e,(h g cur fz hg hh).1,(h g cur fz hg hh).2,hc,Fm.is.kept h k hi⟩,Fm.are.kept h ks hr⟩
end
theorem Fm.are.get {av : Nat→Prop} {W : World} {a : Option Addr} : ∀ (fs : List Fm) (i : Nat),Fm.are av W fs a i→∀ j (hj : j<fs.length),∃ g y cur fz,a=some ⟨g,0,none⟩∧av g∧W.heap[g]?=some (.cells cur 129 fz)∧cur[i + j]?=some (.iface fs[j].ty y)∧Fm.is av W fs[j] y
 | k :: ks,i,⟨h,hr⟩,j,hj => by
   cases j with
   | zero => exact h
   | succ j =>
     have:=Fm.are.get ks (i + 1) hr j (by simpa using hj)
     rw [show i + (j + 1)=i + 1 + j by omega]
     exact this
theorem a66 (y : Value) (k : Nat) (w : World) : (method (k + 1) 134 y "usance/show.write").run Tryz.prog w=.ok (191,y) w:=by kernel_rfl
theorem a2M (y : Value) (k : Nat) (w : World) : (method (k + 1) 133 y "usance/show.write").run Tryz.prog w=.ok (85,y) w:=by kernel_rfl
theorem a4c (y : Value) (k : Nat) (w : World) : (method (k + 1) 156 y "usance/show.write").run Tryz.prog w=.ok (193,y) w:=by kernel_rfl
theorem a2d (y : Value) (k : Nat) (w : World) : (method (k + 1) 158 y "usance/show.write").run Tryz.prog w=.ok (195,y) w:=by kernel_rfl
theorem a2R (y : Value) (k : Nat) (w : World) : (method (k + 1) 154 y "usance/show.write").run Tryz.prog w=.ok (192,y) w:=by kernel_rfl
theorem mt (f : Fm) (y : Value) (k : Nat) (w : World) : (method (k + 1) f.ty y "usance/show.write").run Tryz.prog w=.ok (f.fn,y) w:=by
 cases f
 ·exact a66 y k w
 ·exact a2M y k w
 ·exact a4c y k w
 ·exact a2d y k w
 ·exact a2R y k w
theorem en (f : Fm) : ∀ args w,(callFunc f.fn args).run Tryz.prog w=.ok (.enter f.fn args) w:=by
 cases f
 ·exact enters_of Tryz.func191 (by kernel_rfl) rfl
 ·exact enters_of Tryz.func85 (by kernel_rfl) rfl
 ·exact enters_of Tryz.func193 (by kernel_rfl) rfl
 ·exact enters_of Tryz.func195 (by kernel_rfl) rfl
 ·exact enters_of Tryz.func192 (by kernel_rfl) rfl
structure Aft (B b : Nat) (l : List UInt8) (w w' : World) : Prop where
 bld : Bld B b l w'
 below : Below B w w'
 keeps : a1V b w w'
theorem Aft.start {B b : Nat} {l : List UInt8} {w : World} (h : Bld B b l w) : Aft B b l w w:=⟨h,Below.refl _ _,Lib.OthersKept.refl _ _ _⟩
theorem Aft.alloc {B b : Nat} {l : List UInt8} {w w' : World} (h : Aft B b l w w') (hB : B≤w.heap.size) (o : Obj) : Aft B b l w (w'.alloc o) :=
 ⟨Lib.IsBuilderF.alloc h.bld o,h.below.alloc (Nat.le_trans hB h.below.size) o,h.keeps.alloc o⟩
theorem Aft.trans {B b : Nat} {l l' : List UInt8} {w w1 w2 : World} (h : Aft B b l w w1) (k : Aft B b l' w1 w2) : Aft B b l' w w2 :=
 ⟨k.bld,h.below.trans k.below,h.keeps.trans k.keeps⟩
theorem Aft.size {B b : Nat} {l : List UInt8} {w w' : World} (h : Aft B b l w w') (hB : B≤w.heap.size) : B≤w'.heap.size:=Nat.le_trans hB h.below.size
theorem Aft.block {B b : Nat} {l : List UInt8} {w w' : World} (h : Aft B b l w w') {k : Nat} {cs : Array Value} {T : TypeId} {fz : Nat × Nat} (hk : w.heap[k]?=some (.cells cs T fz)) (hb : k≠b) (hT : T≠5) : w'.heap[k]?=some (.cells cs T fz) :=
 h.keeps k _ hk (fun e => hb (Option.some.inj e)) (fun c z e => hT (by injection e))
theorem Fm.is.aft {B b : Nat} {l : List UInt8} {w w' : World} (h : Aft B b l w w') {f : Fm} {x : Value} (hf : f.is (· ≠ b) w x) : f.is (· ≠ b) w' x :=
 Fm.is.kept (fun g _ _ hg hh => ⟨hg,h.block hh hg (by decide)⟩) f hf
theorem Fm.are.aft {B b : Nat} {l : List UInt8} {w w' : World} (h : Aft B b l w w') {fs : List Fm} {a : Option Addr} {i : Nat} (hf : Fm.are (· ≠ b) w fs a i) : Fm.are (· ≠ b) w' fs a i :=
 Fm.are.kept (fun g _ _ hg hh => ⟨hg,h.block hh hg (by decide)⟩) fs hf
theorem Bld.lt {B b : Nat} {l : List UInt8} {w : World} (h : Bld B b l w) : b<w.heap.size:=by
 rcases h with h | h <;> exact h.lt
theorem bU (w : World) (o : Obj) : (w.alloc o).heap[w.heap.size]?=some o:=by show (w.heap.push o)[w.heap.size]?=_; simp
def U5 (f : Fm) : Prop:=∀ (x : Value) (B b : Nat) (l : List UInt8) (w : World),f.is (· ≠ b) w x→Bld B b l w→l.length + f.text.length≤1099511627776→B≤w.heap.size →
 Calls Tryz.prog f.fn #[x,.pointer (some ⟨b,0,none⟩)] w fun e w' => e=.returned (.tuple #[])∧Aft B b (l ++ f.text) w w'
theorem n6 (B b : Nat) (l : List UInt8) (s : ByteArray) (w : World) (h : Bld B b l w) (hlen : l.length + s.size≤1099511627776) (hBw : B≤w.heap.size) :
 Calls Tryz.prog 45 #[.pointer (some ⟨b,0,none⟩),.string s] w fun e w' => e=.returned (.tuple #[.int .i64 s.size,.nilIface])∧Aft B b (l ++ s.data.toList) w w' :=
 (a0X B b l s w h (by omega) hBw).mono fun _ _ ⟨h1,h2,h3,h4⟩ => ⟨h1,h2,h3,h4⟩
theorem a2A (s : ByteArray) : U5 (.leaf s):=by
 intro x B b l w hf hb hlen hB
 obtain ⟨rfl,-⟩:=hf
 have hl : l.length + s.size≤1099511627776:=by
  have : (Fm.leaf s).text.length=s.size:=by rw [Fm.text]; exact f8 s
  omega
 show Calls Tryz.prog 191 _ w _
 go_enter Tryz.func191,Tryz.ntmps191
 go_wp2_with (go_at_call 45; refine (n6 B b l s _ hb hl hB).mono ?_; rintro e w' ⟨rfl,ha⟩)
 refine bodyPost_end (results_none rfl _ _ _) rfl ?_
 exact ⟨rfl,by rw [Fm.text]; exact ha⟩
theorem rF (v : Value) (w : World) : (Instr.typeAssert (.iface 134 v) 129 156 true).run Tryz.prog w=.ok (.tuple #[.agg #[.nilIface,.nilIface],.bool false]) w:=by kernel_rfl
theorem mS (v : Value) (w : World) : (Instr.typeAssert (.iface 133 v) 129 156 true).run Tryz.prog w=.ok (.tuple #[.agg #[.nilIface,.nilIface],.bool false]) w:=by kernel_rfl
theorem pQ (v : Value) (w : World) : (Instr.typeAssert (.iface 156 v) 129 156 true).run Tryz.prog w=.ok (.tuple #[v,.bool true]) w:=by kernel_rfl
theorem mV (v : Value) (w : World) : (Instr.typeAssert (.iface 158 v) 129 156 true).run Tryz.prog w=.ok (.tuple #[.agg #[.nilIface,.nilIface],.bool false]) w:=by kernel_rfl
theorem mP (v : Value) (w : World) : (Instr.typeAssert (.iface 154 v) 129 156 true).run Tryz.prog w=.ok (.tuple #[.agg #[.nilIface,.nilIface],.bool false]) w:=by kernel_rfl
theorem pU (v : Value) (w : World) : (Instr.typeAssert (.iface 134 v) 129 158 true).run Tryz.prog w=.ok (.tuple #[.agg #[.nilIface,.nilIface,.nilIface],.bool false]) w:=by kernel_rfl
theorem kY (v : Value) (w : World) : (Instr.typeAssert (.iface 133 v) 129 158 true).run Tryz.prog w=.ok (.tuple #[.agg #[.nilIface,.nilIface,.nilIface],.bool false]) w:=by kernel_rfl
theorem mY (v : Value) (w : World) : (Instr.typeAssert (.iface 156 v) 129 158 true).run Tryz.prog w=.ok (.tuple #[.agg #[.nilIface,.nilIface,.nilIface],.bool false]) w:=by kernel_rfl
theorem lN (v : Value) (w : World) : (Instr.typeAssert (.iface 158 v) 129 158 true).run Tryz.prog w=.ok (.tuple #[v,.bool true]) w:=by kernel_rfl
theorem kV (v : Value) (w : World) : (Instr.typeAssert (.iface 154 v) 129 158 true).run Tryz.prog w=.ok (.tuple #[.agg #[.nilIface,.nilIface,.nilIface],.bool false]) w:=by kernel_rfl
theorem pN (v : Value) (w : World) : (Instr.typeAssert (.iface 134 v) 129 154 true).run Tryz.prog w=.ok (.tuple #[.agg #[.nilIface,.nilIface,.nilIface],.bool false]) w:=by kernel_rfl
theorem lR (v : Value) (w : World) : (Instr.typeAssert (.iface 133 v) 129 154 true).run Tryz.prog w=.ok (.tuple #[.agg #[.nilIface,.nilIface,.nilIface],.bool false]) w:=by kernel_rfl
theorem mW (v : Value) (w : World) : (Instr.typeAssert (.iface 156 v) 129 154 true).run Tryz.prog w=.ok (.tuple #[.agg #[.nilIface,.nilIface,.nilIface],.bool false]) w:=by kernel_rfl
theorem lH (v : Value) (w : World) : (Instr.typeAssert (.iface 158 v) 129 154 true).run Tryz.prog w=.ok (.tuple #[.agg #[.nilIface,.nilIface,.nilIface],.bool false]) w:=by kernel_rfl
theorem lK (v : Value) (w : World) : (Instr.typeAssert (.iface 154 v) 129 154 true).run Tryz.prog w=.ok (.tuple #[v,.bool true]) w:=by kernel_rfl
theorem qB (f : Fm) (hw : U5 f) (x : Value) (B b : Nat) (l : List UInt8) (w : World) (hf : f.is (· ≠ b) w x) (hb : Bld B b l w) (hlen : l.length + (Y9 f.wrap f.text).length≤1099511627776) (hB : B≤w.heap.size) :
 Calls Tryz.prog 194 #[.pointer (some ⟨b,0,none⟩),.iface f.ty x] w fun e w' => e=.returned (.tuple #[])∧Aft B b (l ++ Y9 f.wrap f.text) w w':=by
 have M:=mt f x
 have eg:=en f
 have HW:=hid hw
 clear hw
 by_cases hwr : f.wrap=true
 ·have E:=hid (show l ++ Y9 f.wrap f.text=l ++ [40] ++ f.text ++ [41] by rw [hwr]; simp [Y9])
  replace hlen : l.length + f.text.length + 2≤1099511627776:=by
   rw [hwr] at hlen
   simp [Y9] at hlen
   omega
  have h1 : l.length + (⟨#[40]⟩ : ByteArray).size≤1099511627776:=by show l.length + 1≤_; omega
  cases f
  case leaf => cases hwr
  case called => cases hwr
  case' unary u1 u2 => have a1:=pQ x; have a2:=mY x; have a3:=mW x; generalize hg : Fm.unary u1 u2=g at M eg HW E hf hlen ⊢; have ht : g.ty=156:=(by rw [← hg]; rfl); have HF:=hid (show g.fn=193 from hg ▸ rfl)
  case' binary u1 u2 u3 => have a1:=mV x; have a2:=lN x; have a3:=lH x; generalize hg : Fm.binary u1 u2 u3=g at M eg HW E hf hlen ⊢; have ht : g.ty=158:=(by rw [← hg]; rfl); have HF:=hid (show g.fn=195 from hg ▸ rfl)
  case' choice u1 u2 u3 => have a1:=mP x; have a2:=kV x; have a3:=lK x; generalize hg : Fm.choice u1 u2 u3=g at M eg HW E hf hlen ⊢; have ht : g.ty=154:=(by rw [← hg]; rfl); have HF:=hid (show g.fn=192 from hg ▸ rfl)
  all_goals
   rw [ht] at M ⊢
   clear ht hg hwr
   go_enter Tryz.func194,Tryz.ntmps194
   go_wp2_with fail
   refine Calls.mono (n6 B b l ⟨#[40]⟩ _ hb h1 hB) ?_
   rintro e w1 ⟨rfl,ha⟩
   have HA:=hid ha
   clear ha
   go_wp2_with fail
   first | refine Calls.mono (HW.out x B b (l ++ [40]) _ (Fm.is.aft HA hf) HA.out.bld (by simp; omega) (HA.out.size hB)) ?_ | refine Calls.mono (HW.out.at HF x B b (l ++ [40]) _ (Fm.is.aft HA hf) HA.out.bld (by simp; omega) (HA.out.size hB)) ?_
   rintro e w2 ⟨rfl,ha⟩
   have HA2:=hid (HA.out.trans ha)
   clear ha
   go_wp2_with fail
   refine Calls.mono (n6 B b _ ⟨#[41]⟩ _ HA2.out.bld (by simp [ByteArray.size]; omega) (HA2.out.size hB)) ?_
   rintro e w3 ⟨rfl,ha⟩
   have HA3:=hid (HA2.out.trans ha)
   clear ha
   go_wp2_with fail
   refine bodyPost_end (results_none rfl _ _ _) rfl ?_
   exact ⟨rfl,by rw [E.out]; exact HA3⟩
 ·have E:=hid (show l ++ Y9 f.wrap f.text=l ++ f.text by rw [Bool.eq_false_iff.2 hwr]; rfl)
  replace hlen : l.length + f.text.length≤1099511627776:=by
   rw [Bool.eq_false_iff.2 hwr] at hlen
   exact hlen
  cases f
  case unary => exact absurd rfl hwr
  case binary => exact absurd rfl hwr
  case choice => exact absurd rfl hwr
  case' leaf u1 => have a1:=rF x; have a2:=pU x; have a3:=pN x; generalize hg : Fm.leaf u1=g at M eg HW E hf hlen ⊢; have ht : g.ty=134:=(by rw [← hg]; rfl); have HF:=hid (show g.fn=191 from hg ▸ rfl)
  case' called u1 u2 => have a1:=mS x; have a2:=kY x; have a3:=lR x; generalize hg : Fm.called u1 u2=g at M eg HW E hf hlen ⊢; have ht : g.ty=133:=(by rw [← hg]; rfl); have HF:=hid (show g.fn=85 from hg ▸ rfl)
  all_goals
   rw [ht] at M ⊢
   clear ht hg hwr
   go_enter Tryz.func194,Tryz.ntmps194
   go_wp2_with fail
   first | refine Calls.mono (HW.out x B b l _ hf hb (by omega) hB) ?_ | refine Calls.mono (HW.out.at HF x B b l _ hf hb (by omega) hB) ?_
   rintro e w2 ⟨rfl,ha⟩
   have HA:=hid ha
   clear ha
   go_wp2_with fail
   refine bodyPost_end (results_none rfl _ _ _) rfl ?_
   exact ⟨rfl,by rw [E.out]; exact HA⟩
end
end Go.Proofs.YteefedkmgnepmaaGreatDoor
