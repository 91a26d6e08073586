/-
  Laws that the proof rests on.
-/
import Derived.Test.YtibiccacafjjfaaGreatDoorR04
import Derived.Test.YtibiccacafjjfaaGreatDoorR03
import Derived.Shelf.Strings.BuilderK
import Derived.WalkKit
import Derived.Shelf.Abstract
import Derived.WalkSpells
import Derived.WalkLawsBesides
import Derived.IntWalk
import Derived.Lib.Hide
import Derived.Test.YtibiccacafjjfaaGreatDoorR02
import Derived.Test.YtibiccacafjjfaaGreatDoorR01
namespace Go.Proofs.YtibiccacafjjfaaGreatDoor
set_option maxRecDepth 100000
set_option maxHeartbeats 16000000
section
open Go.RowKit Go.Shelf
theorem a6A : Builder.Extra Tryz.prog Tryz.lays169_ren:=Tryz.Builder_Extra_169
def Bld (B b : Nat) (l : List UInt8) (w : World) : Prop:=Lib.IsBuilderF 41 5 B b (Lib.byteCells l) w
abbrev a1N (b : Nat) (w w' : World) : Prop:=Lib.OthersKept 5 (some b) w w'
theorem a1i (b : Nat) (w : World) (h0 : w.cell? ⟨b,0,none⟩=some (.pointer (some ⟨b,0,none⟩))) :
 Calls Tryz.prog 63 #[.pointer (some ⟨b,0,none⟩)] w fun e w' => e=.returned (.tuple #[])∧w'=w:=by
 obtain ⟨j,hj,_⟩:=Option.map_eq_some_iff.1 (show (Tryz.prog.info? 41).map (·.size)=some 2 from a6A.sizeBuilder)
 have mixed : Tryz.prog.follows .mixedOrders=true:=by kernel_rfl
 go_enter Tryz.func63,Tryz.ntmps63
 go_wp2
 rw [Lib.run_neq_ptr_same w _ Tryz.underlying38 hj]
 go_wp2
 refine bodyPost_end (results_none rfl _ _ _) rfl ?_
 exact ⟨rfl,rfl⟩
theorem wS (b : Nat) (w : World) (h0 : w.cell? ⟨b,0,none⟩=some (.pointer none)) (hsh : w.shape? b=some (41,2)) (hfz : w.frozen? ⟨b,0,none⟩=false) :
 Calls Tryz.prog 63 #[.pointer (some ⟨b,0,none⟩)] w fun e w' => e=.returned (.tuple #[])∧w'=w.setCell ⟨b,0,none⟩ (.pointer (some ⟨b,0,none⟩)):=by
 obtain ⟨j,hj,hjs⟩:=Option.map_eq_some_iff.1 (show (Tryz.prog.info? 41).map (·.size)=some 2 from a6A.sizeBuilder)
 have mixed : Tryz.prog.follows .mixedOrders=true:=by kernel_rfl
 go_enter Tryz.func63,Tryz.ntmps63
 go_wp2
 rw [Lib.run_to_unsafe w ⟨b,0,none⟩ Tryz.underlying38 Tryz.underlying121 hj (by rw [hjs]; decide) hsh (Nat.zero_lt_succ 1)]
 simp only [Result.andThen]
 rw [Oper.upon_value]
 go_wp2
 rw [run_callFunc_extern Tryz.func96 (by kernel_rfl) (by kernel_rfl) (by kernel_rfl) (e:=Extern.AbiNoEscape.same) (by kernel_rfl)]
 rw [Lib.run_noEscape]
 simp only [Result.andThen]
 rw [Oper.upon_value]
 go_wp2
 rw [Lib.run_from_unsafe w ⟨b,0,none⟩ Tryz.underlying121 Tryz.underlying38 hj hsh a6A.liesBuilder]
 simp only [Result.andThen]
 rw [Oper.upon_value]
 go_wp2
 refine bodyPost_end (results_none rfl _ _ _) rfl ?_
 exact ⟨rfl,rfl⟩
theorem a2B (B b : Nat) (l : List UInt8) (w : World) (h : Bld B b l w) :
 Calls Tryz.prog 63 #[.pointer (some ⟨b,0,none⟩)] w fun e w' => e=.returned (.tuple #[])∧(Lib.BuilderAtF 41 5 B b (.pointer (some ⟨b,0,none⟩)) (Lib.byteCells l) w'∧Below B w w'∧a1N b w w'):=by
 rcases h with h | h
 ·refine (wS b w h.cell0 h.shape h.frozen0).mono ?_
  rintro e w' ⟨rfl,rfl⟩
  exact ⟨rfl,h.used _,(Below.refl B w).setCell (p:=⟨b,0,none⟩) h.1 _,(Lib.OthersKept.refl _ _ w).setCell ⟨b,0,none⟩ rfl _⟩
 ·refine (a1i b w h.cell0).mono ?_
  rintro e w' ⟨rfl,rfl⟩
  exact ⟨rfl,h,Below.refl B _,Lib.OthersKept.refl _ _ _⟩
theorem a1q (B b : Nat) (l : List UInt8) (s : ByteArray) (w : World) (h : Bld B b l w) (hlen : l.length + s.size≤140737488355328) (hBw : B≤w.heap.size) :
 Calls Tryz.prog 32 #[.pointer (some ⟨b,0,none⟩),.string s] w fun e w' => e=.returned (.tuple #[.int .i64 s.size,.nilIface])∧(Bld B b (l ++ s.data.toList) w'∧Below B w w'∧a1N b w w'):=by
 have hbl:=Lib.byteCells_length l
 obtain ⟨i0,hi,hz0,hz1,hz2⟩:=info_parts (show (Tryz.prog.info? 5).map (fun i => (i.zero,i.size,i.bytes))=some (some (.int .u8 0),1,1) from a6A.infoByte)
 have mixed : Tryz.prog.follows .mixedOrders=true:=by kernel_rfl
 go_enter Tryz.func32,Tryz.ntmps32
 go_wp2_with (go_at_call 63; refine (a2B B b l _ h).mono ?_)
 rintro e w1 ⟨rfl,h1,hb1,hk1⟩
 obtain ⟨hB,v,hbk,hown,hne⟩:=h1
 rw [hbl] at hown
 have c0 : w1.cell? ⟨b,0,none⟩=some (.pointer (some ⟨b,0,none⟩)):=by rw [Lib.cell_of_heap hbk]; rfl
 have c1 : w1.cell? ⟨b,1,none⟩=some v:=by rw [Lib.cell_of_heap hbk]; rfl
 go_wp2_with (at_builtin; refine Lib.wpList_append_own_stringF _ rfl _ _ 39 9 rfl B 5 i0 Tryz.underlying39 Tryz.underlying9 hi hz0 hz1 hz2 _ _ _ rfl hown s rfl ?c3 ?c4 ?c5 ?_)
 case c3 => unfold maxLen; omega
 case c4 => omega
 case c5 => have:=hb1.size; omega
 intro v' w2 hown' hgrow _
 have hlt : b<w1.heap.size:=by
  rcases Nat.lt_or_ge b w1.heap.size with h' | h'
  ·exact h'
  ·simp [Array.getElem?_eq_none h'] at hbk
 have hb2 : w2.heap[b]?=some (.cells #[.pointer (some ⟨b,0,none⟩),v] 41 (0,0)):=by
  rw [hgrow.block b hlt (fun e => hne e.symm)]
  exact hbk
 have d0 : w2.cell? ⟨b,0,none⟩=some (.pointer (some ⟨b,0,none⟩)):=by rw [Lib.cell_of_heap hb2]; rfl
 have d1 : w2.cell? ⟨b,1,none⟩=some v:=by rw [Lib.cell_of_heap hb2]; rfl
 have f1 : w2.frozen? ⟨b,1,none⟩=false:=Lib.frozen_of_heap hb2 1
 obtain ⟨ao,n',cap,rfl⟩ : ∃ ao n' cap,v'=.slice ao n' cap:=by
  rcases hown'.2 with ⟨hv,_⟩ | ⟨g,cap,cur,fz,hv,_⟩
  ·exact ⟨_,_,_,hv⟩
  ·exact ⟨_,_,_,hv⟩
 go_wp2
 go_ret2
 refine ⟨rfl,?_,?_,(hk1.grown hgrow (Lib.ownsRowF_kind hown)).setCell ⟨b,1,none⟩ rfl _⟩
 ·have e1 : Lib.byteCells (l ++ s.data.toList)=Lib.byteCells l ++ Lib.strCells s:=by rw [Lib.strCells_eq]; unfold Lib.byteCells; rw [List.map_append]
  have e2 : (Lib.byteCells l ++ Lib.strCells s).length=l.length + s.size:=by rw [List.length_append,hbl,Lib.strCells_length]
  refine Or.inr ?_
  rw [e1]
  exact Lib.BuilderAtF.put (T:=41) (e:=5) hB hb2 (bs':=Lib.byteCells l ++ Lib.strCells s) (by rw [e2]; exact hown') (by decide)
 ·exact (hb1.grown hgrow (by have:=hb1.size; omega) (fun k hk => (hown.lt k hk).1)).setCell (p:=⟨b,1,none⟩) hB _
theorem iL (B b : Nat) (l : List UInt8) (w : World) (h : Bld B b l w) (hBw : B≤w.heap.size) :
 Calls Tryz.prog 21 #[.pointer (some ⟨b,0,none⟩)] w fun e w' => e=.returned (.string ⟨l.toArray⟩)∧(Bld B b l w'∧Below B w w'∧a1N b w w') :=
 Tryz.Builder_String_any_k B b l w h hBw
end
section
open Lib (hid)
open Go.RowKit
def smI (n : Int) : Bool:=decide (97≤n) && decide (n≤122)
def dgI (n : Int) : Bool:=decide (48≤n) && decide (n≤57)
def inI (n : Int) : Bool:=smI n || dgI n || n == 95
def smC (c : UInt8) : Bool:=smI c.toNat
def inC (c : UInt8) : Bool:=inI c.toNat
def m5 (l : List UInt8) : Nat:=match l with
 | [] => 0
 | c :: l => if smC c then 1 + (l.takeWhile inC).length else 0
def gS (l : List UInt8) : Bool:=decide (0<l.length) && decide (l.length≤24) && decide (m5 l=l.length)
theorem kP (l : List UInt8) : m5 l≤l.length:=by
 cases l with
 | nil => exact Nat.le_refl _
 | cons c l =>
   show (if smC c=true then 1 + (l.takeWhile inC).length else 0)≤l.length + 1
   split
   ·have:=(List.takeWhile_sublist (l:=l) inC).length_le; omega
   ·exact Nat.zero_le _
theorem jG {k : IntKind} {a b : Int} (h : a=b) : Ending.returned (.int k a)=.returned (.int k b):=by rw [h]
theorem Y6 {a b : Bool} (h : a=b) : Ending.returned (.bool a)=.returned (.bool b):=by rw [h]
theorem f9 (n : Int) (w : World) : Calls Tryz.prog 77 #[.int .u8 n] w fun e w' => e=.returned (.bool (smI n))∧w=w':=by
 go_enter Tryz.func77,Tryz.ntmps77
 go_wp2
 all_goals go_ret
 all_goals exact ⟨Y6 (by unfold smI; rw [Bool.eq_iff_iff]; simp; omega),rfl⟩
theorem o8 (n : Int) (w : World) : Calls Tryz.prog 79 #[.int .u8 n] w fun e w' => e=.returned (.bool (dgI n))∧w=w':=by
 go_enter Tryz.func79,Tryz.ntmps79
 go_wp2
 all_goals go_ret
 all_goals exact ⟨Y6 (by unfold dgI; rw [Bool.eq_iff_iff]; simp; omega),rfl⟩
theorem pC (n : Int) (w : World) : Calls Tryz.prog 125 #[.int .u8 n] w fun e w' => e=.returned (.bool (inI n))∧w=w':=by
 have e:=hid (show inI n=(smI n || dgI n || n == 95) from rfl)
 cases h1 : smI n
 ·cases h2 : dgI n
  all_goals
   go_enter Tryz.func125,Tryz.ntmps125
   go_wp2_with (first | (go_at_call 77; refine (f9 _ _).mono ?_; rintro e w' ⟨rfl,rfl⟩; rw [h1]) | (go_at_call 79; refine (o8 _ _).mono ?_; rintro e w' ⟨rfl,rfl⟩; rw [h2]))
   go_ret
   exact ⟨Y6 (by rw [e.out,h1,h2]; rfl),rfl⟩
 ·go_enter Tryz.func125,Tryz.ntmps125
  go_wp2_with (first | (go_at_call 77; refine (f9 _ _).mono ?_; rintro e w' ⟨rfl,rfl⟩; rw [h1]))
  go_ret
  exact ⟨Y6 (by rw [e.out,h1]; rfl),rfl⟩
theorem D9 {s : ByteArray} {k : Nat} (h : k<s.size) : s.data.toList.drop k=s[k] :: s.data.toList.drop (k + 1):=by
 have h' : k<s.data.toList.length:=by simpa using h
 rw [List.drop_eq_getElem_cons h']
 rfl
theorem cZ {s : ByteArray} {k : Nat} (h : s.size≤k) : s.data.toList.drop k=[]:=List.drop_of_length_le (by simpa using h)
theorem a02 {s : ByteArray} {k : Nat} (h : k<s.size) (hs : smI s[k].toNat=true) : m5 (s.data.toList.drop k)=1 + ((s.data.toList.drop (k + 1)).takeWhile inC).length:=by
 rw [D9 h]; exact if_pos (show smC s[k]=true from hs)
theorem a3L {s : ByteArray} {k : Nat} (h : k<s.size) (hs : smI s[k].toNat=false) : m5 (s.data.toList.drop k)=0:=by
 rw [D9 h]; exact if_neg (show ¬ smC s[k]=true by rw [show smC s[k]=false from hs]; decide)
theorem a7g {s : ByteArray} {k : Nat} (h : k<s.size) (hs : inI s[k].toNat=true) : ((s.data.toList.drop k).takeWhile inC).length=1 + ((s.data.toList.drop (k + 1)).takeWhile inC).length:=by
 rw [D9 h,List.takeWhile_cons,if_pos (show inC s[k]=true from hs)]; simp; omega
theorem a6B {s : ByteArray} {k : Nat} (h : k<s.size) (hs : inI s[k].toNat=false) : ((s.data.toList.drop k).takeWhile inC).length=0:=by
 rw [D9 h,List.takeWhile_cons,if_neg (show ¬ inC s[k]=true by rw [show inC s[k]=false from hs]; decide)]; rfl
theorem a6m {s : ByteArray} {k : Nat} (h : s.size≤k) : ((s.data.toList.drop k).takeWhile inC).length=0:=by rw [cZ h]; rfl
theorem lO (s : ByteArray) (a : Nat) (w : World) (hs : s.size≤maxLen) (ha : a≤maxLen) :
 Calls Tryz.prog 90 #[.string s,.int .i64 a] w fun e w' => e=.returned (.int .i64 (m5 (s.data.toList.drop a) : Nat))∧w=w':=by
 have hm:=hs
 have hm':=ha
 unfold maxLen at hm hm'
 by_cases h0 : a<s.size
 ·cases h1 : smI s[a].toNat
  ·have e:=hid (a3L h0 h1)
   go_enter Tryz.func90,Tryz.ntmps90
   go_wp2_with (first | (go_at_call 77; refine (f9 _ _).mono ?_; rintro e w' ⟨rfl,rfl⟩; rw [h1]))
   go_ret
   exact ⟨jG (by rw [e.out]; rfl),rfl⟩
  ·have e:=hid (a02 h0 h1)
   go_enter Tryz.func90,Tryz.ntmps90
   go_wp2_with (first | (go_at_call 77; refine (f9 _ _).mono ?_; rintro e w' ⟨rfl,rfl⟩; rw [h1]))
   clear h1
   go_loop [6] (fun n => ∃ k : Nat,1≤k∧a + k≤s.size∧n=.int .i64 k∧Hid (k + ((s.data.toList.drop (a + k)).takeWhile inC).length=m5 (s.data.toList.drop a))) (fun n => s.size - (intOf n).toNat)
   case atStart => exact ⟨1,Nat.le_refl _,by omega,rfl,e.out.symm⟩
   case round =>
    obtain ⟨k,hk1,hk,rfl,HK⟩:=hrel
    by_cases hlt : a + k<s.size
    ·cases h2 : inI s[a + k].toNat
     ·have E:=hid (a6B hlt h2)
      go_wp2_with (first | (go_at_call 125; refine (pC _ _).mono ?_; rintro e w' ⟨rfl,rfl⟩; rw [h2]))
      go_ret
      exact ⟨jG (by rw [← HK.out,E.out]; rfl),rfl⟩
     ·have E:=hid (a7g hlt h2)
      go_wp2_with (first | (go_at_call 125; refine (pC _ _).mono ?_; rintro e w' ⟨rfl,rfl⟩; rw [h2]))
      go_round
      case rel => exact ⟨k + 1,by omega,by omega,by go_num,by show _=_; rw [← HK.out,E.out,Nat.add_assoc,Nat.add_assoc]⟩
      case measure => simp [intOf]; omega
    ·have E:=hid (a6m (s:=s) (k:=a + k) (by omega))
     go_wp2
     go_ret
     exact ⟨jG (by rw [← HK.out,E.out]; rfl),rfl⟩
 ·have e:=hid (show m5 (s.data.toList.drop a)=0 by rw [cZ (by omega)]; rfl)
  go_enter Tryz.func90,Tryz.ntmps90
  go_wp2
  go_ret
  exact ⟨jG (by rw [e.out]; rfl),rfl⟩
theorem zF (s : ByteArray) (w : World) (hs : s.size≤maxLen) :
 Calls Tryz.prog 59 #[.string s] w fun e w' => e=.returned (.bool (gS s.data.toList))∧w=w':=by
 have hm:=hs
 unfold maxLen at hm
 have hl : s.data.toList.length=s.size:=by simp
 by_cases h0 : 0<s.size
 ·by_cases h1 : 24<s.size
  ·have e:=hid (show gS s.data.toList=false by unfold gS; rw [hl,decide_eq_false (show ¬ s.size≤24 by omega)]; simp)
   clear hl
   go_enter Tryz.func59,Tryz.ntmps59
   go_wp2
   go_ret
   exact ⟨Y6 e.out.symm,rfl⟩
  ·have e:=hid (show gS s.data.toList=decide (m5 s.data.toList=s.size) by unfold gS; rw [hl,decide_eq_true h0,decide_eq_true (show s.size≤24 by omega)]; rfl)
   have hsp:=kP s.data.toList
   rw [hl] at hsp
   clear hl
   go_enter Tryz.func59,Tryz.ntmps59
   go_wp2_with (first | (go_at_call 90; refine (lO _ 0 _ hs (by decide)).mono ?_; rintro e w' ⟨rfl,rfl⟩; rw [List.drop_zero]))
   go_ret
   exact ⟨Y6 (by rw [e.out,Bool.eq_iff_iff]; simp; omega),rfl⟩
 ·have e:=hid (show gS s.data.toList=false by unfold gS; rw [hl,decide_eq_false h0]; rfl)
  clear hl
  go_enter Tryz.func59,Tryz.ntmps59
  go_wp2
  go_ret
  exact ⟨Y6 e.out.symm,rfl⟩
end
section
open Go.RowKit
theorem jM {p : UInt8→Bool} (h : ∀ n : Fin 256,p (UInt8.ofNat n.val)=true) (c : UInt8) : p c=true:=by
 have:=h ⟨c.toNat,c.toNat_lt⟩
 simpa using this
theorem zN (c : UInt8) : V8 c=inC c:=by
 have:=jM (p:=fun c => V8 c == inC c) (by decide +kernel) c
 simpa using this
theorem a4c (c : UInt8) : eP c=(decide (65≤(c.toNat : Int)) && decide ((c.toNat : Int)≤90)):=by
 have:=jM (p:=fun c => eP c == (decide (65≤(c.toNat : Int)) && decide ((c.toNat : Int)≤90))) (by decide +kernel) c
 simpa using this
theorem fA {α : Type} (p : α→Bool) : ∀ l : List α,(l.takeWhile p).length=l.length↔l.all p=true
 | [] => by simp
 | a :: l => by
   rw [List.takeWhile_cons]
   cases h : p a
   ·simp [h]
   ·simp [h,fA p l]
theorem kX (l : List UInt8) : gS l=p8 l:=by
 unfold gS p8
 cases l with
 | nil => rfl
 | cons c l =>
   have ha : (c :: l).all V8=(inC c && l.all inC):=by
    rw [List.all_cons,zN]; congr 1
    exact List.all_congr rfl fun a => zN a
   rw [ha,Bool.eq_iff_iff]
   have hsm : smC c=true→inC c=true:=fun h => by
    unfold inC inI; rw [show smI (c.toNat : Int)=true from h]; rfl
   have hsm' : smC c=true↔97≤(c.toNat : Int)∧(c.toNat : Int)≤122:=by unfold smC smI; simp
   have hsp : m5 (c :: l)=if smC c then 1 + (l.takeWhile inC).length else 0:=rfl
   have htw:=fA inC l
   simp only [Bool.and_eq_true,decide_eq_true_eq,List.length_cons,List.headD_cons]
   rw [hsp]
   by_cases hc : smC c=true
   ·rw [if_pos hc]
    have:=hsm hc
    have h2:=hsm'.1 hc
    constructor
    ·rintro ⟨⟨-,h24⟩,hs⟩
     exact ⟨⟨h24,decide_eq_true h2.1,decide_eq_true h2.2⟩,this,htw.1 (by omega)⟩
    ·rintro ⟨⟨h24,-⟩,-,hi⟩
     have:=htw.2 hi
     exact ⟨⟨by omega,h24⟩,by omega⟩
   ·rw [if_neg hc]
    constructor
    ·rintro ⟨-,hs⟩; omega
    ·rintro ⟨⟨-,h2⟩,-⟩; exact absurd (hsm'.2 ⟨of_decide_eq_true h2.1,of_decide_eq_true h2.2⟩) hc
end
section
open Go.RowKit
def a7e : Value→Nat
 | .string s => s.size
 | _ => 0
theorem a4S (a : Int) : aS a=(if aU a<0 then [45] else []) ++ U9 (aU a).natAbs:=rfl
theorem zB (a : Int) : -1000000000000000≤aU a∧aU a≤1000000000000000:=by unfold aU; (repeat' split) <;> omega
theorem jX {s : ByteArray} {l : List UInt8} (h : l=s.data.toList) : (⟨l.toArray⟩ : ByteArray)=s:=by
 subst h; cases s; simp
end
structure Tk where
 kind : Int
 text : List UInt8
 n : Int
 pos : Int
def aJ (l : List UInt8) : Nat:=(l.takeWhile dgC).length
def grC (c : UInt8) : Bool:=decide (65≤(c.toNat : Int)) && decide ((c.toNat : Int)≤90)
def Y5 (l : List UInt8) (pos : Int) : Except Int (Tk × Nat) :=
 let n:=m5 l
 if (l.drop n).headD 0=46 then
  let m:=m5 (l.drop (n + 1))
  if 24<n∨m<1∨24<m∨F0 (l.take n)=true∨F0 ((l.drop (n + 1)).take m)=true then .error 73
  else .ok (⟨3,l.take n ++ 46 :: (l.drop (n + 1)).take m,0,pos⟩,n + 1 + m)
 else if 24<n then .error 73 else .ok (⟨if F0 (l.take n)=true then 2 else 1,l.take n,0,pos⟩,n)
def nR (l : List UInt8) : Option Int :=
 if l.length=10∧(∀ j (hj : j<l.length),Cal.fits j l[j]=true)∧Cal.ok (Cal.val (Cal.seg l 0 4)) (Cal.val (Cal.seg l 5 7)) (Cal.val (Cal.seg l 8 10))
 then some (Cal.num (Cal.val (Cal.seg l 0 4)) (Cal.val (Cal.seg l 5 7)) (Cal.val (Cal.seg l 8 10))) else none
def aD (r : List UInt8) : Bool:=match r with
 | [] => true
 | c :: p => c == 46 && (decide (1≤p.length) && decide (p.length≤6) && p.all dgC)
def V4 (l : List UInt8) : Option Int :=
 let w:=l.takeWhile dgC
 let r:=l.drop w.length
 if 1≤w.length∧w.length≤10∧(w.length=1∨l.headD 0≠48)∧aD r=true then some (Cal.val (w ++ r.tail ++ List.replicate (6 - r.tail.length) 48)) else none
def fM (l : List UInt8) : Option Int :=
 if l.headD 0=45 then (match V4 l.tail with | some n => if 1000000000000000<n∨n=0 then none else some (-n) | none => none)
 else match V4 l with | some n => if 1000000000000000<n then none else some n | none => none
def r8 (l : List UInt8) : Bool:=decide (10≤l.length) && (decide (∀ j (hj : j<(l.take 10).length),Cal.fits j (l.take 10)[j]=true) && !dgC ((l.drop 10).headD 0))
def X7 (c : UInt8) : Bool:=!(smC c || grC c || c == 95 || c == 46)
def cC (l : List UInt8) : Nat:=if (l.drop (aJ l)).headD 0=46∧dgC ((l.drop (aJ l + 1)).headD 0)=true then aJ l + 1 + aJ (l.drop (aJ l + 1)) else aJ l
def aP (l : List UInt8) (pos : Int) : Except Int (Tk × Nat) :=
 if r8 l=true then
  match nR (l.take 10) with
  | none => .error 72
  | some v => if X7 ((l.drop 10).headD 0)=true then .ok (⟨5,[],v,pos⟩,10) else .error 72
 else
  match fM (l.take (cC l)) with
  | none => .error 72
  | some v => if X7 ((l.drop (cC l)).headD 0)=true then .ok (⟨6,[],v,pos⟩,cC l) else .error 72
def lG (c : UInt8) : Bool:=c != 34 && c != 10
def dH (l : List UInt8) : Nat:=(l.takeWhile lG).length
def Y1 (r : List UInt8) (pos : Int) : Except Int (Tk × Nat) :=
 if (r.drop (dH r)).headD 0≠34 then .error 71
 else if p8 (r.take (dH r))=true then .ok (⟨7,r.take (dH r),0,pos⟩,dH r + 2) else .error 73
def vP (l : List UInt8) : Nat:=(l.takeWhile grC).length
def yF (l : List UInt8) (pos : Int) : Except Int (Tk × Nat):=if vP l=3 then .ok (⟨4,l.take 3,0,pos⟩,3) else .error 73
def bS : List UInt8:=[40,41,44,59,61,60,43,45,42,47]
def iA (c : UInt8) (r : List UInt8) (pos : Int) : Except Int (Tk × Nat) :=
 if c=60∧r.headD 0=61 then .ok (⟨8,[60,61],0,pos⟩,2)
 else if bS.contains c=true then .ok (⟨8,[c],0,pos⟩,1) else .error 71
def aB (c : UInt8) (r : List UInt8) (pos : Int) : Except Int (Tk × Nat) :=
 if smC c=true then Y5 (c :: r) pos
 else if dgC c=true then aP (c :: r) pos
 else if c=34 then Y1 r pos
 else if grC c=true then yF (c :: r) pos
 else iA c r pos
def gU (l : List UInt8) : Nat:=(l.takeWhile (· != 10)).length
def r9 : List UInt8→Int→Nat→Nat→Except (Int × Int) (List Tk)
 | [],pos,_,_ => .ok [⟨0,[],0,pos⟩]
 | _ :: r,pos,k,s + 1 => r9 r (pos + 1) k s
 | c :: r,pos,k,0 =>
   if c.toNat≤32 then r9 r (pos + 1) k 0
   else if c=35 then r9 r (pos + 1) k (gU r)
   else match aB c r pos with
    | .error e => .error (e,pos)
    | .ok (t,n) => if k=8192 then .error (76,pos) else match r9 r (pos + 1) (k + 1) (n - 1) with
      | .error e => .error e
      | .ok ts => .ok (t :: ts)
def p5 (l : List UInt8) : Except (Int × Int) (List Tk):=if 16384<l.length then .error (70,0) else r9 l 0 0 0
def hd (l : List Tk) : Tk:=l.headD ⟨0,[],0,0⟩
def isT (w : List UInt8) (l : List Tk) : Bool:=((hd l).kind == 2 || (hd l).kind == 8) && (hd l).text == w
def b9 (l : List Tk) : List Tk:=if (hd l).kind=0 then l else l.tail
abbrev Rd:=Except (Int × Int) (Nd × List Tk)
mutual
def c8 : Nd→Nat
 | .mk _ _ _ ks _ => i7 ks + 1
def i7 : List Nd→Nat
 | [] => 0
 | k :: ks => max (c8 k) (i7 ks)
end
def mkN (kind : Int) (s : List UInt8) (n : Int) (ks : List Nd) (p : Int) : Nd:=.mk kind ⟨s.toArray⟩ n ks p
def made (t : Nd) (r : List Tk) : Rd:=if 100<c8 t then .error (75,t.place) else .ok (t,r)
def Rd.then (x : Rd) (f : Nd→List Tk→Rd) : Rd:=match x with
 | .error e => .error e
 | .ok (t,r) => f t r
def d7 (w : List UInt8) (l : List Tk) (f : List Tk→Rd) : Rd:=if isT w l=true then f (b9 l) else .error (74,(hd l).pos)
def A7 (k : Int) (l : List Tk) (f : Tk→List Tk→Rd) : Rd:=if (hd l).kind=k then f (hd l) (b9 l) else .error (74,(hd l).pos)
inductive Md where
 | expr | chain (lv : Nat) | loop (lv : Nat) (t : Nd) | not | unary | atom | args (acc : List Nd)
def r4 (lv : Nat) : List (List UInt8):=if lv=0 then [[111,114]] else if lv=1 then [[97,110,100]] else if lv=2 then [[43],[45]] else [[42],[47]]
def jA : List (List UInt8):=[[60],[60,61],[61]]
def D5 (lv : Nat) : Md:=if lv=0 then .chain 1 else if lv=1 then .not else if lv=2 then .chain 3 else .unary
def U0 (ws : List (List UInt8)) (l : List Tk) : Bool:=ws.any fun w => isT w l
def tIf : List UInt8:=[105,102]
def fF : List UInt8:=[116,104,101,110]
def eY : List UInt8:=[101,108,115,101]
def fX : List UInt8:=[110,111,116]
def cP : List UInt8:=[45]
def o7 : List UInt8:=[40]
def m7 : List UInt8:=[41]
def l0 : List UInt8:=[44]
def t8 : List UInt8:=[59]
def tEq : List UInt8:=[61]
def bO : List UInt8:=[116,114,117,101]
def X4 : List UInt8:=[102,97,108,115,101]
def cE : List UInt8:=[102,101,101,100]
def cD : List UInt8:=[112,105,99,107]
def gT : List UInt8:=[108,101,116]
def dT : List UInt8:=[109,111,100,117,108,101]
def bA : List UInt8:=[105,109,112,111,114,116]
def S0 (nest : Nat) (l : List Tk) (x : Rd) : Rd:=if 300<nest + 1 then .error (75,(hd l).pos) else x
def nS (rd : Md→Nat→List Tk→Rd) : Md→Nat→List Tk→Rd
 | .expr,nest,l => S0 nest l <|
   if isT tIf l=true then
    (rd .expr (nest + 1) (b9 l)).then fun a r => d7 fF r fun r => (rd .expr (nest + 1) r).then fun b r => d7 eY r fun r => (rd .expr (nest + 1) r).then fun c r => made (mkN 14 [] 0 [a,b,c] (hd l).pos) r
   else rd (.chain 0) (nest + 1) l
 | .chain lv,nest,l => (rd (D5 lv) nest l).then fun t r => rd (.loop lv t) nest r
 | .loop lv t,nest,l =>
   if U0 (r4 lv) l=true then (rd (D5 lv) nest (b9 l)).then fun m r => (made (mkN 13 (hd l).text 0 [t,m] (hd l).pos) r).then fun t r => rd (.loop lv t) nest r
   else .ok (t,l)
 | .not,nest,l =>
   if isT fX l=true then S0 nest l <| (rd .not (nest + 1) (b9 l)).then fun t r => made (mkN 12 (hd l).text 0 [t] (hd l).pos) r
   else (rd (.chain 2) nest l).then fun a r => if U0 jA r=true then (rd (.chain 2) nest (b9 r)).then fun b r' => made (mkN 13 (hd r).text 0 [a,b] (hd r).pos) r' else .ok (a,r)
 | .unary,nest,l =>
   if isT cP l=true then S0 nest l <| (rd .unary (nest + 1) (b9 l)).then fun t r => made (mkN 12 (hd l).text 0 [t] (hd l).pos) r
   else rd .atom nest l
 | .atom,nest,l =>
   if (hd l).kind=6 then .ok (mkN 5 [] (hd l).n [] (hd l).pos,b9 l)
   else if (hd l).kind=5 then .ok (mkN 6 [] (hd l).n [] (hd l).pos,b9 l)
   else if (hd l).kind=4 then .ok (mkN 7 (hd l).text 0 [] (hd l).pos,b9 l)
   else if (hd l).kind=1∨(hd l).kind=3 then
    if isT o7 (b9 l)=true then (rd (.args []) nest (b9 (b9 l))).then fun a r => made (mkN 11 (hd l).text 0 a.kids (hd l).pos) r
    else .ok (mkN 10 (hd l).text 0 [] (hd l).pos,b9 l)
   else if isT bO l=true then .ok (mkN 8 [] 1 [] (hd l).pos,b9 l)
   else if isT X4 l=true then .ok (mkN 8 [] 0 [] (hd l).pos,b9 l)
   else if isT cE l=true then A7 7 (b9 l) fun s r => .ok (mkN 9 s.text 0 [] (hd l).pos,r)
   else if isT cD l=true then A7 7 (b9 l) fun s r => d7 o7 r fun r => (rd .expr nest r).then fun a r => d7 l0 r fun r => (rd .expr nest r).then fun b r => d7 l0 r fun r => (rd .expr nest r).then fun c r =>
    d7 m7 r fun r => made (mkN 15 s.text 0 [a,b,c] (hd l).pos) r
   else if isT o7 l=true then (rd .expr nest (b9 l)).then fun x r => d7 m7 r fun r => .ok (x,r)
   else .error (74,(hd l).pos)
 | .args acc,nest,l =>
   if acc.length=8 then .error (76,(hd l).pos)
   else (rd .expr nest l).then fun t r => if isT l0 r=true then rd (.args (acc ++ [t])) nest (b9 r) else d7 m7 r fun r => .ok (mkN 0 [] 0 (acc ++ [t]) 0,r)
def a7U : Rd:=.error (-1,-1)
def a5E : Nat→Md→Nat→List Tk→Rd
 | 0 => fun _ _ _ => a7U
 | f + 1 => nS (a5E f)
def eZ : Md→Nat
 | .args _ => 10 | .expr => 9 | .chain lv => if lv=0 then 8 else if lv=1 then 7 else if lv=2 then 5 else 4
 | .not => 6 | .unary => 3 | .atom => 2 | .loop _ _ => 1
def eI (m : Md) (l : List Tk) : Nat:=11 * l.length + eZ m + 1
def rd (m : Md) (nest : Nat) (l : List Tk) : Rd:=a5E (eI m l) m nest l
theorem oJ (c : UInt8) : dgC c=Cal.isDig c:=by
 have:=bV (p:=fun c => dgC c == Cal.isDig c) (by decide +kernel) c
 exact eq_of_beq this
theorem bR (c : UInt8) : dgC c=dgI c.toNat:=by
 have:=bV (p:=fun c => dgC c == dgI c.toNat) (by decide +kernel) c
 exact eq_of_beq this
theorem a3K (l : List UInt8) : l.all dgC=l.all Cal.isDig:=by rw [show dgC=Cal.isDig from funext oJ]
theorem vL {d : List UInt8} {k : Nat} (hk : k≤d.length) (h : ∀ j (hj : j<d.length),j<k→dgC d[j]=true) (h' : ∀ (hk : k<d.length),dgC d[k]=false) : aJ d=k:=R8 dgC d k hk h h'
theorem pZ {α : Type} (p : α→Bool) (l : List α) : l.takeWhile p=l.take (l.takeWhile p).length:=(List.prefix_iff_eq_take.1 (List.takeWhile_prefix p))
theorem a6R {d : List UInt8} {k : Nat} (h : aJ d=k) : V4 d=if 1≤k∧k≤10∧(k=1∨d.headD 0≠48)∧aD (d.drop k)=true then some (Cal.val (d.take k ++ d.drop (k + 1) ++ List.replicate (6 - (d.drop (k + 1)).length) 48)) else none:=by
 unfold aJ at h
 unfold V4
 simp only
 rw [h,List.tail_drop,pZ,h]
def bY (d : List UInt8) (k : Nat) : List UInt8:=d.drop (k + 1) ++ List.replicate (6 - (d.drop (k + 1)).length) 48
theorem xK {d : List UInt8} {k : Nat} (h : d.length - (k + 1)≤6) : (bY d k).length=6:=by
 unfold bY
 rw [List.length_append,List.length_replicate,List.length_drop]; omega
theorem a1C {d : List UInt8} {k i : Nat} (h : k + 1 + i<d.length) (hi : i<(bY d k).length) : (bY d k)[i]=d[k + 1 + i]:=by
 unfold bY at hi ⊢
 rw [List.getElem_append_left (by rw [List.length_drop]; omega),List.getElem_drop]
theorem a4l {d : List UInt8} {k i : Nat} (h : ¬ k + 1 + i<d.length) (hi : i<(bY d k).length) : (bY d k)[i]=48:=by
 unfold bY at hi ⊢
 rw [List.getElem_append_right (by rw [List.length_drop]; omega),List.getElem_replicate]
theorem xM {l q : List UInt8} {i : Nat} (hi : i<q.length) : Cal.val (l ++ q.take (i + 1))=10 * Cal.val (l ++ q.take i) + ((q[i].toNat : Int) - 48):=by
 rw [List.take_succ_eq_append_getElem hi,← List.append_assoc,Cal.val_snoc]
theorem uD {d : List UInt8} {i : Nat} (hi : i<d.length) : Cal.val (d.take (i + 1))=10 * Cal.val (d.take i) + ((d[i].toNat : Int) - 48):=by
 rw [List.take_succ_eq_append_getElem hi,Cal.val_snoc]
theorem gK {l : List UInt8} {n : Nat} (h : l.all dgC=true) (hn : l.length≤n) : 0≤Cal.val l∧Cal.val l<10 ^ n:=by
 have:=Cal.val_bd (l:=l) (by rw [← a3K]; exact h)
 exact ⟨this.1,Int.lt_of_lt_of_le this.2 (by exact_mod_cast Nat.pow_le_pow_right (by decide) hn)⟩
theorem fL {c : UInt8} (h : dgC c=true) : 48≤(c.toNat : Int)∧(c.toNat : Int)≤57:=by
 unfold dgC at h
 simp only [Bool.and_eq_true,decide_eq_true_eq] at h
 omega
def sB (l : List UInt8) : Int:=(fM l).getD 0
def sK (l : List UInt8) : Bool:=(fM l).isSome
theorem kJ {d : List UInt8} (h : d.headD 0≠45) : fM d=match V4 d with | some n => if 1000000000000000<n then none else some n | none => none:=if_neg h
theorem bL {d : List UInt8} (h : d.headD 0≠45) (hu : V4 d=none) : sB d=0∧sK d=false:=by
 unfold sB sK
 rw [kJ h,hu]
 exact ⟨rfl,rfl⟩
theorem sY {d : List UInt8} {n : Int} (h : d.headD 0≠45) (hu : V4 d=some n) (hn : ¬ 1000000000000000<n) : sB d=n∧sK d=true:=by
 unfold sB sK
 rw [kJ h,hu]
 simp only [if_neg hn]
 exact ⟨rfl,rfl⟩
theorem zP {d : List UInt8} {n : Int} (h : d.headD 0≠45) (hu : V4 d=some n) (hn : 1000000000000000<n) : sB d=0∧sK d=false:=by
 unfold sB sK
 rw [kJ h,hu]
 simp only [if_pos hn]
 exact ⟨rfl,rfl⟩
theorem xS {l : List UInt8} (h : l.headD 0≠0) : 0<l.length:=by
 cases l with
 | nil => exact absurd rfl h
 | cons a l => simp
theorem kM {l : List UInt8} {n : Nat} (h : (l.drop n).headD 0≠0) : n<l.length:=by
 have:=xS h
 rw [List.length_drop] at this; omega
theorem x6 {α : Type} (p : α→Bool) (l : List α) : (l.takeWhile p).length≤l.length:=(List.takeWhile_sublist (l:=l) p).length_le
theorem a0b {l : List UInt8} {pos : Int} {t : Tk} {n : Nat} (h : Y5 l pos=.ok (t,n)) (h1 : 1≤m5 l) : 1≤n∧n≤l.length:=by
 have hs:=kP l
 unfold Y5 at h
 simp only at h
 split at h
 ·rename_i hd
  have hd':=kM (l:=l) (n:=m5 l) (by rw [hd]; decide)
  have hs2:=kP (l.drop (m5 l + 1))
  rw [List.length_drop] at hs2
  split at h
  ·cases h
  ·simp only [Except.ok.injEq,Prod.mk.injEq] at h
   omega
 ·split at h
  ·cases h
  ·simp only [Except.ok.injEq,Prod.mk.injEq] at h
   omega
theorem pA {c : UInt8} {r : List UInt8} (h : dgC c=true) : 1≤aJ (c :: r):=by
 unfold aJ
 rw [List.takeWhile_cons,if_pos h]; simp
theorem rO {l : List UInt8} (h : 1≤aJ l) : 1≤cC l∧cC l≤l.length:=by
 have h1 : aJ l≤l.length:=x6 dgC l
 unfold cC
 split
 ·rename_i hd
  have hd':=kM (l:=l) (n:=aJ l) (by rw [hd.1]; decide)
  have h2 : aJ (l.drop (aJ l + 1))≤(l.drop (aJ l + 1)).length:=x6 dgC _
  rw [List.length_drop] at h2
  omega
 ·omega
theorem a4I {l : List UInt8} {pos : Int} {t : Tk} {n : Nat} (h : aP l pos=.ok (t,n)) (h1 : 1≤aJ l) : 1≤n∧n≤l.length:=by
 unfold aP at h
 split at h
 ·rename_i hd
  unfold r8 at hd
  rw [Bool.and_eq_true,decide_eq_true_eq] at hd
  split at h
  ·cases h
  ·split at h
   ·simp only [Except.ok.injEq,Prod.mk.injEq] at h; omega
   ·cases h
 ·have:=rO h1
  split at h
  ·cases h
  ·split at h
   ·simp only [Except.ok.injEq,Prod.mk.injEq] at h; omega
   ·cases h
theorem a2V {r : List UInt8} {pos : Int} {t : Tk} {n : Nat} (h : Y1 r pos=.ok (t,n)) : 1≤n∧n≤r.length + 1:=by
 unfold Y1 at h
 split at h
 ·cases h
 ·rename_i hd
  have:=kM (l:=r) (n:=dH r) (by rw [Decidable.not_not.1 hd]; decide)
  split at h
  ·simp only [Except.ok.injEq,Prod.mk.injEq] at h; omega
  ·cases h
theorem kH {c : UInt8} {r : List UInt8} {pos : Int} {t : Tk} {n : Nat} (h : aB c r pos=.ok (t,n)) : 1≤n∧n≤r.length + 1:=by
 unfold aB at h
 split at h
 ·rename_i hs
  exact a0b h (by show 1≤(if smC c=true then 1 + (r.takeWhile inC).length else 0); rw [if_pos hs]; omega)
 split at h
 ·rename_i hd
  exact a4I h (pA hd)
 split at h
 ·exact a2V h
 split at h
 ·unfold yF at h
  split at h
  ·rename_i h3
   have : vP (c :: r)≤(c :: r).length:=x6 grC _
   simp only [Except.ok.injEq,Prod.mk.injEq] at h
   rw [List.length_cons] at this
   omega
  ·cases h
 ·unfold iA at h
  split at h
  ·rename_i h2
   have:=xS (l:=r) (by rw [h2.2]; decide)
   simp only [Except.ok.injEq,Prod.mk.injEq] at h; omega
  ·split at h
   ·simp only [Except.ok.injEq,Prod.mk.injEq] at h; omega
   ·cases h
theorem lV : ∀ (l : List UInt8) (pos : Int) (k n : Nat),n≤l.length→r9 l pos k n=r9 (l.drop n) (pos + n) k 0
 | l,pos,k,0,_ => by rw [List.drop_zero]; congr 1; omega
 | [],_,_,n + 1,h => by simp at h
 | c :: r,pos,k,n + 1,h => by
   rw [r9,lV r (pos + 1) k n (by simpa using h),List.drop_succ_cons]
   congr 1; omega
def ahead (ts : List Tk) (x : Except (Int × Int) (List Tk)) : Except (Int × Int) (List Tk):=match x with
 | .error e => .error e
 | .ok r => .ok (ts ++ r)
theorem uR (x : Except (Int × Int) (List Tk)) : ahead [] x=x:=by cases x <;> rfl
theorem sU (a b : List Tk) (x : Except (Int × Int) (List Tk)) : ahead a (ahead b x)=ahead (a ++ b) x:=by
 cases x with
 | error e => rfl
 | ok r => simp [ahead]
theorem eC {c : UInt8} {r : List UInt8} {pos : Int} {k : Nat} (h : c.toNat≤32) : r9 (c :: r) pos k 0=r9 r (pos + 1) k 0:=by
 rw [r9,if_pos h]
theorem lB {c : UInt8} {r : List UInt8} {pos : Int} {k : Nat} (h : c=35) : r9 (c :: r) pos k 0=r9 (r.drop (gU r)) (pos + 1 + gU r) k 0:=by
 rw [r9,if_neg (by rw [h]; decide),if_pos h]
 exact lV _ _ _ _ (x6 _ r)
theorem iM {c : UInt8} {r : List UInt8} {pos : Int} {k : Nat} {e : Int} (h : ¬ c.toNat≤32) (h' : c≠35) (ht : aB c r pos=.error e) : r9 (c :: r) pos k 0=.error (e,pos):=by
 rw [r9,if_neg h,if_neg h',ht]
theorem fD {c : UInt8} {r : List UInt8} {pos : Int} {k : Nat} {t : Tk} {n : Nat} (h : ¬ c.toNat≤32) (h' : c≠35) (ht : aB c r pos=.ok (t,n)) (hk : k=8192) : r9 (c :: r) pos k 0=.error (76,pos):=by
 rw [r9,if_neg h,if_neg h',ht]
 simp only
 rw [if_pos hk]
theorem iJ {c : UInt8} {r : List UInt8} {pos : Int} {k : Nat} {t : Tk} {n : Nat} (h : ¬ c.toNat≤32) (h' : c≠35) (ht : aB c r pos=.ok (t,n)) (hk : k≠8192) : r9 (c :: r) pos k 0=ahead [t] (r9 ((c :: r).drop n) (pos + n) (k + 1) 0):=by
 have hl:=kH ht
 obtain ⟨m,rfl⟩ : ∃ m,n=m + 1:=⟨n - 1,by omega⟩
 rw [r9,if_neg h,if_neg h',ht]
 simp only
 rw [if_neg hk,Nat.add_sub_cancel,lV r _ _ m (by omega),List.drop_succ_cons,show pos + 1 + (m : Int)=pos + ((m + 1 : Nat) : Int) by omega]
 cases r9 (r.drop m) (pos + ((m + 1 : Nat) : Int)) (k + 1) 0 <;> rfl
theorem a1P {l : List Tk} {k : Int} (h : (hd l).kind=k) (hk : k≠0) : l≠[]:=by
 rintro rfl; exact hk h.symm
theorem cA {l : List Tk} {k : Int} (h : (hd l).kind=k) (hk : k≠0) : (b9 l).length + 1=l.length:=by
 have hne:=a1P h hk
 unfold b9
 rw [if_neg (by rw [h]; exact hk)]
 cases l with
 | nil => exact absurd rfl hne
 | cons a l => rfl
theorem cX {w : List UInt8} {l : List Tk} (h : isT w l=true) : ((hd l).kind=2∨(hd l).kind=8)∧(hd l).text=w:=by
 unfold isT at h
 simpa using h
theorem n5 {w : List UInt8} {l : List Tk} (h : isT w l=true) : (b9 l).length + 1=l.length:=by
 rcases (cX h).1 with g | g
 ·exact cA g (by decide)
 ·exact cA g (by decide)
theorem gZ {ws : List (List UInt8)} {l : List Tk} (h : U0 ws l=true) : (b9 l).length + 1=l.length:=by
 unfold U0 at h
 obtain ⟨w,-,hw⟩:=List.any_eq_true.1 h
 exact n5 hw
theorem aH (l : List Tk) : (b9 l).length≤l.length:=by
 unfold b9
 split
 ·exact Nat.le_refl _
 ·simp
def j9 (n : Nat) (x y : Rd) : Prop:=x=y∧∀ t r,x=.ok (t,r)→r.length≤n
theorem j9.error (n : Nat) (e : Int × Int) : j9 n (.error e) (.error e):=⟨rfl,fun _ _ h => by cases h⟩
theorem j9.ok {n : Nat} (t : Nd) {r : List Tk} (h : r.length≤n) : j9 n (.ok (t,r)) (.ok (t,r)):=⟨rfl,fun _ _ e => by cases e; exact h⟩
theorem j9.made {n : Nat} (t : Nd) {r : List Tk} (h : r.length≤n) : j9 n (made t r) (made t r):=by
 unfold Proofs.YtibiccacafjjfaaGreatDoor.made
 split
 ·exact j9.error n _
 ·exact j9.ok t h
theorem j9.then {n m : Nat} {x y : Rd} {f g : Nd→List Tk→Rd} (h : j9 n x y) (hf : ∀ t r,r.length≤n→j9 m (f t r) (g t r)) : j9 m (x.then f) (y.then g):=by
 obtain ⟨rfl,hl⟩:=h
 cases x with
 | error e => exact j9.error m e
 | ok p => obtain ⟨t,r⟩:=p; exact hf t r (hl t r rfl)
theorem j9.want {m : Nat} {w : List UInt8} {l : List Tk} {f g : List Tk→Rd} (h : (b9 l).length + 1=l.length→j9 m (f (b9 l)) (g (b9 l))) : j9 m (d7 w l f) (d7 w l g):=by
 unfold d7
 split
 ·rename_i c; exact h (n5 c)
 ·exact j9.error m _
theorem j9.kind {m : Nat} {k : Int} {l : List Tk} {f g : Tk→List Tk→Rd} (hk : k≠0) (h : (b9 l).length + 1=l.length→j9 m (f (hd l) (b9 l)) (g (hd l) (b9 l))) : j9 m (A7 k l f) (A7 k l g):=by
 unfold A7
 split
 ·rename_i c; exact h (cA c hk)
 ·exact j9.error m _
theorem j9.nest {m nest : Nat} {l : List Tk} {x y : Rd} (h : j9 m x y) : j9 m (S0 nest l x) (S0 nest l y):=by
 unfold S0
 split
 ·exact j9.error m _
 ·exact h
theorem j9.ite {m : Nat} {c : Prop} [Decidable c] {x x' y y' : Rd} (h : c→j9 m x x') (h' : ¬ c→j9 m y y') : j9 m (if c then x else y) (if c then x' else y'):=by
 split
 ·rename_i g; exact h g
 ·rename_i g; exact h' g
theorem j9.mono {n m : Nat} {x y : Rd} (h : j9 n x y) (hn : n≤m) : j9 m x y:=⟨h.1,fun t r e => Nat.le_trans (h.2 t r e) hn⟩
theorem a0N (lv : Nat) : eZ (D5 lv) + 1≤eZ (.chain lv):=by
 unfold D5
 split
 ·rename_i h; subst h; decide
 split
 ·rename_i h; subst h; decide
 split
 ·rename_i h; subst h; decide
 ·rename_i h0 h1 h2
  show 3 + 1≤(if lv=0 then 8 else if lv=1 then 7 else if lv=2 then 5 else 4)
  rw [if_neg h0,if_neg h1,if_neg h2]
  exact Nat.le_refl _
theorem oY (lv : Nat) : eZ (.chain lv)≤8∧4≤eZ (.chain lv):=by
 show (if lv=0 then 8 else if lv=1 then 7 else if lv=2 then 5 else 4)≤8∧4≤(if lv=0 then 8 else if lv=1 then 7 else if lv=2 then 5 else 4)
 split
 ·omega
 split
 ·omega
 split <;> omega
theorem a6f (m : Md) : eZ m≤10:=by
 cases m with
 | chain lv => have:=oY lv; omega
 | expr => exact (by decide : (9 : Nat)≤10)
 | loop lv t => exact (by decide : (1 : Nat)≤10)
 | not => exact (by decide : (6 : Nat)≤10)
 | unary => exact (by decide : (3 : Nat)≤10)
 | atom => exact (by decide : (2 : Nat)≤10)
 | args acc => exact Nat.le_refl 10
theorem qM {g h : Md→Nat→List Tk→Rd} (m : Md) (nest : Nat) (l : List Tk) (ih : ∀ m' nest' l',eI m' l'<eI m l→j9 l'.length (g m' nest' l') (h m' nest' l')) : j9 l.length (nS g m nest l) (nS h m nest l):=by
 have rk:=a6f
 unfold eI at ih
 cases m with
 | expr =>
   refine j9.nest (j9.ite (fun c => ?_) fun c => ?_)
   ·have:=n5 c
    have e : eZ .expr=9:=rfl
    refine (ih _ _ _ (by rw [e]; omega)).then fun t r hr => j9.want fun h1 => (ih _ _ _ (by rw [e]; omega)).then fun t r hr => j9.want fun h1 => (ih _ _ _ (by rw [e]; omega)).then fun t r hr => j9.made _ (by omega)
   ·exact ih _ _ _ (by have : eZ (.chain 0)=8:=rfl; have e : eZ .expr=9:=rfl; omega)
 | chain lv =>
   have:=a0N lv
   have h2:=oY lv
   refine (ih _ _ _ (by omega)).then fun t r hr => (ih _ _ _ ?_).mono hr
   show 11 * r.length + 1 + 1<_
   omega
 | loop lv t =>
   have e : eZ (.loop lv t)=1:=rfl
   refine j9.ite (fun c => ?_) fun c => j9.ok _ (Nat.le_refl _)
   have:=gZ c
   have:=rk (D5 lv)
   refine (ih _ _ _ (by rw [e]; omega)).then fun u r hr => (j9.made _ hr).then fun u r hr => (ih _ _ _ ?_).mono (by omega)
   show 11 * r.length + 1 + 1<11 * l.length + 1 + 1
   omega
 | not =>
   have e : eZ .not=6:=rfl
   refine j9.ite (fun c => ?_) fun c => ?_
   ·have:=n5 c
    exact j9.nest ((ih _ _ _ (by omega)).then fun u r hr => j9.made _ (by omega))
   ·have e2 : eZ (.chain 2)=5:=rfl
    refine (ih _ _ _ (by rw [e,e2]; omega)).then fun a r hr => j9.ite (fun c => ?_) fun c => j9.ok _ hr
    have:=gZ c
    exact (ih _ _ _ (by rw [e,e2]; omega)).then fun u r hr => j9.made _ (by omega)
 | unary =>
   have e : eZ .unary=3:=rfl
   refine j9.ite (fun c => ?_) fun c => ?_
   ·have:=n5 c
    exact j9.nest ((ih _ _ _ (by omega)).then fun u r hr => j9.made _ (by omega))
   ·have e2 : eZ .atom=2:=rfl
    exact ih _ _ _ (by omega)
 | atom =>
   have e : eZ .atom=2:=rfl
   have e2 : eZ .expr=9:=rfl
   have hl:=aH l
   refine j9.ite (fun c => j9.ok _ hl) fun _ => j9.ite (fun c => j9.ok _ hl) fun _ => j9.ite (fun c => j9.ok _ hl) fun _ => j9.ite (fun c => ?_) fun _ => j9.ite (fun c => j9.ok _ hl) fun _ => j9.ite (fun c => j9.ok _ hl) fun _ =>
    j9.ite (fun c => j9.kind (by decide) fun h1 => j9.ok _ (by omega)) fun _ => j9.ite (fun c => ?_) fun _ => j9.ite (fun c => ?_) fun _ => j9.error _ _
   ·refine j9.ite (fun c' => ?_) fun c => j9.ok _ hl
    have h0 : (b9 l).length + 1=l.length:=by rcases c with c | c <;> exact cA c (by decide)
    have h1:=n5 c'
    have e3 : eZ (.args [])=10:=rfl
    exact (ih _ _ _ (by rw [e,e3]; omega)).then fun a r hr => j9.made _ (by omega)
   ·have h0:=n5 c
    exact j9.kind (by decide) fun h1 => j9.want fun h2 => (ih _ _ _ (by rw [e,e2]; omega)).then fun t r hr => j9.want fun h3 => (ih _ _ _ (by rw [e,e2]; omega)).then fun t r hr => j9.want fun h3 => (ih _ _ _ (by rw [e,e2]; omega)).then fun t r hr => j9.want fun h3 => j9.made _ (by omega)
   ·have h0:=n5 c
    exact (ih _ _ _ (by rw [e,e2]; omega)).then fun t r hr => j9.want fun h3 => j9.ok _ (by omega)
 | args acc =>
   have e : eZ (.args acc)=10:=rfl
   have e2 : eZ .expr=9:=rfl
   refine j9.ite (fun c => j9.error _ _) fun c => ?_
   refine (ih _ _ _ (by rw [e,e2]; omega)).then fun t r hr => j9.ite (fun c => ?_) fun c => j9.want fun h1 => j9.ok _ (by omega)
   have:=n5 c
   exact (ih _ _ _ (by show 11 * (b9 r).length + 10 + 1<11 * l.length + 10 + 1; omega)).mono (by omega)
theorem nY : ∀ (n : Nat) (m : Md) (nest : Nat) (l : List Tk),eI m l≤n→∀ f,eI m l≤f→j9 l.length (a5E f m nest l) (rd m nest l)
 | 0,m,_,l,h,_,_ => by unfold eI at h; omega
 | n + 1,m,nest,l,h,f,hf => by
   unfold rd
   obtain ⟨f',rfl⟩ : ∃ f',f=f' + 1:=⟨f - 1,by unfold eI at hf; omega⟩
   obtain ⟨g,hg⟩ : ∃ g,eI m l=g + 1:=⟨11 * l.length + eZ m,rfl⟩
   rw [hg]
   refine qM m nest l fun m' nest' l' hl => ?_
   have h1:=nY n m' nest' l' (by omega) f' (by omega)
   have h2:=nY n m' nest' l' (by omega) g (by omega)
   exact ⟨h1.1.trans h2.1.symm,h1.2⟩
theorem t7 (m : Md) (nest : Nat) (l : List Tk) : rd m nest l=nS rd m nest l:=by
 have h : rd m nest l=nS (a5E (11 * l.length + eZ m)) m nest l:=rfl
 rw [h]
 refine (qM m nest l fun m' nest' l' hl => ?_).1
 exact nY _ m' nest' l' (Nat.le_refl _) _ (by unfold eI at hl; unfold eI; omega)
theorem bC (m : Md) (nest : Nat) (l : List Tk) {t : Nd} {r : List Tk} (h : rd m nest l=.ok (t,r)) : r.length≤l.length:=(nY _ m nest l (Nat.le_refl _) _ (Nat.le_refl _)).2 t r h
end Go.Proofs.YtibiccacafjjfaaGreatDoor
