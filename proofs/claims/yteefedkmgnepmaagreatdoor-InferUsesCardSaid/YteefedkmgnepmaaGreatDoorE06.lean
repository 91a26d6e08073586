/-
  Laws that the proof rests on.
-/
import Derived.Test.YteefedkmgnepmaaGreatDoorE05
import Derived.Test.YteefedkmgnepmaaGreatDoorE04
import Derived.Shelf.Strings.BuilderK
import Derived.WalkKit
import Derived.Shelf.Abstract
import Derived.WalkSpells
import Derived.WalkLawsBesides
import Derived.IntWalk
import Derived.Lib.Hide
import Derived.Test.YteefedkmgnepmaaGreatDoorE02
import Derived.Test.YteefedkmgnepmaaGreatDoorE01
namespace Go.Proofs.YteefedkmgnepmaaGreatDoor
set_option maxRecDepth 100000
set_option maxHeartbeats 16000000
section
open Go.RowKit Go.Shelf
theorem a6O : Builder.Extra Tryz.prog Tryz.lays169_ren:=Tryz.Builder_Extra_169
def Bld (B b : Nat) (l : List UInt8) (w : World) : Prop:=Lib.IsBuilderF 99 5 B b (Lib.byteCells l) w
abbrev a1V (b : Nat) (w w' : World) : Prop:=Lib.OthersKept 5 (some b) w w'
theorem a0C (b : Nat) (w : World) (h0 : w.cell? ⟨b,0,none⟩=some (.pointer (some ⟨b,0,none⟩))) :
 Calls Tryz.prog 76 #[.pointer (some ⟨b,0,none⟩)] w fun e w' => e=.returned (.tuple #[])∧w'=w:=by
 obtain ⟨j,hj,_⟩:=Option.map_eq_some_iff.1 (show (Tryz.prog.info? 99).map (·.size)=some 2 from a6O.sizeBuilder)
 have mixed : Tryz.prog.follows .mixedOrders=true:=by kernel_rfl
 go_enter Tryz.func76,Tryz.ntmps76
 go_wp2
 rw [Lib.run_neq_ptr_same w _ Tryz.underlying96 hj]
 go_wp2
 refine bodyPost_end (results_none rfl _ _ _) rfl ?_
 exact ⟨rfl,rfl⟩
theorem zL (b : Nat) (w : World) (h0 : w.cell? ⟨b,0,none⟩=some (.pointer none)) (hsh : w.shape? b=some (99,2)) (hfz : w.frozen? ⟨b,0,none⟩=false) :
 Calls Tryz.prog 76 #[.pointer (some ⟨b,0,none⟩)] w fun e w' => e=.returned (.tuple #[])∧w'=w.setCell ⟨b,0,none⟩ (.pointer (some ⟨b,0,none⟩)):=by
 obtain ⟨j,hj,hjs⟩:=Option.map_eq_some_iff.1 (show (Tryz.prog.info? 99).map (·.size)=some 2 from a6O.sizeBuilder)
 have mixed : Tryz.prog.follows .mixedOrders=true:=by kernel_rfl
 go_enter Tryz.func76,Tryz.ntmps76
 go_wp2
 rw [Lib.run_to_unsafe w ⟨b,0,none⟩ Tryz.underlying96 Tryz.underlying148 hj (by rw [hjs]; decide) hsh (Nat.zero_lt_succ 1)]
 simp only [Result.andThen]
 rw [Oper.upon_value]
 go_wp2
 rw [run_callFunc_extern Tryz.func102 (by kernel_rfl) (by kernel_rfl) (by kernel_rfl) (e:=Extern.AbiNoEscape.same) (by kernel_rfl)]
 rw [Lib.run_noEscape]
 simp only [Result.andThen]
 rw [Oper.upon_value]
 go_wp2
 rw [Lib.run_from_unsafe w ⟨b,0,none⟩ Tryz.underlying148 Tryz.underlying96 hj hsh a6O.liesBuilder]
 simp only [Result.andThen]
 rw [Oper.upon_value]
 go_wp2
 refine bodyPost_end (results_none rfl _ _ _) rfl ?_
 exact ⟨rfl,rfl⟩
theorem a2O (B b : Nat) (l : List UInt8) (w : World) (h : Bld B b l w) :
 Calls Tryz.prog 76 #[.pointer (some ⟨b,0,none⟩)] w fun e w' => e=.returned (.tuple #[])∧(Lib.BuilderAtF 99 5 B b (.pointer (some ⟨b,0,none⟩)) (Lib.byteCells l) w'∧Below B w w'∧a1V b w w'):=by
 rcases h with h | h
 ·refine (zL b w h.cell0 h.shape h.frozen0).mono ?_
  rintro e w' ⟨rfl,rfl⟩
  exact ⟨rfl,h.used _,(Below.refl B w).setCell (p:=⟨b,0,none⟩) h.1 _,(Lib.OthersKept.refl _ _ w).setCell ⟨b,0,none⟩ rfl _⟩
 ·refine (a0C b w h.cell0).mono ?_
  rintro e w' ⟨rfl,rfl⟩
  exact ⟨rfl,h,Below.refl B _,Lib.OthersKept.refl _ _ _⟩
theorem a0X (B b : Nat) (l : List UInt8) (s : ByteArray) (w : World) (h : Bld B b l w) (hlen : l.length + s.size≤140737488355328) (hBw : B≤w.heap.size) :
 Calls Tryz.prog 45 #[.pointer (some ⟨b,0,none⟩),.string s] w fun e w' => e=.returned (.tuple #[.int .i64 s.size,.nilIface])∧(Bld B b (l ++ s.data.toList) w'∧Below B w w'∧a1V b w w'):=by
 have hbl:=Lib.byteCells_length l
 obtain ⟨i0,hi,hz0,hz1,hz2⟩:=info_parts (show (Tryz.prog.info? 5).map (fun i => (i.zero,i.size,i.bytes))=some (some (.int .u8 0),1,1) from a6O.infoByte)
 have mixed : Tryz.prog.follows .mixedOrders=true:=by kernel_rfl
 go_enter Tryz.func45,Tryz.ntmps45
 go_wp2_with (go_at_call 76; refine (a2O B b l _ h).mono ?_)
 rintro e w1 ⟨rfl,h1,hb1,hk1⟩
 obtain ⟨hB,v,hbk,hown,hne⟩:=h1
 rw [hbl] at hown
 have c0 : w1.cell? ⟨b,0,none⟩=some (.pointer (some ⟨b,0,none⟩)):=by rw [Lib.cell_of_heap hbk]; rfl
 have c1 : w1.cell? ⟨b,1,none⟩=some v:=by rw [Lib.cell_of_heap hbk]; rfl
 go_wp2_with (at_builtin; refine Lib.wpList_append_own_stringF _ rfl _ _ 97 9 rfl B 5 i0 Tryz.underlying97 Tryz.underlying9 hi hz0 hz1 hz2 _ _ _ rfl hown s rfl ?c3 ?c4 ?c5 ?_)
 case c3 => unfold maxLen; omega
 case c4 => omega
 case c5 => have:=hb1.size; omega
 intro v' w2 hown' hgrow _
 have hlt : b<w1.heap.size:=by
  rcases Nat.lt_or_ge b w1.heap.size with h' | h'
  ·exact h'
  ·simp [Array.getElem?_eq_none h'] at hbk
 have hb2 : w2.heap[b]?=some (.cells #[.pointer (some ⟨b,0,none⟩),v] 99 (0,0)):=by
  rw [hgrow.block b hlt (fun e => hne e.symm)]
  exact hbk
 have d0 : w2.cell? ⟨b,0,none⟩=some (.pointer (some ⟨b,0,none⟩)):=by rw [Lib.cell_of_heap hb2]; rfl
 have d1 : w2.cell? ⟨b,1,none⟩=some v:=by rw [Lib.cell_of_heap hb2]; rfl
 have f1 : w2.frozen? ⟨b,1,none⟩=false:=Lib.frozen_of_heap hb2 1
 obtain ⟨ao,n',cap,rfl⟩ : ∃ ao n' cap,v'=.slice ao n' cap:=by
  rcases hown'.2 with ⟨hv,_⟩ | ⟨g,cap,cur,fz,hv,_⟩
  ·exact ⟨_,_,_,hv⟩
  ·exact ⟨_,_,_,hv⟩
 go_wp2
 go_ret2
 refine ⟨rfl,?_,?_,(hk1.grown hgrow (Lib.ownsRowF_kind hown)).setCell ⟨b,1,none⟩ rfl _⟩
 ·have e1 : Lib.byteCells (l ++ s.data.toList)=Lib.byteCells l ++ Lib.strCells s:=by rw [Lib.strCells_eq]; unfold Lib.byteCells; rw [List.map_append]
  have e2 : (Lib.byteCells l ++ Lib.strCells s).length=l.length + s.size:=by rw [List.length_append,hbl,Lib.strCells_length]
  refine Or.inr ?_
  rw [e1]
  exact Lib.BuilderAtF.put (T:=99) (e:=5) hB hb2 (bs':=Lib.byteCells l ++ Lib.strCells s) (by rw [e2]; exact hown') (by decide)
 ·exact (hb1.grown hgrow (by have:=hb1.size; omega) (fun k hk => (hown.lt k hk).1)).setCell (p:=⟨b,1,none⟩) hB _
theorem mM (B b : Nat) (l : List UInt8) (w : World) (h : Bld B b l w) (hBw : B≤w.heap.size) :
 Calls Tryz.prog 46 #[.pointer (some ⟨b,0,none⟩)] w fun e w' => e=.returned (.string ⟨l.toArray⟩)∧(Bld B b l w'∧Below B w w'∧a1V b w w') :=
 Tryz.Builder_String_any_k B b l w h hBw
end
section
open Lib (hid)
open Go.RowKit
def smI (n : Int) : Bool:=decide (97≤n) && decide (n≤122)
def dgI (n : Int) : Bool:=decide (48≤n) && decide (n≤57)
def inI (n : Int) : Bool:=smI n || dgI n || n == 95
def smC (c : UInt8) : Bool:=smI c.toNat
def inC (c : UInt8) : Bool:=inI c.toNat
def x7 (l : List UInt8) : Nat:=match l with
 | [] => 0
 | c :: l => if smC c then 1 + (l.takeWhile inC).length else 0
def iM (l : List UInt8) : Bool:=decide (0<l.length) && decide (l.length≤24) && decide (x7 l=l.length)
theorem jW (l : List UInt8) : x7 l≤l.length:=by
 cases l with
 | nil => exact Nat.le_refl _
 | cons c l =>
   show (if smC c=true then 1 + (l.takeWhile inC).length else 0)≤l.length + 1
   split
   ·have:=(List.takeWhile_sublist (l:=l) inC).length_le; omega
   ·exact Nat.zero_le _
theorem a1N {k : IntKind} {a b : Int} (h : a=b) : Ending.returned (.int k a)=.returned (.int k b):=by rw [h]
theorem dT {a b : Bool} (h : a=b) : Ending.returned (.bool a)=.returned (.bool b):=by rw [h]
theorem e8 (n : Int) (w : World) : Calls Tryz.prog 92 #[.int .u8 n] w fun e w' => e=.returned (.bool (smI n))∧w=w':=by
 go_enter Tryz.func92,Tryz.ntmps92
 go_wp2
 all_goals go_ret
 all_goals exact ⟨dT (by unfold smI; rw [Bool.eq_iff_iff]; simp; omega),rfl⟩
theorem o0 (n : Int) (w : World) : Calls Tryz.prog 94 #[.int .u8 n] w fun e w' => e=.returned (.bool (dgI n))∧w=w':=by
 go_enter Tryz.func94,Tryz.ntmps94
 go_wp2
 all_goals go_ret
 all_goals exact ⟨dT (by unfold dgI; rw [Bool.eq_iff_iff]; simp; omega),rfl⟩
theorem oJ (n : Int) (w : World) : Calls Tryz.prog 132 #[.int .u8 n] w fun e w' => e=.returned (.bool (inI n))∧w=w':=by
 have e:=hid (show inI n=(smI n || dgI n || n == 95) from rfl)
 cases h1 : smI n
 ·cases h2 : dgI n
  all_goals
   go_enter Tryz.func132,Tryz.ntmps132
   go_wp2_with (first | (go_at_call 92; refine (e8 _ _).mono ?_; rintro e w' ⟨rfl,rfl⟩; rw [h1]) | (go_at_call 94; refine (o0 _ _).mono ?_; rintro e w' ⟨rfl,rfl⟩; rw [h2]))
   go_ret
   exact ⟨dT (by rw [e.out,h1,h2]; rfl),rfl⟩
 ·go_enter Tryz.func132,Tryz.ntmps132
  go_wp2_with (first | (go_at_call 92; refine (e8 _ _).mono ?_; rintro e w' ⟨rfl,rfl⟩; rw [h1]))
  go_ret
  exact ⟨dT (by rw [e.out,h1]; rfl),rfl⟩
theorem T3 {s : ByteArray} {k : Nat} (h : k<s.size) : s.data.toList.drop k=s[k] :: s.data.toList.drop (k + 1):=by
 have h' : k<s.data.toList.length:=by simpa using h
 rw [List.drop_eq_getElem_cons h']
 rfl
theorem eO {s : ByteArray} {k : Nat} (h : s.size≤k) : s.data.toList.drop k=[]:=List.drop_of_length_le (by simpa using h)
theorem a0u {s : ByteArray} {k : Nat} (h : k<s.size) (hs : smI s[k].toNat=true) : x7 (s.data.toList.drop k)=1 + ((s.data.toList.drop (k + 1)).takeWhile inC).length:=by
 rw [T3 h]; exact if_pos (show smC s[k]=true from hs)
theorem a3V {s : ByteArray} {k : Nat} (h : k<s.size) (hs : smI s[k].toNat=false) : x7 (s.data.toList.drop k)=0:=by
 rw [T3 h]; exact if_neg (show ¬ smC s[k]=true by rw [show smC s[k]=false from hs]; decide)
theorem a7R {s : ByteArray} {k : Nat} (h : k<s.size) (hs : inI s[k].toNat=true) : ((s.data.toList.drop k).takeWhile inC).length=1 + ((s.data.toList.drop (k + 1)).takeWhile inC).length:=by
 rw [T3 h,List.takeWhile_cons,if_pos (show inC s[k]=true from hs)]; simp; omega
theorem a6g {s : ByteArray} {k : Nat} (h : k<s.size) (hs : inI s[k].toNat=false) : ((s.data.toList.drop k).takeWhile inC).length=0:=by
 rw [T3 h,List.takeWhile_cons,if_neg (show ¬ inC s[k]=true by rw [show inC s[k]=false from hs]; decide)]; rfl
theorem a6e {s : ByteArray} {k : Nat} (h : s.size≤k) : ((s.data.toList.drop k).takeWhile inC).length=0:=by rw [eO h]; rfl
theorem lF (s : ByteArray) (a : Nat) (w : World) (hs : s.size≤maxLen) (ha : a≤maxLen) :
 Calls Tryz.prog 115 #[.string s,.int .i64 a] w fun e w' => e=.returned (.int .i64 (x7 (s.data.toList.drop a) : Nat))∧w=w':=by
 have hm:=hs
 have hm':=ha
 unfold maxLen at hm hm'
 by_cases h0 : a<s.size
 ·cases h1 : smI s[a].toNat
  ·have e:=hid (a3V h0 h1)
   go_enter Tryz.func115,Tryz.ntmps115
   go_wp2_with (first | (go_at_call 92; refine (e8 _ _).mono ?_; rintro e w' ⟨rfl,rfl⟩; rw [h1]))
   go_ret
   exact ⟨a1N (by rw [e.out]; rfl),rfl⟩
  ·have e:=hid (a0u h0 h1)
   go_enter Tryz.func115,Tryz.ntmps115
   go_wp2_with (first | (go_at_call 92; refine (e8 _ _).mono ?_; rintro e w' ⟨rfl,rfl⟩; rw [h1]))
   clear h1
   go_loop [6] (fun n => ∃ k : Nat,1≤k∧a + k≤s.size∧n=.int .i64 k∧Hid (k + ((s.data.toList.drop (a + k)).takeWhile inC).length=x7 (s.data.toList.drop a))) (fun n => s.size - (intOf n).toNat)
   case atStart => exact ⟨1,Nat.le_refl _,by omega,rfl,e.out.symm⟩
   case round =>
    obtain ⟨k,hk1,hk,rfl,HK⟩:=hrel
    by_cases hlt : a + k<s.size
    ·cases h2 : inI s[a + k].toNat
     ·have E:=hid (a6g hlt h2)
      go_wp2_with (first | (go_at_call 132; refine (oJ _ _).mono ?_; rintro e w' ⟨rfl,rfl⟩; rw [h2]))
      go_ret
      exact ⟨a1N (by rw [← HK.out,E.out]; rfl),rfl⟩
     ·have E:=hid (a7R hlt h2)
      go_wp2_with (first | (go_at_call 132; refine (oJ _ _).mono ?_; rintro e w' ⟨rfl,rfl⟩; rw [h2]))
      go_round
      case rel => exact ⟨k + 1,by omega,by omega,by go_num,by show _=_; rw [← HK.out,E.out,Nat.add_assoc,Nat.add_assoc]⟩
      case measure => simp [intOf]; omega
    ·have E:=hid (a6e (s:=s) (k:=a + k) (by omega))
     go_wp2
     go_ret
     exact ⟨a1N (by rw [← HK.out,E.out]; rfl),rfl⟩
 ·have e:=hid (show x7 (s.data.toList.drop a)=0 by rw [eO (by omega)]; rfl)
  go_enter Tryz.func115,Tryz.ntmps115
  go_wp2
  go_ret
  exact ⟨a1N (by rw [e.out]; rfl),rfl⟩
theorem yW (s : ByteArray) (w : World) (hs : s.size≤maxLen) :
 Calls Tryz.prog 120 #[.string s] w fun e w' => e=.returned (.bool (iM s.data.toList))∧w=w':=by
 have hm:=hs
 unfold maxLen at hm
 have hl : s.data.toList.length=s.size:=by simp
 by_cases h0 : 0<s.size
 ·by_cases h1 : 24<s.size
  ·have e:=hid (show iM s.data.toList=false by unfold iM; rw [hl,decide_eq_false (show ¬ s.size≤24 by omega)]; simp)
   clear hl
   go_enter Tryz.func120,Tryz.ntmps120
   go_wp2
   go_ret
   exact ⟨dT e.out.symm,rfl⟩
  ·have e:=hid (show iM s.data.toList=decide (x7 s.data.toList=s.size) by unfold iM; rw [hl,decide_eq_true h0,decide_eq_true (show s.size≤24 by omega)]; rfl)
   have hsp:=jW s.data.toList
   rw [hl] at hsp
   clear hl
   go_enter Tryz.func120,Tryz.ntmps120
   go_wp2_with (first | (go_at_call 115; refine (lF _ 0 _ hs (by decide)).mono ?_; rintro e w' ⟨rfl,rfl⟩; rw [List.drop_zero]))
   go_ret
   exact ⟨dT (by rw [e.out,Bool.eq_iff_iff]; simp; omega),rfl⟩
 ·have e:=hid (show iM s.data.toList=false by unfold iM; rw [hl,decide_eq_false h0]; rfl)
  clear hl
  go_enter Tryz.func120,Tryz.ntmps120
  go_wp2
  go_ret
  exact ⟨dT e.out.symm,rfl⟩
end
section
open Go.RowKit
theorem a5h {p : UInt8→Bool} (h : ∀ n : Fin 256,p (UInt8.ofNat n.val)=true) (c : UInt8) : p c=true:=by
 have:=h ⟨c.toNat,c.toNat_lt⟩
 simpa using this
theorem yS (c : UInt8) : O3 c=inC c:=by
 have:=a5h (p:=fun c => O3 c == inC c) (by decide +kernel) c
 simpa using this
theorem a4a (c : UInt8) : dS c=(decide (65≤(c.toNat : Int)) && decide ((c.toNat : Int)≤90)):=by
 have:=a5h (p:=fun c => dS c == (decide (65≤(c.toNat : Int)) && decide ((c.toNat : Int)≤90))) (by decide +kernel) c
 simpa using this
theorem eC {α : Type} (p : α→Bool) : ∀ l : List α,(l.takeWhile p).length=l.length↔l.all p=true
 | [] => by simp
 | a :: l => by
   rw [List.takeWhile_cons]
   cases h : p a
   ·simp [h]
   ·simp [h,eC p l]
theorem xG (l : List UInt8) : iM l=p6 l:=by
 unfold iM p6
 cases l with
 | nil => rfl
 | cons c l =>
   have ha : (c :: l).all O3=(inC c && l.all inC):=by
    rw [List.all_cons,yS]; congr 1
    exact List.all_congr rfl fun a => yS a
   rw [ha,Bool.eq_iff_iff]
   have hsm : smC c=true→inC c=true:=fun h => by
    unfold inC inI; rw [show smI (c.toNat : Int)=true from h]; rfl
   have hsm' : smC c=true↔97≤(c.toNat : Int)∧(c.toNat : Int)≤122:=by unfold smC smI; simp
   have hsp : x7 (c :: l)=if smC c then 1 + (l.takeWhile inC).length else 0:=rfl
   have htw:=eC inC l
   simp only [Bool.and_eq_true,decide_eq_true_eq,List.length_cons,List.headD_cons]
   rw [hsp]
   by_cases hc : smC c=true
   ·rw [if_pos hc]
    have:=hsm hc
    have h2:=hsm'.1 hc
    constructor
    ·rintro ⟨⟨-,h24⟩,hs⟩
     exact ⟨⟨h24,decide_eq_true h2.1,decide_eq_true h2.2⟩,this,htw.1 (by omega)⟩
    ·rintro ⟨⟨h24,-⟩,-,hi⟩
     have:=htw.2 hi
     exact ⟨⟨by omega,h24⟩,by omega⟩
   ·rw [if_neg hc]
    constructor
    ·rintro ⟨-,hs⟩; omega
    ·rintro ⟨⟨-,h2⟩,-⟩; exact absurd (hsm'.2 ⟨of_decide_eq_true h2.1,of_decide_eq_true h2.2⟩) hc
end
section
open Go.RowKit
def a7S : Value→Nat
 | .string s => s.size
 | _ => 0
theorem a4W (a : Int) : V5 a=(if V6 a<0 then [45] else []) ++ I9 (V6 a).natAbs:=rfl
theorem wD (a : Int) : -1000000000000000≤V6 a∧V6 a≤1000000000000000:=by unfold V6; (repeat' split) <;> omega
theorem jB {s : ByteArray} {l : List UInt8} (h : l=s.data.toList) : (⟨l.toArray⟩ : ByteArray)=s:=by
 subst h; cases s; simp
end
structure Tk where
 kind : Int
 text : List UInt8
 n : Int
 pos : Int
def bY (l : List UInt8) : Nat:=(l.takeWhile dgC).length
def grC (c : UInt8) : Bool:=decide (65≤(c.toNat : Int)) && decide ((c.toNat : Int)≤90)
def bH (l : List UInt8) (pos : Int) : Except Int (Tk × Nat) :=
 let n:=x7 l
 if (l.drop n).headD 0=46 then
  let m:=x7 (l.drop (n + 1))
  if 24<n∨m<1∨24<m∨X3 (l.take n)=true∨X3 ((l.drop (n + 1)).take m)=true then .error 73
  else .ok (⟨3,l.take n ++ 46 :: (l.drop (n + 1)).take m,0,pos⟩,n + 1 + m)
 else if 24<n then .error 73 else .ok (⟨if X3 (l.take n)=true then 2 else 1,l.take n,0,pos⟩,n)
def uL (l : List UInt8) : Option Int :=
 if l.length=10∧(∀ j (hj : j<l.length),Cal.fits j l[j]=true)∧Cal.ok (Cal.val (Cal.seg l 0 4)) (Cal.val (Cal.seg l 5 7)) (Cal.val (Cal.seg l 8 10))
 then some (Cal.num (Cal.val (Cal.seg l 0 4)) (Cal.val (Cal.seg l 5 7)) (Cal.val (Cal.seg l 8 10))) else none
def eA (r : List UInt8) : Bool:=match r with
 | [] => true
 | c :: p => c == 46 && (decide (1≤p.length) && decide (p.length≤6) && p.all dgC)
def aU (l : List UInt8) : Option Int :=
 let w:=l.takeWhile dgC
 let r:=l.drop w.length
 if 1≤w.length∧w.length≤10∧(w.length=1∨l.headD 0≠48)∧eA r=true then some (Cal.val (w ++ r.tail ++ List.replicate (6 - r.tail.length) 48)) else none
def jO (l : List UInt8) : Option Int :=
 if l.headD 0=45 then (match aU l.tail with | some n => if 1000000000000000<n∨n=0 then none else some (-n) | none => none)
 else match aU l with | some n => if 1000000000000000<n then none else some n | none => none
def U3 (l : List UInt8) : Bool:=decide (10≤l.length) && (decide (∀ j (hj : j<(l.take 10).length),Cal.fits j (l.take 10)[j]=true) && !dgC ((l.drop 10).headD 0))
def O6 (c : UInt8) : Bool:=!(smC c || grC c || c == 95 || c == 46)
def dH (l : List UInt8) : Nat:=if (l.drop (bY l)).headD 0=46∧dgC ((l.drop (bY l + 1)).headD 0)=true then bY l + 1 + bY (l.drop (bY l + 1)) else bY l
def aA (l : List UInt8) (pos : Int) : Except Int (Tk × Nat) :=
 if U3 l=true then
  match uL (l.take 10) with
  | none => .error 72
  | some v => if O6 ((l.drop 10).headD 0)=true then .ok (⟨5,[],v,pos⟩,10) else .error 72
 else
  match jO (l.take (dH l)) with
  | none => .error 72
  | some v => if O6 ((l.drop (dH l)).headD 0)=true then .ok (⟨6,[],v,pos⟩,dH l) else .error 72
def qN (c : UInt8) : Bool:=c != 34 && c != 10
def mT (l : List UInt8) : Nat:=(l.takeWhile qN).length
def dO (r : List UInt8) (pos : Int) : Except Int (Tk × Nat) :=
 if (r.drop (mT r)).headD 0≠34 then .error 71
 else if p6 (r.take (mT r))=true then .ok (⟨7,r.take (mT r),0,pos⟩,mT r + 2) else .error 73
def a3D (l : List UInt8) : Nat:=(l.takeWhile grC).length
def a3p (l : List UInt8) (pos : Int) : Except Int (Tk × Nat):=if a3D l=3 then .ok (⟨4,l.take 3,0,pos⟩,3) else .error 73
def cG : List UInt8:=[40,41,44,59,61,60,43,45,42,47]
def iJ (c : UInt8) (r : List UInt8) (pos : Int) : Except Int (Tk × Nat) :=
 if c=60∧r.headD 0=61 then .ok (⟨8,[60,61],0,pos⟩,2)
 else if cG.contains c=true then .ok (⟨8,[c],0,pos⟩,1) else .error 71
def X6 (c : UInt8) (r : List UInt8) (pos : Int) : Except Int (Tk × Nat) :=
 if smC c=true then bH (c :: r) pos
 else if dgC c=true then aA (c :: r) pos
 else if c=34 then dO r pos
 else if grC c=true then a3p (c :: r) pos
 else iJ c r pos
def xV (l : List UInt8) : Nat:=(l.takeWhile (· != 10)).length
def q7 : List UInt8→Int→Nat→Nat→Except (Int × Int) (List Tk)
 | [],pos,_,_ => .ok [⟨0,[],0,pos⟩]
 | _ :: r,pos,k,s + 1 => q7 r (pos + 1) k s
 | c :: r,pos,k,0 =>
   if c.toNat≤32 then q7 r (pos + 1) k 0
   else if c=35 then q7 r (pos + 1) k (xV r)
   else match X6 c r pos with
    | .error e => .error (e,pos)
    | .ok (t,n) => if k=8192 then .error (76,pos) else match q7 r (pos + 1) (k + 1) (n - 1) with
      | .error e => .error e
      | .ok ts => .ok (t :: ts)
def Q6 (l : List UInt8) : Except (Int × Int) (List Tk):=if 16384<l.length then .error (70,0) else q7 l 0 0 0
def hd (l : List Tk) : Tk:=l.headD ⟨0,[],0,0⟩
def isT (w : List UInt8) (l : List Tk) : Bool:=((hd l).kind == 2 || (hd l).kind == 8) && (hd l).text == w
def b8 (l : List Tk) : List Tk:=if (hd l).kind=0 then l else l.tail
abbrev Rd:=Except (Int × Int) (Nd × List Tk)
mutual
def d9 : Nd→Nat
 | .mk _ _ _ ks _ => j7 ks + 1
def j7 : List Nd→Nat
 | [] => 0
 | k :: ks => max (d9 k) (j7 ks)
end
def mkN (kind : Int) (s : List UInt8) (n : Int) (ks : List Nd) (p : Int) : Nd:=.mk kind ⟨s.toArray⟩ n ks p
def made (t : Nd) (r : List Tk) : Rd:=if 100<d9 t then .error (75,t.place) else .ok (t,r)
def Rd.then (x : Rd) (f : Nd→List Tk→Rd) : Rd:=match x with
 | .error e => .error e
 | .ok (t,r) => f t r
def o8 (w : List UInt8) (l : List Tk) (f : List Tk→Rd) : Rd:=if isT w l=true then f (b8 l) else .error (74,(hd l).pos)
def V9 (k : Int) (l : List Tk) (f : Tk→List Tk→Rd) : Rd:=if (hd l).kind=k then f (hd l) (b8 l) else .error (74,(hd l).pos)
inductive Md where
 | expr | chain (lv : Nat) | loop (lv : Nat) (t : Nd) | not | unary | atom | args (acc : List Nd)
def D6 (lv : Nat) : List (List UInt8):=if lv=0 then [[111,114]] else if lv=1 then [[97,110,100]] else if lv=2 then [[43],[45]] else [[42],[47]]
def zI : List (List UInt8):=[[60],[60,61],[61]]
def X4 (lv : Nat) : Md:=if lv=0 then .chain 1 else if lv=1 then .not else if lv=2 then .chain 3 else .unary
def bF (ws : List (List UInt8)) (l : List Tk) : Bool:=ws.any fun w => isT w l
def tIf : List UInt8:=[105,102]
def qE : List UInt8:=[116,104,101,110]
def oQ : List UInt8:=[101,108,115,101]
def iR : List UInt8:=[110,111,116]
def eD : List UInt8:=[45]
def x6 : List UInt8:=[40]
def y7 : List UInt8:=[41]
def q6 : List UInt8:=[44]
def aY : List UInt8:=[59]
def tEq : List UInt8:=[61]
def fU : List UInt8:=[116,114,117,101]
def bX : List UInt8:=[102,97,108,115,101]
def fT : List UInt8:=[102,101,101,100]
def eF : List UInt8:=[112,105,99,107]
def mX : List UInt8:=[108,101,116]
def cM : List UInt8:=[109,111,100,117,108,101]
def gS : List UInt8:=[105,109,112,111,114,116]
def eG (nest : Nat) (l : List Tk) (x : Rd) : Rd:=if 300<nest + 1 then .error (75,(hd l).pos) else x
def a3y (rd : Md→Nat→List Tk→Rd) : Md→Nat→List Tk→Rd
 | .expr,nest,l => eG nest l <|
   if isT tIf l=true then
    (rd .expr (nest + 1) (b8 l)).then fun a r => o8 qE r fun r => (rd .expr (nest + 1) r).then fun b r => o8 oQ r fun r => (rd .expr (nest + 1) r).then fun c r => made (mkN 14 [] 0 [a,b,c] (hd l).pos) r
   else rd (.chain 0) (nest + 1) l
 | .chain lv,nest,l => (rd (X4 lv) nest l).then fun t r => rd (.loop lv t) nest r
 | .loop lv t,nest,l =>
   if bF (D6 lv) l=true then (rd (X4 lv) nest (b8 l)).then fun m r => (made (mkN 13 (hd l).text 0 [t,m] (hd l).pos) r).then fun t r => rd (.loop lv t) nest r
   else .ok (t,l)
 | .not,nest,l =>
   if isT iR l=true then eG nest l <| (rd .not (nest + 1) (b8 l)).then fun t r => made (mkN 12 (hd l).text 0 [t] (hd l).pos) r
   else (rd (.chain 2) nest l).then fun a r => if bF zI r=true then (rd (.chain 2) nest (b8 r)).then fun b r' => made (mkN 13 (hd r).text 0 [a,b] (hd r).pos) r' else .ok (a,r)
 | .unary,nest,l =>
   if isT eD l=true then eG nest l <| (rd .unary (nest + 1) (b8 l)).then fun t r => made (mkN 12 (hd l).text 0 [t] (hd l).pos) r
   else rd .atom nest l
 | .atom,nest,l =>
   if (hd l).kind=6 then .ok (mkN 5 [] (hd l).n [] (hd l).pos,b8 l)
   else if (hd l).kind=5 then .ok (mkN 6 [] (hd l).n [] (hd l).pos,b8 l)
   else if (hd l).kind=4 then .ok (mkN 7 (hd l).text 0 [] (hd l).pos,b8 l)
   else if (hd l).kind=1∨(hd l).kind=3 then
    if isT x6 (b8 l)=true then (rd (.args []) nest (b8 (b8 l))).then fun a r => made (mkN 11 (hd l).text 0 a.kids (hd l).pos) r
    else .ok (mkN 10 (hd l).text 0 [] (hd l).pos,b8 l)
   else if isT fU l=true then .ok (mkN 8 [] 1 [] (hd l).pos,b8 l)
   else if isT bX l=true then .ok (mkN 8 [] 0 [] (hd l).pos,b8 l)
   else if isT fT l=true then V9 7 (b8 l) fun s r => .ok (mkN 9 s.text 0 [] (hd l).pos,r)
   else if isT eF l=true then V9 7 (b8 l) fun s r => o8 x6 r fun r => (rd .expr nest r).then fun a r => o8 q6 r fun r => (rd .expr nest r).then fun b r => o8 q6 r fun r => (rd .expr nest r).then fun c r =>
    o8 y7 r fun r => made (mkN 15 s.text 0 [a,b,c] (hd l).pos) r
   else if isT x6 l=true then (rd .expr nest (b8 l)).then fun x r => o8 y7 r fun r => .ok (x,r)
   else .error (74,(hd l).pos)
 | .args acc,nest,l =>
   if acc.length=8 then .error (76,(hd l).pos)
   else (rd .expr nest l).then fun t r => if isT q6 r=true then rd (.args (acc ++ [t])) nest (b8 r) else o8 y7 r fun r => .ok (mkN 0 [] 0 (acc ++ [t]) 0,r)
def a8s : Rd:=.error (-1,-1)
def a7a : Nat→Md→Nat→List Tk→Rd
 | 0 => fun _ _ _ => a8s
 | f + 1 => a3y (a7a f)
def rank : Md→Nat
 | .args _ => 10 | .expr => 9 | .chain lv => if lv=0 then 8 else if lv=1 then 7 else if lv=2 then 5 else 4
 | .not => 6 | .unary => 3 | .atom => 2 | .loop _ _ => 1
def cZ (m : Md) (l : List Tk) : Nat:=11 * l.length + rank m + 1
def rd (m : Md) (nest : Nat) (l : List Tk) : Rd:=a7a (cZ m l) m nest l
theorem a6o {l : List Tk} {k : Int} (h : (hd l).kind=k) (hk : k≠0) : l≠[]:=by
 rintro rfl; exact hk h.symm
theorem gN {l : List Tk} {k : Int} (h : (hd l).kind=k) (hk : k≠0) : (b8 l).length + 1=l.length:=by
 have hne:=a6o h hk
 unfold b8
 rw [if_neg (by rw [h]; exact hk)]
 cases l with
 | nil => exact absurd rfl hne
 | cons a l => rfl
theorem zF {w : List UInt8} {l : List Tk} (h : isT w l=true) : ((hd l).kind=2∨(hd l).kind=8)∧(hd l).text=w:=by
 unfold isT at h
 simpa using h
theorem H6 {w : List UInt8} {l : List Tk} (h : isT w l=true) : (b8 l).length + 1=l.length:=by
 rcases (zF h).1 with g | g
 ·exact gN g (by decide)
 ·exact gN g (by decide)
theorem jY {ws : List (List UInt8)} {l : List Tk} (h : bF ws l=true) : (b8 l).length + 1=l.length:=by
 unfold bF at h
 obtain ⟨w,-,hw⟩:=List.any_eq_true.1 h
 exact H6 hw
theorem O9 (l : List Tk) : (b8 l).length≤l.length:=by
 unfold b8
 split
 ·exact Nat.le_refl _
 ·simp
def i7 (n : Nat) (x y : Rd) : Prop:=x=y∧∀ t r,x=.ok (t,r)→r.length≤n
theorem i7.error (n : Nat) (e : Int × Int) : i7 n (.error e) (.error e):=⟨rfl,fun _ _ h => by cases h⟩
theorem i7.ok {n : Nat} (t : Nd) {r : List Tk} (h : r.length≤n) : i7 n (.ok (t,r)) (.ok (t,r)):=⟨rfl,fun _ _ e => by cases e; exact h⟩
theorem i7.made {n : Nat} (t : Nd) {r : List Tk} (h : r.length≤n) : i7 n (made t r) (made t r):=by
 unfold Proofs.YteefedkmgnepmaaGreatDoor.made
 split
 ·exact i7.error n _
 ·exact i7.ok t h
theorem i7.then {n m : Nat} {x y : Rd} {f g : Nd→List Tk→Rd} (h : i7 n x y) (hf : ∀ t r,r.length≤n→i7 m (f t r) (g t r)) : i7 m (x.then f) (y.then g):=by
 obtain ⟨rfl,hl⟩:=h
 cases x with
 | error e => exact i7.error m e
 | ok p => obtain ⟨t,r⟩:=p; exact hf t r (hl t r rfl)
theorem i7.want {m : Nat} {w : List UInt8} {l : List Tk} {f g : List Tk→Rd} (h : (b8 l).length + 1=l.length→i7 m (f (b8 l)) (g (b8 l))) : i7 m (o8 w l f) (o8 w l g):=by
 unfold o8
 split
 ·rename_i c; exact h (H6 c)
 ·exact i7.error m _
theorem i7.kind {m : Nat} {k : Int} {l : List Tk} {f g : Tk→List Tk→Rd} (hk : k≠0) (h : (b8 l).length + 1=l.length→i7 m (f (hd l) (b8 l)) (g (hd l) (b8 l))) : i7 m (V9 k l f) (V9 k l g):=by
 unfold V9
 split
 ·rename_i c; exact h (gN c hk)
 ·exact i7.error m _
theorem i7.nest {m nest : Nat} {l : List Tk} {x y : Rd} (h : i7 m x y) : i7 m (eG nest l x) (eG nest l y):=by
 unfold eG
 split
 ·exact i7.error m _
 ·exact h
theorem i7.ite {m : Nat} {c : Prop} [Decidable c] {x x' y y' : Rd} (h : c→i7 m x x') (h' : ¬ c→i7 m y y') : i7 m (if c then x else y) (if c then x' else y'):=by
 split
 ·rename_i g; exact h g
 ·rename_i g; exact h' g
theorem i7.mono {n m : Nat} {x y : Rd} (h : i7 n x y) (hn : n≤m) : i7 m x y:=⟨h.1,fun t r e => Nat.le_trans (h.2 t r e) hn⟩
theorem a0L (lv : Nat) : rank (X4 lv) + 1≤rank (.chain lv):=by
 unfold X4
 split
 ·rename_i h; subst h; decide
 split
 ·rename_i h; subst h; decide
 split
 ·rename_i h; subst h; decide
 ·rename_i h0 h1 h2
  show 3 + 1≤(if lv=0 then 8 else if lv=1 then 7 else if lv=2 then 5 else 4)
  rw [if_neg h0,if_neg h1,if_neg h2]
  exact Nat.le_refl _
theorem oO (lv : Nat) : rank (.chain lv)≤8∧4≤rank (.chain lv):=by
 show (if lv=0 then 8 else if lv=1 then 7 else if lv=2 then 5 else 4)≤8∧4≤(if lv=0 then 8 else if lv=1 then 7 else if lv=2 then 5 else 4)
 split
 ·omega
 split
 ·omega
 split <;> omega
theorem a6E (m : Md) : rank m≤10:=by
 cases m with
 | chain lv => have:=oO lv; omega
 | expr => exact (by decide : (9 : Nat)≤10)
 | loop lv t => exact (by decide : (1 : Nat)≤10)
 | not => exact (by decide : (6 : Nat)≤10)
 | unary => exact (by decide : (3 : Nat)≤10)
 | atom => exact (by decide : (2 : Nat)≤10)
 | args acc => exact Nat.le_refl 10
theorem oX {g h : Md→Nat→List Tk→Rd} (m : Md) (nest : Nat) (l : List Tk) (ih : ∀ m' nest' l',cZ m' l'<cZ m l→i7 l'.length (g m' nest' l') (h m' nest' l')) : i7 l.length (a3y g m nest l) (a3y h m nest l):=by
 have rk:=a6E
 unfold cZ at ih
 cases m with
 | expr =>
   refine i7.nest (i7.ite (fun c => ?_) fun c => ?_)
   ·have:=H6 c
    have e : rank .expr=9:=rfl
    refine (ih _ _ _ (by rw [e]; omega)).then fun t r hr => i7.want fun h1 => (ih _ _ _ (by rw [e]; omega)).then fun t r hr => i7.want fun h1 => (ih _ _ _ (by rw [e]; omega)).then fun t r hr => i7.made _ (by omega)
   ·exact ih _ _ _ (by have : rank (.chain 0)=8:=rfl; have e : rank .expr=9:=rfl; omega)
 | chain lv =>
   have:=a0L lv
   have h2:=oO lv
   refine (ih _ _ _ (by omega)).then fun t r hr => (ih _ _ _ ?_).mono hr
   show 11 * r.length + 1 + 1<_
   omega
 | loop lv t =>
   have e : rank (.loop lv t)=1:=rfl
   refine i7.ite (fun c => ?_) fun c => i7.ok _ (Nat.le_refl _)
   have:=jY c
   have:=rk (X4 lv)
   refine (ih _ _ _ (by rw [e]; omega)).then fun u r hr => (i7.made _ hr).then fun u r hr => (ih _ _ _ ?_).mono (by omega)
   show 11 * r.length + 1 + 1<11 * l.length + 1 + 1
   omega
 | not =>
   have e : rank .not=6:=rfl
   refine i7.ite (fun c => ?_) fun c => ?_
   ·have:=H6 c
    exact i7.nest ((ih _ _ _ (by omega)).then fun u r hr => i7.made _ (by omega))
   ·have e2 : rank (.chain 2)=5:=rfl
    refine (ih _ _ _ (by rw [e,e2]; omega)).then fun a r hr => i7.ite (fun c => ?_) fun c => i7.ok _ hr
    have:=jY c
    exact (ih _ _ _ (by rw [e,e2]; omega)).then fun u r hr => i7.made _ (by omega)
 | unary =>
   have e : rank .unary=3:=rfl
   refine i7.ite (fun c => ?_) fun c => ?_
   ·have:=H6 c
    exact i7.nest ((ih _ _ _ (by omega)).then fun u r hr => i7.made _ (by omega))
   ·have e2 : rank .atom=2:=rfl
    exact ih _ _ _ (by omega)
 | atom =>
   have e : rank .atom=2:=rfl
   have e2 : rank .expr=9:=rfl
   have hl:=O9 l
   refine i7.ite (fun c => i7.ok _ hl) fun _ => i7.ite (fun c => i7.ok _ hl) fun _ => i7.ite (fun c => i7.ok _ hl) fun _ => i7.ite (fun c => ?_) fun _ => i7.ite (fun c => i7.ok _ hl) fun _ => i7.ite (fun c => i7.ok _ hl) fun _ =>
    i7.ite (fun c => i7.kind (by decide) fun h1 => i7.ok _ (by omega)) fun _ => i7.ite (fun c => ?_) fun _ => i7.ite (fun c => ?_) fun _ => i7.error _ _
   ·refine i7.ite (fun c' => ?_) fun c => i7.ok _ hl
    have h0 : (b8 l).length + 1=l.length:=by rcases c with c | c <;> exact gN c (by decide)
    have h1:=H6 c'
    have e3 : rank (.args [])=10:=rfl
    exact (ih _ _ _ (by rw [e,e3]; omega)).then fun a r hr => i7.made _ (by omega)
   ·have h0:=H6 c
    exact i7.kind (by decide) fun h1 => i7.want fun h2 => (ih _ _ _ (by rw [e,e2]; omega)).then fun t r hr => i7.want fun h3 => (ih _ _ _ (by rw [e,e2]; omega)).then fun t r hr => i7.want fun h3 => (ih _ _ _ (by rw [e,e2]; omega)).then fun t r hr => i7.want fun h3 => i7.made _ (by omega)
   ·have h0:=H6 c
    exact (ih _ _ _ (by rw [e,e2]; omega)).then fun t r hr => i7.want fun h3 => i7.ok _ (by omega)
 | args acc =>
   have e : rank (.args acc)=10:=rfl
   have e2 : rank .expr=9:=rfl
   refine i7.ite (fun c => i7.error _ _) fun c => ?_
   refine (ih _ _ _ (by rw [e,e2]; omega)).then fun t r hr => i7.ite (fun c => ?_) fun c => i7.want fun h1 => i7.ok _ (by omega)
   have:=H6 c
   exact (ih _ _ _ (by show 11 * (b8 r).length + 10 + 1<11 * l.length + 10 + 1; omega)).mono (by omega)
theorem nD : ∀ (n : Nat) (m : Md) (nest : Nat) (l : List Tk),cZ m l≤n→∀ f,cZ m l≤f→i7 l.length (a7a f m nest l) (rd m nest l)
 | 0,m,_,l,h,_,_ => by unfold cZ at h; omega
 | n + 1,m,nest,l,h,f,hf => by
   unfold rd
   obtain ⟨f',rfl⟩ : ∃ f',f=f' + 1:=⟨f - 1,by unfold cZ at hf; omega⟩
   obtain ⟨g,hg⟩ : ∃ g,cZ m l=g + 1:=⟨11 * l.length + rank m,rfl⟩
   rw [hg]
   refine oX m nest l fun m' nest' l' hl => ?_
   have h1:=nD n m' nest' l' (by omega) f' (by omega)
   have h2:=nD n m' nest' l' (by omega) g (by omega)
   exact ⟨h1.1.trans h2.1.symm,h1.2⟩
theorem A9 (m : Md) (nest : Nat) (l : List Tk) : rd m nest l=a3y rd m nest l:=by
 have h : rd m nest l=a3y (a7a (11 * l.length + rank m)) m nest l:=rfl
 rw [h]
 refine (oX m nest l fun m' nest' l' hl => ?_).1
 exact nD _ m' nest' l' (Nat.le_refl _) _ (by unfold cZ at hl; unfold cZ; omega)
theorem lO (m : Md) (nest : Nat) (l : List Tk) {t : Nd} {r : List Tk} (h : rd m nest l=.ok (t,r)) : r.length≤l.length:=(nD _ m nest l (Nat.le_refl _) _ (Nat.le_refl _)).2 t r h
end Go.Proofs.YteefedkmgnepmaaGreatDoor
