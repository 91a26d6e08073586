/-
  Laws that the proof rests on.
-/
import Derived.Test.YtppcfebnaieciaaGreatDoorF05
import Derived.Test.YtppcfebnaieciaaGreatDoorF04
import Derived.Shelf.Strings.BuilderK
import Derived.WalkKit
import Derived.Shelf.Abstract
import Derived.WalkSpells
import Derived.WalkLawsBesides
import Derived.IntWalk
import Derived.Lib.Hide
import Derived.Test.YtppcfebnaieciaaGreatDoorF02
import Derived.Test.YtppcfebnaieciaaGreatDoorF01
namespace Go.Proofs.YtppcfebnaieciaaGreatDoor
set_option maxRecDepth 100000
set_option maxHeartbeats 16000000
section
open Go.RowKit Go.Shelf
theorem a3y : Builder.Extra Tryz.prog Tryz.lays169_ren:=Tryz.Builder_Extra_169
def Bld (B b : Nat) (l : List UInt8) (w : World) : Prop:=Lib.IsBuilderF 112 5 B b (Lib.byteCells l) w
abbrev yA (b : Nat) (w w' : World) : Prop:=Lib.OthersKept 5 (some b) w w'
theorem vX (b : Nat) (w : World) (h0 : w.cell? ⟨b,0,none⟩=some (.pointer (some ⟨b,0,none⟩))) :
 Calls Tryz.prog 107 #[.pointer (some ⟨b,0,none⟩)] w fun e w' => e=.returned (.tuple #[])∧w'=w:=by
 obtain ⟨j,hj,_⟩:=Option.map_eq_some_iff.1 (show (Tryz.prog.info? 112).map (·.size)=some 2 from a3y.sizeBuilder)
 have mixed : Tryz.prog.follows .mixedOrders=true:=by kernel_rfl
 go_enter Tryz.func107,Tryz.ntmps107
 go_wp2
 rw [Lib.run_neq_ptr_same w _ Tryz.underlying110 hj]
 go_wp2
 refine bodyPost_end (results_none rfl _ _ _) rfl ?_
 exact ⟨rfl,rfl⟩
theorem sO (b : Nat) (w : World) (h0 : w.cell? ⟨b,0,none⟩=some (.pointer none)) (hsh : w.shape? b=some (112,2)) (hfz : w.frozen? ⟨b,0,none⟩=false) :
 Calls Tryz.prog 107 #[.pointer (some ⟨b,0,none⟩)] w fun e w' => e=.returned (.tuple #[])∧w'=w.setCell ⟨b,0,none⟩ (.pointer (some ⟨b,0,none⟩)):=by
 obtain ⟨j,hj,hjs⟩:=Option.map_eq_some_iff.1 (show (Tryz.prog.info? 112).map (·.size)=some 2 from a3y.sizeBuilder)
 have mixed : Tryz.prog.follows .mixedOrders=true:=by kernel_rfl
 go_enter Tryz.func107,Tryz.ntmps107
 go_wp2
 rw [Lib.run_to_unsafe w ⟨b,0,none⟩ Tryz.underlying110 Tryz.underlying167 hj (by rw [hjs]; decide) hsh (Nat.zero_lt_succ 1)]
 simp only [Result.andThen]
 rw [Oper.upon_value]
 go_wp2
 rw [run_callFunc_extern Tryz.func140 (by kernel_rfl) (by kernel_rfl) (by kernel_rfl) (e:=Extern.AbiNoEscape.same) (by kernel_rfl)]
 rw [Lib.run_noEscape]
 simp only [Result.andThen]
 rw [Oper.upon_value]
 go_wp2
 rw [Lib.run_from_unsafe w ⟨b,0,none⟩ Tryz.underlying167 Tryz.underlying110 hj hsh a3y.liesBuilder]
 simp only [Result.andThen]
 rw [Oper.upon_value]
 go_wp2
 refine bodyPost_end (results_none rfl _ _ _) rfl ?_
 exact ⟨rfl,rfl⟩
theorem zX (B b : Nat) (l : List UInt8) (w : World) (h : Bld B b l w) :
 Calls Tryz.prog 107 #[.pointer (some ⟨b,0,none⟩)] w fun e w' => e=.returned (.tuple #[])∧(Lib.BuilderAtF 112 5 B b (.pointer (some ⟨b,0,none⟩)) (Lib.byteCells l) w'∧Below B w w'∧yA b w w'):=by
 rcases h with h | h
 ·refine (sO b w h.cell0 h.shape h.frozen0).mono ?_
  rintro e w' ⟨rfl,rfl⟩
  exact ⟨rfl,h.used _,(Below.refl B w).setCell (p:=⟨b,0,none⟩) h.1 _,(Lib.OthersKept.refl _ _ w).setCell ⟨b,0,none⟩ rfl _⟩
 ·refine (vX b w h.cell0).mono ?_
  rintro e w' ⟨rfl,rfl⟩
  exact ⟨rfl,h,Below.refl B _,Lib.OthersKept.refl _ _ _⟩
theorem uO (B b : Nat) (l : List UInt8) (s : ByteArray) (w : World) (h : Bld B b l w) (hlen : l.length + s.size≤140737488355328) (hBw : B≤w.heap.size) :
 Calls Tryz.prog 69 #[.pointer (some ⟨b,0,none⟩),.string s] w fun e w' => e=.returned (.tuple #[.int .i64 s.size,.nilIface])∧(Bld B b (l ++ s.data.toList) w'∧Below B w w'∧yA b w w'):=by
 have hbl:=Lib.byteCells_length l
 obtain ⟨i0,hi,hz0,hz1,hz2⟩:=info_parts (show (Tryz.prog.info? 5).map (fun i => (i.zero,i.size,i.bytes))=some (some (.int .u8 0),1,1) from a3y.infoByte)
 have mixed : Tryz.prog.follows .mixedOrders=true:=by kernel_rfl
 go_enter Tryz.func69,Tryz.ntmps69
 go_wp2_with (go_at_call 107; refine (zX B b l _ h).mono ?_)
 rintro e w1 ⟨rfl,h1,hb1,hk1⟩
 obtain ⟨hB,v,hbk,hown,hne⟩:=h1
 rw [hbl] at hown
 have c0 : w1.cell? ⟨b,0,none⟩=some (.pointer (some ⟨b,0,none⟩)):=by rw [Lib.cell_of_heap hbk]; rfl
 have c1 : w1.cell? ⟨b,1,none⟩=some v:=by rw [Lib.cell_of_heap hbk]; rfl
 go_wp2_with (at_builtin; refine Lib.wpList_append_own_stringF _ rfl _ _ 50 9 rfl B 5 i0 Tryz.underlying50 Tryz.underlying9 hi hz0 hz1 hz2 _ _ _ rfl hown s rfl ?c3 ?c4 ?c5 ?_)
 case c3 => unfold maxLen; omega
 case c4 => omega
 case c5 => have:=hb1.size; omega
 intro v' w2 hown' hgrow _
 have hlt : b<w1.heap.size:=by
  rcases Nat.lt_or_ge b w1.heap.size with h' | h'
  ·exact h'
  ·simp [Array.getElem?_eq_none h'] at hbk
 have hb2 : w2.heap[b]?=some (.cells #[.pointer (some ⟨b,0,none⟩),v] 112 (0,0)):=by
  rw [hgrow.block b hlt (fun e => hne e.symm)]
  exact hbk
 have d0 : w2.cell? ⟨b,0,none⟩=some (.pointer (some ⟨b,0,none⟩)):=by rw [Lib.cell_of_heap hb2]; rfl
 have d1 : w2.cell? ⟨b,1,none⟩=some v:=by rw [Lib.cell_of_heap hb2]; rfl
 have f1 : w2.frozen? ⟨b,1,none⟩=false:=Lib.frozen_of_heap hb2 1
 obtain ⟨ao,n',cap,rfl⟩ : ∃ ao n' cap,v'=.slice ao n' cap:=by
  rcases hown'.2 with ⟨hv,_⟩ | ⟨g,cap,cur,fz,hv,_⟩
  ·exact ⟨_,_,_,hv⟩
  ·exact ⟨_,_,_,hv⟩
 go_wp2
 go_ret2
 refine ⟨rfl,?_,?_,(hk1.grown hgrow (Lib.ownsRowF_kind hown)).setCell ⟨b,1,none⟩ rfl _⟩
 ·have e1 : Lib.byteCells (l ++ s.data.toList)=Lib.byteCells l ++ Lib.strCells s:=by rw [Lib.strCells_eq]; unfold Lib.byteCells; rw [List.map_append]
  have e2 : (Lib.byteCells l ++ Lib.strCells s).length=l.length + s.size:=by rw [List.length_append,hbl,Lib.strCells_length]
  refine Or.inr ?_
  rw [e1]
  exact Lib.BuilderAtF.put (T:=112) (e:=5) hB hb2 (bs':=Lib.byteCells l ++ Lib.strCells s) (by rw [e2]; exact hown') (by decide)
 ·exact (hb1.grown hgrow (by have:=hb1.size; omega) (fun k hk => (hown.lt k hk).1)).setCell (p:=⟨b,1,none⟩) hB _
theorem iX (B b : Nat) (l : List UInt8) (w : World) (h : Bld B b l w) (hBw : B≤w.heap.size) :
 Calls Tryz.prog 70 #[.pointer (some ⟨b,0,none⟩)] w fun e w' => e=.returned (.string ⟨l.toArray⟩)∧(Bld B b l w'∧Below B w w'∧yA b w w') :=
 Tryz.Builder_String_any_k B b l w h hBw
end
section
open Lib (hid)
open Go.RowKit
def smI (n : Int) : Bool:=decide (97≤n) && decide (n≤122)
def dgI (n : Int) : Bool:=decide (48≤n) && decide (n≤57)
def inI (n : Int) : Bool:=smI n || dgI n || n == 95
def smC (c : UInt8) : Bool:=smI c.toNat
def inC (c : UInt8) : Bool:=inI c.toNat
def x9 (l : List UInt8) : Nat:=match l with
 | [] => 0
 | c :: l => if smC c then 1 + (l.takeWhile inC).length else 0
def eY (l : List UInt8) : Bool:=decide (0<l.length) && decide (l.length≤24) && decide (x9 l=l.length)
theorem gM (l : List UInt8) : x9 l≤l.length:=by
 cases l with
 | nil => exact Nat.le_refl _
 | cons c l =>
   show (if smC c=true then 1 + (l.takeWhile inC).length else 0)≤l.length + 1
   split
   ·have:=(List.takeWhile_sublist (l:=l) inC).length_le; omega
   ·exact Nat.zero_le _
theorem xU {k : IntKind} {a b : Int} (h : a=b) : Ending.returned (.int k a)=.returned (.int k b):=by rw [h]
theorem bN {a b : Bool} (h : a=b) : Ending.returned (.bool a)=.returned (.bool b):=by rw [h]
theorem d5 (n : Int) (w : World) : Calls Tryz.prog 130 #[.int .u8 n] w fun e w' => e=.returned (.bool (smI n))∧w=w':=by
 go_enter Tryz.func130,Tryz.ntmps130
 go_wp2
 all_goals go_ret
 all_goals exact ⟨bN (by unfold smI; rw [Bool.eq_iff_iff]; simp; omega),rfl⟩
theorem m6 (n : Int) (w : World) : Calls Tryz.prog 132 #[.int .u8 n] w fun e w' => e=.returned (.bool (dgI n))∧w=w':=by
 go_enter Tryz.func132,Tryz.ntmps132
 go_wp2
 all_goals go_ret
 all_goals exact ⟨bN (by unfold dgI; rw [Bool.eq_iff_iff]; simp; omega),rfl⟩
theorem kV (n : Int) (w : World) : Calls Tryz.prog 142 #[.int .u8 n] w fun e w' => e=.returned (.bool (inI n))∧w=w':=by
 have e:=hid (show inI n=(smI n || dgI n || n == 95) from rfl)
 cases h1 : smI n
 ·cases h2 : dgI n
  all_goals
   go_enter Tryz.func142,Tryz.ntmps142
   go_wp2_with (first | (go_at_call 130; refine (d5 _ _).mono ?_; rintro e w' ⟨rfl,rfl⟩; rw [h1]) | (go_at_call 132; refine (m6 _ _).mono ?_; rintro e w' ⟨rfl,rfl⟩; rw [h2]))
   go_ret
   exact ⟨bN (by rw [e.out,h1,h2]; rfl),rfl⟩
 ·go_enter Tryz.func142,Tryz.ntmps142
  go_wp2_with (first | (go_at_call 130; refine (d5 _ _).mono ?_; rintro e w' ⟨rfl,rfl⟩; rw [h1]))
  go_ret
  exact ⟨bN (by rw [e.out,h1]; rfl),rfl⟩
theorem J5 {s : ByteArray} {k : Nat} (h : k<s.size) : s.data.toList.drop k=s[k] :: s.data.toList.drop (k + 1):=by
 have h' : k<s.data.toList.length:=by simpa using h
 rw [List.drop_eq_getElem_cons h']
 rfl
theorem cT {s : ByteArray} {k : Nat} (h : s.size≤k) : s.data.toList.drop k=[]:=List.drop_of_length_le (by simpa using h)
theorem vU {s : ByteArray} {k : Nat} (h : k<s.size) (hs : smI s[k].toNat=true) : x9 (s.data.toList.drop k)=1 + ((s.data.toList.drop (k + 1)).takeWhile inC).length:=by
 rw [J5 h]; exact if_pos (show smC s[k]=true from hs)
theorem a1e {s : ByteArray} {k : Nat} (h : k<s.size) (hs : smI s[k].toNat=false) : x9 (s.data.toList.drop k)=0:=by
 rw [J5 h]; exact if_neg (show ¬ smC s[k]=true by rw [show smC s[k]=false from hs]; decide)
theorem a4L {s : ByteArray} {k : Nat} (h : k<s.size) (hs : inI s[k].toNat=true) : ((s.data.toList.drop k).takeWhile inC).length=1 + ((s.data.toList.drop (k + 1)).takeWhile inC).length:=by
 rw [J5 h,List.takeWhile_cons,if_pos (show inC s[k]=true from hs)]; simp; omega
theorem a3m {s : ByteArray} {k : Nat} (h : k<s.size) (hs : inI s[k].toNat=false) : ((s.data.toList.drop k).takeWhile inC).length=0:=by
 rw [J5 h,List.takeWhile_cons,if_neg (show ¬ inC s[k]=true by rw [show inC s[k]=false from hs]; decide)]; rfl
theorem a3i {s : ByteArray} {k : Nat} (h : s.size≤k) : ((s.data.toList.drop k).takeWhile inC).length=0:=by rw [cT h]; rfl
theorem iD (s : ByteArray) (a : Nat) (w : World) (hs : s.size≤maxLen) (ha : a≤maxLen) :
 Calls Tryz.prog 109 #[.string s,.int .i64 a] w fun e w' => e=.returned (.int .i64 (x9 (s.data.toList.drop a) : Nat))∧w=w':=by
 have hm:=hs
 have hm':=ha
 unfold maxLen at hm hm'
 by_cases h0 : a<s.size
 ·cases h1 : smI s[a].toNat
  ·have e:=hid (a1e h0 h1)
   go_enter Tryz.func109,Tryz.ntmps109
   go_wp2_with (first | (go_at_call 130; refine (d5 _ _).mono ?_; rintro e w' ⟨rfl,rfl⟩; rw [h1]))
   go_ret
   exact ⟨xU (by rw [e.out]; rfl),rfl⟩
  ·have e:=hid (vU h0 h1)
   go_enter Tryz.func109,Tryz.ntmps109
   go_wp2_with (first | (go_at_call 130; refine (d5 _ _).mono ?_; rintro e w' ⟨rfl,rfl⟩; rw [h1]))
   clear h1
   go_loop [6] (fun n => ∃ k : Nat,1≤k∧a + k≤s.size∧n=.int .i64 k∧Hid (k + ((s.data.toList.drop (a + k)).takeWhile inC).length=x9 (s.data.toList.drop a))) (fun n => s.size - (intOf n).toNat)
   case atStart => exact ⟨1,Nat.le_refl _,by omega,rfl,e.out.symm⟩
   case round =>
    obtain ⟨k,hk1,hk,rfl,HK⟩:=hrel
    by_cases hlt : a + k<s.size
    ·cases h2 : inI s[a + k].toNat
     ·have E:=hid (a3m hlt h2)
      go_wp2_with (first | (go_at_call 142; refine (kV _ _).mono ?_; rintro e w' ⟨rfl,rfl⟩; rw [h2]))
      go_ret
      exact ⟨xU (by rw [← HK.out,E.out]; rfl),rfl⟩
     ·have E:=hid (a4L hlt h2)
      go_wp2_with (first | (go_at_call 142; refine (kV _ _).mono ?_; rintro e w' ⟨rfl,rfl⟩; rw [h2]))
      go_round
      case rel => exact ⟨k + 1,by omega,by omega,by go_num,by show _=_; rw [← HK.out,E.out,Nat.add_assoc,Nat.add_assoc]⟩
      case measure => simp [intOf]; omega
    ·have E:=hid (a3i (s:=s) (k:=a + k) (by omega))
     go_wp2
     go_ret
     exact ⟨xU (by rw [← HK.out,E.out]; rfl),rfl⟩
 ·have e:=hid (show x9 (s.data.toList.drop a)=0 by rw [cT (by omega)]; rfl)
  go_enter Tryz.func109,Tryz.ntmps109
  go_wp2
  go_ret
  exact ⟨xU (by rw [e.out]; rfl),rfl⟩
theorem rD (s : ByteArray) (w : World) (hs : s.size≤maxLen) :
 Calls Tryz.prog 72 #[.string s] w fun e w' => e=.returned (.bool (eY s.data.toList))∧w=w':=by
 have hm:=hs
 unfold maxLen at hm
 have hl : s.data.toList.length=s.size:=by simp
 by_cases h0 : 0<s.size
 ·by_cases h1 : 24<s.size
  ·have e:=hid (show eY s.data.toList=false by unfold eY; rw [hl,decide_eq_false (show ¬ s.size≤24 by omega)]; simp)
   clear hl
   go_enter Tryz.func72,Tryz.ntmps72
   go_wp2
   go_ret
   exact ⟨bN e.out.symm,rfl⟩
  ·have e:=hid (show eY s.data.toList=decide (x9 s.data.toList=s.size) by unfold eY; rw [hl,decide_eq_true h0,decide_eq_true (show s.size≤24 by omega)]; rfl)
   have hsp:=gM s.data.toList
   rw [hl] at hsp
   clear hl
   go_enter Tryz.func72,Tryz.ntmps72
   go_wp2_with (first | (go_at_call 109; refine (iD _ 0 _ hs (by decide)).mono ?_; rintro e w' ⟨rfl,rfl⟩; rw [List.drop_zero]))
   go_ret
   exact ⟨bN (by rw [e.out,Bool.eq_iff_iff]; simp; omega),rfl⟩
 ·have e:=hid (show eY s.data.toList=false by unfold eY; rw [hl,decide_eq_false h0]; rfl)
  clear hl
  go_enter Tryz.func72,Tryz.ntmps72
  go_wp2
  go_ret
  exact ⟨bN e.out.symm,rfl⟩
end
section
open Go.RowKit
theorem a4X {p : UInt8→Bool} (h : ∀ n : Fin 256,p (UInt8.ofNat n.val)=true) (c : UInt8) : p c=true:=by
 have:=h ⟨c.toNat,c.toNat_lt⟩
 simpa using this
theorem tJ (c : UInt8) : Q4 c=inC c:=by
 have:=a4X (p:=fun c => Q4 c == inC c) (by decide +kernel) c
 simpa using this
theorem bW {α : Type} (p : α→Bool) : ∀ l : List α,(l.takeWhile p).length=l.length↔l.all p=true
 | [] => by simp
 | a :: l => by
   rw [List.takeWhile_cons]
   cases h : p a
   ·simp [h]
   ·simp [h,bW p l]
theorem tX (l : List UInt8) : eY l=x8 l:=by
 unfold eY x8
 cases l with
 | nil => rfl
 | cons c l =>
   have ha : (c :: l).all Q4=(inC c && l.all inC):=by
    rw [List.all_cons,tJ]; congr 1
    exact List.all_congr rfl fun a => tJ a
   rw [ha,Bool.eq_iff_iff]
   have hsm : smC c=true→inC c=true:=fun h => by
    unfold inC inI; rw [show smI (c.toNat : Int)=true from h]; rfl
   have hsm' : smC c=true↔97≤(c.toNat : Int)∧(c.toNat : Int)≤122:=by unfold smC smI; simp
   have hsp : x9 (c :: l)=if smC c then 1 + (l.takeWhile inC).length else 0:=rfl
   have htw:=bW inC l
   simp only [Bool.and_eq_true,decide_eq_true_eq,List.length_cons,List.headD_cons]
   rw [hsp]
   by_cases hc : smC c=true
   ·rw [if_pos hc]
    have:=hsm hc
    have h2:=hsm'.1 hc
    constructor
    ·rintro ⟨⟨-,h24⟩,hs⟩
     exact ⟨⟨h24,decide_eq_true h2.1,decide_eq_true h2.2⟩,this,htw.1 (by omega)⟩
    ·rintro ⟨⟨h24,-⟩,-,hi⟩
     have:=htw.2 hi
     exact ⟨⟨by omega,h24⟩,by omega⟩
   ·rw [if_neg hc]
    constructor
    ·rintro ⟨-,hs⟩; omega
    ·rintro ⟨⟨-,h2⟩,-⟩; exact absurd (hsm'.2 ⟨of_decide_eq_true h2.1,of_decide_eq_true h2.2⟩) hc
end
section
open Go.RowKit
def a4M : Value→Nat
 | .string s => s.size
 | _ => 0
theorem a1L (a : Int) : bP a=(if U5 a<0 then [45] else []) ++ uK (U5 a).natAbs:=rfl
theorem rW (a : Int) : -1000000000000000≤U5 a∧U5 a≤1000000000000000:=by unfold U5; (repeat' split) <;> omega
theorem fK {s : ByteArray} {l : List UInt8} (h : l=s.data.toList) : (⟨l.toArray⟩ : ByteArray)=s:=by
 subst h; cases s; simp
end
structure Tk where
 kind : Int
 text : List UInt8
 n : Int
 pos : Int
def bK (l : List UInt8) : Nat:=(l.takeWhile dgC).length
def grC (c : UInt8) : Bool:=decide (65≤(c.toNat : Int)) && decide ((c.toNat : Int)≤90)
def cC (l : List UInt8) (pos : Int) : Except Int (Tk × Nat) :=
 let n:=x9 l
 if (l.drop n).headD 0=46 then
  let m:=x9 (l.drop (n + 1))
  if 24<n∨m<1∨24<m∨aJ (l.take n)=true∨aJ ((l.drop (n + 1)).take m)=true then .error 73
  else .ok (⟨3,l.take n ++ 46 :: (l.drop (n + 1)).take m,0,pos⟩,n + 1 + m)
 else if 24<n then .error 73 else .ok (⟨if aJ (l.take n)=true then 2 else 1,l.take n,0,pos⟩,n)
def vS (l : List UInt8) : Option Int :=
 if l.length=10∧(∀ j (hj : j<l.length),Cal.fits j l[j]=true)∧Cal.ok (Cal.val (Cal.seg l 0 4)) (Cal.val (Cal.seg l 5 7)) (Cal.val (Cal.seg l 8 10))
 then some (Cal.num (Cal.val (Cal.seg l 0 4)) (Cal.val (Cal.seg l 5 7)) (Cal.val (Cal.seg l 8 10))) else none
def bY (r : List UInt8) : Bool:=match r with
 | [] => true
 | c :: p => c == 46 && (decide (1≤p.length) && decide (p.length≤6) && p.all dgC)
def aP (l : List UInt8) : Option Int :=
 let w:=l.takeWhile dgC
 let r:=l.drop w.length
 if 1≤w.length∧w.length≤10∧(w.length=1∨l.headD 0≠48)∧bY r=true then some (Cal.val (w ++ r.tail ++ List.replicate (6 - r.tail.length) 48)) else none
def nG (l : List UInt8) : Option Int :=
 if l.headD 0=45 then (match aP l.tail with | some n => if 1000000000000000<n∨n=0 then none else some (-n) | none => none)
 else match aP l with | some n => if 1000000000000000<n then none else some n | none => none
def aF (l : List UInt8) : Bool:=decide (10≤l.length) && (decide (∀ j (hj : j<(l.take 10).length),Cal.fits j (l.take 10)[j]=true) && !dgC ((l.drop 10).headD 0))
def X7 (c : UInt8) : Bool:=!(smC c || grC c || c == 95 || c == 46)
def cW (l : List UInt8) : Nat:=if (l.drop (bK l)).headD 0=46∧dgC ((l.drop (bK l + 1)).headD 0)=true then bK l + 1 + bK (l.drop (bK l + 1)) else bK l
def aA (l : List UInt8) (pos : Int) : Except Int (Tk × Nat) :=
 if aF l=true then
  match vS (l.take 10) with
  | none => .error 72
  | some v => if X7 ((l.drop 10).headD 0)=true then .ok (⟨5,[],v,pos⟩,10) else .error 72
 else
  match nG (l.take (cW l)) with
  | none => .error 72
  | some v => if X7 ((l.drop (cW l)).headD 0)=true then .ok (⟨6,[],v,pos⟩,cW l) else .error 72
def sN (c : UInt8) : Bool:=c != 34 && c != 10
def nP (l : List UInt8) : Nat:=(l.takeWhile sN).length
def cM (r : List UInt8) (pos : Int) : Except Int (Tk × Nat) :=
 if (r.drop (nP r)).headD 0≠34 then .error 71
 else if x8 (r.take (nP r))=true then .ok (⟨7,r.take (nP r),0,pos⟩,nP r + 2) else .error 73
def a3N (l : List UInt8) : Nat:=(l.takeWhile grC).length
def a3o (l : List UInt8) (pos : Int) : Except Int (Tk × Nat):=if a3N l=3 then .ok (⟨4,l.take 3,0,pos⟩,3) else .error 73
def fU : List UInt8:=[40,41,44,59,61,60,43,45,42,47]
def mH (c : UInt8) (r : List UInt8) (pos : Int) : Except Int (Tk × Nat) :=
 if c=60∧r.headD 0=61 then .ok (⟨8,[60,61],0,pos⟩,2)
 else if fU.contains c=true then .ok (⟨8,[c],0,pos⟩,1) else .error 71
def eB (c : UInt8) (r : List UInt8) (pos : Int) : Except Int (Tk × Nat) :=
 if smC c=true then cC (c :: r) pos
 else if dgC c=true then aA (c :: r) pos
 else if c=34 then cM r pos
 else if grC c=true then a3o (c :: r) pos
 else mH c r pos
def uL (l : List UInt8) : Nat:=(l.takeWhile (· != 10)).length
def v8 : List UInt8→Int→Nat→Nat→Except (Int × Int) (List Tk)
 | [],pos,_,_ => .ok [⟨0,[],0,pos⟩]
 | _ :: r,pos,k,s + 1 => v8 r (pos + 1) k s
 | c :: r,pos,k,0 =>
   if c.toNat≤32 then v8 r (pos + 1) k 0
   else if c=35 then v8 r (pos + 1) k (uL r)
   else match eB c r pos with
    | .error e => .error (e,pos)
    | .ok (t,n) => if k=8192 then .error (76,pos) else match v8 r (pos + 1) (k + 1) (n - 1) with
      | .error e => .error e
      | .ok ts => .ok (t :: ts)
def aD (l : List UInt8) : Except (Int × Int) (List Tk):=if 16384<l.length then .error (70,0) else v8 l 0 0 0
def hd (l : List Tk) : Tk:=l.headD ⟨0,[],0,0⟩
def isT (w : List UInt8) (l : List Tk) : Bool:=((hd l).kind == 2 || (hd l).kind == 8) && (hd l).text == w
def b9 (l : List Tk) : List Tk:=if (hd l).kind=0 then l else l.tail
abbrev Rd:=Except (Int × Int) (Nd × List Tk)
mutual
def i8 : Nd→Nat
 | .mk _ _ _ ks _ => o2 ks + 1
def o2 : List Nd→Nat
 | [] => 0
 | k :: ks => max (i8 k) (o2 ks)
end
def mkN (kind : Int) (s : List UInt8) (n : Int) (ks : List Nd) (p : Int) : Nd:=.mk kind ⟨s.toArray⟩ n ks p
def made (t : Nd) (r : List Tk) : Rd:=if 100<i8 t then .error (75,t.place) else .ok (t,r)
def Rd.then (x : Rd) (f : Nd→List Tk→Rd) : Rd:=match x with
 | .error e => .error e
 | .ok (t,r) => f t r
def o8 (w : List UInt8) (l : List Tk) (f : List Tk→Rd) : Rd:=if isT w l=true then f (b9 l) else .error (74,(hd l).pos)
def U0 (k : Int) (l : List Tk) (f : Tk→List Tk→Rd) : Rd:=if (hd l).kind=k then f (hd l) (b9 l) else .error (74,(hd l).pos)
inductive Md where
 | expr | chain (lv : Nat) | loop (lv : Nat) (t : Nd) | not | unary | atom | args (acc : List Nd)
def R7 (lv : Nat) : List (List UInt8):=if lv=0 then [[111,114]] else if lv=1 then [[97,110,100]] else if lv=2 then [[43],[45]] else [[42],[47]]
def zE : List (List UInt8):=[[60],[60,61],[61]]
def aL (lv : Nat) : Md:=if lv=0 then .chain 1 else if lv=1 then .not else if lv=2 then .chain 3 else .unary
def iR (ws : List (List UInt8)) (l : List Tk) : Bool:=ws.any fun w => isT w l
def tIf : List UInt8:=[105,102]
def a1X : List UInt8:=[116,104,101,110]
def a2Q : List UInt8:=[101,108,115,101]
def a4A : List UInt8:=[110,111,116]
def wC : List UInt8:=[45]
def J7 : List UInt8:=[40]
def O9 : List UInt8:=[41]
def z6 : List UInt8:=[44]
def X4 : List UInt8:=[59]
def tEq : List UInt8:=[61]
def fW : List UInt8:=[116,114,117,101]
def cZ : List UInt8:=[102,97,108,115,101]
def gU : List UInt8:=[102,101,101,100]
def gL : List UInt8:=[112,105,99,107]
def jU : List UInt8:=[108,101,116]
def aT : List UInt8:=[109,111,100,117,108,101]
def eG : List UInt8:=[105,109,112,111,114,116]
def fE (nest : Nat) (l : List Tk) (x : Rd) : Rd:=if 300<nest + 1 then .error (75,(hd l).pos) else x
def qN (rd : Md→Nat→List Tk→Rd) : Md→Nat→List Tk→Rd
 | .expr,nest,l => fE nest l <|
   if isT tIf l=true then
    (rd .expr (nest + 1) (b9 l)).then fun a r => o8 a1X r fun r => (rd .expr (nest + 1) r).then fun b r => o8 a2Q r fun r => (rd .expr (nest + 1) r).then fun c r => made (mkN 14 [] 0 [a,b,c] (hd l).pos) r
   else rd (.chain 0) (nest + 1) l
 | .chain lv,nest,l => (rd (aL lv) nest l).then fun t r => rd (.loop lv t) nest r
 | .loop lv t,nest,l =>
   if iR (R7 lv) l=true then (rd (aL lv) nest (b9 l)).then fun m r => (made (mkN 13 (hd l).text 0 [t,m] (hd l).pos) r).then fun t r => rd (.loop lv t) nest r
   else .ok (t,l)
 | .not,nest,l =>
   if isT a4A l=true then fE nest l <| (rd .not (nest + 1) (b9 l)).then fun t r => made (mkN 12 (hd l).text 0 [t] (hd l).pos) r
   else (rd (.chain 2) nest l).then fun a r => if iR zE r=true then (rd (.chain 2) nest (b9 r)).then fun b r' => made (mkN 13 (hd r).text 0 [a,b] (hd r).pos) r' else .ok (a,r)
 | .unary,nest,l =>
   if isT wC l=true then fE nest l <| (rd .unary (nest + 1) (b9 l)).then fun t r => made (mkN 12 (hd l).text 0 [t] (hd l).pos) r
   else rd .atom nest l
 | .atom,nest,l =>
   if (hd l).kind=6 then .ok (mkN 5 [] (hd l).n [] (hd l).pos,b9 l)
   else if (hd l).kind=5 then .ok (mkN 6 [] (hd l).n [] (hd l).pos,b9 l)
   else if (hd l).kind=4 then .ok (mkN 7 (hd l).text 0 [] (hd l).pos,b9 l)
   else if (hd l).kind=1∨(hd l).kind=3 then
    if isT J7 (b9 l)=true then (rd (.args []) nest (b9 (b9 l))).then fun a r => made (mkN 11 (hd l).text 0 a.kids (hd l).pos) r
    else .ok (mkN 10 (hd l).text 0 [] (hd l).pos,b9 l)
   else if isT fW l=true then .ok (mkN 8 [] 1 [] (hd l).pos,b9 l)
   else if isT cZ l=true then .ok (mkN 8 [] 0 [] (hd l).pos,b9 l)
   else if isT gU l=true then U0 7 (b9 l) fun s r => .ok (mkN 9 s.text 0 [] (hd l).pos,r)
   else if isT gL l=true then U0 7 (b9 l) fun s r => o8 J7 r fun r => (rd .expr nest r).then fun a r => o8 z6 r fun r => (rd .expr nest r).then fun b r => o8 z6 r fun r => (rd .expr nest r).then fun c r =>
    o8 O9 r fun r => made (mkN 15 s.text 0 [a,b,c] (hd l).pos) r
   else if isT J7 l=true then (rd .expr nest (b9 l)).then fun x r => o8 O9 r fun r => .ok (x,r)
   else .error (74,(hd l).pos)
 | .args acc,nest,l =>
   if acc.length=8 then .error (76,(hd l).pos)
   else (rd .expr nest l).then fun t r => if isT z6 r=true then rd (.args (acc ++ [t])) nest (b9 r) else o8 O9 r fun r => .ok (mkN 0 [] 0 (acc ++ [t]) 0,r)
def a5p : Rd:=.error (-1,-1)
def a3M : Nat→Md→Nat→List Tk→Rd
 | 0 => fun _ _ _ => a5p
 | f + 1 => qN (a3M f)
def rank : Md→Nat
 | .args _ => 10 | .expr => 9 | .chain lv => if lv=0 then 8 else if lv=1 then 7 else if lv=2 then 5 else 4
 | .not => 6 | .unary => 3 | .atom => 2 | .loop _ _ => 1
def bD (m : Md) (l : List Tk) : Nat:=11 * l.length + rank m + 1
def rd (m : Md) (nest : Nat) (l : List Tk) : Rd:=a3M (bD m l) m nest l
theorem a3H {l : List Tk} {k : Int} (h : (hd l).kind=k) (hk : k≠0) : l≠[]:=by
 rintro rfl; exact hk h.symm
theorem dQ {l : List Tk} {k : Int} (h : (hd l).kind=k) (hk : k≠0) : (b9 l).length + 1=l.length:=by
 have hne:=a3H h hk
 unfold b9
 rw [if_neg (by rw [h]; exact hk)]
 cases l with
 | nil => exact absurd rfl hne
 | cons a l => rfl
theorem sJ {w : List UInt8} {l : List Tk} (h : isT w l=true) : ((hd l).kind=2∨(hd l).kind=8)∧(hd l).text=w:=by
 unfold isT at h
 simpa using h
theorem A9 {w : List UInt8} {l : List Tk} (h : isT w l=true) : (b9 l).length + 1=l.length:=by
 rcases (sJ h).1 with g | g
 ·exact dQ g (by decide)
 ·exact dQ g (by decide)
theorem gB {ws : List (List UInt8)} {l : List Tk} (h : iR ws l=true) : (b9 l).length + 1=l.length:=by
 unfold iR at h
 obtain ⟨w,-,hw⟩:=List.any_eq_true.1 h
 exact A9 hw
theorem I4 (l : List Tk) : (b9 l).length≤l.length:=by
 unfold b9
 split
 ·exact Nat.le_refl _
 ·simp
def e7 (n : Nat) (x y : Rd) : Prop:=x=y∧∀ t r,x=.ok (t,r)→r.length≤n
theorem e7.error (n : Nat) (e : Int × Int) : e7 n (.error e) (.error e):=⟨rfl,fun _ _ h => by cases h⟩
theorem e7.ok {n : Nat} (t : Nd) {r : List Tk} (h : r.length≤n) : e7 n (.ok (t,r)) (.ok (t,r)):=⟨rfl,fun _ _ e => by cases e; exact h⟩
theorem e7.made {n : Nat} (t : Nd) {r : List Tk} (h : r.length≤n) : e7 n (made t r) (made t r):=by
 unfold Proofs.YtppcfebnaieciaaGreatDoor.made
 split
 ·exact e7.error n _
 ·exact e7.ok t h
theorem e7.then {n m : Nat} {x y : Rd} {f g : Nd→List Tk→Rd} (h : e7 n x y) (hf : ∀ t r,r.length≤n→e7 m (f t r) (g t r)) : e7 m (x.then f) (y.then g):=by
 obtain ⟨rfl,hl⟩:=h
 cases x with
 | error e => exact e7.error m e
 | ok p => obtain ⟨t,r⟩:=p; exact hf t r (hl t r rfl)
theorem e7.want {m : Nat} {w : List UInt8} {l : List Tk} {f g : List Tk→Rd} (h : (b9 l).length + 1=l.length→e7 m (f (b9 l)) (g (b9 l))) : e7 m (o8 w l f) (o8 w l g):=by
 unfold o8
 split
 ·rename_i c; exact h (A9 c)
 ·exact e7.error m _
theorem e7.kind {m : Nat} {k : Int} {l : List Tk} {f g : Tk→List Tk→Rd} (hk : k≠0) (h : (b9 l).length + 1=l.length→e7 m (f (hd l) (b9 l)) (g (hd l) (b9 l))) : e7 m (U0 k l f) (U0 k l g):=by
 unfold U0
 split
 ·rename_i c; exact h (dQ c hk)
 ·exact e7.error m _
theorem e7.nest {m nest : Nat} {l : List Tk} {x y : Rd} (h : e7 m x y) : e7 m (fE nest l x) (fE nest l y):=by
 unfold fE
 split
 ·exact e7.error m _
 ·exact h
theorem e7.ite {m : Nat} {c : Prop} [Decidable c] {x x' y y' : Rd} (h : c→e7 m x x') (h' : ¬ c→e7 m y y') : e7 m (if c then x else y) (if c then x' else y'):=by
 split
 ·rename_i g; exact h g
 ·rename_i g; exact h' g
theorem e7.mono {n m : Nat} {x y : Rd} (h : e7 n x y) (hn : n≤m) : e7 m x y:=⟨h.1,fun t r e => Nat.le_trans (h.2 t r e) hn⟩
theorem wS (lv : Nat) : rank (aL lv) + 1≤rank (.chain lv):=by
 unfold aL
 split
 ·rename_i h; subst h; decide
 split
 ·rename_i h; subst h; decide
 split
 ·rename_i h; subst h; decide
 ·rename_i h0 h1 h2
  show 3 + 1≤(if lv=0 then 8 else if lv=1 then 7 else if lv=2 then 5 else 4)
  rw [if_neg h0,if_neg h1,if_neg h2]
  exact Nat.le_refl _
theorem lH (lv : Nat) : rank (.chain lv)≤8∧4≤rank (.chain lv):=by
 show (if lv=0 then 8 else if lv=1 then 7 else if lv=2 then 5 else 4)≤8∧4≤(if lv=0 then 8 else if lv=1 then 7 else if lv=2 then 5 else 4)
 split
 ·omega
 split
 ·omega
 split <;> omega
theorem a4j (m : Md) : rank m≤10:=by
 cases m with
 | chain lv => have:=lH lv; omega
 | expr => exact (by decide : (9 : Nat)≤10)
 | loop lv t => exact (by decide : (1 : Nat)≤10)
 | not => exact (by decide : (6 : Nat)≤10)
 | unary => exact (by decide : (3 : Nat)≤10)
 | atom => exact (by decide : (2 : Nat)≤10)
 | args acc => exact Nat.le_refl 10
theorem mY {g h : Md→Nat→List Tk→Rd} (m : Md) (nest : Nat) (l : List Tk) (ih : ∀ m' nest' l',bD m' l'<bD m l→e7 l'.length (g m' nest' l') (h m' nest' l')) : e7 l.length (qN g m nest l) (qN h m nest l):=by
 have rk:=a4j
 unfold bD at ih
 cases m with
 | expr =>
   refine e7.nest (e7.ite (fun c => ?_) fun c => ?_)
   ·have:=A9 c
    have e : rank .expr=9:=rfl
    refine (ih _ _ _ (by rw [e]; omega)).then fun t r hr => e7.want fun h1 => (ih _ _ _ (by rw [e]; omega)).then fun t r hr => e7.want fun h1 => (ih _ _ _ (by rw [e]; omega)).then fun t r hr => e7.made _ (by omega)
   ·exact ih _ _ _ (by have : rank (.chain 0)=8:=rfl; have e : rank .expr=9:=rfl; omega)
 | chain lv =>
   have:=wS lv
   have h2:=lH lv
   refine (ih _ _ _ (by omega)).then fun t r hr => (ih _ _ _ ?_).mono hr
   show 11 * r.length + 1 + 1<_
   omega
 | loop lv t =>
   have e : rank (.loop lv t)=1:=rfl
   refine e7.ite (fun c => ?_) fun c => e7.ok _ (Nat.le_refl _)
   have:=gB c
   have:=rk (aL lv)
   refine (ih _ _ _ (by rw [e]; omega)).then fun u r hr => (e7.made _ hr).then fun u r hr => (ih _ _ _ ?_).mono (by omega)
   show 11 * r.length + 1 + 1<11 * l.length + 1 + 1
   omega
 | not =>
   have e : rank .not=6:=rfl
   refine e7.ite (fun c => ?_) fun c => ?_
   ·have:=A9 c
    exact e7.nest ((ih _ _ _ (by omega)).then fun u r hr => e7.made _ (by omega))
   ·have e2 : rank (.chain 2)=5:=rfl
    refine (ih _ _ _ (by rw [e,e2]; omega)).then fun a r hr => e7.ite (fun c => ?_) fun c => e7.ok _ hr
    have:=gB c
    exact (ih _ _ _ (by rw [e,e2]; omega)).then fun u r hr => e7.made _ (by omega)
 | unary =>
   have e : rank .unary=3:=rfl
   refine e7.ite (fun c => ?_) fun c => ?_
   ·have:=A9 c
    exact e7.nest ((ih _ _ _ (by omega)).then fun u r hr => e7.made _ (by omega))
   ·have e2 : rank .atom=2:=rfl
    exact ih _ _ _ (by omega)
 | atom =>
   have e : rank .atom=2:=rfl
   have e2 : rank .expr=9:=rfl
   have hl:=I4 l
   refine e7.ite (fun c => e7.ok _ hl) fun _ => e7.ite (fun c => e7.ok _ hl) fun _ => e7.ite (fun c => e7.ok _ hl) fun _ => e7.ite (fun c => ?_) fun _ => e7.ite (fun c => e7.ok _ hl) fun _ => e7.ite (fun c => e7.ok _ hl) fun _ =>
    e7.ite (fun c => e7.kind (by decide) fun h1 => e7.ok _ (by omega)) fun _ => e7.ite (fun c => ?_) fun _ => e7.ite (fun c => ?_) fun _ => e7.error _ _
   ·refine e7.ite (fun c' => ?_) fun c => e7.ok _ hl
    have h0 : (b9 l).length + 1=l.length:=by rcases c with c | c <;> exact dQ c (by decide)
    have h1:=A9 c'
    have e3 : rank (.args [])=10:=rfl
    exact (ih _ _ _ (by rw [e,e3]; omega)).then fun a r hr => e7.made _ (by omega)
   ·have h0:=A9 c
    exact e7.kind (by decide) fun h1 => e7.want fun h2 => (ih _ _ _ (by rw [e,e2]; omega)).then fun t r hr => e7.want fun h3 => (ih _ _ _ (by rw [e,e2]; omega)).then fun t r hr => e7.want fun h3 => (ih _ _ _ (by rw [e,e2]; omega)).then fun t r hr => e7.want fun h3 => e7.made _ (by omega)
   ·have h0:=A9 c
    exact (ih _ _ _ (by rw [e,e2]; omega)).then fun t r hr => e7.want fun h3 => e7.ok _ (by omega)
 | args acc =>
   have e : rank (.args acc)=10:=rfl
   have e2 : rank .expr=9:=rfl
   refine e7.ite (fun c => e7.error _ _) fun c => ?_
   refine (ih _ _ _ (by rw [e,e2]; omega)).then fun t r hr => e7.ite (fun c => ?_) fun c => e7.want fun h1 => e7.ok _ (by omega)
   have:=A9 c
   exact (ih _ _ _ (by show 11 * (b9 r).length + 10 + 1<11 * l.length + 10 + 1; omega)).mono (by omega)
theorem kD : ∀ (n : Nat) (m : Md) (nest : Nat) (l : List Tk),bD m l≤n→∀ f,bD m l≤f→e7 l.length (a3M f m nest l) (rd m nest l)
 | 0,m,_,l,h,_,_ => by unfold bD at h; omega
 | n + 1,m,nest,l,h,f,hf => by
   unfold rd
   obtain ⟨f',rfl⟩ : ∃ f',f=f' + 1:=⟨f - 1,by unfold bD at hf; omega⟩
   obtain ⟨g,hg⟩ : ∃ g,bD m l=g + 1:=⟨11 * l.length + rank m,rfl⟩
   rw [hg]
   refine mY m nest l fun m' nest' l' hl => ?_
   have h1:=kD n m' nest' l' (by omega) f' (by omega)
   have h2:=kD n m' nest' l' (by omega) g (by omega)
   exact ⟨h1.1.trans h2.1.symm,h1.2⟩
theorem lW (m : Md) (nest : Nat) (l : List Tk) : rd m nest l=qN rd m nest l:=by
 have h : rd m nest l=qN (a3M (11 * l.length + rank m)) m nest l:=rfl
 rw [h]
 refine (mY m nest l fun m' nest' l' hl => ?_).1
 exact kD _ m' nest' l' (Nat.le_refl _) _ (by unfold bD at hl; unfold bD; omega)
theorem iK (m : Md) (nest : Nat) (l : List Tk) {t : Nd} {r : List Tk} (h : rd m nest l=.ok (t,r)) : r.length≤l.length:=(kD _ m nest l (Nat.le_refl _) _ (Nat.le_refl _)).2 t r h
end Go.Proofs.YtppcfebnaieciaaGreatDoor
