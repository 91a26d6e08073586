/-
  Laws that the proof rests on.
-/
import Derived.Test.YtibiccacafjjfaaGreatDoorE04
import Derived.Test.YtibiccacafjjfaaGreatDoorE03
import Derived.Shelf.Strings.BuilderK
import Derived.WalkKit
import Derived.Shelf.Abstract
import Derived.WalkSpells
import Derived.WalkLawsBesides
import Derived.IntWalk
import Derived.Lib.Hide
import Derived.Test.YtibiccacafjjfaaGreatDoorE02
import Derived.Test.YtibiccacafjjfaaGreatDoorE01
namespace Go.Proofs.YtibiccacafjjfaaGreatDoor
set_option maxRecDepth 100000
set_option maxHeartbeats 16000000
section
open Go.RowKit Go.Shelf
theorem a4H : Builder.Extra Tryz.prog Tryz.lays169_ren:=Tryz.Builder_Extra_169
def Bld (B b : Nat) (l : List UInt8) (w : World) : Prop:=Lib.IsBuilderF 41 5 B b (Lib.byteCells l) w
abbrev yY (b : Nat) (w w' : World) : Prop:=Lib.OthersKept 5 (some b) w w'
theorem xX (b : Nat) (w : World) (h0 : w.cell? ⟨b,0,none⟩=some (.pointer (some ⟨b,0,none⟩))) :
 Calls Tryz.prog 63 #[.pointer (some ⟨b,0,none⟩)] w fun e w' => e=.returned (.tuple #[])∧w'=w:=by
 obtain ⟨j,hj,_⟩:=Option.map_eq_some_iff.1 (show (Tryz.prog.info? 41).map (·.size)=some 2 from a4H.sizeBuilder)
 have mixed : Tryz.prog.follows .mixedOrders=true:=by kernel_rfl
 go_enter Tryz.func63,Tryz.ntmps63
 go_wp2
 rw [Lib.run_neq_ptr_same w _ Tryz.underlying38 hj]
 go_wp2
 refine bodyPost_end (results_none rfl _ _ _) rfl ?_
 exact ⟨rfl,rfl⟩
theorem tM (b : Nat) (w : World) (h0 : w.cell? ⟨b,0,none⟩=some (.pointer none)) (hsh : w.shape? b=some (41,2)) (hfz : w.frozen? ⟨b,0,none⟩=false) :
 Calls Tryz.prog 63 #[.pointer (some ⟨b,0,none⟩)] w fun e w' => e=.returned (.tuple #[])∧w'=w.setCell ⟨b,0,none⟩ (.pointer (some ⟨b,0,none⟩)):=by
 obtain ⟨j,hj,hjs⟩:=Option.map_eq_some_iff.1 (show (Tryz.prog.info? 41).map (·.size)=some 2 from a4H.sizeBuilder)
 have mixed : Tryz.prog.follows .mixedOrders=true:=by kernel_rfl
 go_enter Tryz.func63,Tryz.ntmps63
 go_wp2
 rw [Lib.run_to_unsafe w ⟨b,0,none⟩ Tryz.underlying38 Tryz.underlying121 hj (by rw [hjs]; decide) hsh (Nat.zero_lt_succ 1)]
 simp only [Result.andThen]
 rw [Oper.upon_value]
 go_wp2
 rw [run_callFunc_extern Tryz.func96 (by kernel_rfl) (by kernel_rfl) (by kernel_rfl) (e:=Extern.AbiNoEscape.same) (by kernel_rfl)]
 rw [Lib.run_noEscape]
 simp only [Result.andThen]
 rw [Oper.upon_value]
 go_wp2
 rw [Lib.run_from_unsafe w ⟨b,0,none⟩ Tryz.underlying121 Tryz.underlying38 hj hsh a4H.liesBuilder]
 simp only [Result.andThen]
 rw [Oper.upon_value]
 go_wp2
 refine bodyPost_end (results_none rfl _ _ _) rfl ?_
 exact ⟨rfl,rfl⟩
theorem a1z (B b : Nat) (l : List UInt8) (w : World) (h : Bld B b l w) :
 Calls Tryz.prog 63 #[.pointer (some ⟨b,0,none⟩)] w fun e w' => e=.returned (.tuple #[])∧(Lib.BuilderAtF 41 5 B b (.pointer (some ⟨b,0,none⟩)) (Lib.byteCells l) w'∧Below B w w'∧yY b w w'):=by
 rcases h with h | h
 ·refine (tM b w h.cell0 h.shape h.frozen0).mono ?_
  rintro e w' ⟨rfl,rfl⟩
  exact ⟨rfl,h.used _,(Below.refl B w).setCell (p:=⟨b,0,none⟩) h.1 _,(Lib.OthersKept.refl _ _ w).setCell ⟨b,0,none⟩ rfl _⟩
 ·refine (xX b w h.cell0).mono ?_
  rintro e w' ⟨rfl,rfl⟩
  exact ⟨rfl,h,Below.refl B _,Lib.OthersKept.refl _ _ _⟩
theorem xE (B b : Nat) (l : List UInt8) (s : ByteArray) (w : World) (h : Bld B b l w) (hlen : l.length + s.size≤140737488355328) (hBw : B≤w.heap.size) :
 Calls Tryz.prog 32 #[.pointer (some ⟨b,0,none⟩),.string s] w fun e w' => e=.returned (.tuple #[.int .i64 s.size,.nilIface])∧(Bld B b (l ++ s.data.toList) w'∧Below B w w'∧yY b w w'):=by
 have hbl:=Lib.byteCells_length l
 obtain ⟨i0,hi,hz0,hz1,hz2⟩:=info_parts (show (Tryz.prog.info? 5).map (fun i => (i.zero,i.size,i.bytes))=some (some (.int .u8 0),1,1) from a4H.infoByte)
 have mixed : Tryz.prog.follows .mixedOrders=true:=by kernel_rfl
 go_enter Tryz.func32,Tryz.ntmps32
 go_wp2_with (go_at_call 63; refine (a1z B b l _ h).mono ?_)
 rintro e w1 ⟨rfl,h1,hb1,hk1⟩
 obtain ⟨hB,v,hbk,hown,hne⟩:=h1
 rw [hbl] at hown
 have c0 : w1.cell? ⟨b,0,none⟩=some (.pointer (some ⟨b,0,none⟩)):=by rw [Lib.cell_of_heap hbk]; rfl
 have c1 : w1.cell? ⟨b,1,none⟩=some v:=by rw [Lib.cell_of_heap hbk]; rfl
 go_wp2_with (at_builtin; refine Lib.wpList_append_own_stringF _ rfl _ _ 39 9 rfl B 5 i0 Tryz.underlying39 Tryz.underlying9 hi hz0 hz1 hz2 _ _ _ rfl hown s rfl ?c3 ?c4 ?c5 ?_)
 case c3 => unfold maxLen; omega
 case c4 => omega
 case c5 => have:=hb1.size; omega
 intro v' w2 hown' hgrow _
 have hlt : b<w1.heap.size:=by
  rcases Nat.lt_or_ge b w1.heap.size with h' | h'
  ·exact h'
  ·simp [Array.getElem?_eq_none h'] at hbk
 have hb2 : w2.heap[b]?=some (.cells #[.pointer (some ⟨b,0,none⟩),v] 41 (0,0)):=by
  rw [hgrow.block b hlt (fun e => hne e.symm)]
  exact hbk
 have d0 : w2.cell? ⟨b,0,none⟩=some (.pointer (some ⟨b,0,none⟩)):=by rw [Lib.cell_of_heap hb2]; rfl
 have d1 : w2.cell? ⟨b,1,none⟩=some v:=by rw [Lib.cell_of_heap hb2]; rfl
 have f1 : w2.frozen? ⟨b,1,none⟩=false:=Lib.frozen_of_heap hb2 1
 obtain ⟨ao,n',cap,rfl⟩ : ∃ ao n' cap,v'=.slice ao n' cap:=by
  rcases hown'.2 with ⟨hv,_⟩ | ⟨g,cap,cur,fz,hv,_⟩
  ·exact ⟨_,_,_,hv⟩
  ·exact ⟨_,_,_,hv⟩
 go_wp2
 go_ret2
 refine ⟨rfl,?_,?_,(hk1.grown hgrow (Lib.ownsRowF_kind hown)).setCell ⟨b,1,none⟩ rfl _⟩
 ·have e1 : Lib.byteCells (l ++ s.data.toList)=Lib.byteCells l ++ Lib.strCells s:=by rw [Lib.strCells_eq]; unfold Lib.byteCells; rw [List.map_append]
  have e2 : (Lib.byteCells l ++ Lib.strCells s).length=l.length + s.size:=by rw [List.length_append,hbl,Lib.strCells_length]
  refine Or.inr ?_
  rw [e1]
  exact Lib.BuilderAtF.put (T:=41) (e:=5) hB hb2 (bs':=Lib.byteCells l ++ Lib.strCells s) (by rw [e2]; exact hown') (by decide)
 ·exact (hb1.grown hgrow (by have:=hb1.size; omega) (fun k hk => (hown.lt k hk).1)).setCell (p:=⟨b,1,none⟩) hB _
theorem eV (B b : Nat) (l : List UInt8) (w : World) (h : Bld B b l w) (hBw : B≤w.heap.size) :
 Calls Tryz.prog 21 #[.pointer (some ⟨b,0,none⟩)] w fun e w' => e=.returned (.string ⟨l.toArray⟩)∧(Bld B b l w'∧Below B w w'∧yY b w w') :=
 Tryz.Builder_String_any_k B b l w h hBw
end
section
open Lib (hid)
open Go.RowKit
def smI (n : Int) : Bool:=decide (97≤n) && decide (n≤122)
def dgI (n : Int) : Bool:=decide (48≤n) && decide (n≤57)
def inI (n : Int) : Bool:=smI n || dgI n || n == 95
def smC (c : UInt8) : Bool:=smI c.toNat
def inC (c : UInt8) : Bool:=inI c.toNat
def l6 (l : List UInt8) : Nat:=match l with
 | [] => 0
 | c :: l => if smC c then 1 + (l.takeWhile inC).length else 0
def cE (l : List UInt8) : Bool:=decide (0<l.length) && decide (l.length≤24) && decide (l6 l=l.length)
theorem iM (l : List UInt8) : l6 l≤l.length:=by
 cases l with
 | nil => exact Nat.le_refl _
 | cons c l =>
   show (if smC c=true then 1 + (l.takeWhile inC).length else 0)≤l.length + 1
   split
   ·have:=(List.takeWhile_sublist (l:=l) inC).length_le; omega
   ·exact Nat.zero_le _
theorem gH {k : IntKind} {a b : Int} (h : a=b) : Ending.returned (.int k a)=.returned (.int k b):=by rw [h]
theorem H5 {a b : Bool} (h : a=b) : Ending.returned (.bool a)=.returned (.bool b):=by rw [h]
theorem e8 (n : Int) (w : World) : Calls Tryz.prog 77 #[.int .u8 n] w fun e w' => e=.returned (.bool (smI n))∧w=w':=by
 go_enter Tryz.func77,Tryz.ntmps77
 go_wp2
 all_goals go_ret
 all_goals exact ⟨H5 (by unfold smI; rw [Bool.eq_iff_iff]; simp; omega),rfl⟩
theorem n8 (n : Int) (w : World) : Calls Tryz.prog 79 #[.int .u8 n] w fun e w' => e=.returned (.bool (dgI n))∧w=w':=by
 go_enter Tryz.func79,Tryz.ntmps79
 go_wp2
 all_goals go_ret
 all_goals exact ⟨H5 (by unfold dgI; rw [Bool.eq_iff_iff]; simp; omega),rfl⟩
theorem lV (n : Int) (w : World) : Calls Tryz.prog 125 #[.int .u8 n] w fun e w' => e=.returned (.bool (inI n))∧w=w':=by
 have e:=hid (show inI n=(smI n || dgI n || n == 95) from rfl)
 cases h1 : smI n
 ·cases h2 : dgI n
  all_goals
   go_enter Tryz.func125,Tryz.ntmps125
   go_wp2_with (first | (go_at_call 77; refine (e8 _ _).mono ?_; rintro e w' ⟨rfl,rfl⟩; rw [h1]) | (go_at_call 79; refine (n8 _ _).mono ?_; rintro e w' ⟨rfl,rfl⟩; rw [h2]))
   go_ret
   exact ⟨H5 (by rw [e.out,h1,h2]; rfl),rfl⟩
 ·go_enter Tryz.func125,Tryz.ntmps125
  go_wp2_with (first | (go_at_call 77; refine (e8 _ _).mono ?_; rintro e w' ⟨rfl,rfl⟩; rw [h1]))
  go_ret
  exact ⟨H5 (by rw [e.out,h1]; rfl),rfl⟩
theorem s3 {s : ByteArray} {k : Nat} (h : k<s.size) : s.data.toList.drop k=s[k] :: s.data.toList.drop (k + 1):=by
 have h' : k<s.data.toList.length:=by simpa using h
 rw [List.drop_eq_getElem_cons h']
 rfl
theorem U8 {s : ByteArray} {k : Nat} (h : s.size≤k) : s.data.toList.drop k=[]:=List.drop_of_length_le (by simpa using h)
theorem xF {s : ByteArray} {k : Nat} (h : k<s.size) (hs : smI s[k].toNat=true) : l6 (s.data.toList.drop k)=1 + ((s.data.toList.drop (k + 1)).takeWhile inC).length:=by
 rw [s3 h]; exact if_pos (show smC s[k]=true from hs)
theorem a00 {s : ByteArray} {k : Nat} (h : k<s.size) (hs : smI s[k].toNat=false) : l6 (s.data.toList.drop k)=0:=by
 rw [s3 h]; exact if_neg (show ¬ smC s[k]=true by rw [show smC s[k]=false from hs]; decide)
theorem a41 {s : ByteArray} {k : Nat} (h : k<s.size) (hs : inI s[k].toNat=true) : ((s.data.toList.drop k).takeWhile inC).length=1 + ((s.data.toList.drop (k + 1)).takeWhile inC).length:=by
 rw [s3 h,List.takeWhile_cons,if_pos (show inC s[k]=true from hs)]; simp; omega
theorem a4f {s : ByteArray} {k : Nat} (h : k<s.size) (hs : inI s[k].toNat=false) : ((s.data.toList.drop k).takeWhile inC).length=0:=by
 rw [s3 h,List.takeWhile_cons,if_neg (show ¬ inC s[k]=true by rw [show inC s[k]=false from hs]; decide)]; rfl
theorem a4s {s : ByteArray} {k : Nat} (h : s.size≤k) : ((s.data.toList.drop k).takeWhile inC).length=0:=by rw [U8 h]; rfl
theorem jU (s : ByteArray) (a : Nat) (w : World) (hs : s.size≤maxLen) (ha : a≤maxLen) :
 Calls Tryz.prog 90 #[.string s,.int .i64 a] w fun e w' => e=.returned (.int .i64 (l6 (s.data.toList.drop a) : Nat))∧w=w':=by
 have hm:=hs
 have hm':=ha
 unfold maxLen at hm hm'
 by_cases h0 : a<s.size
 ·cases h1 : smI s[a].toNat
  ·have e:=hid (a00 h0 h1)
   go_enter Tryz.func90,Tryz.ntmps90
   go_wp2_with (first | (go_at_call 77; refine (e8 _ _).mono ?_; rintro e w' ⟨rfl,rfl⟩; rw [h1]))
   go_ret
   exact ⟨gH (by rw [e.out]; rfl),rfl⟩
  ·have e:=hid (xF h0 h1)
   go_enter Tryz.func90,Tryz.ntmps90
   go_wp2_with (first | (go_at_call 77; refine (e8 _ _).mono ?_; rintro e w' ⟨rfl,rfl⟩; rw [h1]))
   clear h1
   go_loop [6] (fun n => ∃ k : Nat,1≤k∧a + k≤s.size∧n=.int .i64 k∧Hid (k + ((s.data.toList.drop (a + k)).takeWhile inC).length=l6 (s.data.toList.drop a))) (fun n => s.size - (intOf n).toNat)
   case atStart => exact ⟨1,Nat.le_refl _,by omega,rfl,e.out.symm⟩
   case round =>
    obtain ⟨k,hk1,hk,rfl,HK⟩:=hrel
    by_cases hlt : a + k<s.size
    ·cases h2 : inI s[a + k].toNat
     ·have E:=hid (a4f hlt h2)
      go_wp2_with (first | (go_at_call 125; refine (lV _ _).mono ?_; rintro e w' ⟨rfl,rfl⟩; rw [h2]))
      go_ret
      exact ⟨gH (by rw [← HK.out,E.out]; rfl),rfl⟩
     ·have E:=hid (a41 hlt h2)
      go_wp2_with (first | (go_at_call 125; refine (lV _ _).mono ?_; rintro e w' ⟨rfl,rfl⟩; rw [h2]))
      go_round
      case rel => exact ⟨k + 1,by omega,by omega,by go_num,by show _=_; rw [← HK.out,E.out,Nat.add_assoc,Nat.add_assoc]⟩
      case measure => simp [intOf]; omega
    ·have E:=hid (a4s (s:=s) (k:=a + k) (by omega))
     go_wp2
     go_ret
     exact ⟨gH (by rw [← HK.out,E.out]; rfl),rfl⟩
 ·have e:=hid (show l6 (s.data.toList.drop a)=0 by rw [U8 (by omega)]; rfl)
  go_enter Tryz.func90,Tryz.ntmps90
  go_wp2
  go_ret
  exact ⟨gH (by rw [e.out]; rfl),rfl⟩
theorem cZ (s : ByteArray) (w : World) (hs : s.size≤maxLen) :
 Calls Tryz.prog 59 #[.string s] w fun e w' => e=.returned (.bool (cE s.data.toList))∧w=w':=by
 have hm:=hs
 unfold maxLen at hm
 have hl : s.data.toList.length=s.size:=by simp
 by_cases h0 : 0<s.size
 ·by_cases h1 : 24<s.size
  ·have e:=hid (show cE s.data.toList=false by unfold cE; rw [hl,decide_eq_false (show ¬ s.size≤24 by omega)]; simp)
   clear hl
   go_enter Tryz.func59,Tryz.ntmps59
   go_wp2
   go_ret
   exact ⟨H5 e.out.symm,rfl⟩
  ·have e:=hid (show cE s.data.toList=decide (l6 s.data.toList=s.size) by unfold cE; rw [hl,decide_eq_true h0,decide_eq_true (show s.size≤24 by omega)]; rfl)
   have hsp:=iM s.data.toList
   rw [hl] at hsp
   clear hl
   go_enter Tryz.func59,Tryz.ntmps59
   go_wp2_with (first | (go_at_call 90; refine (jU _ 0 _ hs (by decide)).mono ?_; rintro e w' ⟨rfl,rfl⟩; rw [List.drop_zero]))
   go_ret
   exact ⟨H5 (by rw [e.out,Bool.eq_iff_iff]; simp; omega),rfl⟩
 ·have e:=hid (show cE s.data.toList=false by unfold cE; rw [hl,decide_eq_false h0]; rfl)
  clear hl
  go_enter Tryz.func59,Tryz.ntmps59
  go_wp2
  go_ret
  exact ⟨H5 e.out.symm,rfl⟩
end
section
open Lib (hid)
open Go.RowKit
theorem gR {p : UInt8→Bool} (h : ∀ n : Fin 256,p (UInt8.ofNat n.val)=true) (c : UInt8) : p c=true:=by
 have:=h ⟨c.toNat,c.toNat_lt⟩
 simpa using this
theorem tX (c : UInt8) : I9 c=inC c:=by
 have:=gR (p:=fun c => I9 c == inC c) (by decide +kernel) c
 simpa using this
theorem uL (c : UInt8) : cR c=(decide (65≤(c.toNat : Int)) && decide ((c.toNat : Int)≤90)):=by
 have:=gR (p:=fun c => cR c == (decide (65≤(c.toNat : Int)) && decide ((c.toNat : Int)≤90))) (by decide +kernel) c
 simpa using this
theorem dE {α : Type} (p : α→Bool) : ∀ l : List α,(l.takeWhile p).length=l.length↔l.all p=true
 | [] => by simp
 | a :: l => by
   rw [List.takeWhile_cons]
   cases h : p a
   ·simp [h]
   ·simp [h,dE p l]
theorem dP (l : List UInt8) : cE l=r6 l:=by
 unfold cE r6
 cases l with
 | nil => rfl
 | cons c l =>
   have ha : (c :: l).all I9=(inC c && l.all inC):=by
    rw [List.all_cons,tX]; congr 1
    exact List.all_congr rfl fun a => tX a
   rw [ha,Bool.eq_iff_iff]
   have hsm : smC c=true→inC c=true:=fun h => by
    unfold inC inI; rw [show smI (c.toNat : Int)=true from h]; rfl
   have hsm' : smC c=true↔97≤(c.toNat : Int)∧(c.toNat : Int)≤122:=by unfold smC smI; simp
   have hsp : l6 (c :: l)=if smC c then 1 + (l.takeWhile inC).length else 0:=rfl
   have htw:=dE inC l
   simp only [Bool.and_eq_true,decide_eq_true_eq,List.length_cons,List.headD_cons]
   rw [hsp]
   by_cases hc : smC c=true
   ·rw [if_pos hc]
    have:=hsm hc
    have h2:=hsm'.1 hc
    constructor
    ·rintro ⟨⟨-,h24⟩,hs⟩
     exact ⟨⟨h24,decide_eq_true h2.1,decide_eq_true h2.2⟩,this,htw.1 (by omega)⟩
    ·rintro ⟨⟨h24,-⟩,-,hi⟩
     have:=htw.2 hi
     exact ⟨⟨by omega,h24⟩,by omega⟩
   ·rw [if_neg hc]
    constructor
    ·rintro ⟨-,hs⟩; omega
    ·rintro ⟨⟨-,h2⟩,-⟩; exact absurd (hsm'.2 ⟨of_decide_eq_true h2.1,of_decide_eq_true h2.2⟩) hc
theorem a4o {s : ByteArray} (h : s.size=3) : eO s.data.toList=(((decide (65≤(s[0].toNat : Int)) && decide ((s[0].toNat : Int)≤90)) && (decide (65≤(s[1].toNat : Int)) && decide ((s[1].toNat : Int)≤90))) && (decide (65≤(s[2].toNat : Int)) && decide ((s[2].toNat : Int)≤90))):=by
 unfold eO
 have hl : s.data.toList.length=3:=by simpa using h
 rw [decide_eq_true hl]
 have e : s.data.toList=[s[0],s[1],s[2]]:=by
  have:=s3 (s:=s) (k:=0) (by omega)
  rw [List.drop_zero,s3 (s:=s) (k:=1) (by omega),s3 (s:=s) (k:=2) (by omega),U8 (s:=s) (k:=3) (by omega)] at this
  exact this
 rw [e]
 simp only [List.all_cons,List.all_nil,uL,Bool.and_true,Bool.true_and,Bool.and_assoc]
 rfl
theorem vU (s : ByteArray) (w : World) (hs : s.size≤maxLen) :
 Calls Tryz.prog 73 #[.string s] w fun e w' => e=.returned (.bool (eO s.data.toList))∧w=w':=by
 have hm:=hs
 unfold maxLen at hm
 by_cases h3 : s.size=3
 ·have e:=hid (a4o h3)
  go_enter Tryz.func73,Tryz.ntmps73
  go_wp2
  go_loop [3] (fun i => ∃ k : Nat,k≤3∧i=.int .i64 k∧Hid (∀ j (h : j<s.size),j<k→65≤(s[j].toNat : Int)∧(s[j].toNat : Int)≤90)) (fun i => 3 - (intOf i).toNat)
  case atStart => exact ⟨0,by omega,rfl,fun j h hj => by omega⟩
  case round =>
   obtain ⟨k,hk,rfl,HK⟩:=hrel
   by_cases hlt : k<3
   ·have hks : k<s.size:=by omega
    have hF : Hid (¬ (65≤(s[k].toNat : Int)∧(s[k].toNat : Int)≤90)→eO s.data.toList=false):=by
     intro hb
     rw [e.out]
     have hk3 : k=0∨k=1∨k=2:=by omega
     rw [Bool.eq_false_iff]
     intro hh
     simp only [Bool.and_eq_true,decide_eq_true_eq] at hh
     rcases hk3 with rfl | rfl | rfl
     ·exact hb hh.1.1
     ·exact hb hh.1.2
     ·exact hb hh.2
    go_wp2
    all_goals first
     | (go_round
        case rel =>
         refine ⟨k + 1,by omega,by go_num,fun j h hj => ?_⟩
         by_cases ej : j=k
         ·subst ej; exact ⟨by omega,by omega⟩
         ·exact HK.out j h (by omega)
        case measure => simp [intOf]; omega)
     | (go_ret
        exact ⟨H5 (hF.out (by omega)).symm,rfl⟩)
   ·have E:=hid (show eO s.data.toList=true by
     rw [e.out]
     simp only [Bool.and_eq_true,decide_eq_true_eq]
     exact ⟨⟨HK.out 0 (by omega) (by omega),HK.out 1 (by omega) (by omega)⟩,HK.out 2 (by omega) (by omega)⟩)
    go_wp2
    go_ret
    exact ⟨H5 E.out.symm,rfl⟩
 ·have e:=hid (show eO s.data.toList=false by unfold eO; rw [decide_eq_false (by simpa using h3)]; rfl)
  go_enter Tryz.func73,Tryz.ntmps73
  go_wp2
  go_ret
  exact ⟨H5 e.out.symm,rfl⟩
end
section
open Go.RowKit
def a5y : Value→Nat
 | .string s => s.size
 | _ => 0
theorem a1S (a : Int) : U5 a=(if U6 a<0 then [45] else []) ++ H6 (U6 a).natAbs:=rfl
theorem tB (a : Int) : -1000000000000000≤U6 a∧U6 a≤1000000000000000:=by unfold U6; (repeat' split) <;> omega
theorem gO {s : ByteArray} {l : List UInt8} (h : l=s.data.toList) : (⟨l.toArray⟩ : ByteArray)=s:=by
 subst h; cases s; simp
end
structure Tk where
 kind : Int
 text : List UInt8
 n : Int
 pos : Int
def O8 (l : List UInt8) : Nat:=(l.takeWhile dgC).length
def grC (c : UInt8) : Bool:=decide (65≤(c.toNat : Int)) && decide ((c.toNat : Int)≤90)
def X7 (l : List UInt8) (pos : Int) : Except Int (Tk × Nat) :=
 let n:=l6 l
 if (l.drop n).headD 0=46 then
  let m:=l6 (l.drop (n + 1))
  if 24<n∨m<1∨24<m∨A7 (l.take n)=true∨A7 ((l.drop (n + 1)).take m)=true then .error 73
  else .ok (⟨3,l.take n ++ 46 :: (l.drop (n + 1)).take m,0,pos⟩,n + 1 + m)
 else if 24<n then .error 73 else .ok (⟨if A7 (l.take n)=true then 2 else 1,l.take n,0,pos⟩,n)
def oM (l : List UInt8) : Option Int :=
 if l.length=10∧(∀ j (hj : j<l.length),Cal.fits j l[j]=true)∧Cal.ok (Cal.val (Cal.seg l 0 4)) (Cal.val (Cal.seg l 5 7)) (Cal.val (Cal.seg l 8 10))
 then some (Cal.num (Cal.val (Cal.seg l 0 4)) (Cal.val (Cal.seg l 5 7)) (Cal.val (Cal.seg l 8 10))) else none
def U7 (r : List UInt8) : Bool:=match r with
 | [] => true
 | c :: p => c == 46 && (decide (1≤p.length) && decide (p.length≤6) && p.all dgC)
def J9 (l : List UInt8) : Option Int :=
 let w:=l.takeWhile dgC
 let r:=l.drop w.length
 if 1≤w.length∧w.length≤10∧(w.length=1∨l.headD 0≠48)∧U7 r=true then some (Cal.val (w ++ r.tail ++ List.replicate (6 - r.tail.length) 48)) else none
def eS (l : List UInt8) : Option Int :=
 if l.headD 0=45 then (match J9 l.tail with | some n => if 1000000000000000<n∨n=0 then none else some (-n) | none => none)
 else match J9 l with | some n => if 1000000000000000<n then none else some n | none => none
def o4 (l : List UInt8) : Bool:=decide (10≤l.length) && (decide (∀ j (hj : j<(l.take 10).length),Cal.fits j (l.take 10)[j]=true) && !dgC ((l.drop 10).headD 0))
def J4 (c : UInt8) : Bool:=!(smC c || grC c || c == 95 || c == 46)
def bJ (l : List UInt8) : Nat:=if (l.drop (O8 l)).headD 0=46∧dgC ((l.drop (O8 l + 1)).headD 0)=true then O8 l + 1 + O8 (l.drop (O8 l + 1)) else O8 l
def X3 (l : List UInt8) (pos : Int) : Except Int (Tk × Nat) :=
 if o4 l=true then
  match oM (l.take 10) with
  | none => .error 72
  | some v => if J4 ((l.drop 10).headD 0)=true then .ok (⟨5,[],v,pos⟩,10) else .error 72
 else
  match eS (l.take (bJ l)) with
  | none => .error 72
  | some v => if J4 ((l.drop (bJ l)).headD 0)=true then .ok (⟨6,[],v,pos⟩,bJ l) else .error 72
def iU (c : UInt8) : Bool:=c != 34 && c != 10
def bL (l : List UInt8) : Nat:=(l.takeWhile iU).length
def O1 (r : List UInt8) (pos : Int) : Except Int (Tk × Nat) :=
 if (r.drop (bL r)).headD 0≠34 then .error 71
 else if r6 (r.take (bL r))=true then .ok (⟨7,r.take (bL r),0,pos⟩,bL r + 2) else .error 73
def sB (l : List UInt8) : Nat:=(l.takeWhile grC).length
def a1d (l : List UInt8) (pos : Int) : Except Int (Tk × Nat):=if sB l=3 then .ok (⟨4,l.take 3,0,pos⟩,3) else .error 73
def Y8 : List UInt8:=[40,41,44,59,61,60,43,45,42,47]
def iS (c : UInt8) (r : List UInt8) (pos : Int) : Except Int (Tk × Nat) :=
 if c=60∧r.headD 0=61 then .ok (⟨8,[60,61],0,pos⟩,2)
 else if Y8.contains c=true then .ok (⟨8,[c],0,pos⟩,1) else .error 71
def V9 (c : UInt8) (r : List UInt8) (pos : Int) : Except Int (Tk × Nat) :=
 if smC c=true then X7 (c :: r) pos
 else if dgC c=true then X3 (c :: r) pos
 else if c=34 then O1 r pos
 else if grC c=true then a1d (c :: r) pos
 else iS c r pos
def eT (l : List UInt8) : Nat:=(l.takeWhile (· != 10)).length
def p9 : List UInt8→Int→Nat→Nat→Except (Int × Int) (List Tk)
 | [],pos,_,_ => .ok [⟨0,[],0,pos⟩]
 | _ :: r,pos,k,s + 1 => p9 r (pos + 1) k s
 | c :: r,pos,k,0 =>
   if c.toNat≤32 then p9 r (pos + 1) k 0
   else if c=35 then p9 r (pos + 1) k (eT r)
   else match V9 c r pos with
    | .error e => .error (e,pos)
    | .ok (t,n) => if k=8192 then .error (76,pos) else match p9 r (pos + 1) (k + 1) (n - 1) with
      | .error e => .error e
      | .ok ts => .ok (t :: ts)
def o8 (l : List UInt8) : Except (Int × Int) (List Tk):=if 16384<l.length then .error (70,0) else p9 l 0 0 0
def hd (l : List Tk) : Tk:=l.headD ⟨0,[],0,0⟩
def isT (w : List UInt8) (l : List Tk) : Bool:=((hd l).kind == 2 || (hd l).kind == 8) && (hd l).text == w
def c6 (l : List Tk) : List Tk:=if (hd l).kind=0 then l else l.tail
abbrev Rd:=Except (Int × Int) (Nd × List Tk)
mutual
def c8 : Nd→Nat
 | .mk _ _ _ ks _ => f8 ks + 1
def f8 : List Nd→Nat
 | [] => 0
 | k :: ks => max (c8 k) (f8 ks)
end
def mkN (kind : Int) (s : List UInt8) (n : Int) (ks : List Nd) (p : Int) : Nd:=.mk kind ⟨s.toArray⟩ n ks p
def made (t : Nd) (r : List Tk) : Rd:=if 100<c8 t then .error (75,t.place) else .ok (t,r)
def Rd.then (x : Rd) (f : Nd→List Tk→Rd) : Rd:=match x with
 | .error e => .error e
 | .ok (t,r) => f t r
def f7 (w : List UInt8) (l : List Tk) (f : List Tk→Rd) : Rd:=if isT w l=true then f (c6 l) else .error (74,(hd l).pos)
def U4 (k : Int) (l : List Tk) (f : Tk→List Tk→Rd) : Rd:=if (hd l).kind=k then f (hd l) (c6 l) else .error (74,(hd l).pos)
inductive Md where
 | expr | chain (lv : Nat) | loop (lv : Nat) (t : Nd) | not | unary | atom | args (acc : List Nd)
def r4 (lv : Nat) : List (List UInt8):=if lv=0 then [[111,114]] else if lv=1 then [[97,110,100]] else if lv=2 then [[43],[45]] else [[42],[47]]
def iH : List (List UInt8):=[[60],[60,61],[61]]
def D6 (lv : Nat) : Md:=if lv=0 then .chain 1 else if lv=1 then .not else if lv=2 then .chain 3 else .unary
def J7 (ws : List (List UInt8)) (l : List Tk) : Bool:=ws.any fun w => isT w l
def tIf : List UInt8:=[105,102]
def dQ : List UInt8:=[116,104,101,110]
def cO : List UInt8:=[101,108,115,101]
def eE : List UInt8:=[110,111,116]
def aQ : List UInt8:=[45]
def o3 : List UInt8:=[40]
def m5 : List UInt8:=[41]
def i8 : List UInt8:=[44]
def Y2 : List UInt8:=[116,114,117,101]
def J8 : List UInt8:=[102,97,108,115,101]
def aI : List UInt8:=[102,101,101,100]
def aG : List UInt8:=[112,105,99,107]
def I8 (nest : Nat) (l : List Tk) (x : Rd) : Rd:=if 300<nest + 1 then .error (75,(hd l).pos) else x
def nR (rd : Md→Nat→List Tk→Rd) : Md→Nat→List Tk→Rd
 | .expr,nest,l => I8 nest l <|
   if isT tIf l=true then
    (rd .expr (nest + 1) (c6 l)).then fun a r => f7 dQ r fun r => (rd .expr (nest + 1) r).then fun b r => f7 cO r fun r => (rd .expr (nest + 1) r).then fun c r => made (mkN 14 [] 0 [a,b,c] (hd l).pos) r
   else rd (.chain 0) (nest + 1) l
 | .chain lv,nest,l => (rd (D6 lv) nest l).then fun t r => rd (.loop lv t) nest r
 | .loop lv t,nest,l =>
   if J7 (r4 lv) l=true then (rd (D6 lv) nest (c6 l)).then fun m r => (made (mkN 13 (hd l).text 0 [t,m] (hd l).pos) r).then fun t r => rd (.loop lv t) nest r
   else .ok (t,l)
 | .not,nest,l =>
   if isT eE l=true then I8 nest l <| (rd .not (nest + 1) (c6 l)).then fun t r => made (mkN 12 (hd l).text 0 [t] (hd l).pos) r
   else (rd (.chain 2) nest l).then fun a r => if J7 iH r=true then (rd (.chain 2) nest (c6 r)).then fun b r' => made (mkN 13 (hd r).text 0 [a,b] (hd r).pos) r' else .ok (a,r)
 | .unary,nest,l =>
   if isT aQ l=true then I8 nest l <| (rd .unary (nest + 1) (c6 l)).then fun t r => made (mkN 12 (hd l).text 0 [t] (hd l).pos) r
   else rd .atom nest l
 | .atom,nest,l =>
   if (hd l).kind=6 then .ok (mkN 5 [] (hd l).n [] (hd l).pos,c6 l)
   else if (hd l).kind=5 then .ok (mkN 6 [] (hd l).n [] (hd l).pos,c6 l)
   else if (hd l).kind=4 then .ok (mkN 7 (hd l).text 0 [] (hd l).pos,c6 l)
   else if (hd l).kind=1∨(hd l).kind=3 then
    if isT o3 (c6 l)=true then (rd (.args []) nest (c6 (c6 l))).then fun a r => made (mkN 11 (hd l).text 0 a.kids (hd l).pos) r
    else .ok (mkN 10 (hd l).text 0 [] (hd l).pos,c6 l)
   else if isT Y2 l=true then .ok (mkN 8 [] 1 [] (hd l).pos,c6 l)
   else if isT J8 l=true then .ok (mkN 8 [] 0 [] (hd l).pos,c6 l)
   else if isT aI l=true then U4 7 (c6 l) fun s r => .ok (mkN 9 s.text 0 [] (hd l).pos,r)
   else if isT aG l=true then U4 7 (c6 l) fun s r => f7 o3 r fun r => (rd .expr nest r).then fun a r => f7 i8 r fun r => (rd .expr nest r).then fun b r => f7 i8 r fun r => (rd .expr nest r).then fun c r =>
    f7 m5 r fun r => made (mkN 15 s.text 0 [a,b,c] (hd l).pos) r
   else if isT o3 l=true then (rd .expr nest (c6 l)).then fun x r => f7 m5 r fun r => .ok (x,r)
   else .error (74,(hd l).pos)
 | .args acc,nest,l =>
   if acc.length=8 then .error (76,(hd l).pos)
   else (rd .expr nest l).then fun t r => if isT i8 r=true then rd (.args (acc ++ [t])) nest (c6 r) else f7 m5 r fun r => .ok (mkN 0 [] 0 (acc ++ [t]) 0,r)
def a5D : Rd:=.error (-1,-1)
def a4K : Nat→Md→Nat→List Tk→Rd
 | 0 => fun _ _ _ => a5D
 | f + 1 => nR (a4K f)
def dB : Md→Nat
 | .args _ => 10 | .expr => 9 | .chain lv => if lv=0 then 8 else if lv=1 then 7 else if lv=2 then 5 else 4
 | .not => 6 | .unary => 3 | .atom => 2 | .loop _ _ => 1
def cF (m : Md) (l : List Tk) : Nat:=11 * l.length + dB m + 1
def rd (m : Md) (nest : Nat) (l : List Tk) : Rd:=a4K (cF m l) m nest l
theorem oL (c : UInt8) : dgC c=Cal.isDig c:=by
 have:=Y4 (p:=fun c => dgC c == Cal.isDig c) (by decide +kernel) c
 exact eq_of_beq this
theorem Y6 (c : UInt8) : dgC c=dgI c.toNat:=by
 have:=Y4 (p:=fun c => dgC c == dgI c.toNat) (by decide +kernel) c
 exact eq_of_beq this
theorem a0Y (l : List UInt8) : l.all dgC=l.all Cal.isDig:=by rw [show dgC=Cal.isDig from funext oL]
theorem rM {d : List UInt8} {k : Nat} (hk : k≤d.length) (h : ∀ j (hj : j<d.length),j<k→dgC d[j]=true) (h' : ∀ (hk : k<d.length),dgC d[k]=false) : O8 d=k:=F6 dgC d k hk h h'
theorem nB {α : Type} (p : α→Bool) (l : List α) : l.takeWhile p=l.take (l.takeWhile p).length:=(List.prefix_iff_eq_take.1 (List.takeWhile_prefix p))
theorem a4y {d : List UInt8} {k : Nat} (h : O8 d=k) : J9 d=if 1≤k∧k≤10∧(k=1∨d.headD 0≠48)∧U7 (d.drop k)=true then some (Cal.val (d.take k ++ d.drop (k + 1) ++ List.replicate (6 - (d.drop (k + 1)).length) 48)) else none:=by
 unfold O8 at h
 unfold J9
 simp only
 rw [h,List.tail_drop,nB,h]
def aD (d : List UInt8) (k : Nat) : List UInt8:=d.drop (k + 1) ++ List.replicate (6 - (d.drop (k + 1)).length) 48
theorem uI {d : List UInt8} {k : Nat} (h : d.length - (k + 1)≤6) : (aD d k).length=6:=by
 unfold aD
 rw [List.length_append,List.length_replicate,List.length_drop]; omega
theorem zV {d : List UInt8} {k i : Nat} (h : k + 1 + i<d.length) (hi : i<(aD d k).length) : (aD d k)[i]=d[k + 1 + i]:=by
 unfold aD at hi ⊢
 rw [List.getElem_append_left (by rw [List.length_drop]; omega),List.getElem_drop]
theorem a18 {d : List UInt8} {k i : Nat} (h : ¬ k + 1 + i<d.length) (hi : i<(aD d k).length) : (aD d k)[i]=48:=by
 unfold aD at hi ⊢
 rw [List.getElem_append_right (by rw [List.length_drop]; omega),List.getElem_replicate]
theorem tO {l q : List UInt8} {i : Nat} (hi : i<q.length) : Cal.val (l ++ q.take (i + 1))=10 * Cal.val (l ++ q.take i) + ((q[i].toNat : Int) - 48):=by
 rw [List.take_succ_eq_append_getElem hi,← List.append_assoc,Cal.val_snoc]
theorem pP {d : List UInt8} {i : Nat} (hi : i<d.length) : Cal.val (d.take (i + 1))=10 * Cal.val (d.take i) + ((d[i].toNat : Int) - 48):=by
 rw [List.take_succ_eq_append_getElem hi,Cal.val_snoc]
theorem fJ {l : List UInt8} {n : Nat} (h : l.all dgC=true) (hn : l.length≤n) : 0≤Cal.val l∧Cal.val l<10 ^ n:=by
 have:=Cal.val_bd (l:=l) (by rw [← a0Y]; exact h)
 exact ⟨this.1,Int.lt_of_lt_of_le this.2 (by exact_mod_cast Nat.pow_le_pow_right (by decide) hn)⟩
theorem dL {c : UInt8} (h : dgC c=true) : 48≤(c.toNat : Int)∧(c.toNat : Int)≤57:=by
 unfold dgC at h
 simp only [Bool.and_eq_true,decide_eq_true_eq] at h
 omega
def oO (l : List UInt8) : Int:=(eS l).getD 0
def oN (l : List UInt8) : Bool:=(eS l).isSome
theorem gY {d : List UInt8} (h : d.headD 0≠45) : eS d=match J9 d with | some n => if 1000000000000000<n then none else some n | none => none:=if_neg h
theorem Y3 {d : List UInt8} (h : d.headD 0≠45) (hu : J9 d=none) : oO d=0∧oN d=false:=by
 unfold oO oN
 rw [gY h,hu]
 exact ⟨rfl,rfl⟩
theorem qG {d : List UInt8} {n : Int} (h : d.headD 0≠45) (hu : J9 d=some n) (hn : ¬ 1000000000000000<n) : oO d=n∧oN d=true:=by
 unfold oO oN
 rw [gY h,hu]
 simp only [if_neg hn]
 exact ⟨rfl,rfl⟩
theorem uV {d : List UInt8} {n : Int} (h : d.headD 0≠45) (hu : J9 d=some n) (hn : 1000000000000000<n) : oO d=0∧oN d=false:=by
 unfold oO oN
 rw [gY h,hu]
 simp only [if_pos hn]
 exact ⟨rfl,rfl⟩
theorem uO {l : List UInt8} (h : l.headD 0≠0) : 0<l.length:=by
 cases l with
 | nil => exact absurd rfl h
 | cons a l => simp
theorem hI {l : List UInt8} {n : Nat} (h : (l.drop n).headD 0≠0) : n<l.length:=by
 have:=uO h
 rw [List.length_drop] at this; omega
theorem x6 {α : Type} (p : α→Bool) (l : List α) : (l.takeWhile p).length≤l.length:=(List.takeWhile_sublist (l:=l) p).length_le
theorem wL {l : List UInt8} {pos : Int} {t : Tk} {n : Nat} (h : X7 l pos=.ok (t,n)) (h1 : 1≤l6 l) : 1≤n∧n≤l.length:=by
 have hs:=iM l
 unfold X7 at h
 simp only at h
 split at h
 ·rename_i hd
  have hd':=hI (l:=l) (n:=l6 l) (by rw [hd]; decide)
  have hs2:=iM (l.drop (l6 l + 1))
  rw [List.length_drop] at hs2
  split at h
  ·cases h
  ·simp only [Except.ok.injEq,Prod.mk.injEq] at h
   omega
 ·split at h
  ·cases h
  ·simp only [Except.ok.injEq,Prod.mk.injEq] at h
   omega
theorem uF {c : UInt8} {r : List UInt8} (h : dgC c=true) : 1≤O8 (c :: r):=by
 unfold O8
 rw [List.takeWhile_cons,if_pos h]; simp
theorem tH {l : List UInt8} (h : 1≤O8 l) : 1≤bJ l∧bJ l≤l.length:=by
 have h1 : O8 l≤l.length:=x6 dgC l
 unfold bJ
 split
 ·rename_i hd
  have hd':=hI (l:=l) (n:=O8 l) (by rw [hd.1]; decide)
  have h2 : O8 (l.drop (O8 l + 1))≤(l.drop (O8 l + 1)).length:=x6 dgC _
  rw [List.length_drop] at h2
  omega
 ·omega
theorem a1R {l : List UInt8} {pos : Int} {t : Tk} {n : Nat} (h : X3 l pos=.ok (t,n)) (h1 : 1≤O8 l) : 1≤n∧n≤l.length:=by
 unfold X3 at h
 split at h
 ·rename_i hd
  unfold o4 at hd
  rw [Bool.and_eq_true,decide_eq_true_eq] at hd
  split at h
  ·cases h
  ·split at h
   ·simp only [Except.ok.injEq,Prod.mk.injEq] at h; omega
   ·cases h
 ·have:=tH h1
  split at h
  ·cases h
  ·split at h
   ·simp only [Except.ok.injEq,Prod.mk.injEq] at h; omega
   ·cases h
theorem a01 {r : List UInt8} {pos : Int} {t : Tk} {n : Nat} (h : O1 r pos=.ok (t,n)) : 1≤n∧n≤r.length + 1:=by
 unfold O1 at h
 split at h
 ·cases h
 ·rename_i hd
  have:=hI (l:=r) (n:=bL r) (by rw [Decidable.not_not.1 hd]; decide)
  split at h
  ·simp only [Except.ok.injEq,Prod.mk.injEq] at h; omega
  ·cases h
theorem lH {c : UInt8} {r : List UInt8} {pos : Int} {t : Tk} {n : Nat} (h : V9 c r pos=.ok (t,n)) : 1≤n∧n≤r.length + 1:=by
 unfold V9 at h
 split at h
 ·rename_i hs
  exact wL h (by show 1≤(if smC c=true then 1 + (r.takeWhile inC).length else 0); rw [if_pos hs]; omega)
 split at h
 ·rename_i hd
  exact a1R h (uF hd)
 split at h
 ·exact a01 h
 split at h
 ·unfold a1d at h
  split at h
  ·rename_i h3
   have : sB (c :: r)≤(c :: r).length:=x6 grC _
   simp only [Except.ok.injEq,Prod.mk.injEq] at h
   rw [List.length_cons] at this
   omega
  ·cases h
 ·unfold iS at h
  split at h
  ·rename_i h2
   have:=uO (l:=r) (by rw [h2.2]; decide)
   simp only [Except.ok.injEq,Prod.mk.injEq] at h; omega
  ·split at h
   ·simp only [Except.ok.injEq,Prod.mk.injEq] at h; omega
   ·cases h
theorem iX : ∀ (l : List UInt8) (pos : Int) (k n : Nat),n≤l.length→p9 l pos k n=p9 (l.drop n) (pos + n) k 0
 | l,pos,k,0,_ => by rw [List.drop_zero]; congr 1; omega
 | [],_,_,n + 1,h => by simp at h
 | c :: r,pos,k,n + 1,h => by
   rw [p9,iX r (pos + 1) k n (by simpa using h),List.drop_succ_cons]
   congr 1; omega
def ahead (ts : List Tk) (x : Except (Int × Int) (List Tk)) : Except (Int × Int) (List Tk):=match x with
 | .error e => .error e
 | .ok r => .ok (ts ++ r)
theorem pQ (x : Except (Int × Int) (List Tk)) : ahead [] x=x:=by cases x <;> rfl
theorem pN (a b : List Tk) (x : Except (Int × Int) (List Tk)) : ahead a (ahead b x)=ahead (a ++ b) x:=by
 cases x with
 | error e => rfl
 | ok r => simp [ahead]
theorem eP {c : UInt8} {r : List UInt8} {pos : Int} {k : Nat} (h : c.toNat≤32) : p9 (c :: r) pos k 0=p9 r (pos + 1) k 0:=by
 rw [p9,if_pos h]
theorem mD {c : UInt8} {r : List UInt8} {pos : Int} {k : Nat} (h : c=35) : p9 (c :: r) pos k 0=p9 (r.drop (eT r)) (pos + 1 + eT r) k 0:=by
 rw [p9,if_neg (by rw [h]; decide),if_pos h]
 exact iX _ _ _ _ (x6 _ r)
theorem iK {c : UInt8} {r : List UInt8} {pos : Int} {k : Nat} {e : Int} (h : ¬ c.toNat≤32) (h' : c≠35) (ht : V9 c r pos=.error e) : p9 (c :: r) pos k 0=.error (e,pos):=by
 rw [p9,if_neg h,if_neg h',ht]
theorem fT {c : UInt8} {r : List UInt8} {pos : Int} {k : Nat} {t : Tk} {n : Nat} (h : ¬ c.toNat≤32) (h' : c≠35) (ht : V9 c r pos=.ok (t,n)) (hk : k=8192) : p9 (c :: r) pos k 0=.error (76,pos):=by
 rw [p9,if_neg h,if_neg h',ht]
 simp only
 rw [if_pos hk]
theorem iF {c : UInt8} {r : List UInt8} {pos : Int} {k : Nat} {t : Tk} {n : Nat} (h : ¬ c.toNat≤32) (h' : c≠35) (ht : V9 c r pos=.ok (t,n)) (hk : k≠8192) : p9 (c :: r) pos k 0=ahead [t] (p9 ((c :: r).drop n) (pos + n) (k + 1) 0):=by
 have hl:=lH ht
 obtain ⟨m,rfl⟩ : ∃ m,n=m + 1:=⟨n - 1,by omega⟩
 rw [p9,if_neg h,if_neg h',ht]
 simp only
 rw [if_neg hk,Nat.add_sub_cancel,iX r _ _ m (by omega),List.drop_succ_cons,show pos + 1 + (m : Int)=pos + ((m + 1 : Nat) : Int) by omega]
 cases p9 (r.drop m) (pos + ((m + 1 : Nat) : Int)) (k + 1) 0 <;> rfl
end Go.Proofs.YtibiccacafjjfaaGreatDoor
