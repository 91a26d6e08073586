/-
  Laws that the proof rests on.
-/
import Derived.Test.YtibiccacafjjfaaGreatDoorB08
import Derived.Test.YtibiccacafjjfaaGreatDoorB01
import Derived.Test.YtibiccacafjjfaaGreatDoorB06
import Derived.WalkKit
import Derived.Lib.Hide
import Derived.Deep.AppendLies
import Derived.Lib.LaidTab
import Derived.Test.YtibiccacafjjfaaGreatDoorB02
import Derived.Test.YtibiccacafjjfaaGreatDoorB03
import Derived.Shelf.RegionOpenPlain
import Derived.Lib.CutLaws
import Derived.Shelf.Strings.SlTrimAscii
import Derived.Shelf.Abstract
import Derived.Test.YtibiccacafjjfaaGreatDoorB04
namespace Go.Proofs.YtibiccacafjjfaaGreatDoor
set_option maxRecDepth 100000
set_option maxHeartbeats 16000000
section
open Lib (hid)
open Go.RowKit
theorem a2S (s : ByteArray) (w : World) (hs : ¬ s.size=10) :
 Calls Tryz.prog 147 #[.string s] w fun e w' => e=.returned (.tuple #[.int .i64 0,.int .i64 30])∧Below w.heap.size w w':=by
 go_enter Tryz.func147,Tryz.ntmps147
 go_wp2
 go_ret2
 exact ⟨rfl,iA _ _⟩
def lI (s : ByteArray) (B : Nat) (a b c : Int) (w wr : World) : Prop :=
 Below B w wr∧(∀ j (hj : j<s.size),wr.cell? ⟨B + 1,j,none⟩=some (.int .u8 (s[j].toNat : Int))) ∧
 wr.cell? ⟨B,0,none⟩=some (.int .i64 a)∧wr.cell? ⟨B,1,none⟩=some (.int .i64 b)∧wr.cell? ⟨B,2,none⟩=some (.int .i64 c) ∧
 (∀ j,wr.frozen? ⟨B,j,none⟩=false)
theorem lI.set0 {s : ByteArray} {B : Nat} {a b c x : Int} {w wr : World} (h : lI s B a b c w wr) : lI s B x b c w (wr.setCell ⟨B,0,none⟩ (.int .i64 x)):=by
 obtain ⟨h1,h2,h3,h4,h5,h6⟩:=h
 refine ⟨h1.setCell (Nat.le_refl _) _,fun j hj => ?_,World.cell?_setCell_same _ _ _ h3,?_,?_,fun j => by rw [World.frozen?_setCell]; exact h6 j⟩
 ·rw [World.cell?_setCell_other _ _ _ _ (by simp)]; exact h2 j hj
 ·rw [World.cell?_setCell_other _ _ _ _ (by simp)]; exact h4
 ·rw [World.cell?_setCell_other _ _ _ _ (by simp)]; exact h5
theorem lI.set1 {s : ByteArray} {B : Nat} {a b c x : Int} {w wr : World} (h : lI s B a b c w wr) : lI s B a x c w (wr.setCell ⟨B,1,none⟩ (.int .i64 x)):=by
 obtain ⟨h1,h2,h3,h4,h5,h6⟩:=h
 refine ⟨h1.setCell (Nat.le_refl _) _,fun j hj => ?_,?_,World.cell?_setCell_same _ _ _ h4,?_,fun j => by rw [World.frozen?_setCell]; exact h6 j⟩
 ·rw [World.cell?_setCell_other _ _ _ _ (by simp)]; exact h2 j hj
 ·rw [World.cell?_setCell_other _ _ _ _ (by simp)]; exact h3
 ·rw [World.cell?_setCell_other _ _ _ _ (by simp)]; exact h5
theorem lI.set2 {s : ByteArray} {B : Nat} {a b c x : Int} {w wr : World} (h : lI s B a b c w wr) : lI s B a b x w (wr.setCell ⟨B,2,none⟩ (.int .i64 x)):=by
 obtain ⟨h1,h2,h3,h4,h5,h6⟩:=h
 refine ⟨h1.setCell (Nat.le_refl _) _,fun j hj => ?_,?_,?_,World.cell?_setCell_same _ _ _ h5,fun j => by rw [World.frozen?_setCell]; exact h6 j⟩
 ·rw [World.cell?_setCell_other _ _ _ _ (by simp)]; exact h2 j hj
 ·rw [World.cell?_setCell_other _ _ _ _ (by simp)]; exact h3
 ·rw [World.cell?_setCell_other _ _ _ _ (by simp)]; exact h4
theorem lI.start (s : ByteArray) (w : World) (cap : Nat) : lI s w.heap.size 0 0 0 w
 ((w.alloc (.cells #[.int .i64 0,.int .i64 0,.int .i64 0] 179)).drew.alloc (.cells (bytesRow s cap) 5 ((bytesRow s cap).size,(bytesRow s cap).size + 1))):=by
 have hsz : (w.alloc (.cells #[.int .i64 0,.int .i64 0,.int .i64 0] 179)).drew.heap.size=w.heap.size + 1:=by show (w.heap.push _).size=_; simp
 have old : ∀ j,((w.alloc (.cells #[.int .i64 0,.int .i64 0,.int .i64 0] 179)).drew.alloc (.cells (bytesRow s cap) 5 ((bytesRow s cap).size,(bytesRow s cap).size + 1))).cell? ⟨w.heap.size,j,none⟩=(w.alloc (.cells #[.int .i64 0,.int .i64 0,.int .i64 0] 179)).cell? ⟨w.heap.size,j,none⟩:=fun j =>
  World.cell?_of_block (w:=(w.alloc (.cells #[.int .i64 0,.int .i64 0,.int .i64 0] 179))) (Below.heap_alloc _ _ _ (by rw [hsz]; exact Nat.lt_succ_self _))
 refine ⟨((iA w _).drew).alloc (by rw [hsz]; exact Nat.le_succ _) _,fun j hj => ?_,?_,?_,?_,fun j => ?_⟩
 ·rw [← hsz,World.cell?_alloc_mark]
  exact bytesRow_at s cap j hj
 ·rw [old]; simp
 ·rw [old]; simp
 ·rw [old]; simp
 ·have : ((w.alloc (.cells #[.int .i64 0,.int .i64 0,.int .i64 0] 179)).drew.alloc (.cells (bytesRow s cap) 5 ((bytesRow s cap).size,(bytesRow s cap).size + 1))).frozen? ⟨w.heap.size,j,none⟩=(w.alloc (.cells #[.int .i64 0,.int .i64 0,.int .i64 0] 179)).frozen? ⟨w.heap.size,j,none⟩ :=
   World.frozen?_of_block (w:=(w.alloc (.cells #[.int .i64 0,.int .i64 0,.int .i64 0] 179))) (Below.heap_alloc _ _ _ (by rw [hsz]; exact Nat.lt_succ_self _))
  rw [this]; simp
def mH (s : ByteArray) (k : Nat) (part a b c : Int) : Prop :=
 (∀ j (hj : j<s.data.toList.length),j<k→Cal.fits j s.data.toList[j]=true) ∧
 a=Cal.val (Cal.seg s.data.toList 0 (min k 4))∧b=Cal.val (Cal.seg s.data.toList 5 (min k 7))∧c=Cal.val (Cal.seg s.data.toList 8 k) ∧
 part=if k≤4 then 0 else if k≤7 then 1 else 2
theorem a6R (y m d : Int) (w : World) :
 Calls Tryz.prog 175 #[.int .i64 y,.int .i64 m,.int .i64 d] w fun e w' => e=.returned (.tuple #[.int .i64 (ofV y m d),.int .i64 (ofE y m d)])∧Below w.heap.size w w':=by
 unfold ofV ofE
 by_cases h : Cal.ok y m d
 ·rw [if_pos h,if_pos h]; exact of_ok y m d w h
 ·rw [if_neg h,if_neg h]; exact a6T y m d w h
def rdV (s : ByteArray) : Int:=if (∀ j (hj : j<s.data.toList.length),Cal.fits j s.data.toList[j]=true) then ofV (Cal.val (Cal.seg s.data.toList 0 4)) (Cal.val (Cal.seg s.data.toList 5 7)) (Cal.val (Cal.seg s.data.toList 8 10)) else 0
def rdE (s : ByteArray) : Int:=if (∀ j (hj : j<s.data.toList.length),Cal.fits j s.data.toList[j]=true) then ofE (Cal.val (Cal.seg s.data.toList 0 4)) (Cal.val (Cal.seg s.data.toList 5 7)) (Cal.val (Cal.seg s.data.toList 8 10)) else 30
theorem dZ {s : ByteArray} {k : Nat} (hk : k<s.data.toList.length) (h : Cal.fits k s.data.toList[k]=false) : rdV s=0∧rdE s=30:=by
 have n : ¬ ∀ j (hj : j<s.data.toList.length),Cal.fits j s.data.toList[j]=true:=fun a => by rw [a k hk] at h; cases h
 unfold rdV rdE
 rw [if_neg n,if_neg n]
 exact ⟨rfl,rfl⟩
theorem a0m (s : ByteArray) : mH s 0 0 0 0 0 :=
 ⟨fun j _ h => absurd h (by omega),by rw [Cal.seg_nil _ (by omega)]; rfl,by rw [Cal.seg_nil _ (by omega)]; rfl,by rw [Cal.seg_nil _ (by omega)]; rfl,rfl⟩
theorem iH {s : ByteArray} {k : Nat} {part a b c : Int} (h : mH s k part a b c) (hk : k<s.data.toList.length) (hf : Cal.fits k s.data.toList[k]=true) :
 ∀ j (hj : j<s.data.toList.length),j<k + 1→Cal.fits j s.data.toList[j]=true:=fun j hj hl => by
 by_cases e : j=k
 ·subst e; exact hf
 ·exact h.1 j hj (by omega)
theorem a6A {s : ByteArray} {k : Nat} {part a b c : Int} (h : mH s k part a b c) (hk : k≤10) : 0≤a∧a<10000∧0≤b∧b<10000∧0≤c∧c<10000:=by
 obtain ⟨h1,rfl,rfl,rfl,-⟩:=h
 have dig : ∀ j (hj : j<s.data.toList.length),j<k→j≠4→j≠7→Cal.isDig s.data.toList[j]=true:=fun j hj hl e f => by rw [← Cal.fits_dig e f]; exact h1 j hj hl
 have u:=Cal.seg_bd s.data.toList (lo:=0) (hi:=min k 4) (by omega) (fun j hj _ _ => dig j hj (by omega) (by omega) (by omega))
 have v:=Cal.seg_bd s.data.toList (lo:=5) (hi:=min k 7) (by omega) (fun j hj _ _ => dig j hj (by omega) (by omega) (by omega))
 have x:=Cal.seg_bd s.data.toList (lo:=8) (hi:=k) (by omega) (fun j hj _ _ => dig j hj (by omega) (by omega) (by omega))
 exact ⟨u.1,u.2,v.1,v.2,x.1,x.2⟩
theorem a2N {s : ByteArray} {k : Nat} {part a b c : Int} (h : mH s k part a b c) (hk : k<s.data.toList.length) (hf : Cal.fits k s.data.toList[k]=true) (h4 : k<4) :
 mH s (k + 1) 0 (10 * a + ((s.data.toList[k].toNat : Int) - 48)) b c:=by
 refine ⟨iH h hk hf,?_,?_,?_,by rw [if_pos (by omega)]⟩
 ·rw [h.2.1,show min (k + 1) 4=k + 1 by omega,show min k 4=k by omega,Cal.seg_succ _ (by omega) hk,Cal.val_snoc]
 ·rw [h.2.2.1,Cal.seg_nil _ (by omega),Cal.seg_nil _ (by omega)]
 ·rw [h.2.2.2.1,Cal.seg_nil _ (by omega),Cal.seg_nil _ (by omega)]
theorem tU {s : ByteArray} {k : Nat} {part a b c : Int} (h : mH s k part a b c) (hk : k<s.data.toList.length) (hf : Cal.fits k s.data.toList[k]=true) (h4 : k=4∨k=7) :
 mH s (k + 1) (part + 1) a b c:=by
 refine ⟨iH h hk hf,?_,?_,?_,?_⟩
 ·rw [h.2.1,show min (k + 1) 4=min k 4 by omega]
 ·rw [h.2.2.1]
  rcases h4 with rfl | rfl
  ·rw [Cal.seg_nil _ (by omega),Cal.seg_nil _ (by omega)]
  ·rfl
 ·rw [h.2.2.2.1,Cal.seg_nil _ (by omega),Cal.seg_nil _ (by omega)]
 ·rw [h.2.2.2.2]
  rcases h4 with rfl | rfl <;> rfl
theorem a3g {s : ByteArray} {k : Nat} {part a b c : Int} (h : mH s k part a b c) (hk : k<s.data.toList.length) (hf : Cal.fits k s.data.toList[k]=true) (h4 : 5≤k) (h5 : k<7) :
 mH s (k + 1) 1 a (10 * b + ((s.data.toList[k].toNat : Int) - 48)) c:=by
 refine ⟨iH h hk hf,?_,?_,?_,by rw [if_neg (by omega),if_pos (by omega)]⟩
 ·rw [h.2.1,show min (k + 1) 4=min k 4 by omega]
 ·rw [h.2.2.1,show min (k + 1) 7=k + 1 by omega,show min k 7=k by omega,Cal.seg_succ _ (by omega) hk,Cal.val_snoc]
 ·rw [h.2.2.2.1,Cal.seg_nil _ (by omega),Cal.seg_nil _ (by omega)]
theorem a2g {s : ByteArray} {k : Nat} {part a b c : Int} (h : mH s k part a b c) (hk : k<s.data.toList.length) (hf : Cal.fits k s.data.toList[k]=true) (h4 : 8≤k) :
 mH s (k + 1) 2 a b (10 * c + ((s.data.toList[k].toNat : Int) - 48)):=by
 refine ⟨iH h hk hf,?_,?_,?_,by rw [if_neg (by omega),if_neg (by omega)]⟩
 ·rw [h.2.1,show min (k + 1) 4=min k 4 by omega]
 ·rw [h.2.2.1,show min (k + 1) 7=min k 7 by omega]
 ·rw [h.2.2.2.1,Cal.seg_succ _ (by omega) hk,Cal.val_snoc]
theorem a5w {s : ByteArray} {part a b c : Int} (h : mH s 10 part a b c) (hs : s.data.toList.length=10) : ofV a b c=rdV s∧ofE a b c=rdE s:=by
 have g : ∀ j (hj : j<s.data.toList.length),Cal.fits j s.data.toList[j]=true:=fun j hj => h.1 j hj (by omega)
 obtain ⟨-,rfl,rfl,rfl,-⟩:=h
 unfold rdV rdE
 rw [if_pos g,if_pos g]
 exact ⟨rfl,rfl⟩
theorem bR {a b c d : Int} (h : a=b) (h' : c=d) : Ending.returned (.tuple #[.int .i64 a,.int .i64 c])=.returned (.tuple #[.int .i64 b,.int .i64 d]):=by rw [h,h']
theorem dU {c : UInt8} (h : (c.toNat : Int)<48∨57<(c.toNat : Int)) : Cal.isDig c=false:=by
 unfold Cal.isDig; rw [Bool.and_eq_false_iff,decide_eq_false_iff_not,decide_eq_false_iff_not]; omega
theorem qH {c : UInt8} (h : ¬ (c.toNat : Int)<48) (h' : ¬ 57<(c.toNat : Int)) : Cal.isDig c=true:=by
 unfold Cal.isDig; rw [Bool.and_eq_true,decide_eq_true_iff,decide_eq_true_iff]; omega
theorem a2j (s : ByteArray) (w : World) (hs : s.size=10) :
 Calls Tryz.prog 147 #[.string s] w fun e w' => e=.returned (.tuple #[.int .i64 (rdV s),.int .i64 (rdE s)])∧Below w.heap.size w w':=by
 have hcv:=fun w => run_bytes_of_string (P:=Tryz.prog) w 9 39 5 s (by kernel_rfl) (by kernel_rfl) (by kernel_rfl)
 go_enter Tryz.func147,Tryz.ntmps147
 go_wp2
 have hlen:=hid (show s.data.toList.length=10 by simpa using hs)
 clear hcv
 go_loopw [5,14] (fun p i wr => ∃ (k : Nat) (part a b c : Int),k≤10∧i=.int .i64 k∧p=.int .i64 part∧Hid (mH s k part a b c)∧Hid (lI s w.heap.size a b c w wr)) (fun _ i _ => (10 - intOf i).toNat)
 case atStart => exact ⟨0,0,0,0,0,by omega,rfl,rfl,a0m s,lI.start s w _⟩
 case round =>
  obtain ⟨k,part,a,b,c,hk,rfl,rfl,HR,HI⟩:=hrel
  have bd:=a6A HR hk
  by_cases hlt : k<10
  ·have hks : k<s.size:=by omega
   have hcell:=HI.out.2.1 k hks
   have hkl : Hid (k<s.data.toList.length):=by have:=hlen.out; show k<_; omega
   have hck : Hid (s[k]=s.data.toList[k]'hkl.out):=rfl
   have hpart:=HR.out.2.2.2.2
   by_cases c4 : k=4
   ·subst c4
    obtain rfl : part=0:=hpart
    by_cases hd : (s[4].toNat : Int)=45
    ·have hf : Hid (Cal.fits 4 (s.data.toList[4]'hkl.out)=true):=by show _=true; rw [Cal.fits_dash (by omega),decide_eq_true_iff]; exact hd
     go_wp2
     go_roundw
     case rel => exact ⟨5,1,a,b,c,by omega,by go_num,rfl,hid (tU HR hkl hf (by omega)),HI⟩
     case measure => simp [intOf]
    ·have hf : Hid (Cal.fits 4 (s.data.toList[4]'hkl.out)=false):=by show _=false; rw [Cal.fits_dash (by omega),decide_eq_false_iff_not]; exact hd
     have hr:=hid (dZ hkl hf)
     go_wp2
     go_ret2
     exact ⟨bR hr.out.1.symm hr.out.2.symm,HI.out.1⟩
   by_cases c7 : k=7
   ·subst c7
    obtain rfl : part=1:=hpart
    by_cases hd : (s[7].toNat : Int)=45
    ·have hf : Hid (Cal.fits 7 (s.data.toList[7]'hkl.out)=true):=by show _=true; rw [Cal.fits_dash (by omega),decide_eq_true_iff]; exact hd
     go_wp2
     go_roundw
     case rel => exact ⟨8,2,a,b,c,by omega,by go_num,rfl,hid (tU HR hkl hf (by omega)),HI⟩
     case measure => simp [intOf]
    ·have hf : Hid (Cal.fits 7 (s.data.toList[7]'hkl.out)=false):=by show _=false; rw [Cal.fits_dash (by omega),decide_eq_false_iff_not]; exact hd
     have hr:=hid (dZ hkl hf)
     go_wp2
     go_ret2
     exact ⟨bR hr.out.1.symm hr.out.2.symm,HI.out.1⟩
   by_cases k4 : k<4
   ·have hf4 : Hid (k≠4∧k≠7):=by show _∧_; omega
    have q4 : ((k : Int) == 4)=false:=by rw [beq_eq_false_iff_ne]; omega
    have q7 : ((k : Int) == 7)=false:=by rw [beq_eq_false_iff_ne]; omega
    obtain rfl : part=0:=by rw [hpart]; rw [if_pos (by omega)]
    clear hpart
    have hm:=HI.out.2.2.1
    have hz:=HI.out.2.2.2.2.2 0
    by_cases hd1 : (s[k].toNat : Int)<48
    ·have hr:=hid (dZ hkl ((Cal.fits_dig hf4.out.1 hf4.out.2).trans (dU (.inl hd1))))
     go_wp2
     go_ret2
     exact ⟨bR hr.out.1.symm hr.out.2.symm,HI.out.1⟩
    by_cases hd2 : 57<(s[k].toNat : Int)
    ·have hr:=hid (dZ hkl ((Cal.fits_dig hf4.out.1 hf4.out.2).trans (dU (.inr hd2))))
     go_wp2
     go_ret2
     exact ⟨bR hr.out.1.symm hr.out.2.symm,HI.out.1⟩
    have hf : Hid (Cal.fits k (s.data.toList[k]'hkl.out)=true):=(Cal.fits_dig hf4.out.1 hf4.out.2).trans (qH hd1 hd2)
    go_wp2
    go_roundw
    case rel => exact ⟨k + 1,0,_,b,c,by omega,by go_num,rfl,hid (a2N HR hkl hf k4),hid HI.out.set0⟩
    case measure => simp [intOf]; omega
   by_cases k7 : k<7
   ·have hf4 : Hid (k≠4∧k≠7):=by show _∧_; omega
    have q4 : ((k : Int) == 4)=false:=by rw [beq_eq_false_iff_ne]; omega
    have q7 : ((k : Int) == 7)=false:=by rw [beq_eq_false_iff_ne]; omega
    obtain rfl : part=1:=by rw [hpart]; rw [if_neg (by omega),if_pos (by omega)]
    clear hpart
    have hm:=HI.out.2.2.2.1
    have hz:=HI.out.2.2.2.2.2 1
    by_cases hd1 : (s[k].toNat : Int)<48
    ·have hr:=hid (dZ hkl ((Cal.fits_dig hf4.out.1 hf4.out.2).trans (dU (.inl hd1))))
     go_wp2
     go_ret2
     exact ⟨bR hr.out.1.symm hr.out.2.symm,HI.out.1⟩
    by_cases hd2 : 57<(s[k].toNat : Int)
    ·have hr:=hid (dZ hkl ((Cal.fits_dig hf4.out.1 hf4.out.2).trans (dU (.inr hd2))))
     go_wp2
     go_ret2
     exact ⟨bR hr.out.1.symm hr.out.2.symm,HI.out.1⟩
    have hf : Hid (Cal.fits k (s.data.toList[k]'hkl.out)=true):=(Cal.fits_dig hf4.out.1 hf4.out.2).trans (qH hd1 hd2)
    go_wp2
    go_roundw
    case rel => exact ⟨k + 1,1,a,_,c,by omega,by go_num,rfl,hid (a3g HR hkl hf (by omega) k7),hid HI.out.set1⟩
    case measure => simp [intOf]; omega
   ·have hf4 : Hid (k≠4∧k≠7):=by show _∧_; omega
    have q4 : ((k : Int) == 4)=false:=by rw [beq_eq_false_iff_ne]; omega
    have q7 : ((k : Int) == 7)=false:=by rw [beq_eq_false_iff_ne]; omega
    obtain rfl : part=2:=by rw [hpart]; rw [if_neg (by omega),if_neg (by omega)]
    clear hpart
    have hm:=HI.out.2.2.2.2.1
    have hz:=HI.out.2.2.2.2.2 2
    by_cases hd1 : (s[k].toNat : Int)<48
    ·have hr:=hid (dZ hkl ((Cal.fits_dig hf4.out.1 hf4.out.2).trans (dU (.inl hd1))))
     go_wp2
     go_ret2
     exact ⟨bR hr.out.1.symm hr.out.2.symm,HI.out.1⟩
    by_cases hd2 : 57<(s[k].toNat : Int)
    ·have hr:=hid (dZ hkl ((Cal.fits_dig hf4.out.1 hf4.out.2).trans (dU (.inr hd2))))
     go_wp2
     go_ret2
     exact ⟨bR hr.out.1.symm hr.out.2.symm,HI.out.1⟩
    have hf : Hid (Cal.fits k (s.data.toList[k]'hkl.out)=true):=(Cal.fits_dig hf4.out.1 hf4.out.2).trans (qH hd1 hd2)
    go_wp2
    go_roundw
    case rel => exact ⟨k + 1,2,a,b,_,by omega,by go_num,rfl,hid (a2g HR hkl hf (by omega)),hid HI.out.set2⟩
    case measure => simp [intOf]; omega
  ·obtain rfl : k=10:=by omega
   have hend:=hid (a5w HR hlen)
   have m0:=HI.out.2.2.1
   have m1:=HI.out.2.2.2.1
   have m2:=HI.out.2.2.2.2.1
   go_wp2_with (go_at_call 175; refine (a6R _ _ _ _).mono ?_; rintro e w' ⟨rfl,hb⟩)
   go_ret2
   exact ⟨bR hend.out.1 hend.out.2,HI.out.1.trans (hb.mono HI.out.1.size)⟩
end
section
open Go.RowKit
def qX (s : ByteArray) : Int:=if s.size=10 then rdV s else 0
def rL (s : ByteArray) : Int:=if s.size=10 then rdE s else 30
theorem a3c (s : ByteArray) (w : World) :
 Calls Tryz.prog 147 #[.string s] w fun e w' => e=.returned (.tuple #[.int .i64 (qX s),.int .i64 (rL s)])∧Below w.heap.size w w':=by
 unfold qX rL
 by_cases h : s.size=10
 ·rw [if_pos h,if_pos h]; exact a2j s w h
 ·rw [if_neg h,if_neg h]; exact a2S s w h
theorem a6Y {y m d : Int} (h : y=-1∨m=-1∨d=-1) : ofV y m d=0∧ofE y m d=30:=by
 have n : ¬ Cal.ok y m d:=by unfold Cal.ok; omega
 unfold ofV ofE
 rw [if_neg n,if_neg n]
 exact ⟨rfl,rfl⟩
theorem a06 (s : ByteArray) (w : World) :
 Calls Tryz.prog 113 #[.string s] w fun e w' => e=.returned (.tuple #[.int .i64 (qX s),.int .i64 (rL s)])∧Below w.heap.size w w':=by
 unfold qX rL
 by_cases h : s.size=10
 ·rw [if_pos h,if_pos h]
  have hl : s.data.toList.length=10:=by simpa using h
  have g4 : s[4]=s.data.toList[4]:=rfl
  have g7 : s[7]=s.data.toList[7]:=rfl
  by_cases c : (s[4].toNat : Int)=45∧(s[7].toNat : Int)=45
  ·refine (zW s w h c.1 c.2).mono ?_
   rintro e w' ⟨rfl,hb⟩
   refine ⟨?_,hb⟩
   show Ending.returned (.tuple #[.int .i64 (ofV (Cal.numL (Cal.seg s.data.toList 0 4)) (Cal.numL (Cal.seg s.data.toList 5 7)) (Cal.numL (Cal.seg s.data.toList 8 10))),.int .i64 (ofE (Cal.numL (Cal.seg s.data.toList 0 4)) (Cal.numL (Cal.seg s.data.toList 5 7)) (Cal.numL (Cal.seg s.data.toList 8 10)))])=_
   by_cases f : ∀ j (hj : j<s.data.toList.length),Cal.fits j s.data.toList[j]=true
   ·have dig : ∀ j (hj : j<s.data.toList.length),j≠4→j≠7→Cal.isDig s.data.toList[j]=true:=fun j hj e f' => by rw [← Cal.fits_dig e f']; exact f j hj
    have a1:=Cal.seg_all s.data.toList (lo:=0) (hi:=4) (fun j hj _ _ => dig j hj (by omega) (by omega))
    have a2:=Cal.seg_all s.data.toList (lo:=5) (hi:=7) (fun j hj _ _ => dig j hj (by omega) (by omega))
    have a3:=Cal.seg_all s.data.toList (lo:=8) (hi:=10) (fun j hj _ _ => dig j hj (by omega) (by omega))
    unfold Cal.numL rdV rdE
    rw [if_pos a1,if_pos a2,if_pos a3,if_pos f,if_pos f]
   ·have ⟨j,hj,hf⟩ : ∃ j,∃ hj : j<s.data.toList.length,Cal.fits j s.data.toList[j]=false:=by
     refine Classical.byContradiction fun n => f fun j hj => ?_
     cases e : Cal.fits j s.data.toList[j]
     ·exact absurd ⟨j,hj,e⟩ n
     ·rfl
    have r:=dZ hj hf
    rw [r.1,r.2]
    have h4 : j≠4:=fun e => by
     subst e
     rw [Cal.fits_dash (.inl rfl),decide_eq_false_iff_not] at hf
     exact hf c.1
    have h7 : j≠7:=fun e => by
     subst e
     rw [Cal.fits_dash (.inr rfl),decide_eq_false_iff_not] at hf
     exact hf c.2
    rw [Cal.fits_dig h4 h7] at hf
    have o : Cal.numL (Cal.seg s.data.toList 0 4)=-1∨Cal.numL (Cal.seg s.data.toList 5 7)=-1∨Cal.numL (Cal.seg s.data.toList 8 10)=-1:=by
     by_cases k : j<4
     ·exact .inl (Cal.seg_not _ (by omega) k hj hf)
     by_cases k' : j<7
     ·exact .inr (.inl (Cal.seg_not _ (by omega) k' hj hf))
     ·exact .inr (.inr (Cal.seg_not _ (by omega) (by omega) hj hf))
    have z:=a6Y o
    rw [z.1,z.2]
  ·refine (a0n s w h c).mono ?_
   rintro e w' ⟨rfl,hb⟩
   refine ⟨?_,hb⟩
   by_cases c4 : (s[4].toNat : Int)=45
   ·have c7 : ¬ (s[7].toNat : Int)=45:=fun k => c ⟨c4,k⟩
    have r:=dZ (s:=s) (k:=7) (by omega) (by rw [Cal.fits_dash (.inr rfl),decide_eq_false_iff_not]; exact c7)
    rw [r.1,r.2]
   ·have r:=dZ (s:=s) (k:=4) (by omega) (by rw [Cal.fits_dash (.inl rfl),decide_eq_false_iff_not]; exact c4)
    rw [r.1,r.2]
 ·rw [if_neg h,if_neg h]; exact a02 s w h
theorem yY (s : ByteArray) : (∃ v,rS s.data.toList=some v∧qX s=v∧rL s=0)∨(rS s.data.toList=none∧rL s=30):=by
 have hsz : s.data.toList.length=s.size:=d6 s
 unfold qX rL rS
 by_cases h : s.size=10
 ·rw [if_pos h,if_pos h]
  unfold rdV rdE ofV ofE
  by_cases f : ∀ j (hj : j<s.data.toList.length),Cal.fits j s.data.toList[j]=true
  ·rw [if_pos f,if_pos f]
   by_cases o : Cal.ok (Cal.val (Cal.seg s.data.toList 0 4)) (Cal.val (Cal.seg s.data.toList 5 7)) (Cal.val (Cal.seg s.data.toList 8 10))
   ·rw [if_pos o,if_pos o,if_pos ⟨hsz.trans h,f,o⟩]
    exact .inl ⟨_,rfl,rfl,rfl⟩
   ·rw [if_neg (fun g => o g.2.2),if_neg o]
    exact .inr ⟨rfl,if_neg o⟩
  ·rw [if_neg (fun g => f g.2.1)]
   exact .inr ⟨rfl,if_neg f⟩
 ·rw [if_neg h,if_neg h,if_neg (fun g => h (hsz.symm.trans g.1))]
  exact .inr ⟨rfl,rfl⟩
end
section
open Go.RowKit
def n6 (t : Tk) : List Value:=[.int .i64 t.kind,.string ⟨t.text.toArray⟩,.int .i64 t.n,.int .i64 t.pos]
def l8 (ts : List Tk) : List Value:=ts.flatMap n6
theorem qG (ts : List Tk) (t : Tk) : l8 (ts ++ [t])=l8 ts ++ n6 t:=by unfold l8; simp
theorem a1O : ∀ (ts : List Tk) (j : Nat) (hj : j<ts.length) (i : Nat) (_ : i<4),(l8 ts)[j * 4 + i]?=(n6 ts[j])[i]?
 | t :: ts,0,_,i,hi => by
   unfold l8
   rw [List.flatMap_cons,Nat.zero_mul,Nat.zero_add,List.getElem?_append_left (by exact hi)]
   rfl
 | t :: ts,j + 1,hj,i,hi => by
   have:=a1O ts j (by simpa using hj) i hi
   unfold l8 at this ⊢
   rw [List.flatMap_cons,List.getElem?_append_right (by show 4≤_; omega)]
   rw [show (j + 1) * 4 + i - (n6 t).length=j * 4 + i by show (j + 1) * 4 + i - 4=_; omega]
   exact this
def vU (W : World) (b off : Nat) (ts : List Tk) : Prop:=∀ j (hj : j<ts.length),W.cell? ⟨b,off + j * 4,none⟩=some (.int .i64 ts[j].kind)∧W.cell? ⟨b,off + j * 4 + 1,none⟩=some (.string ⟨ts[j].text.toArray⟩)∧W.cell? ⟨b,off + j * 4 + 2,none⟩=some (.int .i64 ts[j].n)∧W.cell? ⟨b,off + j * 4 + 3,none⟩=some (.int .i64 ts[j].pos)
theorem vU.below {n₀ : Nat} {W W' : World} {b off : Nat} {ts : List Tk} (h : vU W b off ts) (hb : Below n₀ W W') (hl : b<n₀) : vU W' b off ts:=fun j hj => by
 obtain ⟨h0,h1,h2,h3⟩:=h j hj
 exact ⟨(hb.cell (p:=⟨b,off + j * 4,none⟩) hl).trans h0,(hb.cell (p:=⟨b,off + j * 4 + 1,none⟩) hl).trans h1,(hb.cell (p:=⟨b,off + j * 4 + 2,none⟩) hl).trans h2,(hb.cell (p:=⟨b,off + j * 4 + 3,none⟩) hl).trans h3⟩
theorem vU.of_row {base T : Nat} {W : World} {g cap : Nat} {ts : List Tk} (h : W.ownsRow base T 4 (.slice (some ⟨g,0,none⟩) ts.length cap) ts.length (l8 ts)) : vU W g 0 ts:=by
 have hc:=h.cells (g:=g) rfl
 intro j hj
 have q : ∀ i,i<4→∀ u,(n6 ts[j])[i]?=some u→W.cell? ⟨g,0 + j * 4 + i,none⟩=some u:=fun i hi u hu => by
  have:=hc (j * 4 + i) u (by rw [a1O ts j hj i hi]; exact hu)
  rw [Go.WideShapes.add_plain] at this
  rw [Nat.add_assoc]
  exact this
 exact ⟨q 0 (by decide) _ rfl,q 1 (by decide) _ rfl,q 2 (by decide) _ rfl,q 3 (by decide) _ rfl⟩
theorem x8 (W : World) (T : TypeId) (v0 v1 v2 v3 : Value) : ∀ j u,[v0,v1,v2,v3][j]?=some u→(W.alloc (.cells #[v0,v1,v2,v3] T)).cell? ((⟨W.heap.size,0,none⟩ : Addr).add j)=some u:=by
 intro j u h
 rw [Go.WideShapes.add_plain,Nat.zero_add]
 have h' : (W.alloc (.cells #[v0,v1,v2,v3] T)).heap[W.heap.size]?=some (.cells #[v0,v1,v2,v3] T (0,0)):=by show (W.heap.push _)[W.heap.size]?=_; simp
 rw [World.cell?]
 simp only [h']
 match j,h with
 | 0,h => exact h
 | 1,h => exact h
 | 2,h => exact h
 | 3,h => exact h
theorem bS (t : Tk) : ∀ u∈n6 t,u.oneCell'=true:=by
 intro u hu
 unfold n6 at hu
 simp only [List.mem_cons,List.not_mem_nil,or_false] at hu
 rcases hu with rfl | rfl | rfl | rfl <;> rfl
theorem n7 {W W' : World} {B T k : Nat} {v : Value} {n : Nat} {xs : List Value} (h : W.ownsRow B T k v n xs) (hb : Below W.heap.size W W') : W'.ownsRow B T k v n xs :=
 h.kept (row:=none) ⟨hb.os,hb.tape,hb.output,hb.size,fun i hi _ => hb.block i hi⟩ (by cases hv : v.ownBlock <;> simp)
theorem qB {T : TypeId} {B : Nat} {w W w5 : World} {v : Value} {ts : List Tk} {t : Tk} {g cap' : Nat} (hB : Below B w W) (how : W.ownsRow B T 4 v ts.length (l8 ts))
 (hown' : w5.ownsRow B T 4 (.slice (some ⟨g,0,none⟩) (ts.length + 1) cap') (ts.length + 1) (l8 ts ++ n6 t)) (hgrow' : W.grownBy w5 v.ownBlock) (hBW : B≤W.heap.size) :
 Below B w w5∧w5.ownsRow B T 4 (.slice (some ⟨g,0,none⟩) (ts ++ [t]).length cap') (ts ++ [t]).length (l8 (ts ++ [t])):=by
 refine ⟨hB.grown hgrow' hBW (fun r e => (how.lt r e).1),?_⟩
 rw [qG,List.length_append]
 exact hown'
end
section
open Lib (hid)
open Go.RowKit Go.Shelf
def Env (w : World) : Prop:=∃ m,w.cell? ⟨1,0,none⟩=some (.int .i64 m)
theorem Env.size {w : World} (h : Env w) : 1<w.heap.size:=by
 obtain ⟨m,hm⟩:=h
 rcases Nat.lt_or_ge 1 w.heap.size with g | g
 ·exact g
 ·have : w.heap[1]?=none:=Array.getElem?_eq_none g
  simp [World.cell?,this] at hm
theorem Env.below {w w' : World} (h : Env w) (hb : Below w.heap.size w w') : Env w':=by
 have hs:=h.size
 obtain ⟨m,hm⟩:=h
 exact ⟨m,(hb.cell (p:=⟨1,0,none⟩) hs).trans hm⟩
theorem v6 (w : World) (n : Nat) : Below w.heap.size w (w.drewN n):=⟨rfl,rfl,rfl,Nat.le_refl _,fun _ _ => rfl⟩
theorem kN (s cut : ByteArray) (w : World) (hs : s.size≤maxLen) (hc : cut.size<4294967281) (ha : ∀ (j : Nat) (b : UInt8),cut.data.toList[j]?=some b→b.toNat<128) :
 Calls Tryz.prog 137 #[.string s,.string cut] w fun e w' => e=.returned (.string ⟨(Lib.trimS s.data.toList cut.data.toList).toArray⟩)∧Below w.heap.size w w' :=
 Any.strings_Trim_laid Tryz.lays160 (by kernel_rfl) s cut w hs hc ha
theorem mV : ∀ (j : Nat) (b : UInt8),zV.data.toList[j]?=some b→b.toNat<128:=ascii_of_all (by decide)
theorem uB {s : ByteArray} (h : ¬ 0<s.size) : s=⟨#[]⟩:=by
 cases s with
 | mk d => simp only [ByteArray.mk.injEq]; exact Array.eq_empty_of_size_eq_zero (by have : d.size=(ByteArray.mk d).size:=rfl; omega)
theorem a4X {s : ByteArray} (h : 0<s.size) : ¬ s.toList=[]∧s.toList.isEmpty=false:=by
 have : s.toList≠[]:=fun e => by rw [Lib.toList_data] at e; have:=d6 s; rw [e] at this; simp at this; omega
 exact ⟨this,by simpa using this⟩
theorem a4v (s : ByteArray) (w : World) (hs : s.size≤maxLen) :
 Calls Tryz.prog 138 #[.string s,.string ⟨#[46]⟩] w fun e w' => e=.returned (.tuple #[.string ⟨(Lib.cut s.data.toList [46]).1.toArray⟩,.string ⟨(Lib.cut s.data.toList [46]).2.1.toArray⟩,.bool (Lib.cut s.data.toList [46]).2.2])∧Below w.heap.size w w':=by
 have hm : s.size≤9223372036854775807:=hs
 have mixed : Tryz.prog.follows .mixedOrders=true:=by kernel_rfl
 have hio : Lib.indexByte s.data.toList 46=Lib.indexB s ⟨#[46]⟩:=(Lib.index_one _ _).symm
 rcases Lib.indexB_cases s ⟨#[46]⟩ with hix | ⟨i,hix,hroom⟩
 ·obtain ⟨e1,e2,e3⟩:=Lib.cutB_miss s ⟨#[46]⟩ hix
  replace e1 : (⟨(Lib.cut s.data.toList [46]).1.toArray⟩ : ByteArray)=s:=e1
  replace e2 : (⟨(Lib.cut s.data.toList [46]).2.1.toArray⟩ : ByteArray)=ByteArray.empty:=e2
  replace e3 : (Lib.cut s.data.toList [46]).2.2=false:=e3
  rw [e1,e2,e3]
  clear e1 e2 e3
  go_enter Tryz.func138,Tryz.ntmps138
  go_wp2_with (go_at_call 127; refine (Tryz.stringslite_Index_one s 46 _).mono ?_; rintro e w' ⟨rfl,rfl⟩; rw [hio,hix])
  go_ret3
  exact ⟨rfl,Below.refl _ _⟩
 ·obtain ⟨e1,e2,e3⟩:=Lib.cutB_hit s ⟨#[46]⟩ i hix
  replace e1 : (⟨(Lib.cut s.data.toList [46]).1.toArray⟩ : ByteArray)=s.extract 0 i:=e1
  replace e2 : (⟨(Lib.cut s.data.toList [46]).2.1.toArray⟩ : ByteArray)=s.extract (i + 1) s.size:=e2
  replace e3 : (Lib.cut s.data.toList [46]).2.2=true:=e3
  rw [e1,e2,e3]
  clear e1 e2 e3
  replace hroom : i + 1≤s.size:=hroom
  have c1 : (0 : Int)≤↑i:=by omega
  have c2 : (↑i : Int)≤↑s.size:=by omega
  have c3 : (0 : Int)≤↑i + 1:=by omega
  have c4 : (↑i + 1 : Int)≤↑s.size:=by omega
  go_enter Tryz.func138,Tryz.ntmps138
  go_wp2_with (go_at_call 127; refine (Tryz.stringslite_Index_one s 46 _).mono ?_; rintro e w' ⟨rfl,rfl⟩; rw [hio,hix])
  go_region_o
  go_wp2
  go_ret3
  exact ⟨rfl,v6 _ 1⟩
theorem a1R (s : ByteArray) (w : World) (hs : s.size≤maxLen) :
 Calls Tryz.prog 111 #[.string s,.string ⟨#[46]⟩] w fun e w' => e=.returned (.tuple #[.string ⟨(Lib.cut s.data.toList [46]).1.toArray⟩,.string ⟨(Lib.cut s.data.toList [46]).2.1.toArray⟩,.bool (Lib.cut s.data.toList [46]).2.2])∧Below w.heap.size w w':=by
 go_enter Tryz.func111,Tryz.ntmps111
 go_wp2_with (go_at_call 138; refine (a4v s _ hs).mono ?_; rintro e w' ⟨rfl,hb⟩)
 go_ret3
 exact ⟨rfl,hb⟩
def inR (n : Nat) : Bool:=decide (97≤n) && decide (n≤122) || decide (48≤n) && decide (n≤57) || decide (n=95)
theorem sY (c : UInt8) : inR c.toNat=U7 c:=by
 have:=bQ (p:=fun c => inR c.toNat == U7 c) (by decide +kernel) c
 simpa using this
theorem sF (s : ByteArray) : ∀ (f pos : Nat),s.size - pos≤f→(Lib.idxFuncFrom (fun n => !inR n) true s f pos<0↔(s.data.toList.drop pos).all U7=true)
 | 0,pos,h => by
   rw [aK (by omega)]
   simp [Lib.idxFuncFrom]
 | f + 1,pos,h => by
   unfold Lib.idxFuncFrom
   by_cases hp : pos<s.size
   ·rw [if_pos hp,x9 hp,List.all_cons]
    by_cases ha : (s[pos]'hp).toNat<128
    ·rw [decode_ascii s pos hp ha]
     simp only [sY]
     cases hi : U7 s[pos] with
     | false => simp
     | true =>
       have:=sF s f (pos + 1) (by omega)
       simpa using this
    ·have hd:=(decode_high s pos hp (by omega)).1
     have hr : inR (Utf8.decode s pos).1=false:=by unfold inR; simp; omega
     have hi : U7 s[pos]=false:=by
      rw [← sY]; unfold inR; simp; omega
     simp only [hr,hi]
     simp
   ·rw [if_neg hp,aK (by omega)]
    simp
theorem a5y (s : ByteArray) : Lib.idxFunc (fun n => !inR n) true s<0↔s.data.toList.all U7=true:=sF s s.size 0 (by omega)
theorem a1a (n : Nat) (w : World) : Calls Tryz.prog 94 #[.int .i32 n] w fun e w' => e=.returned (.bool (inR n))∧w=w':=by
 go_enter Tryz.func94,Tryz.ntmps94
 go_wp2
 all_goals go_ret
 all_goals exact ⟨j9 (by unfold inR; rw [Bool.eq_iff_iff]; simp; omega),rfl⟩
theorem uU (n : Nat) (w : World) : Calls Tryz.prog 93 #[.int .i32 n] w fun e w' => e=.returned (.bool (!inR n))∧w=w':=by
 go_enter Tryz.func93,Tryz.ntmps93
 go_wp2_with (go_at_call 94; refine (a1a n _).mono ?_; rintro e w' ⟨rfl,rfl⟩)
 go_ret
 exact ⟨rfl,rfl⟩
theorem a5u (s : ByteArray) (w : World) : Calls Tryz.prog 92 #[.string s,.func (.func 93) #[] #[]] w fun e w' => e=.returned (.int .i64 (Lib.idxFunc (fun n => !inR n) true s))∧Below w.heap.size w w' :=
 Tryz.strings_IndexFunc 93 #[] (enters_of Tryz.func93 (by kernel_rfl) rfl) (fun n => !inR n) s w fun W x _ => (uU x W).mono fun e w' ⟨h,h'⟩ => ⟨h,0,h'.symm⟩
theorem eS (s : ByteArray) (w : World) (hs : s.size≤maxLen) :
 Calls Tryz.prog 61 #[.string s] w fun e w' => e=.returned (.bool (r9 s.data.toList))∧Below w.heap.size w w':=by
 have hm:=hs
 unfold maxLen at hm
 by_cases h0 : ¬ 0<s.size
 ·rw [uB h0]
  go_enter Tryz.func61,Tryz.ntmps61
  go_wp2
  go_ret
  exact ⟨rfl,Below.refl _ _⟩
 have h0 : 0<s.size:=by omega
 obtain ⟨e1,e2⟩:=a4X h0
 have hh:=hid (aD h0)
 have hl:=hid (d6 s)
 by_cases h1 : ¬ s.size≤24
 ·have e:=hid (show r9 s.data.toList=false by unfold r9; rw [hl.out,decide_eq_false (by omega)]; rfl)
  have h1 : 24<s.size:=by omega
  go_enter Tryz.func61,Tryz.ntmps61
  go_wp2
  go_ret
  exact ⟨j9 e.out.symm,Below.refl _ _⟩
 have h1 : s.size≤24:=by omega
 by_cases h2 : (s[0].toNat : Int)<97
 ·have e:=hid (show r9 s.data.toList=false by unfold r9; rw [hh.out,decide_eq_false (show ¬ (97 : Int)≤(s[0].toNat : Int) by omega)]; simp)
  go_enter Tryz.func61,Tryz.ntmps61
  go_wp2
  go_ret
  exact ⟨j9 e.out.symm,Below.refl _ _⟩
 by_cases h3 : 122<(s[0].toNat : Int)
 ·have e:=hid (show r9 s.data.toList=false by unfold r9; rw [hh.out,decide_eq_false (show ¬ (s[0].toNat : Int)≤122 by omega)]; simp)
  go_enter Tryz.func61,Tryz.ntmps61
  go_wp2
  go_ret
  exact ⟨j9 e.out.symm,Below.refl _ _⟩
 ·have e:=hid (show r9 s.data.toList=decide (Lib.idxFunc (fun n => !inR n) true s<0) by
   unfold r9; rw [hh.out,hl.out,decide_eq_true (show s.size≤24 by omega),decide_eq_true (show (97 : Int)≤(s[0].toNat : Int) by omega),decide_eq_true (show (s[0].toNat : Int)≤122 by omega),Bool.eq_iff_iff,decide_eq_true_eq,a5y]; rfl)
  go_enter Tryz.func61,Tryz.ntmps61
  go_wp2_with (go_at_call 92; refine (a5u s _).mono ?_; rintro e w' ⟨rfl,hb⟩)
  go_ret
  exact ⟨j9 e.out.symm,hb⟩
theorem cU (s : ByteArray) (w : World) (hs : s.size≤maxLen) (he : Env w) :
 Calls Tryz.prog 31 #[.string s] w fun e w' => e=.returned (.bool (o7 s.data.toList))∧Below w.heap.size w w':=by
 have hm:=hs
 unfold maxLen at hm
 cases hn : r9 s.data.toList
 ·have E:=hid (show o7 s.data.toList=false by unfold o7; rw [hn]; rfl)
  go_enter Tryz.func31,Tryz.ntmps31
  go_wp2_with (first | (go_at_call 61; refine (eS s _ hs).mono ?_; rintro e w' ⟨rfl,hb⟩; rw [hn]))
  go_ret
  exact ⟨j9 E.out.symm,hb⟩
 ·have E:=hid (show o7 s.data.toList=!F7 s.data.toList by unfold o7; rw [hn]; rfl)
  have hz : s.size≤24:=by have:=pX hn; rw [d6] at this; exact this
  have C:=hid (rU hn)
  go_enter Tryz.func31,Tryz.ntmps31
  go_wp2_with (first | (go_at_call 61; refine (eS s _ hs).mono ?_; rintro e w1 ⟨rfl,hb1⟩; rw [hn]; obtain ⟨m,hm'⟩:=he.below hb1) | (go_at_call 62; refine (Tryz.strings_Contains _ _ m _ (by decide) hm').mono ?_; rintro e w' ⟨rfl,rfl⟩))
  go_ret
  exact ⟨j9 (by rw [E.out,← C.out]; rfl),hb1⟩
theorem a3n (s : ByteArray) : (⟨(Lib.cut s.data.toList [46]).1.toArray⟩ : ByteArray).size≤s.size∧(⟨(Lib.cut s.data.toList [46]).2.1.toArray⟩ : ByteArray).size≤s.size:=by
 have hl:=d6 s
 show (Lib.cut s.data.toList [46]).1.toArray.size≤s.size∧(Lib.cut s.data.toList [46]).2.1.toArray.size≤s.size
 simp only [List.size_toArray]
 unfold Lib.cut
 split
 ·simp only [List.length_take,List.length_drop]; omega
 ·simp
theorem oR (s : ByteArray) (w : World) (hs : s.size≤maxLen) (he : Env w) :
 Calls Tryz.prog 76 #[.string s] w fun e w' => e=.returned (.bool (gT s.data.toList))∧Below w.heap.size w w':=by
 obtain ⟨z1,z2⟩:=a3n s
 have E:=hid (show gT s.data.toList=(o7 (Lib.cut s.data.toList [46]).1 && (!(Lib.cut s.data.toList [46]).2.2 || o7 (Lib.cut s.data.toList [46]).2.1)) from rfl)
 cases h1 : o7 (Lib.cut s.data.toList [46]).1
 case' true => cases h2 : (Lib.cut s.data.toList [46]).2.2
 all_goals
  go_enter Tryz.func76,Tryz.ntmps76
  go_wp2_with fail
  refine Calls.mono (a1R s w hs) ?_
  rintro e w1 ⟨rfl,hb1⟩
  have he1:=hid (he.below hb1)
  have HB:=hid hb1
  clear hb1
  (try rw [h2])
  go_wp2_with fail
  refine Calls.mono (cU _ _ (Nat.le_trans z1 hs) he1) ?_
  rintro e w2 ⟨rfl,hb2⟩
  rw [show o7 ({ data:=(Lib.cut s.data.toList [46]).1.toArray } : ByteArray).data.toList=_ from h1]
  have he2:=hid (he1.out.below hb2)
  have HC:=hid (HB.out.trans (hb2.mono HB.out.size))
  clear hb2
  go_wp2_with fail
 ·go_ret
  exact ⟨j9 (by rw [E.out,h1,h2]; rfl),HC⟩
 ·refine Calls.mono (cU _ _ (Nat.le_trans z2 hs) he2) ?_
  rintro e w3 ⟨rfl,hb3⟩
  have HD:=hid (HC.out.trans (hb3.mono HC.out.size))
  clear hb3
  go_wp2_with fail
  go_ret
  exact ⟨j9 (by rw [E.out,h1,h2]; rfl),HD⟩
 ·go_ret
  exact ⟨j9 (by rw [E.out,h1]; rfl),HC⟩
theorem a1h (s : ByteArray) (w : World) (hs : s.size≤maxLen) :
 Calls Tryz.prog 110 #[.string s] w fun e w' => e=.returned (.bool (fV s.data.toList))∧Below w.heap.size w w':=by
 have hm:=hs
 unfold maxLen at hm
 have hl:=hid (d6 s)
 by_cases h1 : s.size=3
 ·have e:=hid (show fV s.data.toList=(Lib.trimS s.data.toList zV.data.toList).isEmpty by unfold fV; rw [hl.out,decide_eq_true h1,qP]; rfl)
  go_enter Tryz.func110,Tryz.ntmps110
  go_wp2_with (go_at_call 137; refine (kN _ _ _ hs (by decide) mV).mono ?_; rintro e w' ⟨rfl,hb⟩)
  go_ret
  exact ⟨j9 e.out.symm,hb⟩
 ·have e:=hid (show fV s.data.toList=false by unfold fV; rw [hl.out,decide_eq_false h1]; rfl)
  go_enter Tryz.func110,Tryz.ntmps110
  go_wp2_with (go_at_call 137; refine (kN _ _ _ hs (by decide) mV).mono ?_; rintro e w' ⟨rfl,hb⟩)
  go_ret
  exact ⟨j9 e.out.symm,Below.refl _ _⟩
end
section
open Lib (hid)
open Go.RowKit Go.Shelf
def bM (l : List UInt8) : Value:=.string ⟨l.toArray⟩
theorem oO (w : World) (L : List (List UInt8)) (t : TypeId) (k : Nat) (hk : k<L.length) : (w.alloc (.cells (L.map bM).toArray t)).cell? ⟨w.heap.size,k,none⟩=some (bM L[k]):=by
 have h : (w.alloc (.cells (L.map bM).toArray t)).heap[w.heap.size]?=some (.cells (L.map bM).toArray t):=by show (w.heap.push _)[w.heap.size]?=_; simp
 rw [Lib.cell_of_heap h]
 simp [hk]
theorem a0V (w : World) : Calls Tryz.prog 91 #[] w fun e w' => e=.returned (.slice (some ⟨w.heap.size,0,none⟩) 13 13)∧w'=w.alloc (.cells (n8.map bM).toArray 9):=by
 go_enter Tryz.func91,Tryz.ntmps91
 go_wp2
 go_ret
 exact ⟨rfl,rfl⟩
theorem a64 {s : ByteArray} {l : List UInt8} (h : l≠s.data.toList) : ¬ (⟨l.toArray⟩ : ByteArray).toList=s.toList:=by
 rw [Lib.toList_data,Lib.toList_data]
 exact h
theorem a1B {s : ByteArray} {l : List UInt8} (h : l≠s.data.toList) : ((⟨l.toArray⟩ : ByteArray).toList == s.toList)=false:=beq_eq_false_iff_ne.2 (a64 h)
theorem a4b {s : ByteArray} {l : List UInt8} (h : l=s.data.toList) : s=⟨l.toArray⟩:=by
 subst h; cases s; simp
theorem a1u {L : List (List UInt8)} {l : List UInt8} {k : Nat} (hk : k<L.length) (h : L[k]=l) : L.contains l=true:=by
 rw [List.contains_iff_mem,← h]; exact List.getElem_mem _
theorem a5l {L : List (List UInt8)} {l : List UInt8} (h : ∀ j (hj : j<L.length),L[j]≠l) : L.contains l=false:=by
 rw [Bool.eq_false_iff]
 intro e
 obtain ⟨j,hj,e2⟩:=List.getElem_of_mem (List.contains_iff_mem.1 e)
 exact h j hj e2
theorem gW (s : ByteArray) (w : World) : Calls Tryz.prog 60 #[.string s] w fun e w' => e=.returned (.bool (F7 s.data.toList))∧Below w.heap.size w w':=by
 have hc : Hid (∀ (k : Nat) (hk : k<n8.length),(w.alloc (.cells (n8.map bM).toArray 9)).cell? ⟨w.heap.size,k,none⟩=some (bM n8[k])):=oO w n8 _
 have HB:=hid (c6 w (.cells (n8.map bM).toArray 9))
 go_enter Tryz.func60,Tryz.ntmps60
 go_wp2_with (go_at_call 91; refine (a0V _).mono ?_; rintro e w' ⟨rfl,rfl⟩)
 generalize (w.alloc (.cells (n8.map bM).toArray 9))=W1 at hc HB ⊢
 go_loop [4] (fun i => ∃ k : Nat,k≤13∧i=.int .i64 k∧Hid (∀ j (hj : j<n8.length),j<k→n8[j]≠s.data.toList)) (fun i => 13 - (intOf i).toNat)
 case atStart => exact ⟨0,by omega,rfl,fun j hj h => by omega⟩
 case round =>
  obtain ⟨k,hk,rfl,HI⟩:=hrel
  by_cases hlt : k<13
  ·have c:=hc.out k hlt
   by_cases he : n8[k]'hlt=s.data.toList
   ·have F:=hid (show F7 s.data.toList=true from a1u hlt he)
    have e1:=a4b he
    unfold bM at c
    rw [← e1] at c
    clear e1 he
    go_wp2
    go_ret
    exact ⟨j9 F.out.symm,HB⟩
   ·have e1:=a1B he
    unfold bM at c
    have HE:=hid he
    clear he
    generalize (⟨(n8[k]'hlt).toArray⟩ : ByteArray)=x at c e1
    go_wp2
    go_round
    case rel =>
     refine ⟨k + 1,by omega,by go_num,fun j hj h => ?_⟩
     by_cases ej : j=k
     ·subst ej; exact HE
     ·exact HI.out j hj (by omega)
    case measure => simp [intOf]; omega
  ·have F:=hid (show F7 s.data.toList=false from a5l fun j hj => HI.out j hj (by have : j<13:=hj; omega))
   go_wp2
   go_ret
   exact ⟨j9 F.out.symm,HB⟩
theorem bH (s : ByteArray) (w : World) (hs : s.size≤maxLen) : Calls Tryz.prog 28 #[.string s] w fun e w' => e=.returned (.bool (o7 s.data.toList))∧Below w.heap.size w w':=by
 have E:=hid (show o7 s.data.toList=(dW s.data.toList && !F7 s.data.toList) by rw [eZ]; rfl)
 cases h1 : dW s.data.toList
 all_goals
  go_enter Tryz.func28,Tryz.ntmps28
  go_wp2_with (first | (go_at_call 59; refine (eM s _ hs).mono ?_; rintro e w' ⟨rfl,rfl⟩; rw [h1]) | (go_at_call 60; refine (gW s _).mono ?_; rintro e w' ⟨rfl,hb⟩))
  go_ret
  exact ⟨j9 (by rw [E.out,h1]; rfl),hb⟩
theorem a27 (s : ByteArray) (w : World) : Calls Tryz.prog 74 #[.string s] w fun e w' => e=.returned (.bool (dE s.data.toList))∧Below w.heap.size w w':=by
 have hc : Hid (∀ (k : Nat) (hk : k<D9.length),(w.alloc (.cells (D9.map bM).toArray 9)).cell? ⟨w.heap.size,k,none⟩=some (bM D9[k])):=oO w D9 _
 have HB:=hid (c6 w (.cells (D9.map bM).toArray 9))
 go_enter Tryz.func74,Tryz.ntmps74
 go_wp2
 have ew : w.alloc (.cells (D9.map bM).toArray 9)=w.alloc (.cells #[bM [111,114],bM [97,110,100],bM [60],bM [60,61],bM [61],bM [43],bM [45],bM [42],bM [47]] 9):=rfl
 rw [ew] at hc HB
 unfold bM at HB hc
 generalize (w.alloc _)=W1 at hc HB ⊢
 go_loop [4] (fun i => ∃ k : Nat,k≤9∧i=.int .i64 k∧Hid (∀ j (hj : j<D9.length),j<k→D9[j]≠s.data.toList)) (fun i => 9 - (intOf i).toNat)
 case atStart => exact ⟨0,by omega,rfl,fun j hj h => by omega⟩
 case round =>
  obtain ⟨k,hk,rfl,HI⟩:=hrel
  by_cases hlt : k<9
  ·have c:=hc.out k hlt
   by_cases he : D9[k]'hlt=s.data.toList
   ·have F:=hid (show dE s.data.toList=true from a1u hlt he)
    have e1:=a4b he
    rw [← e1] at c
    clear e1 he
    go_wp2
    go_ret
    exact ⟨j9 F.out.symm,HB⟩
   ·have e1:=a1B he
    have HE:=hid he
    clear he
    generalize (⟨(D9[k]'hlt).toArray⟩ : ByteArray)=x at c e1
    go_wp2
    go_round
    case rel =>
     refine ⟨k + 1,by omega,by go_num,fun j hj h => ?_⟩
     by_cases ej : j=k
     ·subst ej; exact HE
     ·exact HI.out j hj (by omega)
    case measure => simp [intOf]; omega
  ·have F:=hid (show dE s.data.toList=false from a5l fun j hj => HI.out j hj (by have : j<9:=hj; omega))
   go_wp2
   go_ret
   exact ⟨j9 F.out.symm,HB⟩
end
end Go.Proofs.YtibiccacafjjfaaGreatDoor
