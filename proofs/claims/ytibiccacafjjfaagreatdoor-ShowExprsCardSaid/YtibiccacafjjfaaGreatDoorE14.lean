/-
  Laws that the proof rests on.
-/
import Derived.Test.YtibiccacafjjfaaGreatDoorE13
import Derived.Test.YtibiccacafjjfaaGreatDoorE04
import Derived.Test.YtibiccacafjjfaaGreatDoorE07
import Derived.Test.YtibiccacafjjfaaGreatDoorE03
import Derived.Outline
namespace Go.Proofs.YtibiccacafjjfaaGreatDoor
set_option maxRecDepth 100000
set_option maxHeartbeats 16000000
section
open Lib (hid)
open Go.RowKit Go.Shelf
def a5c (t : Nd) (w : World) (e : Ending) (w' : World) : Prop :=
 Below w.heap.size w w'∧((x9 t=true∧∃ (f : Fm) (x : Value),e=.returned (.iface f.ty x)∧f.is (w.heap.size ≤ ·) w' x∧f.text=d7 t∧f.wrap=D5 t.kind)∨(x9 t=false∧e=.returned .nilIface))
theorem qI (t : Nd) (a : Option Addr) (cap n₀ : Nat) (w : World) (hh : t.hold n₀ w a cap) (hs : q9 t) (hn : n₀≤w.heap.size) (he : Env w) (ht : Tab w) :
 Calls Tryz.prog 20 #[.agg #[.int .i64 t.kind,.string t.text,.int .i64 t.n,.slice a t.kids.length cap,.int .i64 t.place]] w (a5c t w):=by
 have HH:=hid hh
 have HS:=hid hs
 have HE:=hid he
 have HT:=hid ht
 have R:=hid (show x9 t=(s8 t && d6 t 1) from rfl)
 clear hh hs he ht
 have HB:=hid (b9 w (.cells #[.int .i64 t.kind,.string t.text,.int .i64 t.n,.slice a t.kids.length cap,.int .i64 t.place] 24))
 have B0:=hid (Boxed.make w t a cap)
 go_enter Tryz.func20,Tryz.ntmps20
 go_wp2_with fail
 generalize hW : w.alloc (.cells #[.int .i64 t.kind,.string t.text,.int .i64 t.n,.slice a t.kids.length cap,.int .i64 t.place] 24)=W1 at HB B0 ⊢
 clear hW
 refine Calls.mono (cJ t a cap n₀ W1 (HH.out.below (HB.out.mono hn)) (Nat.le_trans hn HB.out.size)) ?_
 rintro e w2 ⟨rfl,hb⟩
 have HC:=hid (HB.out.trans (hb.mono HB.out.size))
 have B1:=hid (B0.out.below hb)
 clear hb HB B0
 have c0:=B1.out.c0
 have c1:=B1.out.c1
 have c2:=B1.out.c2
 have c3:=B1.out.c3
 have c4:=B1.out.c4
 cases hq : s8 t
 ·have F:=hid (show x9 t=false by rw [R.out,hq]; rfl)
  go_wp2_with fail
  go_ret
  exact ⟨HC,.inr ⟨F,rfl⟩⟩
 ·have F:=hid (show x9 t=d6 t 1 by rw [R.out,hq]; rfl)
  go_wp2_with fail
  refine Calls.mono (uC t a cap n₀ 1 w2 (HH.out.below (HC.out.mono hn)) HS (Nat.le_trans hn HC.out.size) (HE.out.below HC) (HT.out.below HC) (by decide) (by decide)) ?_
  rintro e w3 ⟨hb,⟨hr,f,x,rfl,hf,hft,hfw⟩ | ⟨hr,rfl⟩⟩
  ·have HD:=hid (HC.out.trans (hb.mono HC.out.size))
   have HF:=hid (show x9 t=true∧f.is (w.heap.size ≤ ·) w3 x∧f.text=d7 t∧f.wrap=D5 t.kind from ⟨by rw [F.out,hr],Fm.is.kept (fun _ _ _ h h' => ⟨Nat.le_trans HC.out.size h,h'⟩) f hf,hft,hfw⟩)
   clear hb hr hf hft hfw
   go_wp2_with fail
   go_ret
   exact ⟨HD,.inl ⟨HF.out.1,f,x,rfl,HF.out.2⟩⟩
  ·have HD:=hid (HC.out.trans (hb.mono HC.out.size))
   have F':=hid (show x9 t=false by rw [F.out,hr])
   clear hb hr
   go_wp2_with fail
   go_ret
   exact ⟨HD,.inr ⟨F',rfl⟩⟩
theorem mF (t : Nd) (a : Option Addr) (cap n₀ : Nat) (w : World) (hh : t.hold n₀ w a cap) (hs : q9 t) (hn : n₀≤w.heap.size) (he : Env w) (ht : Tab w) :
 Calls Tryz.prog 17 #[.agg #[.int .i64 t.kind,.string t.text,.int .i64 t.n,.slice a t.kids.length cap,.int .i64 t.place]] w fun e w' => e=.returned (.bool (x9 t))∧Below w.heap.size w w':=by
 have HB:=hid (b9 w (.cells #[.int .i64 t.kind,.string t.text,.int .i64 t.n,.slice a t.kids.length cap,.int .i64 t.place] 24))
 have C:=hid (qI t a cap n₀ _ (hh.below (HB.out.mono hn)) hs (Nat.le_trans hn HB.out.size) (he.below HB) (ht.below HB))
 clear hh hs he ht
 go_enter Tryz.func17,Tryz.ntmps17
 go_wp2_with fail
 refine Calls.mono C.out ?_
 rintro e w3 ⟨hb,⟨hr,f,x,rfl,-⟩ | ⟨hr,rfl⟩⟩
 all_goals
  have HD:=hid (HB.out.trans (hb.mono HB.out.size))
  have HR:=hid hr
  clear hb hr
  go_wp2_with fail
  go_ret
  exact ⟨l5 HR.out.symm,HD⟩
def fI (t : Nd) : List UInt8:=if x9 t=true then d7 t else []
def eX (t : Nd) : Int:=if x9 t=true then 0 else 90
theorem zA (w : World) : Bld w.heap.size w.heap.size [] (w.alloc (.cells #[.pointer none,.slice none 0 0] 41)) :=
 Or.inl ⟨Nat.le_refl _,.slice none 0 0,bC w _,World.ownsRowF_of (World.ownsRow_nil _ _ _ 1),by simp [Value.ownBlock]⟩
theorem mS {s s' : ByteArray} {a b : Int} (h : s=s') (h' : a=b) : Ending.returned (.tuple #[.string s,.int .i64 a])=.returned (.tuple #[.string s',.int .i64 b]):=by rw [h,h']
theorem jT (t : Nd) (a : Option Addr) (cap n₀ : Nat) (w : World) (hh : t.hold n₀ w a cap) (hs : q9 t) (hn : n₀≤w.heap.size) (he : Env w) (ht : Tab w) :
 Calls Tryz.prog 8 #[.agg #[.int .i64 t.kind,.string t.text,.int .i64 t.n,.slice a t.kids.length cap,.int .i64 t.place]] w fun e w' => e=.returned (.tuple #[.string ⟨(fI t).toArray⟩,.int .i64 (eX t)])∧Below w.heap.size w w':=by
 have HB:=hid (b9 w (.cells #[.int .i64 t.kind,.string t.text,.int .i64 t.n,.slice a t.kids.length cap,.int .i64 t.place] 24))
 have C:=hid (qI t a cap n₀ _ (hh.below (HB.out.mono hn)) hs (Nat.le_trans hn HB.out.size) (he.below HB) (ht.below HB))
 clear hh hs he ht
 go_enter Tryz.func8,Tryz.ntmps8
 go_wp2_with fail
 refine Calls.mono C.out ?_
 rintro e w3 ⟨hb,⟨hr,f,x,rfl,hf,hft,-⟩ | ⟨hr,rfl⟩⟩
 ·have HD:=hid (HB.out.trans (hb.mono HB.out.size))
  have HR:=hid hr
  have hlen : ([] : List UInt8).length + f.text.length≤1099511627776:=by
   have:=hr
   unfold x9 at this
   rw [Bool.and_eq_true] at this
   have:=gP this.1 this.2
   rw [hft]
   show 0 + _≤_
   omega
  have HFT:=hid hft
  have A0:=hid (Aft.start (zA w3))
  have HF:=hid (show f.is (· ≠ w3.heap.size) (w3.alloc (.cells #[.pointer none,.slice none 0 0] 41)) x from
   Fm.is.kept (fun g _ _ _ h' => ⟨by have:=S0 h'; show g≠_; omega,(Lib.alloc_old w3 _ g (S0 h')).trans h'⟩) f hf)
  have HB3:=hid (b9 w3 (.cells #[.pointer none,.slice none 0 0] 41))
  clear hb hr hf hft
  have M:=mt f x
  have eg:=en f
  go_wp2_with fail
  generalize hW : w3.alloc (.cells #[.pointer none,.slice none 0 0] 41)=W4 at A0 HF HB3 ⊢
  clear hW
  refine Calls.mono (rY f x w3.heap.size w3.heap.size [] W4 HF A0.out.bld hlen HB3.out.size) ?_
  rintro e w5 ⟨rfl,ha⟩
  have A1:=hid ha
  clear ha
  go_wp2_with fail
  refine Calls.mono (eV w3.heap.size w3.heap.size _ w5 A1.out.bld (A1.out.size HB3.out.size)) ?_
  rintro e w6 ⟨rfl,-,hb6,-⟩
  have HE6:=hid (HD.out.trans ((HB3.out.trans (A1.out.below.trans hb6)).mono HD.out.size))
  clear hb6
  go_wp2_with fail
  go_ret2
  exact ⟨mS (by unfold fI; rw [if_pos HR.out,← HFT.out]) (by unfold eX; rw [if_pos HR.out]),HE6⟩
 ·have HD:=hid (HB.out.trans (hb.mono HB.out.size))
  have HR:=hid hr
  clear hb hr
  go_wp2_with fail
  go_ret2
  exact ⟨mS (by unfold fI; rw [if_neg (by rw [HR.out]; decide)]) (by unfold eX; rw [if_neg (by rw [HR.out]; decide)]),HD⟩
end
section
open Go.RowKit
def a3z (t : Nd) : List UInt8:=if eB t=true then a5a t else []
def rR (t : Nd) : Int:=if eB t=true then 0 else 90
theorem rW {n₀ : Nat} {W : World} {a : Option Addr} {ks : List Nd} (h : Nd.holds n₀ W ks a 0) (n : Nat) : Nd.holds n₀ W (ks.take n) a 0 :=
 Nd.holds.of _ 0 fun j hj => by
  rw [List.length_take] at hj
  have:=Nd.holds.at ks 0 h j (by omega)
  rw [List.getElem_take]
  exact this
theorem jN {n₀ : Nat} {W : World} {t : Nd} {a : Option Addr} {cap : Nat} (h : t.hold n₀ W a cap) : Nd.holds n₀ W t.kids a 0:=by
 cases t with
 | mk kind s n ks p => exact h.2.2.2.2.2.2
end
section
open Go.RowKit
def a1W : List UInt8:=[97,32,45,32,98,32,45,32,49,46,53]
def vE : List Tk:=[⟨1,[97],0,0⟩,⟨8,[45],0,2⟩,⟨1,[98],0,4⟩,⟨8,[45],0,6⟩,⟨6,[],1500000,8⟩,⟨0,[],0,11⟩]
def a5f : Nd:=mkN 13 [45] 0 [mkN 10 [97] 0 [] 0,mkN 10 [98] 0 [] 4] 2
def D7 : Nd:=mkN 13 [45] 0 [a5f,mkN 5 [] 1500000 [] 8] 6
theorem vQ : o8 a1W=.ok vE:=by kernel_rfl
theorem yI : rd .expr 0 vE=.ok (D7,[⟨0,[],0,11⟩]):=by kernel_rfl
theorem yR : d7 D7=[40,97,32,45,32,98,41,32,45,32,49,46,53]:=by kernel_rfl
theorem fK : x9 D7=true:=by kernel_rfl
theorem a09 : eB D7=false:=by kernel_rfl
end
section
open Lib (hid)
open Go.RowKit Go.Shelf
def L6 (kind : Int) (ks : List Nd) : Int:=if (ks.takeWhile (p6 kind)).length=ks.length then -1 else (ks.takeWhile (p6 kind)).length
theorem kN {kind : Int} {ks : List Nd} {k : Nat} (hk : k<ks.length) (h : ∀ j (hj : j<ks.length),j<k→p6 kind ks[j]=true) (hb : p6 kind ks[k]=false) : L6 kind ks=k:=by
 have e:=F6 (p6 kind) ks k (by omega) h fun _ => hb
 unfold L6
 rw [e,if_neg (by omega)]
theorem dC {kind : Int} {ks : List Nd} (h : ∀ j (hj : j<ks.length),p6 kind ks[j]=true) : L6 kind ks=-1:=by
 have e:=F6 (p6 kind) ks ks.length (Nat.le_refl _) (fun j hj _ => h j hj) fun hk => absurd hk (by omega)
 unfold L6
 rw [e,if_pos rfl]
theorem rT (kind : Int) (ks : List Nd) : decide (0≤L6 kind ks)=!ks.all (p6 kind):=by
 by_cases h : ∀ j (hj : j<ks.length),p6 kind ks[j]=true
 ·rw [dC h]
  have : ks.all (p6 kind)=true:=by
   rw [List.all_eq_true]
   intro a ha
   obtain ⟨i,hi,rfl⟩:=List.getElem_of_mem ha
   exact h i hi
  rw [this]; rfl
 ·have : ks.all (p6 kind)=false:=by
   rw [Bool.eq_false_iff]
   intro e
   rw [List.all_eq_true] at e
   exact h fun j hj => e _ (List.getElem_mem hj)
  rw [this]
  unfold L6
  rw [if_neg]
  ·rw [decide_eq_true (by omega)]; rfl
  ·intro e
   exact h fun j hj => by
    have hp:=List.takeWhile_prefix (p6 kind) (l:=ks)
    have h1 : (ks.takeWhile (p6 kind))[j]'(by omega)=ks[j]:=hp.getElem (by omega)
    rw [← h1]
    exact List.all_eq_true.1 (List.all_takeWhile (l:=ks) (p:=p6 kind)) _ (List.getElem_mem _)
theorem qL (t : Nd) (a : Option Addr) (cap : Nat) (k : Int) (w : World) (hs : t.text.size≤maxLen) (he : Env w) :
 Calls Tryz.prog 35 #[.agg #[.int .i64 t.kind,.string t.text,.int .i64 t.n,.slice a t.kids.length cap,.int .i64 t.place],.int .i64 k] w fun e w' => e=.returned (.bool (p6 k t))∧Below w.heap.size w w':=by
 have B:=hid (a2H k t)
 have HB:=hid (b9 w (.cells #[.int .i64 t.kind,.string t.text,.int .i64 t.n,.slice a t.kids.length cap,.int .i64 t.place] 24))
 have B0:=hid (Boxed.make w t a cap)
 have C:=hid (bE t.text _ hs (he.below HB))
 clear he
 cases h1 : t.kind == k
 ·have F:=hid (show p6 k t=false by rw [B.out,h1]; rfl)
  go_enter Tryz.func35,Tryz.ntmps35
  go_wp2_with fail
  go_ret
  exact ⟨l5 F.out.symm,HB⟩
 go_enter Tryz.func35,Tryz.ntmps35
 go_wp2_with fail
 refine Calls.mono C.out ?_
 rintro e w2 ⟨rfl,hb⟩
 have HC:=hid (HB.out.trans (hb.mono HB.out.size))
 have B1:=hid (B0.out.below hb)
 clear hb HB B0
 have c2:=B1.out.c2
 have c3:=B1.out.c3
 cases h2 : p5 t.text.data.toList
 ·have F:=hid (show p6 k t=false by rw [B.out,h1,h2]; rfl)
  go_wp2_with fail
  go_ret
  exact ⟨l5 F.out.symm,HC⟩
 cases h3 : t.n == 0
 ·have F:=hid (show p6 k t=false by rw [B.out,h1,h2,h3]; rfl)
  go_wp2_with fail
  go_ret
  exact ⟨l5 F.out.symm,HC⟩
 have F:=hid (show p6 k t=((t.kids.length : Int) == 0) by rw [B.out,h1,h2,h3]; rfl)
 go_wp2_with fail
 go_ret
 exact ⟨l5 F.out.symm,HC⟩
theorem nW (t : Nd) (a : Option Addr) (cap : Nat) (w : World) (hs : t.text.size≤maxLen) (he : Env w) :
 Calls Tryz.prog 34 #[.agg #[.int .i64 t.kind,.string t.text,.int .i64 t.n,.slice a t.kids.length cap,.int .i64 t.place]] w fun e w' => e=.returned (.bool (!p6 2 t))∧Below w.heap.size w w':=by
 have HB:=hid (b9 w (.cells #[.int .i64 t.kind,.string t.text,.int .i64 t.n,.slice a t.kids.length cap,.int .i64 t.place] 24))
 have C:=hid (qL t a cap 2 _ hs (he.below HB))
 clear he
 go_enter Tryz.func34,Tryz.ntmps34
 go_wp2_with fail
 refine Calls.mono C.out ?_
 rintro e w2 ⟨rfl,hb⟩
 have HC:=hid (HB.out.trans (hb.mono HB.out.size))
 clear hb
 go_wp2_with fail
 go_ret
 exact ⟨rfl,HC⟩
theorem nQ (ks : List Nd) (n₀ : Nat) (a : Option Addr) (cap : Nat) (w : World) (hh : Nd.holds n₀ w ks a 0) (hk0 : ks.length≤cap) (hk1 : cap≤maxLen) (hn : n₀≤w.heap.size) (he : Env w) :
 Calls Tryz.prog 33 #[.slice a ks.length cap,.func (.func 34) #[] #[]] w fun e w' => e=.returned (.int .i64 (L6 2 ks))∧Below w.heap.size w w':=by
 have eg:=enters_of Tryz.func34 (by kernel_rfl) rfl
 have hm:=hk1
 unfold maxLen at hm
 have hkl : ks.length≤9223372036854775807:=Nat.le_trans hk0 hm
 have HH:=hid hh
 have HE:=hid he
 clear hh he
 go_enter Tryz.func33,Tryz.ntmps33
 go_wp2_with fail
 go_loopw [8] (fun i wr => ∃ k : Nat,k≤ks.length∧i=.int .i64 k∧Hid (∀ j (hj : j<ks.length),j<k→p6 2 ks[j]=true)∧Hid (Below w.heap.size w wr)) (fun i _ => (ks.length - (intOf i).toNat))
 case atStart => exact ⟨0,Nat.zero_le _,rfl,fun j hj h => by omega,Below.refl _ _⟩
 case round =>
  obtain ⟨k,hk,rfl,HAll,HBr⟩:=hrel
  by_cases hlt : k<ks.length
  ·obtain ⟨b,off,x,cx,A⟩:=Nd.holds.at ks 0 (Nd.holds.below (HBr.out.mono hn) ks HH) k hlt
   rw [Nat.zero_add] at A
   obtain ⟨rfl,hb0,c0,c1,c2,c3,c4,hk1'⟩:=A
   have C:=hid (nW ks[k] x cx wr hk1'.bounds.2.1 (HE.out.below HBr))
   clear hk1'
   cases hr : p6 2 ks[k]
   ·have F:=hid (kN hlt HAll hr)
    go_wp2_with fail
    refine Calls.mono C.out ?_
    rintro e w4 ⟨rfl,hb⟩
    rw [hr]
    have HB:=hid (HBr.out.trans (hb.mono HBr.out.size))
    clear hb hr
    go_wp2_with fail
    go_ret
    exact ⟨kR F.out.symm,HB⟩
   ·have HR:=hid hr
    go_wp2_with fail
    refine Calls.mono C.out ?_
    rintro e w4 ⟨rfl,hb⟩
    rw [hr]
    have HB:=hid (HBr.out.trans (hb.mono HBr.out.size))
    clear hb hr
    go_wp2_with fail
    go_roundw
    case rel =>
     refine ⟨k + 1,by omega,by go_num,fun j hj h => ?_,HB⟩
     by_cases e : j=k
     ·subst e; exact HR
     ·exact HAll.out j hj (by omega)
    case measure => simp [intOf]; omega
  ·have F:=hid (dC fun j hj => HAll.out j hj (by omega))
   go_wp2_with fail
   go_ret
   exact ⟨kR F.out.symm,HBr⟩
theorem oY (t : Nd) (a : Option Addr) (cap : Nat) (w : World) (hs : t.text.size≤maxLen) (he : Env w) :
 Calls Tryz.prog 64 #[.agg #[.int .i64 t.kind,.string t.text,.int .i64 t.n,.slice a t.kids.length cap,.int .i64 t.place]] w fun e w' => e=.returned (.bool (!p6 4 t))∧Below w.heap.size w w':=by
 have HB:=hid (b9 w (.cells #[.int .i64 t.kind,.string t.text,.int .i64 t.n,.slice a t.kids.length cap,.int .i64 t.place] 24))
 have C:=hid (qL t a cap 4 _ hs (he.below HB))
 clear he
 go_enter Tryz.func64,Tryz.ntmps64
 go_wp2_with fail
 refine Calls.mono C.out ?_
 rintro e w2 ⟨rfl,hb⟩
 have HC:=hid (HB.out.trans (hb.mono HB.out.size))
 clear hb
 go_wp2_with fail
 go_ret
 exact ⟨rfl,HC⟩
theorem oP (ks : List Nd) (n₀ : Nat) (a : Option Addr) (cap : Nat) (w : World) (hh : Nd.holds n₀ w ks a 0) (hk0 : ks.length≤cap) (hk1 : cap≤maxLen) (hn : n₀≤w.heap.size) (he : Env w) :
 Calls Tryz.prog 33 #[.slice a ks.length cap,.func (.func 64) #[] #[]] w fun e w' => e=.returned (.int .i64 (L6 4 ks))∧Below w.heap.size w w':=by
 have eg:=enters_of Tryz.func64 (by kernel_rfl) rfl
 have hm:=hk1
 unfold maxLen at hm
 have hkl : ks.length≤9223372036854775807:=Nat.le_trans hk0 hm
 have HH:=hid hh
 have HE:=hid he
 clear hh he
 go_enter Tryz.func33,Tryz.ntmps33
 go_wp2_with fail
 go_loopw [8] (fun i wr => ∃ k : Nat,k≤ks.length∧i=.int .i64 k∧Hid (∀ j (hj : j<ks.length),j<k→p6 4 ks[j]=true)∧Hid (Below w.heap.size w wr)) (fun i _ => (ks.length - (intOf i).toNat))
 case atStart => exact ⟨0,Nat.zero_le _,rfl,fun j hj h => by omega,Below.refl _ _⟩
 case round =>
  obtain ⟨k,hk,rfl,HAll,HBr⟩:=hrel
  by_cases hlt : k<ks.length
  ·obtain ⟨b,off,x,cx,A⟩:=Nd.holds.at ks 0 (Nd.holds.below (HBr.out.mono hn) ks HH) k hlt
   rw [Nat.zero_add] at A
   obtain ⟨rfl,hb0,c0,c1,c2,c3,c4,hk1'⟩:=A
   have C:=hid (oY ks[k] x cx wr hk1'.bounds.2.1 (HE.out.below HBr))
   clear hk1'
   cases hr : p6 4 ks[k]
   ·have F:=hid (kN hlt HAll hr)
    go_wp2_with fail
    refine Calls.mono C.out ?_
    rintro e w4 ⟨rfl,hb⟩
    rw [hr]
    have HB:=hid (HBr.out.trans (hb.mono HBr.out.size))
    clear hb hr
    go_wp2_with fail
    go_ret
    exact ⟨kR F.out.symm,HB⟩
   ·have HR:=hid hr
    go_wp2_with fail
    refine Calls.mono C.out ?_
    rintro e w4 ⟨rfl,hb⟩
    rw [hr]
    have HB:=hid (HBr.out.trans (hb.mono HBr.out.size))
    clear hb hr
    go_wp2_with fail
    go_roundw
    case rel =>
     refine ⟨k + 1,by omega,by go_num,fun j hj h => ?_,HB⟩
     by_cases e : j=k
     ·subst e; exact HR
     ·exact HAll.out j hj (by omega)
    case measure => simp [intOf]; omega
  ·have F:=hid (dC fun j hj => HAll.out j hj (by omega))
   go_wp2_with fail
   go_ret
   exact ⟨kR F.out.symm,HBr⟩
theorem nN (ks : List Nd) (n₀ : Nat) (a : Option Addr) (cap : Nat) (w : World) (hh : Nd.holds n₀ w ks a 0) (hk0 : ks.length≤cap) (hk1 : cap≤maxLen) (hn : n₀≤w.heap.size) (he : Env w) :
 Calls Tryz.prog 56 #[.slice a ks.length cap,.func (.func 64) #[] #[]] w fun e w' => e=.returned (.bool (!ks.all (p6 4)))∧Below w.heap.size w w':=by
 have C:=hid (oP ks n₀ a cap w hh hk0 hk1 hn he)
 have F:=hid (rT 4 ks)
 clear hh he
 go_enter Tryz.func56,Tryz.ntmps56
 go_wp2_with fail
 refine Calls.mono C.out ?_
 rintro e w' ⟨rfl,hb⟩
 have HB:=hid hb
 clear hb
 go_wp2_with fail
 go_ret
 exact ⟨l5 F,HB⟩
end
theorem a3x {t : Nd} (h : x9 t=true) : eX t=0:=if_pos h
theorem a13 {t : Nd} (h : x9 t=true) : fI t=d7 t:=if_pos h
section
open Lib (hid)
open Go.RowKit Go.Shelf
theorem Bld.after {B b : Nat} {l : List UInt8} {w w' : World} (h : Bld B b l w) (hb : Below w.heap.size w w') : Bld B b l w':=by
 have one : ∀ p,Lib.BuilderAtF 41 5 B b p (Lib.byteCells l) w→Lib.BuilderAtF 41 5 B b p (Lib.byteCells l) w':=fun p k => by
  have hlt:=k.lt
  obtain ⟨hB,v,hbk,hown,hne⟩:=k
  exact ⟨hB,v,(hb.block b hlt).trans hbk,hown.kept (kQ hb) (by cases hv : v.ownBlock <;> simp),hne⟩
 exact h.elim (fun k => .inl (one _ k)) fun k => .inr (one _ k)
theorem Aft.after {B b : Nat} {l : List UInt8} {w w1 w2 : World} (h : Aft B b l w w1) (hB : B≤w.heap.size) (hb : Below w1.heap.size w1 w2) : Aft B b l w w2 :=
 ⟨h.bld.after hb,h.below.trans (hb.mono (h.size hB)),fun k o hk e1 e2 => (hb.block k (S0 (h.keeps k o hk e1 e2))).trans (h.keeps k o hk e1 e2)⟩
theorem a2A {W : World} {h : Nat} {x0 x1 : Value} {T : TypeId} (hh : W.heap[h]?=some (.cells #[x0,x1] T (0,0))) (v : Value) : (W.setCell ⟨h,1,none⟩ v).heap[h]?=some (.cells #[x0,v] T (0,0)):=by
 simp [World.setCell,Array.getElem?_modify,hh]
theorem KF.set {B h : Nat} {fx : List (Fm × Value)} {v : Value} {W : World} (k : KF B fx v W) (hB : h<B) (j : Nat) (u : Value) : KF B fx v (W.setCell ⟨h,j,none⟩ u):=by
 refine ⟨k.own.kept (row:=some h) ⟨rfl,rfl,rfl,by simp [World.setCell],fun g _ hg => Below.heap_setCell _ _ _ _ (fun e => hg (by simp [e]))⟩ ?_,fun p hp => ?_⟩
 ·rcases hv : v.ownBlock with _ | g
  ·exact .inl rfl
  ·refine .inr fun e => ?_
   obtain rfl : g=h:=Option.some.inj e
   have:=(k.own.lt g hv).1
   omega
 ·exact Fm.is.kept (fun g cur fz hg hh => ⟨hg,(Below.heap_setCell _ _ _ _ (fun e => by have:=hg.1; simp at e; omega)).trans hh⟩) p.1 (k.is p hp)
theorem KF.own_ne {B h : Nat} {fx : List (Fm × Value)} {v : Value} {W : World} (k : KF B fx v W) (hB : h<B) : some h≠v.ownBlock:=fun e => by have:=(k.own.lt h e.symm).1; omega
theorem a3E {h : Nat} {gx : List (Fm × Value)} {v : Value} {V w4 w5 : World} {H T : ByteArray} {g cap' : Nat} (HKF1 : KF (h + 1) gx v V) (HB1 : Below h w4 V) (HP1 : V.heap[h]?=some (.cells #[.string H,v] 90 (0,0))) (hT : T.size≤maxLen)
 (hown' : w5.ownsRow (h + 1) 36 1 (.slice (some ⟨g,0,none⟩) (gx.length + 1) cap') (gx.length + 1) (gx.map (fun p => Value.iface p.1.ty p.2) ++ [.iface 91 (.string T)]))
 (hgrow' : (V.alloc (.cells #[.iface 91 (.string T)] 36)).grownBy w5 v.ownBlock) (hat : v.ownBlock=some g∨g=(V.alloc (.cells #[.iface 91 (.string T)] 36)).heap.size) :
 w5.cell? ⟨h,1,none⟩=some v∧w5.frozen? ⟨h,1,none⟩=false∧KF (h + 1) (gx ++ [(Fm.leaf T,Value.string T)]) (.slice (some ⟨g,0,none⟩) (gx.length + 1) cap') (w5.setCell ⟨h,1,none⟩ (.slice (some ⟨g,0,none⟩) (gx.length + 1) cap')) ∧
  (w5.setCell ⟨h,1,none⟩ (.slice (some ⟨g,0,none⟩) (gx.length + 1) cap')).heap[h]?=some (.cells #[.string H,.slice (some ⟨g,0,none⟩) (gx.length + 1) cap'] 90 (0,0)) ∧
  Below h w4 (w5.setCell ⟨h,1,none⟩ (.slice (some ⟨g,0,none⟩) (gx.length + 1) cap')):=by
 have hb2:=b9 V (.cells #[.iface 91 (.string T)] 36)
 have hls : (Fm.leaf T).is (fun g => h + 1≤g∧v.ownBlock≠some g) (V.alloc (.cells #[.iface 91 (.string T)] 36)) (.string T):=⟨rfl,hT⟩
 have hk2:=HKF1.below hb2
 have hk5:=KF.snoc hk2 hls rfl hown' hgrow' hat
 have hlt:=S0 HP1
 have hp2 : (V.alloc (.cells #[.iface 91 (.string T)] 36)).heap[h]?=some (.cells #[.string H,v] 90 (0,0)):=(hb2.block h hlt).trans HP1
 have hp5 : w5.heap[h]?=some (.cells #[.string H,v] 90 (0,0)):=(hgrow'.block h (S0 hp2) (hk2.own_ne (Nat.lt_succ_self h))).trans hp2
 have hbg : Below h w4 w5:=(HB1.trans (hb2.mono (Nat.le_of_lt hlt))).grown hgrow' (by simp; omega) (fun r e => by have:=(hk2.own.lt r e).1; omega)
 exact ⟨Lib.cell_of_heap hp5 1,by simp [World.frozen?,hp5],hk5.set (Nat.lt_succ_self h) 1 _,a2A hp5 _,hbg.setCell (p:=⟨h,1,none⟩) (Nat.le_refl _) _⟩
def a5O (B b : Nat) (l : List UInt8) (t : Nd) (w : World) (e : Ending) (w' : World) : Prop :=
 e=.returned (.bool (aW t))∧Aft B b (if aW t=true then l ++ gB t else l) w w'
theorem eA {B b : Nat} {l : List UInt8} {t : Nd} {w w' : World} (hl : aW t=false) (h : Bld B b l w) (hB : B≤w.heap.size) (hb : Below w.heap.size w w') : a5O B b l t w (.returned (.bool false)) w' :=
 ⟨by rw [hl],by rw [hl]; exact (Aft.start h).after hB hb⟩
theorem a3v (t : Nd) (a : Option Addr) (cap n₀ B b : Nat) (l : List UInt8) (w : World) (hh : t.hold n₀ w a cap) (hs : q9 t) (hn : n₀≤B) (hB : B≤w.heap.size) (he : Env w) (hta : Tab w) (hbl : Bld B b l w) (hsm : ∀ k∈t.kids,s8 k=true) (hlen : l.length≤1000000000) :
 Calls Tryz.prog 36 #[.pointer (some ⟨b,0,none⟩),.agg #[.int .i64 t.kind,.string t.text,.int .i64 t.n,.slice a t.kids.length cap,.int .i64 t.place]] w (a5O B b l t w):=by
 have hnw : n₀≤w.heap.size:=Nat.le_trans hn hB
 have hts:=hh.bounds.2.1
 have hkc:=hh.bounds.2.2.2.2
 have hkl : t.kids.length≤9223372036854775807:=Nat.le_trans hkc.1 hkc.2
 have HH:=hid hh
 have HSH:=hid hs
 have HE:=hid he
 have HTA:=hid hta
 have HBL:=hid hbl
 have HM:=hid hsm
 have LN:=hid (a4z t)
 have HB:=hid (b9 w (.cells #[.int .i64 t.kind,.string t.text,.int .i64 t.n,.slice a t.kids.length cap,.int .i64 t.place] 24))
 have B0:=hid (Boxed.make w t a cap)
 have C0:=hid (bE t.text _ hts (he.below HB))
 clear hh hs he hta hbl hsm
 cases h1 : t.kind == 3
 ·have F:=hid (show aW t=false by rw [LN.out,h1]; rfl)
  have h1' : (t.kind != 3)=true:=by rw [bne,h1]; rfl
  go_enter Tryz.func36,Tryz.ntmps36
  go_wp2_with fail
  go_ret
  exact eA F HBL hB HB
 have h1' : (t.kind != 3)=false:=by rw [bne,h1]; rfl
 go_enter Tryz.func36,Tryz.ntmps36
 go_wp2_with fail
 refine Calls.mono C0.out ?_
 rintro e w2 ⟨rfl,hb⟩
 have HC:=hid (HB.out.trans (hb.mono HB.out.size))
 have B1:=hid (B0.out.below hb)
 clear hb HB B0 C0
 have c2:=B1.out.c2
 have c3:=B1.out.c3
 cases h2 : p5 t.text.data.toList
 ·have F:=hid (show aW t=false by rw [LN.out,h1,h2]; rfl)
  go_wp2_with fail
  go_ret
  exact eA F HBL hB HC
 cases h3 : t.n == 0
 ·have F:=hid (show aW t=false by rw [LN.out,h1,h2,h3]; rfl)
  have h3' : (t.n != 0)=true:=by rw [bne,h3]; rfl
  go_wp2_with fail
  go_ret
  exact eA F HBL hB HC
 have h3' : (t.n != 0)=false:=by rw [bne,h3]; rfl
 by_cases h4 : (t.kids.length : Int) - 1<0
 ·have F:=hid (show aW t=false by rw [LN.out,decide_eq_false (show ¬ 1≤t.kids.length by omega)]; simp)
  go_wp2_with fail
  go_ret
  exact eA F HBL hB HC
 by_cases h5 : 8<(t.kids.length : Int) - 1
 ·have F:=hid (show aW t=false by rw [LN.out,decide_eq_false (show ¬ t.kids.length≤9 by omega)]; simp)
  go_wp2_with fail
  go_ret
  exact eA F HBL hB HC
 have F:=hid (show aW t=(t.kids.dropLast.all (p6 4) && d6 (dS t) 1) by
  rw [LN.out,h1,h2,h3,decide_eq_true (show 1≤t.kids.length by omega),decide_eq_true (show t.kids.length≤9 by omega)]; rfl)
 have h6 : 1≤t.kids.length:=by omega
 obtain ⟨m,hm⟩ : ∃ m,t.kids.length=m + 1:=⟨t.kids.length - 1,by omega⟩
 have hus : t.text.size≤24:=by have:=Q5 h2; rwa [c9] at this
 obtain ⟨bk,off,x,cx,A⟩:=(HH.out.below (HC.out.mono hnw)).kid m (by omega)
 obtain ⟨hA,hb0,c0,c1,c2',c3',c4,hk1⟩:=A
 have hlast : t.kids[m]'(by omega)=dS t:=by
  rw [← vB h6]; congr 1; omega
 rw [hlast] at c0 c1 c2' c3' c4 hk1
 have hsl : q9 (dS t):=by rw [← hlast]; exact HSH.out.kid m (by omega)
 have CE:=hid (uC (dS t) x cx n₀ 1 w2 hk1 hsl (Nat.le_trans hnw HC.out.size) (HE.out.below HC) (HTA.out.below HC) (by decide) (by decide))
 rw [hA] at c3
 have z1 : ((t.kids.length : Int) - 1)=(m : Int):=by omega
 have hml : m<t.kids.length:=by omega
 have HA:=hid hA
 have HZ:=hid hm
 have hm8 : m≤8:=by omega
 have hmc : m≤cap:=by omega
 have hcm:=hkc.2
 unfold maxLen at hcm
 have hdl : t.kids.dropLast=t.kids.take m:=by rw [List.dropLast_eq_take,hm,Nat.add_sub_cancel]
 have hlen2 : (t.kids.take m).length=m:=by rw [List.length_take]; omega
 have HDL:=hid hdl
 have HLM:=hid hlen2
 have HSM:=hid (HM.out _ (uN h6))
 clear hk1 hsl hm hA hdl hlen2 hlast
 go_wp2_with fail
 refine Calls.mono CE.out ?_
 rintro e w3 ⟨hb3,hcase⟩
 have HD:=hid (HC.out.trans (hb3.mono HC.out.size))
 have B2:=hid (B1.out.below hb3)
 have HCase:=hid hcase
 clear hb3 hcase B1 c0 c1 c2 c2' c3 c3' c4 CE
 have c3:=B2.out.c3
 rw [HA.out] at c3
 rcases HCase.out with ⟨hr,f,fx,rfl,hf,hft,-⟩ | ⟨hr,rfl⟩
 case inr =>
  have F':=hid (show aW t=false by rw [F.out,hr]; simp)
  clear hr
  go_wp2_with fail
  go_ret
  exact eA F' HBL hB HD
 have F2:=hid (show aW t=t.kids.dropLast.all (p6 4) by rw [F.out,hr]; simp)
 have HR:=hid hr
 have HF:=hid hf
 have HFT:=hid hft
 clear hr hf hft HCase
 have CC:=hid (show Calls Tryz.prog 56 #[.slice (some ⟨bk,off,none⟩) m cap,.func (.func 64) #[] #[]] w3 fun e w' => e=.returned (.bool (!t.kids.dropLast.all (p6 4)))∧Below w3.heap.size w3 w' by
  have:=nN (t.kids.take m) n₀ (some ⟨bk,off,none⟩) cap w3 (rW (HA.out ▸ jN (HH.out.below (HD.out.mono hnw))) m) (by rw [HLM.out]; exact hmc) hkc.2 (Nat.le_trans hnw HD.out.size) (HE.out.below HD)
  rw [HLM.out,← HDL.out] at this
  exact this)
 go_wp2_with fail
 refine Calls.mono CC.out ?_
 rintro e w4 ⟨rfl,hb4⟩
 have HD4:=hid (HD.out.trans (hb4.mono HD.out.size))
 have B3:=hid (B2.out.below hb4)
 have HF4:=hid (show f.is (w.heap.size ≤ ·) w4 fx from Fm.is.kept (fun g _ _ hg hh => ⟨Nat.le_trans HC.out.size hg,(hb4.block g (S0 hh)).trans hh⟩) f HF)
 clear hb4 B2 c3 CC
 have c1:=B3.out.c1
 have c3:=B3.out.c3
 rw [HA.out] at c3
 cases hall : t.kids.dropLast.all (p6 4)
 ·have F':=hid (show aW t=false by rw [F2.out,hall])
  clear hall
  go_wp2_with fail
  go_ret
  exact eA F' HBL hB HD4
 have HAll:=hid hall
 have hlt4:=B3.out.lt
 clear hall HF HC HD
 go_wp2_with fail
 obtain ⟨H,hH⟩ : ∃ H : ByteArray,H=⟨#[108,101,116,32]⟩ ++ t.text:=⟨_,rfl⟩
 have HH0:=hid (show H.data.toList=fY t by rw [hH]; unfold fY; simp)
 have hHs : H.size≤28:=by
  have h1:=congrArg List.length HH0
  rw [c9] at h1
  rw [h1]
  unfold fY
  simp only [List.length_append,List.length_cons,List.length_nil,c9]
  omega
 rw [← hH]
 obtain ⟨h,hh⟩ : ∃ h,h=w4.heap.size:=⟨_,rfl⟩
 have hb5:=b9 w4 (.cells #[.string H,.slice none 0 0] 90)
 have ht5:=bC w4 (.cells #[.string H,.slice none 0 0] 90)
 have hsz5 : (w4.alloc (.cells #[.string H,.slice none 0 0] 90)).heap.size=w4.heap.size + 1:=by simp
 generalize hW5 : w4.alloc (.cells #[.string H,.slice none 0 0] 90)=W5 at hb5 ht5 hsz5 ⊢
 clear hW5 hH
 rw [← hh] at ht5 hb5 hsz5 ⊢
 have HB5:=hid hb5
 have HT5:=hid ht5
 have hhw : w.heap.size<h:=by omega
 have hwh : w.heap.size≤h:=by omega
 have HHW:=hid hh
 clear hb5 ht5 c1 c3 h1 h1' h2 h3 h3' hh hlt4
 obtain ⟨i0,hi,hz0,hz1,hz2⟩:=info_parts (show (Tryz.prog.info? 36).map (fun i => (i.zero,i.size,i.bytes))=some (some .nilIface,1,16) by kernel_rfl)
 have HI0:=hid (show _∧_∧_∧_ from ⟨hi,hz0,hz1,hz2⟩)
 have HKD:=hid (show ∀ cur,Below h w4 cur→Nd.holds n₀ cur t.kids (some ⟨bk,off,none⟩) 0 from fun cur hc => HA.out ▸ jN (HH.out.below ((HD4.out.mono hnw).trans (hc.mono (by omega)))))
 clear hi hz0 hz1 hz2
 go_loopw [60] (fun i wr => ∃ (k : Nat) (v : Value) (gx : List (Fm × Value)),k≤m∧i=.int .i64 k∧gx.length=k∧Hid (gx.map (fun p => p.1.text)=(t.kids.take k).map fun p => p.text.data.toList)∧Hid (KF (h + 1) gx v wr)∧Hid (wr.heap[h]?=some (.cells #[.string H,v] 90 (0,0)))∧Hid (Below h w4 wr)) (fun i _ => m - (intOf i).toNat)
 case atStart => exact ⟨0,.slice none 0 0,[],Nat.zero_le _,rfl,rfl,rfl,KF.nil _ _,HT5,HB5⟩
 case round =>
  obtain ⟨k,v,gx,hk,rfl,hgl,HG,HKF,HHP,HBr⟩:=hrel
  have hhr : h<wr.heap.size:=S0 HHP
  by_cases hlt : k<m
  ·obtain ⟨b1,o1,y,cy,A⟩:=Nd.holds.at t.kids 0 (HKD.out wr HBr) k (by omega)
   rw [Nat.zero_add] at A
   obtain ⟨hA1,hb1,c0,c1,c2,c3,c4,-⟩:=A
   obtain ⟨rfl,rfl⟩ : bk=b1∧off=o1:=by injection hA1 with q; injection q with q1 q2; exact ⟨q1,q2⟩
   have hch:=Lib.cell_of_heap HHP 1
   have hch1 : wr.cell? ⟨h,1,none⟩=some v:=hch
   clear hch hA1
   obtain ⟨T,hT⟩ : ∃ T,T=t.kids[k].text:=⟨_,rfl⟩
   have hTl : T.data.toList=t.kids[k].text.data.toList:=by rw [hT]
   have hTs : T.size≤maxLen:=by
    have:=Q5 (dH (List.all_eq_true.1 HAll t.kids[k] (rH (by rw [HZ.out]; omega) (by omega)))).1
    rw [← hT,c9] at this
    unfold maxLen; omega
   rw [← hT] at c1
   have HTL:=hid hTl
   have HTS:=hid hTs
   clear hT hTl hTs
   have hb1':=b9 wr (.cells #[.int .i64 t.kids[k].kind,.string T,.int .i64 t.kids[k].n,(.slice y t.kids[k].kids.length cy),.int .i64 t.kids[k].place] 24)
   have HKF1:=hid (HKF.out.below hb1')
   have HB1:=hid (HBr.out.trans (hb1'.mono (Nat.le_of_lt hhr)))
   have HP1:=hid ((hb1'.block h hhr).trans HHP)
   have hsz1 : (wr.alloc (.cells #[.int .i64 t.kids[k].kind,.string T,.int .i64 t.kids[k].n,(.slice y t.kids[k].kids.length cy),.int .i64 t.kids[k].place] 24)).heap.size=wr.heap.size + 1:=by simp
   clear hb1'
   have HG5:=hid (show ((gx ++ [(Fm.leaf T,Value.string T)]).map fun p => p.1.text)=(t.kids.take (k + 1)).map fun p => p.text.data.toList by
    rw [List.map_append,HG.out,List.take_succ_eq_append_getElem (show k<t.kids.length by omega),List.map_append]
    show _ ++ [(Fm.leaf T).text]=_ ++ [t.kids[k].text.data.toList]
    rw [Fm.text,HTL.out])
   go_wp2_with (at_builtin; refine wpList_append_lies _ rfl _ _ 88 rfl (h + 1) 36 i0 .nilIface 1 16 Tryz.underlying88 HI0.out.1 HI0.out.2.1 HI0.out.2.2.1 HI0.out.2.2.2 rfl (by decide) _ _ _ rfl (HKF1.out.own.alloc _) ⟨wr.heap.size + 1,0,none⟩ 1 1 [.iface 91 (.string T)] rfl rfl (hsz1 ▸ cell_one_new _ _ _) (fun u hu => by simp at hu; subst hu; rfl) (by decide) (by unfold maxLen; omega) (by omega) (by simp; omega) _ rfl ?_; intro g cap' w5 hown' hgrow' hat hltg; have Z:=hid (a3E HKF1 HB1 HP1 HTS hown' hgrow' hat); have cc:=Z.out.1; have cf:=Z.out.2.1; clear hown' hgrow' hat hltg)
   go_roundw
   case rel =>
    obtain ⟨-,-,z3,z4,z5⟩:=Z.out
    rw [hgl] at z3 z4 z5
    exact ⟨k + 1,_,_,by omega,by go_num,by rw [List.length_append,hgl]; rfl,HG5,z3,z4,z5⟩
   case measure => simp [intOf]; omega
  ·obtain rfl : k=m:=by omega
   have hbw : B≤h:=by omega
   have A0:=hid (show Aft B b l w wr from (Aft.start HBL).after hB (HD4.out.trans (HBr.out.mono (by omega))))
   have hbb:=HBL.out.lt
   have HF5:=hid (show f.is (· ≠ b) wr fx from Fm.is.kept (fun g _ _ hg hh => ⟨by have : w.heap.size≤g:=hg; omega,(HBr.out.block g (by have:=S0 hh; have:=HHW.out; omega)).trans hh⟩) f HF4)
   have M:=mt f fx
   have eg:=en f
   have LT:=hid (show aW t=true by rw [F2.out,HAll.out])
   have hfl:=gP HSM HR
   rw [← HFT.out] at hfl
   have LL:=hid (show gB t=fY t ++ (if t.kids.length=1 then [] else bD (t.kids.dropLast.map fun p => p.text.data.toList)) ++ [32,61,32] ++ d7 (dS t) ++ [59,10] from rfl)
   have hpl:=lS LT
   have hHl : H.data.toList.length≤28:=by rw [c9]; exact hHs
   have hBr : B≤wr.heap.size:=by have:=A0.out.size hB; exact this
   clear HBr
   by_cases h0 : k=0
   ·subst h0
    have ch:=Lib.cell_of_heap HHP 0
    have ch0 : wr.cell? ⟨h,0,none⟩=some (.string H):=ch
    have EQ:=hid (show l ++ H.data.toList ++ [32,61,32] ++ f.text ++ [59,10]=l ++ gB t by
     rw [LL.out,if_pos (by rw [HZ.out]),HFT.out,HH0.out]; simp)
    clear ch
    go_wp2_with fail
    refine Calls.mono (m8 B b l H wr A0.out.bld (by omega) hBr) ?_
    rintro e w6 ⟨rfl,ha⟩
    have A1:=hid (A0.out.trans ha)
    have HF6:=hid (Fm.is.aft ha HF5)
    clear ha
    go_wp2_with fail
    refine Calls.mono (m8 B b _ ⟨#[32,61,32]⟩ w6 A1.out.bld (by simp only [List.length_append]; show _ + 3≤_; omega) (A1.out.size hB)) ?_
    rintro e w7 ⟨rfl,ha⟩
    have A2:=hid (A1.out.trans ha)
    have HF7:=hid (Fm.is.aft ha HF6)
    clear ha
    go_wp2_with fail
    refine Calls.mono (rY f fx B b _ w7 HF7 A2.out.bld (by simp only [List.length_append]; show _ + 3 + _≤_; omega) (A2.out.size hB)) ?_
    rintro e w8 ⟨rfl,ha⟩
    have A3:=hid (A2.out.trans ha)
    clear ha
    go_wp2_with fail
    refine Calls.mono (m8 B b _ ⟨#[59,10]⟩ w8 A3.out.bld (by simp only [List.length_append]; show _ + 3 + _ + 2≤_; omega) (A3.out.size hB)) ?_
    rintro e w9 ⟨rfl,ha⟩
    have A4:=hid (A3.out.trans ha)
    clear ha
    go_wp2_with fail
    go_ret
    exact ⟨l5 LT.out.symm,by rw [if_pos LT.out,← EQ.out]; exact A4⟩
   ·subst hgl
    obtain ⟨g,gc,rfl,hgc,hgm,hare,hcell⟩:=HKF.out.row (by omega)
    have ch:=Lib.cell_of_heap HHP 0
    have ch0 : wr.cell? ⟨h,0,none⟩=some (.string H):=ch
    have ch':=Lib.cell_of_heap HHP 1
    have ch1 : wr.cell? ⟨h,1,none⟩=some (.slice (some ⟨g,0,none⟩) gx.length gc):=ch'
    obtain ⟨gs,hgs⟩ : ∃ gs : List Fm,gs=gx.map fun p => p.1:=⟨_,rfl⟩
    have hgsl : gs.length=gx.length:=by rw [hgs,List.length_map]
    rw [← hgs] at hare
    have htx : gs.map Fm.text=t.kids.dropLast.map fun p => p.text.data.toList:=by
     rw [hgs,HDL.out,← HG.out,List.map_map]; rfl
    have hne : gs≠[]:=by
     intro e
     rw [e] at hgsl
     exact h0 hgsl.symm
    have hct : (Fm.called H gs).text=H.data.toList ++ bD (t.kids.dropLast.map fun p => p.text.data.toList):=by
     rw [Fm.text,List.append_assoc,mU _ hne,htx]
    have HCF:=hid (show (Fm.called H gs).is (· ≠ b) wr (.agg #[.string H,.slice (some ⟨g,0,none⟩) gx.length gc]) from
     ⟨some ⟨g,0,none⟩,gc,by rw [hgsl],by unfold maxLen; omega,by rw [hgsl]; exact hgc,hgm,Fm.are.kept (fun g' _ _ hg hh => ⟨by have : h + 1≤g':=hg; omega,hh⟩) _ hare⟩)
    have HCT:=hid hct
    have hcl : (Fm.called H gs).text.length≤400:=by rw [hct,List.length_append]; omega
    have EQ:=hid (show l ++ (Fm.called H gs).text ++ [32,61,32] ++ f.text ++ [59,10]=l ++ gB t by
     rw [LL.out,if_neg (by rw [HZ.out]; omega),HFT.out,HCT.out,HH0.out]; simp)
    have CW:=hid (show Calls Tryz.prog 65 #[.agg #[.string H,.slice (some ⟨g,0,none⟩) gx.length gc],.pointer (some ⟨b,0,none⟩)] wr fun e w' => e=.returned (.tuple #[])∧Aft B b (l ++ (Fm.called H gs).text) wr w' by
     have hl5 : l.length + (Fm.called H gs).text.length≤1099511627776:=by omega
     exact rY (Fm.called H gs) _ B b l wr HCF A0.out.bld hl5 hBr)
    generalize (Fm.called H gs).text=Q at hcl EQ CW
    have e0 : ((gx.length : Int) == 0)=false:=by rw [beq_eq_false_iff_ne]; omega
    clear hare hcell htx hne hct HCF HCT ch ch' h0 hgs hgsl
    go_wp2_with fail
    (with_reducible refine Calls.mono CW.out ?_)
    rintro e w6 ⟨rfl,ha⟩
    have A1:=hid (A0.out.trans ha)
    have HF6:=hid (Fm.is.aft ha HF5)
    clear ha
    go_wp2_with fail
    refine Calls.mono (m8 B b _ ⟨#[32,61,32]⟩ w6 A1.out.bld (by simp only [List.length_append]; show _ + 3≤_; omega) (A1.out.size hB)) ?_
    rintro e w7 ⟨rfl,ha⟩
    have A2:=hid (A1.out.trans ha)
    have HF7:=hid (Fm.is.aft ha HF6)
    clear ha
    go_wp2_with fail
    refine Calls.mono (rY f fx B b _ w7 HF7 A2.out.bld (by simp only [List.length_append]; show _ + 3 + _≤_; omega) (A2.out.size hB)) ?_
    rintro e w8 ⟨rfl,ha⟩
    have A3:=hid (A2.out.trans ha)
    clear ha
    go_wp2_with fail
    refine Calls.mono (m8 B b _ ⟨#[59,10]⟩ w8 A3.out.bld (by simp only [List.length_append]; show _ + 3 + _ + 2≤_; omega) (A3.out.size hB)) ?_
    rintro e w9 ⟨rfl,ha⟩
    have A4:=hid (A3.out.trans ha)
    clear ha
    go_wp2_with fail
    go_ret
    exact ⟨l5 LT.out.symm,by rw [if_pos LT.out,← EQ.out]; exact A4⟩
end
end Go.Proofs.YtibiccacafjjfaaGreatDoor
