/-
  Laws that the proof rests on.
-/
import Derived.Test.YtppcfebnaieciaaGreatDoorF12
import Derived.Test.YtppcfebnaieciaaGreatDoorF04
import Derived.Test.YtppcfebnaieciaaGreatDoorF03
import Derived.Outline
namespace Go.Proofs.YtppcfebnaieciaaGreatDoor
set_option maxRecDepth 100000
set_option maxHeartbeats 16000000
section
open Go.RowKit Go.Shelf
theorem a30 (w : World) : Bld w.heap.size w.heap.size [] (w.alloc (.cells #[.pointer none,.slice none 0 0] 112)) :=
 Or.inl ⟨Nat.le_refl _,.slice none 0 0,Y7 w _,World.ownsRowF_of (World.ownsRow_nil _ _ _ 1),by simp [Value.ownBlock]⟩
theorem xM {s s' : ByteArray} {a b : Int} (h : s=s') (h' : a=b) : Ending.returned (.tuple #[.string s,.int .i64 a])=.returned (.tuple #[.string s',.int .i64 b]):=by rw [h,h']
end
section
open Lib (hid)
open Go.RowKit Go.Shelf
def I5 (kind : Int) (ks : List Nd) : Int:=if (ks.takeWhile (m5 kind)).length=ks.length then -1 else (ks.takeWhile (m5 kind)).length
theorem jJ {kind : Int} {ks : List Nd} {k : Nat} (hk : k<ks.length) (h : ∀ j (hj : j<ks.length),j<k→m5 kind ks[j]=true) (hb : m5 kind ks[k]=false) : I5 kind ks=k:=by
 have e:=D8 (m5 kind) ks k (by omega) h fun _ => hb
 unfold I5
 rw [e,if_neg (by omega)]
theorem cB {kind : Int} {ks : List Nd} (h : ∀ j (hj : j<ks.length),m5 kind ks[j]=true) : I5 kind ks=-1:=by
 have e:=D8 (m5 kind) ks ks.length (Nat.le_refl _) (fun j hj _ => h j hj) fun hk => absurd hk (by omega)
 unfold I5
 rw [e,if_pos rfl]
theorem qG (kind : Int) (ks : List Nd) : decide (0≤I5 kind ks)=!ks.all (m5 kind):=by
 by_cases h : ∀ j (hj : j<ks.length),m5 kind ks[j]=true
 ·rw [cB h]
  have : ks.all (m5 kind)=true:=by
   rw [List.all_eq_true]
   intro a ha
   obtain ⟨i,hi,rfl⟩:=List.getElem_of_mem ha
   exact h i hi
  rw [this]; rfl
 ·have : ks.all (m5 kind)=false:=by
   rw [Bool.eq_false_iff]
   intro e
   rw [List.all_eq_true] at e
   exact h fun j hj => e _ (List.getElem_mem hj)
  rw [this]
  unfold I5
  rw [if_neg]
  ·rw [decide_eq_true (by omega)]; rfl
  ·intro e
   exact h fun j hj => by
    have hp:=List.takeWhile_prefix (m5 kind) (l:=ks)
    have h1 : (ks.takeWhile (m5 kind))[j]'(by omega)=ks[j]:=hp.getElem (by omega)
    rw [← h1]
    exact List.all_eq_true.1 (List.all_takeWhile (l:=ks) (p:=m5 kind)) _ (List.getElem_mem _)
theorem pC (t : Nd) (a : Option Addr) (cap : Nat) (k : Int) (w : World) (hs : t.text.size≤maxLen) (he : Env w) :
 Calls Tryz.prog 79 #[.agg #[.int .i64 t.kind,.string t.text,.int .i64 t.n,.slice a t.kids.length cap,.int .i64 t.place],.int .i64 k] w fun e w' => e=.returned (.bool (m5 k t))∧Below w.heap.size w w':=by
 have B:=hid (sU k t)
 have HB:=hid (a7 w (.cells #[.int .i64 t.kind,.string t.text,.int .i64 t.n,.slice a t.kids.length cap,.int .i64 t.place] 24))
 have B0:=hid (Boxed.make w t a cap)
 have C:=hid (aB t.text _ hs (he.below HB))
 clear he
 cases h1 : t.kind == k
 ·have F:=hid (show m5 k t=false by rw [B.out,h1]; rfl)
  go_enter Tryz.func79,Tryz.ntmps79
  go_wp2_with fail
  go_ret
  exact ⟨y9 F.out.symm,HB⟩
 go_enter Tryz.func79,Tryz.ntmps79
 go_wp2_with fail
 refine Calls.mono C.out ?_
 rintro e w2 ⟨rfl,hb⟩
 have HC:=hid (HB.out.trans (hb.mono HB.out.size))
 have B1:=hid (B0.out.below hb)
 clear hb HB B0
 have c2:=B1.out.c2
 have c3:=B1.out.c3
 cases h2 : l3 t.text.data.toList
 ·have F:=hid (show m5 k t=false by rw [B.out,h1,h2]; rfl)
  go_wp2_with fail
  go_ret
  exact ⟨y9 F.out.symm,HC⟩
 cases h3 : t.n == 0
 ·have F:=hid (show m5 k t=false by rw [B.out,h1,h2,h3]; rfl)
  go_wp2_with fail
  go_ret
  exact ⟨y9 F.out.symm,HC⟩
 have F:=hid (show m5 k t=((t.kids.length : Int) == 0) by rw [B.out,h1,h2,h3]; rfl)
 go_wp2_with fail
 go_ret
 exact ⟨y9 F.out.symm,HC⟩
theorem nC (t : Nd) (a : Option Addr) (cap : Nat) (w : World) (hs : t.text.size≤maxLen) (he : Env w) :
 Calls Tryz.prog 78 #[.agg #[.int .i64 t.kind,.string t.text,.int .i64 t.n,.slice a t.kids.length cap,.int .i64 t.place]] w fun e w' => e=.returned (.bool (!m5 2 t))∧Below w.heap.size w w':=by
 have HB:=hid (a7 w (.cells #[.int .i64 t.kind,.string t.text,.int .i64 t.n,.slice a t.kids.length cap,.int .i64 t.place] 24))
 have C:=hid (pC t a cap 2 _ hs (he.below HB))
 clear he
 go_enter Tryz.func78,Tryz.ntmps78
 go_wp2_with fail
 refine Calls.mono C.out ?_
 rintro e w2 ⟨rfl,hb⟩
 have HC:=hid (HB.out.trans (hb.mono HB.out.size))
 clear hb
 go_wp2_with fail
 go_ret
 exact ⟨rfl,HC⟩
theorem lR (ks : List Nd) (n₀ : Nat) (a : Option Addr) (cap : Nat) (w : World) (hh : Nd.holds n₀ w ks a 0) (hk0 : ks.length≤cap) (hk1 : cap≤maxLen) (hn : n₀≤w.heap.size) (he : Env w) :
 Calls Tryz.prog 77 #[.slice a ks.length cap,.func (.func 78) #[] #[]] w fun e w' => e=.returned (.int .i64 (I5 2 ks))∧Below w.heap.size w w':=by
 have eg:=enters_of Tryz.func78 (by kernel_rfl) rfl
 have hm:=hk1
 unfold maxLen at hm
 have hkl : ks.length≤9223372036854775807:=Nat.le_trans hk0 hm
 have HH:=hid hh
 have HE:=hid he
 clear hh he
 go_enter Tryz.func77,Tryz.ntmps77
 go_wp2_with fail
 go_loopw [8] (fun i wr => ∃ k : Nat,k≤ks.length∧i=.int .i64 k∧Hid (∀ j (hj : j<ks.length),j<k→m5 2 ks[j]=true)∧Hid (Below w.heap.size w wr)) (fun i _ => (ks.length - (intOf i).toNat))
 case atStart => exact ⟨0,Nat.zero_le _,rfl,fun j hj h => by omega,Below.refl _ _⟩
 case round =>
  obtain ⟨k,hk,rfl,HAll,HBr⟩:=hrel
  by_cases hlt : k<ks.length
  ·obtain ⟨b,off,x,cx,A⟩:=Nd.holds.at ks 0 (Nd.holds.below (HBr.out.mono hn) ks HH) k hlt
   rw [Nat.zero_add] at A
   obtain ⟨rfl,hb0,c0,c1,c2,c3,c4,hk1'⟩:=A
   have C:=hid (nC ks[k] x cx wr hk1'.bounds.2.1 (HE.out.below HBr))
   clear hk1'
   cases hr : m5 2 ks[k]
   ·have F:=hid (jJ hlt HAll hr)
    go_wp2_with fail
    refine Calls.mono C.out ?_
    rintro e w4 ⟨rfl,hb⟩
    rw [hr]
    have HB:=hid (HBr.out.trans (hb.mono HBr.out.size))
    clear hb hr
    go_wp2_with fail
    go_ret
    exact ⟨dH F.out.symm,HB⟩
   ·have HR:=hid hr
    go_wp2_with fail
    refine Calls.mono C.out ?_
    rintro e w4 ⟨rfl,hb⟩
    rw [hr]
    have HB:=hid (HBr.out.trans (hb.mono HBr.out.size))
    clear hb hr
    go_wp2_with fail
    go_roundw
    case rel =>
     refine ⟨k + 1,by omega,by go_num,fun j hj h => ?_,HB⟩
     by_cases e : j=k
     ·subst e; exact HR
     ·exact HAll.out j hj (by omega)
    case measure => simp [intOf]; omega
  ·have F:=hid (cB fun j hj => HAll.out j hj (by omega))
   go_wp2_with fail
   go_ret
   exact ⟨dH F.out.symm,HBr⟩
theorem nI (t : Nd) (a : Option Addr) (cap : Nat) (w : World) (hs : t.text.size≤maxLen) (he : Env w) :
 Calls Tryz.prog 118 #[.agg #[.int .i64 t.kind,.string t.text,.int .i64 t.n,.slice a t.kids.length cap,.int .i64 t.place]] w fun e w' => e=.returned (.bool (!m5 4 t))∧Below w.heap.size w w':=by
 have HB:=hid (a7 w (.cells #[.int .i64 t.kind,.string t.text,.int .i64 t.n,.slice a t.kids.length cap,.int .i64 t.place] 24))
 have C:=hid (pC t a cap 4 _ hs (he.below HB))
 clear he
 go_enter Tryz.func118,Tryz.ntmps118
 go_wp2_with fail
 refine Calls.mono C.out ?_
 rintro e w2 ⟨rfl,hb⟩
 have HC:=hid (HB.out.trans (hb.mono HB.out.size))
 clear hb
 go_wp2_with fail
 go_ret
 exact ⟨rfl,HC⟩
theorem nM (ks : List Nd) (n₀ : Nat) (a : Option Addr) (cap : Nat) (w : World) (hh : Nd.holds n₀ w ks a 0) (hk0 : ks.length≤cap) (hk1 : cap≤maxLen) (hn : n₀≤w.heap.size) (he : Env w) :
 Calls Tryz.prog 77 #[.slice a ks.length cap,.func (.func 118) #[] #[]] w fun e w' => e=.returned (.int .i64 (I5 4 ks))∧Below w.heap.size w w':=by
 have eg:=enters_of Tryz.func118 (by kernel_rfl) rfl
 have hm:=hk1
 unfold maxLen at hm
 have hkl : ks.length≤9223372036854775807:=Nat.le_trans hk0 hm
 have HH:=hid hh
 have HE:=hid he
 clear hh he
 go_enter Tryz.func77,Tryz.ntmps77
 go_wp2_with fail
 go_loopw [8] (fun i wr => ∃ k : Nat,k≤ks.length∧i=.int .i64 k∧Hid (∀ j (hj : j<ks.length),j<k→m5 4 ks[j]=true)∧Hid (Below w.heap.size w wr)) (fun i _ => (ks.length - (intOf i).toNat))
 case atStart => exact ⟨0,Nat.zero_le _,rfl,fun j hj h => by omega,Below.refl _ _⟩
 case round =>
  obtain ⟨k,hk,rfl,HAll,HBr⟩:=hrel
  by_cases hlt : k<ks.length
  ·obtain ⟨b,off,x,cx,A⟩:=Nd.holds.at ks 0 (Nd.holds.below (HBr.out.mono hn) ks HH) k hlt
   rw [Nat.zero_add] at A
   obtain ⟨rfl,hb0,c0,c1,c2,c3,c4,hk1'⟩:=A
   have C:=hid (nI ks[k] x cx wr hk1'.bounds.2.1 (HE.out.below HBr))
   clear hk1'
   cases hr : m5 4 ks[k]
   ·have F:=hid (jJ hlt HAll hr)
    go_wp2_with fail
    refine Calls.mono C.out ?_
    rintro e w4 ⟨rfl,hb⟩
    rw [hr]
    have HB:=hid (HBr.out.trans (hb.mono HBr.out.size))
    clear hb hr
    go_wp2_with fail
    go_ret
    exact ⟨dH F.out.symm,HB⟩
   ·have HR:=hid hr
    go_wp2_with fail
    refine Calls.mono C.out ?_
    rintro e w4 ⟨rfl,hb⟩
    rw [hr]
    have HB:=hid (HBr.out.trans (hb.mono HBr.out.size))
    clear hb hr
    go_wp2_with fail
    go_roundw
    case rel =>
     refine ⟨k + 1,by omega,by go_num,fun j hj h => ?_,HB⟩
     by_cases e : j=k
     ·subst e; exact HR
     ·exact HAll.out j hj (by omega)
    case measure => simp [intOf]; omega
  ·have F:=hid (cB fun j hj => HAll.out j hj (by omega))
   go_wp2_with fail
   go_ret
   exact ⟨dH F.out.symm,HBr⟩
theorem kM (ks : List Nd) (n₀ : Nat) (a : Option Addr) (cap : Nat) (w : World) (hh : Nd.holds n₀ w ks a 0) (hk0 : ks.length≤cap) (hk1 : cap≤maxLen) (hn : n₀≤w.heap.size) (he : Env w) :
 Calls Tryz.prog 115 #[.slice a ks.length cap,.func (.func 118) #[] #[]] w fun e w' => e=.returned (.bool (!ks.all (m5 4)))∧Below w.heap.size w w':=by
 have C:=hid (nM ks n₀ a cap w hh hk0 hk1 hn he)
 have F:=hid (qG 4 ks)
 clear hh he
 go_enter Tryz.func115,Tryz.ntmps115
 go_wp2_with fail
 refine Calls.mono C.out ?_
 rintro e w' ⟨rfl,hb⟩
 have HB:=hid hb
 clear hb
 go_wp2_with fail
 go_ret
 exact ⟨y9 F,HB⟩
end
section
open Go.RowKit
def a3c (t : Nd) : List UInt8:=if J4 t=true then a5c t else []
def pX (t : Nd) : Int:=if J4 t=true then 0 else 90
theorem qD {n₀ : Nat} {W : World} {a : Option Addr} {ks : List Nd} (h : Nd.holds n₀ W ks a 0) (n : Nat) : Nd.holds n₀ W (ks.take n) a 0 :=
 Nd.holds.of _ 0 fun j hj => by
  rw [List.length_take] at hj
  have:=Nd.holds.at ks 0 h j (by omega)
  rw [List.getElem_take]
  exact this
theorem gX {n₀ : Nat} {W : World} {t : Nd} {a : Option Addr} {cap : Nat} (h : t.hold n₀ W a cap) : Nd.holds n₀ W t.kids a 0:=by
 cases t with
 | mk kind s n ks p => exact h.2.2.2.2.2.2
end
section
open Lib (hid)
open Go.RowKit Go.Shelf
theorem Bld.after {B b : Nat} {l : List UInt8} {w w' : World} (h : Bld B b l w) (hb : Below w.heap.size w w') : Bld B b l w':=by
 have one : ∀ p,Lib.BuilderAtF 112 5 B b p (Lib.byteCells l) w→Lib.BuilderAtF 112 5 B b p (Lib.byteCells l) w':=fun p k => by
  have hlt:=k.lt
  obtain ⟨hB,v,hbk,hown,hne⟩:=k
  exact ⟨hB,v,(hb.block b hlt).trans hbk,hown.kept (iY hb) (by cases hv : v.ownBlock <;> simp),hne⟩
 exact h.elim (fun k => .inl (one _ k)) fun k => .inr (one _ k)
theorem Aft.after {B b : Nat} {l : List UInt8} {w w1 w2 : World} (h : Aft B b l w w1) (hB : B≤w.heap.size) (hb : Below w1.heap.size w1 w2) : Aft B b l w w2 :=
 ⟨h.bld.after hb,h.below.trans (hb.mono (h.size hB)),fun k o hk e1 e2 => (hb.block k (V1 (h.keeps k o hk e1 e2))).trans (h.keeps k o hk e1 e2)⟩
theorem a2p {W : World} {h : Nat} {x0 x1 : Value} {T : TypeId} (hh : W.heap[h]?=some (.cells #[x0,x1] T (0,0))) (v : Value) : (W.setCell ⟨h,1,none⟩ v).heap[h]?=some (.cells #[x0,v] T (0,0)):=by
 simp [World.setCell,Array.getElem?_modify,hh]
theorem KF.set {B h : Nat} {fx : List (Fm × Value)} {v : Value} {W : World} (k : KF B fx v W) (hB : h<B) (j : Nat) (u : Value) : KF B fx v (W.setCell ⟨h,j,none⟩ u):=by
 refine ⟨k.own.kept (row:=some h) ⟨rfl,rfl,rfl,by simp [World.setCell],fun g _ hg => Below.heap_setCell _ _ _ _ (fun e => hg (by simp [e]))⟩ ?_,fun p hp => ?_⟩
 ·rcases hv : v.ownBlock with _ | g
  ·exact .inl rfl
  ·refine .inr fun e => ?_
   obtain rfl : g=h:=Option.some.inj e
   have:=(k.own.lt g hv).1
   omega
 ·exact Fm.is.kept (fun g cur fz hg hh => ⟨hg,(Below.heap_setCell _ _ _ _ (fun e => by have:=hg.1; simp at e; omega)).trans hh⟩) p.1 (k.is p hp)
theorem KF.own_ne {B h : Nat} {fx : List (Fm × Value)} {v : Value} {W : World} (k : KF B fx v W) (hB : h<B) : some h≠v.ownBlock:=fun e => by have:=(k.own.lt h e.symm).1; omega
theorem a2v {h : Nat} {gx : List (Fm × Value)} {v : Value} {V w4 w5 : World} {H T : ByteArray} {g cap' : Nat} (HKF1 : KF (h + 1) gx v V) (HB1 : Below h w4 V) (HP1 : V.heap[h]?=some (.cells #[.string H,v] 149 (0,0))) (hT : T.size≤maxLen)
 (hown' : w5.ownsRow (h + 1) 145 1 (.slice (some ⟨g,0,none⟩) (gx.length + 1) cap') (gx.length + 1) (gx.map (fun p => Value.iface p.1.ty p.2) ++ [.iface 150 (.string T)]))
 (hgrow' : (V.alloc (.cells #[.iface 150 (.string T)] 145)).grownBy w5 v.ownBlock) (hat : v.ownBlock=some g∨g=(V.alloc (.cells #[.iface 150 (.string T)] 145)).heap.size) :
 w5.cell? ⟨h,1,none⟩=some v∧w5.frozen? ⟨h,1,none⟩=false∧KF (h + 1) (gx ++ [(Fm.leaf T,Value.string T)]) (.slice (some ⟨g,0,none⟩) (gx.length + 1) cap') (w5.setCell ⟨h,1,none⟩ (.slice (some ⟨g,0,none⟩) (gx.length + 1) cap')) ∧
  (w5.setCell ⟨h,1,none⟩ (.slice (some ⟨g,0,none⟩) (gx.length + 1) cap')).heap[h]?=some (.cells #[.string H,.slice (some ⟨g,0,none⟩) (gx.length + 1) cap'] 149 (0,0)) ∧
  Below h w4 (w5.setCell ⟨h,1,none⟩ (.slice (some ⟨g,0,none⟩) (gx.length + 1) cap')):=by
 have hb2:=a7 V (.cells #[.iface 150 (.string T)] 145)
 have hls : (Fm.leaf T).is (fun g => h + 1≤g∧v.ownBlock≠some g) (V.alloc (.cells #[.iface 150 (.string T)] 145)) (.string T):=⟨rfl,hT⟩
 have hk2:=HKF1.below hb2
 have hk5:=KF.snoc hk2 hls rfl hown' hgrow' hat
 have hlt:=V1 HP1
 have hp2 : (V.alloc (.cells #[.iface 150 (.string T)] 145)).heap[h]?=some (.cells #[.string H,v] 149 (0,0)):=(hb2.block h hlt).trans HP1
 have hp5 : w5.heap[h]?=some (.cells #[.string H,v] 149 (0,0)):=(hgrow'.block h (V1 hp2) (hk2.own_ne (Nat.lt_succ_self h))).trans hp2
 have hbg : Below h w4 w5:=(HB1.trans (hb2.mono (Nat.le_of_lt hlt))).grown hgrow' (by simp; omega) (fun r e => by have:=(hk2.own.lt r e).1; omega)
 exact ⟨Lib.cell_of_heap hp5 1,by simp [World.frozen?,hp5],hk5.set (Nat.lt_succ_self h) 1 _,a2p hp5 _,hbg.setCell (p:=⟨h,1,none⟩) (Nat.le_refl _) _⟩
def a5k (B b : Nat) (l : List UInt8) (t : Nd) (w : World) (e : Ending) (w' : World) : Prop :=
 e=.returned (.bool (H6 t))∧Aft B b (if H6 t=true then l ++ eT t else l) w w'
theorem dA {B b : Nat} {l : List UInt8} {t : Nd} {w w' : World} (hl : H6 t=false) (h : Bld B b l w) (hB : B≤w.heap.size) (hb : Below w.heap.size w w') : a5k B b l t w (.returned (.bool false)) w' :=
 ⟨by rw [hl],by rw [hl]; exact (Aft.start h).after hB hb⟩
theorem a26 (t : Nd) (a : Option Addr) (cap n₀ B b : Nat) (l : List UInt8) (w : World) (hh : t.hold n₀ w a cap) (hs : o6 t) (hn : n₀≤B) (hB : B≤w.heap.size) (he : Env w) (hta : Tab w) (hbl : Bld B b l w) (hsm : ∀ k∈t.kids,O5 k=true) (hlen : l.length≤1000000000) :
 Calls Tryz.prog 80 #[.pointer (some ⟨b,0,none⟩),.agg #[.int .i64 t.kind,.string t.text,.int .i64 t.n,.slice a t.kids.length cap,.int .i64 t.place]] w (a5k B b l t w):=by
 have hnw : n₀≤w.heap.size:=Nat.le_trans hn hB
 have hts:=hh.bounds.2.1
 have hkc:=hh.bounds.2.2.2.2
 have hkl : t.kids.length≤9223372036854775807:=Nat.le_trans hkc.1 hkc.2
 have HH:=hid hh
 have HSH:=hid hs
 have HE:=hid he
 have HTA:=hid hta
 have HBL:=hid hbl
 have HM:=hid hsm
 have LN:=hid (aR t)
 have HB:=hid (a7 w (.cells #[.int .i64 t.kind,.string t.text,.int .i64 t.n,.slice a t.kids.length cap,.int .i64 t.place] 24))
 have B0:=hid (Boxed.make w t a cap)
 have C0:=hid (aB t.text _ hts (he.below HB))
 clear hh hs he hta hbl hsm
 cases h1 : t.kind == 3
 ·have F:=hid (show H6 t=false by rw [LN.out,h1]; rfl)
  have h1' : (t.kind != 3)=true:=by rw [bne,h1]; rfl
  go_enter Tryz.func80,Tryz.ntmps80
  go_wp2_with fail
  go_ret
  exact dA F HBL hB HB
 have h1' : (t.kind != 3)=false:=by rw [bne,h1]; rfl
 go_enter Tryz.func80,Tryz.ntmps80
 go_wp2_with fail
 refine Calls.mono C0.out ?_
 rintro e w2 ⟨rfl,hb⟩
 have HC:=hid (HB.out.trans (hb.mono HB.out.size))
 have B1:=hid (B0.out.below hb)
 clear hb HB B0 C0
 have c2:=B1.out.c2
 have c3:=B1.out.c3
 cases h2 : l3 t.text.data.toList
 ·have F:=hid (show H6 t=false by rw [LN.out,h1,h2]; rfl)
  go_wp2_with fail
  go_ret
  exact dA F HBL hB HC
 cases h3 : t.n == 0
 ·have F:=hid (show H6 t=false by rw [LN.out,h1,h2,h3]; rfl)
  have h3' : (t.n != 0)=true:=by rw [bne,h3]; rfl
  go_wp2_with fail
  go_ret
  exact dA F HBL hB HC
 have h3' : (t.n != 0)=false:=by rw [bne,h3]; rfl
 by_cases h4 : (t.kids.length : Int) - 1<0
 ·have F:=hid (show H6 t=false by rw [LN.out,decide_eq_false (show ¬ 1≤t.kids.length by omega)]; simp)
  go_wp2_with fail
  go_ret
  exact dA F HBL hB HC
 by_cases h5 : 8<(t.kids.length : Int) - 1
 ·have F:=hid (show H6 t=false by rw [LN.out,decide_eq_false (show ¬ t.kids.length≤9 by omega)]; simp)
  go_wp2_with fail
  go_ret
  exact dA F HBL hB HC
 have F:=hid (show H6 t=(t.kids.dropLast.all (m5 4) && d9 (D6 t) 1) by
  rw [LN.out,h1,h2,h3,decide_eq_true (show 1≤t.kids.length by omega),decide_eq_true (show t.kids.length≤9 by omega)]; rfl)
 have h6 : 1≤t.kids.length:=by omega
 obtain ⟨m,hm⟩ : ∃ m,t.kids.length=m + 1:=⟨t.kids.length - 1,by omega⟩
 have hus : t.text.size≤24:=by have:=o0 h2; rwa [d7] at this
 obtain ⟨bk,off,x,cx,A⟩:=(HH.out.below (HC.out.mono hnw)).kid m (by omega)
 obtain ⟨hA,hb0,c0,c1,c2',c3',c4,hk1⟩:=A
 have hlast : t.kids[m]'(by omega)=D6 t:=by
  rw [← uM h6]; congr 1; omega
 rw [hlast] at c0 c1 c2' c3' c4 hk1
 have hsl : o6 (D6 t):=by rw [← hlast]; exact HSH.out.kid m (by omega)
 have CE:=hid (a2g (D6 t) x cx n₀ 1 w2 hk1 hsl (Nat.le_trans hnw HC.out.size) (HE.out.below HC) (HTA.out.below HC) (by decide) (by decide))
 rw [hA] at c3
 have z1 : ((t.kids.length : Int) - 1)=(m : Int):=by omega
 have hml : m<t.kids.length:=by omega
 have HA:=hid hA
 have HZ:=hid hm
 have hm8 : m≤8:=by omega
 have hmc : m≤cap:=by omega
 have hcm:=hkc.2
 unfold maxLen at hcm
 have hdl : t.kids.dropLast=t.kids.take m:=by rw [List.dropLast_eq_take,hm,Nat.add_sub_cancel]
 have hlen2 : (t.kids.take m).length=m:=by rw [List.length_take]; omega
 have HDL:=hid hdl
 have HLM:=hid hlen2
 have HSM:=hid (HM.out _ (tT h6))
 clear hk1 hsl hm hA hdl hlen2 hlast
 go_wp2_with fail
 refine Calls.mono CE.out ?_
 rintro e w3 ⟨hb3,hcase⟩
 have HD:=hid (HC.out.trans (hb3.mono HC.out.size))
 have B2:=hid (B1.out.below hb3)
 have HCase:=hid hcase
 clear hb3 hcase B1 c0 c1 c2 c2' c3 c3' c4 CE
 have c3:=B2.out.c3
 rw [HA.out] at c3
 rcases HCase.out with ⟨hr,f,fx,rfl,hf,hft,-⟩ | ⟨hr,rfl⟩
 case inr =>
  have F':=hid (show H6 t=false by rw [F.out,hr]; simp)
  clear hr
  go_wp2_with fail
  go_ret
  exact dA F' HBL hB HD
 have F2:=hid (show H6 t=t.kids.dropLast.all (m5 4) by rw [F.out,hr]; simp)
 have HR:=hid hr
 have HF:=hid hf
 have HFT:=hid hft
 clear hr hf hft HCase
 have CC:=hid (show Calls Tryz.prog 115 #[.slice (some ⟨bk,off,none⟩) m cap,.func (.func 118) #[] #[]] w3 fun e w' => e=.returned (.bool (!t.kids.dropLast.all (m5 4)))∧Below w3.heap.size w3 w' by
  have:=kM (t.kids.take m) n₀ (some ⟨bk,off,none⟩) cap w3 (qD (HA.out ▸ gX (HH.out.below (HD.out.mono hnw))) m) (by rw [HLM.out]; exact hmc) hkc.2 (Nat.le_trans hnw HD.out.size) (HE.out.below HD)
  rw [HLM.out,← HDL.out] at this
  exact this)
 go_wp2_with fail
 refine Calls.mono CC.out ?_
 rintro e w4 ⟨rfl,hb4⟩
 have HD4:=hid (HD.out.trans (hb4.mono HD.out.size))
 have B3:=hid (B2.out.below hb4)
 have HF4:=hid (show f.is (w.heap.size ≤ ·) w4 fx from Fm.is.kept (fun g _ _ hg hh => ⟨Nat.le_trans HC.out.size hg,(hb4.block g (V1 hh)).trans hh⟩) f HF)
 clear hb4 B2 c3 CC
 have c1:=B3.out.c1
 have c3:=B3.out.c3
 rw [HA.out] at c3
 cases hall : t.kids.dropLast.all (m5 4)
 ·have F':=hid (show H6 t=false by rw [F2.out,hall])
  clear hall
  go_wp2_with fail
  go_ret
  exact dA F' HBL hB HD4
 have HAll:=hid hall
 have hlt4:=B3.out.lt
 clear hall HF HC HD
 go_wp2_with fail
 obtain ⟨H,hH⟩ : ∃ H : ByteArray,H=⟨#[108,101,116,32]⟩ ++ t.text:=⟨_,rfl⟩
 have HH0:=hid (show H.data.toList=eF t by rw [hH]; unfold eF; simp)
 have hHs : H.size≤28:=by
  have h1:=congrArg List.length HH0
  rw [d7] at h1
  rw [h1]
  unfold eF
  simp only [List.length_append,List.length_cons,List.length_nil,d7]
  omega
 rw [← hH]
 obtain ⟨h,hh⟩ : ∃ h,h=w4.heap.size:=⟨_,rfl⟩
 have hb5:=a7 w4 (.cells #[.string H,.slice none 0 0] 149)
 have ht5:=Y7 w4 (.cells #[.string H,.slice none 0 0] 149)
 have hsz5 : (w4.alloc (.cells #[.string H,.slice none 0 0] 149)).heap.size=w4.heap.size + 1:=by simp
 generalize hW5 : w4.alloc (.cells #[.string H,.slice none 0 0] 149)=W5 at hb5 ht5 hsz5 ⊢
 clear hW5 hH
 rw [← hh] at ht5 hb5 hsz5 ⊢
 have HB5:=hid hb5
 have HT5:=hid ht5
 have hhw : w.heap.size<h:=by omega
 have hwh : w.heap.size≤h:=by omega
 have HHW:=hid hh
 clear hb5 ht5 c1 c3 h1 h1' h2 h3 h3' hh hlt4
 obtain ⟨i0,hi,hz0,hz1,hz2⟩:=info_parts (show (Tryz.prog.info? 145).map (fun i => (i.zero,i.size,i.bytes))=some (some .nilIface,1,16) by kernel_rfl)
 have HI0:=hid (show _∧_∧_∧_ from ⟨hi,hz0,hz1,hz2⟩)
 have HKD:=hid (show ∀ cur,Below h w4 cur→Nd.holds n₀ cur t.kids (some ⟨bk,off,none⟩) 0 from fun cur hc => HA.out ▸ gX (HH.out.below ((HD4.out.mono hnw).trans (hc.mono (by omega)))))
 clear hi hz0 hz1 hz2
 go_loopw [60] (fun i wr => ∃ (k : Nat) (v : Value) (gx : List (Fm × Value)),k≤m∧i=.int .i64 k∧gx.length=k∧Hid (gx.map (fun p => p.1.text)=(t.kids.take k).map fun p => p.text.data.toList)∧Hid (KF (h + 1) gx v wr)∧Hid (wr.heap[h]?=some (.cells #[.string H,v] 149 (0,0)))∧Hid (Below h w4 wr)) (fun i _ => m - (intOf i).toNat)
 case atStart => exact ⟨0,.slice none 0 0,[],Nat.zero_le _,rfl,rfl,rfl,KF.nil _ _,HT5,HB5⟩
 case round =>
  obtain ⟨k,v,gx,hk,rfl,hgl,HG,HKF,HHP,HBr⟩:=hrel
  have hhr : h<wr.heap.size:=V1 HHP
  by_cases hlt : k<m
  ·obtain ⟨b1,o1,y,cy,A⟩:=Nd.holds.at t.kids 0 (HKD.out wr HBr) k (by omega)
   rw [Nat.zero_add] at A
   obtain ⟨hA1,hb1,c0,c1,c2,c3,c4,-⟩:=A
   obtain ⟨rfl,rfl⟩ : bk=b1∧off=o1:=by injection hA1 with q; injection q with q1 q2; exact ⟨q1,q2⟩
   have hch:=Lib.cell_of_heap HHP 1
   have hch1 : wr.cell? ⟨h,1,none⟩=some v:=hch
   clear hch hA1
   obtain ⟨T,hT⟩ : ∃ T,T=t.kids[k].text:=⟨_,rfl⟩
   have hTl : T.data.toList=t.kids[k].text.data.toList:=by rw [hT]
   have hTs : T.size≤maxLen:=by
    have:=o0 (E0 (List.all_eq_true.1 HAll t.kids[k] (qV (by rw [HZ.out]; omega) (by omega)))).1
    rw [← hT,d7] at this
    unfold maxLen; omega
   rw [← hT] at c1
   have HTL:=hid hTl
   have HTS:=hid hTs
   clear hT hTl hTs
   have hb1':=a7 wr (.cells #[.int .i64 t.kids[k].kind,.string T,.int .i64 t.kids[k].n,(.slice y t.kids[k].kids.length cy),.int .i64 t.kids[k].place] 24)
   have HKF1:=hid (HKF.out.below hb1')
   have HB1:=hid (HBr.out.trans (hb1'.mono (Nat.le_of_lt hhr)))
   have HP1:=hid ((hb1'.block h hhr).trans HHP)
   have hsz1 : (wr.alloc (.cells #[.int .i64 t.kids[k].kind,.string T,.int .i64 t.kids[k].n,(.slice y t.kids[k].kids.length cy),.int .i64 t.kids[k].place] 24)).heap.size=wr.heap.size + 1:=by simp
   clear hb1'
   have HG5:=hid (show ((gx ++ [(Fm.leaf T,Value.string T)]).map fun p => p.1.text)=(t.kids.take (k + 1)).map fun p => p.text.data.toList by
    rw [List.map_append,HG.out,List.take_succ_eq_append_getElem (show k<t.kids.length by omega),List.map_append]
    show _ ++ [(Fm.leaf T).text]=_ ++ [t.kids[k].text.data.toList]
    rw [Fm.text,HTL.out])
   go_wp2_with (at_builtin; refine wpList_append_lies _ rfl _ _ 147 rfl (h + 1) 145 i0 .nilIface 1 16 Tryz.underlying147 HI0.out.1 HI0.out.2.1 HI0.out.2.2.1 HI0.out.2.2.2 rfl (by decide) _ _ _ rfl (HKF1.out.own.alloc _) ⟨wr.heap.size + 1,0,none⟩ 1 1 [.iface 150 (.string T)] rfl rfl (hsz1 ▸ cell_one_new _ _ _) (fun u hu => by simp at hu; subst hu; rfl) (by decide) (by unfold maxLen; omega) (by omega) (by simp; omega) _ rfl ?_; intro g cap' w5 hown' hgrow' hat hltg; have Z:=hid (a2v HKF1 HB1 HP1 HTS hown' hgrow' hat); have cc:=Z.out.1; have cf:=Z.out.2.1; clear hown' hgrow' hat hltg)
   go_roundw
   case rel =>
    obtain ⟨-,-,z3,z4,z5⟩:=Z.out
    rw [hgl] at z3 z4 z5
    exact ⟨k + 1,_,_,by omega,by go_num,by rw [List.length_append,hgl]; rfl,HG5,z3,z4,z5⟩
   case measure => simp [intOf]; omega
  ·obtain rfl : k=m:=by omega
   have hbw : B≤h:=by omega
   have A0:=hid (show Aft B b l w wr from (Aft.start HBL).after hB (HD4.out.trans (HBr.out.mono (by omega))))
   have hbb:=HBL.out.lt
   have HF5:=hid (show f.is (· ≠ b) wr fx from Fm.is.kept (fun g _ _ hg hh => ⟨by have : w.heap.size≤g:=hg; omega,(HBr.out.block g (by have:=V1 hh; have:=HHW.out; omega)).trans hh⟩) f HF4)
   have M:=mt f fx
   have eg:=en f
   have LT:=hid (show H6 t=true by rw [F2.out,HAll.out])
   have hfl:=kS HSM HR
   rw [← HFT.out] at hfl
   have LL:=hid (show eT t=eF t ++ (if t.kids.length=1 then [] else cO (t.kids.dropLast.map fun p => p.text.data.toList)) ++ [32,61,32] ++ i6 (D6 t) ++ [59,10] from rfl)
   have hpl:=lJ LT
   have hHl : H.data.toList.length≤28:=by rw [d7]; exact hHs
   have hBr : B≤wr.heap.size:=by have:=A0.out.size hB; exact this
   clear HBr
   by_cases h0 : k=0
   ·subst h0
    have ch:=Lib.cell_of_heap HHP 0
    have ch0 : wr.cell? ⟨h,0,none⟩=some (.string H):=ch
    have EQ:=hid (show l ++ H.data.toList ++ [32,61,32] ++ f.text ++ [59,10]=l ++ eT t by
     rw [LL.out,if_pos (by rw [HZ.out]),HFT.out,HH0.out]; simp)
    clear ch
    go_wp2_with fail
    refine Calls.mono (l7 B b l H wr A0.out.bld (by omega) hBr) ?_
    rintro e w6 ⟨rfl,ha⟩
    have A1:=hid (A0.out.trans ha)
    have HF6:=hid (Fm.is.aft ha HF5)
    clear ha
    go_wp2_with fail
    refine Calls.mono (l7 B b _ ⟨#[32,61,32]⟩ w6 A1.out.bld (by simp only [List.length_append]; show _ + 3≤_; omega) (A1.out.size hB)) ?_
    rintro e w7 ⟨rfl,ha⟩
    have A2:=hid (A1.out.trans ha)
    have HF7:=hid (Fm.is.aft ha HF6)
    clear ha
    go_wp2_with fail
    refine Calls.mono (xO f fx B b _ w7 HF7 A2.out.bld (by simp only [List.length_append]; show _ + 3 + _≤_; omega) (A2.out.size hB)) ?_
    rintro e w8 ⟨rfl,ha⟩
    have A3:=hid (A2.out.trans ha)
    clear ha
    go_wp2_with fail
    refine Calls.mono (l7 B b _ ⟨#[59,10]⟩ w8 A3.out.bld (by simp only [List.length_append]; show _ + 3 + _ + 2≤_; omega) (A3.out.size hB)) ?_
    rintro e w9 ⟨rfl,ha⟩
    have A4:=hid (A3.out.trans ha)
    clear ha
    go_wp2_with fail
    go_ret
    exact ⟨y9 LT.out.symm,by rw [if_pos LT.out,← EQ.out]; exact A4⟩
   ·subst hgl
    obtain ⟨g,gc,rfl,hgc,hgm,hare,hcell⟩:=HKF.out.row (by omega)
    have ch:=Lib.cell_of_heap HHP 0
    have ch0 : wr.cell? ⟨h,0,none⟩=some (.string H):=ch
    have ch':=Lib.cell_of_heap HHP 1
    have ch1 : wr.cell? ⟨h,1,none⟩=some (.slice (some ⟨g,0,none⟩) gx.length gc):=ch'
    obtain ⟨gs,hgs⟩ : ∃ gs : List Fm,gs=gx.map fun p => p.1:=⟨_,rfl⟩
    have hgsl : gs.length=gx.length:=by rw [hgs,List.length_map]
    rw [← hgs] at hare
    have htx : gs.map Fm.text=t.kids.dropLast.map fun p => p.text.data.toList:=by
     rw [hgs,HDL.out,← HG.out,List.map_map]; rfl
    have hne : gs≠[]:=by
     intro e
     rw [e] at hgsl
     exact h0 hgsl.symm
    have hct : (Fm.called H gs).text=H.data.toList ++ cO (t.kids.dropLast.map fun p => p.text.data.toList):=by
     rw [Fm.text,List.append_assoc,lE _ hne,htx]
    have HCF:=hid (show (Fm.called H gs).is (· ≠ b) wr (.agg #[.string H,.slice (some ⟨g,0,none⟩) gx.length gc]) from
     ⟨some ⟨g,0,none⟩,gc,by rw [hgsl],by unfold maxLen; omega,by rw [hgsl]; exact hgc,hgm,Fm.are.kept (fun g' _ _ hg hh => ⟨by have : h + 1≤g':=hg; omega,hh⟩) _ hare⟩)
    have HCT:=hid hct
    have hcl : (Fm.called H gs).text.length≤400:=by rw [hct,List.length_append]; omega
    have EQ:=hid (show l ++ (Fm.called H gs).text ++ [32,61,32] ++ f.text ++ [59,10]=l ++ eT t by
     rw [LL.out,if_neg (by rw [HZ.out]; omega),HFT.out,HCT.out,HH0.out]; simp)
    have CW:=hid (show Calls Tryz.prog 119 #[.agg #[.string H,.slice (some ⟨g,0,none⟩) gx.length gc],.pointer (some ⟨b,0,none⟩)] wr fun e w' => e=.returned (.tuple #[])∧Aft B b (l ++ (Fm.called H gs).text) wr w' by
     have hl5 : l.length + (Fm.called H gs).text.length≤1099511627776:=by omega
     exact xO (Fm.called H gs) _ B b l wr HCF A0.out.bld hl5 hBr)
    generalize (Fm.called H gs).text=Q at hcl EQ CW
    have e0 : ((gx.length : Int) == 0)=false:=by rw [beq_eq_false_iff_ne]; omega
    clear hare hcell htx hne hct HCF HCT ch ch' h0 hgs hgsl
    go_wp2_with fail
    (with_reducible refine Calls.mono CW.out ?_)
    rintro e w6 ⟨rfl,ha⟩
    have A1:=hid (A0.out.trans ha)
    have HF6:=hid (Fm.is.aft ha HF5)
    clear ha
    go_wp2_with fail
    refine Calls.mono (l7 B b _ ⟨#[32,61,32]⟩ w6 A1.out.bld (by simp only [List.length_append]; show _ + 3≤_; omega) (A1.out.size hB)) ?_
    rintro e w7 ⟨rfl,ha⟩
    have A2:=hid (A1.out.trans ha)
    have HF7:=hid (Fm.is.aft ha HF6)
    clear ha
    go_wp2_with fail
    refine Calls.mono (xO f fx B b _ w7 HF7 A2.out.bld (by simp only [List.length_append]; show _ + 3 + _≤_; omega) (A2.out.size hB)) ?_
    rintro e w8 ⟨rfl,ha⟩
    have A3:=hid (A2.out.trans ha)
    clear ha
    go_wp2_with fail
    refine Calls.mono (l7 B b _ ⟨#[59,10]⟩ w8 A3.out.bld (by simp only [List.length_append]; show _ + 3 + _ + 2≤_; omega) (A3.out.size hB)) ?_
    rintro e w9 ⟨rfl,ha⟩
    have A4:=hid (A3.out.trans ha)
    clear ha
    go_wp2_with fail
    go_ret
    exact ⟨y9 LT.out.symm,by rw [if_pos LT.out,← EQ.out]; exact A4⟩
end
section
open Lib (hid)
open Go.RowKit Go.Shelf
theorem a2f (t : Nd) : J4 t=(t.kind == 1 && l3 t.text.data.toList && t.n == 0 && O5 t && (decide (q9 t.kids≤100) && decide (t.kids.length - q9 t.kids≤200) && (t.kids.drop (q9 t.kids)).all H6)):=rfl
theorem bO {t : Nd} {w w' : World} (h : J4 t=false) (hb : Below w.heap.size w w') : (Ending.returned (.tuple #[.string ⟨#[]⟩,.int .i64 90])=.returned (.tuple #[.string ⟨(a3c t).toArray⟩,.int .i64 (pX t)]))∧Below w.heap.size w w':=by
 refine ⟨xM ?_ ?_,hb⟩
 ·unfold a3c; rw [if_neg (by rw [h]; decide)]
 ·unfold pX; rw [if_neg (by rw [h]; decide)]
theorem qT {t : Nd} (hn : l3 t.text.data.toList=true) (hi : q9 t.kids≤100) (k : Nat) (hk : k≤q9 t.kids) : (U9 t ++ (t.kids.take k).flatMap eS).length≤5000:=by
 have h0:=o0 hn
 have h1 : ((t.kids.take k).flatMap eS).length≤(t.kids.take k).length * 40:=rM _ fun x hx => by
  obtain ⟨i,hj,rfl⟩:=List.getElem_of_mem hx
  rw [List.length_take] at hj
  rw [List.getElem_take]
  exact mP (eR (by omega) (by omega))
 have h2 : (t.kids.take k).length≤100:=by rw [List.length_take]; omega
 have h4 : (t.kids.take k).length * 40≤100 * 40:=Nat.mul_le_mul_right _ h2
 unfold U9
 simp only [List.length_append,List.length_cons,List.length_nil]
 omega
theorem tR (t : Nd) (a : Option Addr) (cap n₀ : Nat) (w : World) (hh : t.hold n₀ w a cap) (hs : o6 t) (hn : n₀≤w.heap.size) (he : Env w) (hta : Tab w) :
 Calls Tryz.prog 43 #[.agg #[.int .i64 t.kind,.string t.text,.int .i64 t.n,.slice a t.kids.length cap,.int .i64 t.place]] w fun e w' => e=.returned (.tuple #[.string ⟨(a3c t).toArray⟩,.int .i64 (pX t)])∧Below w.heap.size w w':=by
 have hts:=hh.bounds.2.1
 have hkc:=hh.bounds.2.2.2.2
 have hkl : t.kids.length≤9223372036854775807:=Nat.le_trans hkc.1 hkc.2
 have hcm:=hkc.2
 unfold maxLen at hcm
 have HH:=hid hh
 have HSH:=hid hs
 have HE:=hid he
 have HTA:=hid hta
 have MN:=hid (a2f t)
 have HB:=hid (a7 w (.cells #[.int .i64 t.kind,.string t.text,.int .i64 t.n,.slice a t.kids.length cap,.int .i64 t.place] 24))
 have B0:=hid (Boxed.make w t a cap)
 have C0:=hid (aB t.text _ hts (he.below HB))
 clear hh hs he hta
 cases h1 : t.kind == 1
 ·have F:=hid (show J4 t=false by rw [MN.out,h1]; rfl)
  have h1' : (t.kind != 1)=true:=by rw [bne,h1]; rfl
  go_enter Tryz.func43,Tryz.ntmps43
  go_wp2_with fail
  go_ret2
  exact bO F HB
 have h1' : (t.kind != 1)=false:=by rw [bne,h1]; rfl
 go_enter Tryz.func43,Tryz.ntmps43
 go_wp2_with fail
 (with_reducible refine Calls.mono C0.out ?_)
 rintro e w1 ⟨rfl,hb⟩
 have HC1:=hid (HB.out.trans (hb.mono HB.out.size))
 have B1:=hid (B0.out.below hb)
 clear hb HB B0 C0
 have c0:=B1.out.c0
 have c1:=B1.out.c1
 have c2:=B1.out.c2
 have c3:=B1.out.c3
 have c4:=B1.out.c4
 cases h2 : l3 t.text.data.toList
 ·have F:=hid (show J4 t=false by rw [MN.out,h1,h2]; rfl)
  go_wp2_with fail
  go_ret2
  exact bO F HC1
 cases h3 : t.n == 0
 ·have F:=hid (show J4 t=false by rw [MN.out,h1,h2,h3]; rfl)
  have h3' : (t.n != 0)=true:=by rw [bne,h3]; rfl
  go_wp2_with fail
  go_ret2
  exact bO F HC1
 have h3' : (t.n != 0)=false:=by rw [bne,h3]; rfl
 have CS:=hid (xI t a cap n₀ w1 (HH.out.below (HC1.out.mono hn)) (Nat.le_trans hn HC1.out.size))
 go_wp2_with fail
 (with_reducible refine Calls.mono CS.out ?_)
 rintro e w2 ⟨rfl,hb⟩
 have HC:=hid (HC1.out.trans (hb.mono HC1.out.size))
 have B2:=hid (B1.out.below hb)
 clear hb HC1 B1 CS c0 c1 c2 c3 c4
 cases h0 : O5 t
 ·have F:=hid (show J4 t=false by rw [MN.out,h0]; simp)
  go_wp2_with fail
  go_ret2
  exact bO F HC
 have F:=hid (show J4 t=(decide (q9 t.kids≤100) && decide (t.kids.length - q9 t.kids≤200) && (t.kids.drop (q9 t.kids)).all H6) by rw [MN.out,h0,h1,h2,h3]; rfl)
 have HNR:=hid h2
 have HSM:=hid (show ∀ k∈t.kids,O5 k=true from fun k hk => hZ h0 hk)
 have hus : t.text.size≤24:=by have:=o0 h2; rwa [d7] at this
 have hlt2:=B2.out.lt
 have c1:=B2.out.c1
 have c3:=B2.out.c3
 have HB3:=hid (a7 w2 (.cells #[.pointer none,.slice none 0 0] 112))
 have A0:=hid (Aft.start (a30 w2))
 go_wp2_with fail
 generalize hW : w2.alloc (.cells #[.pointer none,.slice none 0 0] 112)=W3 at HB3 A0 ⊢
 clear hW c1 c3
 have HM:=hid (show (⟨#[109,111,100,117,108,101,32]⟩ ++ t.text ++ ⟨#[59,10]⟩ : ByteArray).data.toList=U9 t by unfold U9; simp)
 have hms : (⟨#[109,111,100,117,108,101,32]⟩ ++ t.text ++ ⟨#[59,10]⟩ : ByteArray).size≤40:=by
  rw [← d7,HM.out]
  unfold U9
  simp only [List.length_append,List.length_cons,List.length_nil,d7]; omega
 have CW:=hid (l7 w2.heap.size w2.heap.size [] _ W3 A0.out.bld (by simp only [List.length_nil,Nat.zero_add]; exact Nat.le_trans hms (by decide)) HB3.out.size)
 clear hms
 (with_reducible refine Calls.mono CW.out ?_)
 rintro e w4 ⟨rfl,ha⟩
 rw [HM.out,List.nil_append] at ha
 have HA1:=hid ha
 have HD:=hid (HC.out.trans (((HB3.out.trans ha.below)).mono HC.out.size))
 have B4:=hid (B2.out.mono (HB3.out.trans ha.below) hlt2)
 clear ha CW HM A0 h1 h1' h2 h3 h3' h0
 have c3:=B4.out.c3
 have CI:=hid (lR t.kids n₀ a cap w4 (gX (HH.out.below (HD.out.mono hn))) hkc.1 hkc.2 (Nat.le_trans hn HD.out.size) (HE.out.below HD))
 go_wp2_with fail
 (with_reducible refine Calls.mono CI.out ?_)
 rintro e w5 ⟨rfl,hb⟩
 have HA2:=hid (HA1.out.after HB3.out.size hb)
 have HD5:=hid (HD.out.trans (hb.mono HD.out.size))
 have B5:=hid (B4.out.below hb)
 have hlt5:=B5.out.lt
 clear hb CI c3 HD B4 HA1
 have c3:=B5.out.c3
 have hfn : (I5 2 t.kids=-1∧q9 t.kids=t.kids.length)∨(I5 2 t.kids=(q9 t.kids : Int)∧q9 t.kids<t.kids.length):=by
  have:=rS t.kids
  unfold I5
  split
  ·rename_i h; exact .inl ⟨rfl,h⟩
  ·rename_i h; exact .inr ⟨rfl,by unfold q9 at this ⊢; omega⟩
 rcases hfn with ⟨f1,f2⟩ | ⟨f1,f2⟩
 ·rw [f1]
  rw [f2] at F
  have HF2:=hid f2
  clear f1 f2
  by_cases h100 : 100<(t.kids.length : Int)
  ·have F':=hid (show J4 t=false by rw [F.out,decide_eq_false (show ¬ t.kids.length≤100 by omega)]; rfl)
   go_wp2_with fail
   go_ret2
   exact bO F' HD5
  have HIL:=hid (show q9 t.kids≤100 by rw [HF2.out]; omega)
  have F':=hid (show J4 t=true by rw [F.out,decide_eq_true (show t.kids.length≤100 by omega),Nat.sub_self,List.drop_length]; rfl)
  go_wp2_with fail
  clear c3
  go_loopw [57] (fun i wr => ∃ k : Nat,k≤t.kids.length∧i=.int .i64 k∧Hid (Aft w2.heap.size w2.heap.size (U9 t ++ (t.kids.take k).flatMap eS) W3 wr)) (fun i _ => t.kids.length - (intOf i).toNat)
  case atStart => exact ⟨0,Nat.zero_le _,rfl,by show Aft _ _ _ _ _; rw [List.take_zero,List.flatMap_nil,List.append_nil]; exact HA2⟩
  case round =>
   obtain ⟨k,hk,rfl,HAr⟩:=hrel
   clear HA2 HD5
   have HBw:=hid (HC.out.trans ((HB3.out.trans HAr.out.below).mono HC.out.size))
   have BX:=hid (B2.out.mono (HB3.out.trans HAr.out.below) hlt2)
   by_cases hlt : k<t.kids.length
   ·have hbare:=eR (show k<q9 t.kids by rw [HF2.out]; exact hlt) (by omega)
    obtain ⟨b,off,y,cy,A⟩:=(HH.out.below (HBw.out.mono hn)).kid k (by omega)
    obtain ⟨rfl,hb0,d0,d1,d2,d3,d4,hk1⟩:=A
    have S:=hid (iA (f:=eS) t.kids k (by omega))
    have hks : t.kids[k].text.size≤24:=by have:=o0 (E0 hbare).1; rwa [d7] at this
    have HI:=hid (show (⟨#[105,109,112,111,114,116,32]⟩ ++ t.kids[k].text ++ ⟨#[59,10]⟩ : ByteArray).data.toList=eS t.kids[k] by unfold eS; simp)
    have his : (⟨#[105,109,112,111,114,116,32]⟩ ++ t.kids[k].text ++ ⟨#[59,10]⟩ : ByteArray).size≤40:=by
     rw [← d7,HI.out]; exact mP hbare
    have hml:=qT HNR HIL k (by rw [HF2.out]; omega)
    have A1:=hid (HAr.out.after HB3.out.size (a7 wr (.cells #[.int .i64 t.kids[k].kind,.string t.kids[k].text,.int .i64 t.kids[k].n,.slice y t.kids[k].kids.length cy,.int .i64 t.kids[k].place] 24)))
    have CW:=hid (l7 w2.heap.size w2.heap.size _ (⟨#[105,109,112,111,114,116,32]⟩ ++ t.kids[k].text ++ ⟨#[59,10]⟩ : ByteArray) _ A1.out.bld (by omega) (A1.out.size HB3.out.size))
    clear hbare hk1 his hml
    go_wp2_with fail
    (with_reducible refine Calls.mono CW.out ?_)
    rintro e w6 ⟨rfl,ha⟩
    rw [HI.out,List.append_assoc,← S.out] at ha
    have A2:=hid (A1.out.trans ha)
    clear ha
    go_wp2_with fail
    go_roundw
    case rel => exact ⟨k + 1,by omega,by go_num,A2⟩
    case measure => simp [intOf]; omega
   ·have hkz : k=t.kids.length:=by omega
    subst hkz
    have c3:=BX.out.c3
    go_wp2_with fail
    all_goals
     have HAz:=HAr
     clear HAr BX c3
     generalize wr=wo at HAz HBw ⊢
     go_loopw [72] (fun i x => i=.int .i64 0∧Hid (Aft w2.heap.size w2.heap.size (U9 t ++ (t.kids.take t.kids.length).flatMap eS) W3 x)) (fun _ _ => 0)
     case atStart => exact ⟨rfl,HAz⟩
     case round =>
      obtain ⟨rfl,HAy⟩:=hrel
      clear HAz HBw
      have CB:=hid (iX w2.heap.size w2.heap.size _ wr HAy.out.bld (HAy.out.size HB3.out.size))
      go_wp2_with fail
      (with_reducible refine Calls.mono CB.out ?_)
      rintro e w6 ⟨rfl,-,hb6,-⟩
      have HE6:=hid (HC.out.trans ((HB3.out.trans (HAy.out.below.trans hb6)).mono HC.out.size))
      clear hb6
      go_wp2_with fail
      go_ret2
      exact ⟨xM (by unfold a3c; rw [if_pos F'.out]; unfold a5c; rw [HF2.out,List.drop_length,List.flatMap_nil,List.append_nil,List.take_length]) (by unfold pX; rw [if_pos F'.out]),HE6⟩
 ·rw [f1]
  have hL:=rS t.kids
  have HF1:=hid (show I5 2 t.kids=(q9 t.kids : Int) from f1)
  obtain ⟨L,hLe⟩ : ∃ L,L=q9 t.kids:=⟨_,rfl⟩
  rw [← hLe] at F f2 ⊢
  have HF2:=hid hLe.symm
  clear f1 hL hLe HF1
  by_cases h100 : 100<(L : Int)
  ·have F':=hid (show J4 t=false by rw [F.out,decide_eq_false (show ¬ L≤100 by omega)]; rfl)
   go_wp2_with fail
   go_ret2
   exact bO F' HD5
  by_cases h200 : 200<(t.kids.length : Int) - L
  ·have F':=hid (show J4 t=false by rw [F.out,decide_eq_false (show ¬ t.kids.length - L≤200 by omega)]; simp)
   go_wp2_with fail
   go_ret2
   exact bO F' HD5
  have HIL:=hid (show q9 t.kids≤100 by rw [HF2.out]; omega)
  have F':=hid (show J4 t=(t.kids.drop L).all H6 by rw [F.out,decide_eq_true (show L≤100 by omega),decide_eq_true (show t.kids.length - L≤200 by omega)]; rfl)
  have hLc : L<cap:=by omega
  go_wp2_with fail
  clear c3
  go_loopw [57] (fun i wr => ∃ k : Nat,k≤L∧i=.int .i64 k∧Hid (Aft w2.heap.size w2.heap.size (U9 t ++ (t.kids.take k).flatMap eS) W3 wr)) (fun i _ => L - (intOf i).toNat)
  case atStart => exact ⟨0,Nat.zero_le _,rfl,by show Aft _ _ _ _ _; rw [List.take_zero,List.flatMap_nil,List.append_nil]; exact HA2⟩
  case round =>
   obtain ⟨k,hk,rfl,HAr⟩:=hrel
   clear HA2 HD5
   have HBw:=hid (HC.out.trans ((HB3.out.trans HAr.out.below).mono HC.out.size))
   have BX:=hid (B2.out.mono (HB3.out.trans HAr.out.below) hlt2)
   by_cases hlt : k<L
   ·have hbare:=eR (show k<q9 t.kids by rw [HF2.out]; exact hlt) (by omega)
    obtain ⟨b,off,y,cy,A⟩:=(HH.out.below (HBw.out.mono hn)).kid k (by omega)
    obtain ⟨rfl,hb0,d0,d1,d2,d3,d4,hk1⟩:=A
    have S:=hid (iA (f:=eS) t.kids k (by omega))
    have hks : t.kids[k].text.size≤24:=by have:=o0 (E0 hbare).1; rwa [d7] at this
    have HI:=hid (show (⟨#[105,109,112,111,114,116,32]⟩ ++ t.kids[k].text ++ ⟨#[59,10]⟩ : ByteArray).data.toList=eS t.kids[k] by unfold eS; simp)
    have his : (⟨#[105,109,112,111,114,116,32]⟩ ++ t.kids[k].text ++ ⟨#[59,10]⟩ : ByteArray).size≤40:=by
     rw [← d7,HI.out]; exact mP hbare
    have hml:=qT HNR HIL k (by rw [HF2.out]; omega)
    have A1:=hid (HAr.out.after HB3.out.size (a7 wr (.cells #[.int .i64 t.kids[k].kind,.string t.kids[k].text,.int .i64 t.kids[k].n,.slice y t.kids[k].kids.length cy,.int .i64 t.kids[k].place] 24)))
    have CW:=hid (l7 w2.heap.size w2.heap.size _ (⟨#[105,109,112,111,114,116,32]⟩ ++ t.kids[k].text ++ ⟨#[59,10]⟩ : ByteArray) _ A1.out.bld (by omega) (A1.out.size HB3.out.size))
    clear hbare hk1 his hml
    go_wp2_with fail
    (with_reducible refine Calls.mono CW.out ?_)
    rintro e w6 ⟨rfl,ha⟩
    rw [HI.out,List.append_assoc,← S.out] at ha
    have A2:=hid (A1.out.trans ha)
    clear ha
    go_wp2_with fail
    go_roundw
    case rel => exact ⟨k + 1,by omega,by go_num,A2⟩
    case measure => simp [intOf]; omega
   ·have hkz : k=L:=by omega
    subst hkz
    obtain ⟨b,off,y0,cy0,A⟩:=(HH.out.below (HBw.out.mono hn)).kid k f2
    obtain ⟨rfl,hb0,-,-,-,-,-,-⟩:=A
    obtain ⟨m,hm⟩ : ∃ m,t.kids.length=k + m:=⟨t.kids.length - k,by omega⟩
    have c3:=BX.out.c3
    have HZ:=hid hm
    have hm2 : m≤200:=by omega
    clear hm
    go_wp2_with fail
    rw [show t.kids.length - k=m by have:=HZ.out; omega]
    have hml:=qT HNR HIL k (by rw [HF2.out]; omega)
    have HAz:=HAr
    clear HAr BX c3 B5 F h100 h200 hlt hlt5
    generalize wr=wo at HAz HBw ⊢
    go_loopw [72] (fun i x => ∃ j : Nat,j≤m∧i=.int .i64 j∧Hid (Aft w2.heap.size w2.heap.size (U9 t ++ (t.kids.take k).flatMap eS ++ ((t.kids.drop k).take j).flatMap eT) W3 x)∧Hid (∀ i (hi : i<t.kids.length),k≤i→i<k + j→H6 t.kids[i]=true)∧(((t.kids.drop k).take j).flatMap eT).length≤j * 1100000) (fun i _ => m - (intOf i).toNat)
    case atStart => exact ⟨0,Nat.zero_le _,rfl,by show Aft _ _ _ _ _; rw [List.take_zero,List.flatMap_nil,List.append_nil]; exact HAz,fun i hi h h' => by omega,by simp⟩
    case round =>
     obtain ⟨j,hj,rfl,HAy,HAll,hjl⟩:=hrel
     clear HAz HBw
     have HBw:=hid (HC.out.trans ((HB3.out.trans HAy.out.below).mono HC.out.size))
     by_cases hlt : j<m
     ·have hkj : k + j<t.kids.length:=by have:=HZ.out; omega
      obtain ⟨b',off',y,cy,A⟩:=(HH.out.below (HBw.out.mono hn)).kid (k + j) hkj
      obtain ⟨hA,hb0',d0,d1,d2,d3,d4,hk1⟩:=A
      obtain ⟨rfl,rfl⟩ : b=b'∧off=off':=by injection hA with q; injection q with q1 q2; exact ⟨q1,q2⟩
      have eadd : off + (k + j) * 5=off + k * 5 + j * 5:=by omega
      rw [eadd] at d0 d1 d2 d3 d4
      have S:=hid (show ((t.kids.drop k).take (j + 1)).flatMap eT=((t.kids.drop k).take j).flatMap eT ++ eT t.kids[k + j] by
       have:=iA (f:=eT) (t.kids.drop k) j (by rw [List.length_drop]; omega)
       rwa [List.getElem_drop] at this)
      have hsk:=HSM.out _ (List.getElem_mem hkj)
      have hb1:=a7 wr (.cells #[.int .i64 t.kids[k + j].kind,.string t.kids[k + j].text,.int .i64 t.kids[k + j].n,.slice y t.kids[k + j].kids.length cy,.int .i64 t.kids[k + j].place] 24)
      have A1:=hid (HAy.out.after HB3.out.size hb1)
      have hBx : w2.heap.size≤wr.heap.size:=HAy.out.size HB3.out.size
      have HB1:=hid (HBw.out.trans (hb1.mono HBw.out.size))
      have hll : (U9 t ++ (t.kids.take k).flatMap eS ++ ((t.kids.drop k).take j).flatMap eT).length≤1000000000:=by
       rw [List.length_append]; omega
      have CL:=hid (a26 t.kids[k + j] y cy n₀ w2.heap.size w2.heap.size _ _ (hk1.below (hb1.mono (Nat.le_trans hn HBw.out.size))) (HSH.out.kid (k + j) hkj) (Nat.le_trans hn HC.out.size) (A1.out.size HB3.out.size) (HE.out.below HB1) (HTA.out.below HB1) A1.out.bld (fun u hu => hZ hsk hu) hll)
      have HLL:=hid (show H6 t.kids[k + j]=true→(eT t.kids[k + j]).length≤1100000 from fun h => a2O h (hZ hsk (tT (hJ h).2.1)))
      clear hk1 hA hsk hb1 hll eadd
      go_wp2_with fail
      (with_reducible refine Calls.mono CL.out ?_)
      rintro e w6 ⟨rfl,ha⟩
      have HA6:=hid ha
      clear ha CL
      cases hlet : H6 t.kids[k + j]
      ·have F2:=hid (show J4 t=false by rw [F'.out,yB (kX hkj (Nat.le_add_right _ _)) hlet])
       have HE6:=hid (HC.out.trans ((HB3.out.trans (A1.out.below.trans HA6.out.below)).mono HC.out.size))
       clear hlet
       go_wp2_with fail
       go_ret2
       exact bO F2 HE6
      ·have HLT:=hid hlet
       have hl2:=HLL.out hlet
       rw [if_pos hlet,List.append_assoc,← S.out] at HA6
       have A2:=hid (A1.out.trans HA6)
       have hjl2 : (((t.kids.drop k).take (j + 1)).flatMap eT).length≤(j + 1) * 1100000:=by
        rw [S.out,List.length_append]; omega
       clear hlet hl2
       go_wp2_with fail
       go_roundw
       case rel =>
        refine ⟨j + 1,by omega,by go_num,A2,fun i hi h h' => ?_,hjl2⟩
        by_cases e : i=k + j
        ·subst e; exact HLT
        ·exact HAll.out i hi h (by omega)
       case measure => simp [intOf]; omega
     ·have F2:=hid (show J4 t=true by rw [F'.out,a2E fun i hi h => HAll.out i hi h (by have:=HZ.out; omega)])
      have CB:=hid (iX w2.heap.size w2.heap.size _ wr HAy.out.bld (HAy.out.size HB3.out.size))
      have T:=hid (show (t.kids.drop k).take j=t.kids.drop k from List.take_of_length_le (by rw [List.length_drop,HZ.out]; omega))
      go_wp2_with fail
      (with_reducible refine Calls.mono CB.out ?_)
      rintro e w6 ⟨rfl,-,hb6,-⟩
      have HE6:=hid (HC.out.trans ((HB3.out.trans (HAy.out.below.trans hb6)).mono HC.out.size))
      clear hb6
      go_wp2_with fail
      go_ret2
      exact ⟨xM (by unfold a3c; rw [if_pos F2.out,T.out]; unfold a5c; rw [HF2.out]; simp only [List.append_assoc]) (by unfold pX; rw [if_pos F2.out]),HE6⟩
theorem kQ (t : Nd) (a : Option Addr) (cap n₀ : Nat) (w : World) (hh : t.hold n₀ w a cap) (hs : o6 t) (hn : n₀≤w.heap.size) (he : Env w) (hta : Tab w) :
 Calls Tryz.prog 23 #[.agg #[.int .i64 t.kind,.string t.text,.int .i64 t.n,.slice a t.kids.length cap,.int .i64 t.place]] w fun e w' => e=.returned (.bool (J4 t))∧Below w.heap.size w w':=by
 have HB:=hid (a7 w (.cells #[.int .i64 t.kind,.string t.text,.int .i64 t.n,.slice a t.kids.length cap,.int .i64 t.place] 24))
 have C:=hid (tR t a cap n₀ _ (hh.below (HB.out.mono hn)) hs (Nat.le_trans hn HB.out.size) (he.below HB) (hta.below HB))
 clear hh hs he hta
 cases hm : J4 t
 ·have HM:=hid hm
  have e0 : pX t=90:=by unfold pX; rw [if_neg (by rw [hm]; decide)]
  rw [e0] at C
  clear hm e0
  go_enter Tryz.func23,Tryz.ntmps23
  go_wp2_with fail
  (with_reducible refine Calls.mono C.out ?_)
  rintro e w2 ⟨rfl,hb⟩
  have HC:=hid (HB.out.trans (hb.mono HB.out.size))
  clear hb
  go_wp2_with fail
  go_ret
  exact ⟨rfl,HC⟩
 ·have HM:=hid hm
  have e0 : pX t=0:=by unfold pX; rw [if_pos hm]
  rw [e0] at C
  clear hm e0
  go_enter Tryz.func23,Tryz.ntmps23
  go_wp2_with fail
  (with_reducible refine Calls.mono C.out ?_)
  rintro e w2 ⟨rfl,hb⟩
  have HC:=hid (HB.out.trans (hb.mono HB.out.size))
  clear hb
  go_wp2_with fail
  go_ret
  exact ⟨rfl,HC⟩
end
end Go.Proofs.YtppcfebnaieciaaGreatDoor
