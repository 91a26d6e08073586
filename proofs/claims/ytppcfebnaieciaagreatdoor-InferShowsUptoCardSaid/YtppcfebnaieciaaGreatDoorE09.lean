/-
  Laws that the proof rests on.
-/
import Derived.Test.YtppcfebnaieciaaGreatDoorE08
import Derived.Test.YtppcfebnaieciaaGreatDoorE04
import Derived.Test.YtppcfebnaieciaaGreatDoorE06
import Derived.Test.YtppcfebnaieciaaGreatDoorE02
namespace Go.Proofs.YtppcfebnaieciaaGreatDoor
set_option maxRecDepth 100000
set_option maxHeartbeats 16000000
section
open Lib (hid)
open Go.RowKit Go.Shelf
def H5 (l : List UInt8) : Value:=.string ⟨l.toArray⟩
theorem hZ (w : World) (L : List (List UInt8)) (t : TypeId) (k : Nat) (hk : k<L.length) : (w.alloc (.cells (L.map H5).toArray t)).cell? ⟨w.heap.size,k,none⟩=some (H5 L[k]):=by
 have h : (w.alloc (.cells (L.map H5).toArray t)).heap[w.heap.size]?=some (.cells (L.map H5).toArray t):=by show (w.heap.push _)[w.heap.size]?=_; simp
 rw [Lib.cell_of_heap h]
 simp [hk]
theorem xB (w : World) : Calls Tryz.prog 110 #[] w fun e w' => e=.returned (.slice (some ⟨w.heap.size,0,none⟩) 13 13)∧w'=w.alloc (.cells (L4.map H5).toArray 9):=by
 go_enter Tryz.func110,Tryz.ntmps110
 go_wp2
 go_ret
 exact ⟨rfl,rfl⟩
theorem a5A {s : ByteArray} {l : List UInt8} (h : l≠s.data.toList) : ¬ (⟨l.toArray⟩ : ByteArray).toList=s.toList:=by
 rw [Lib.toList_data,Lib.toList_data]
 exact h
theorem zQ {s : ByteArray} {l : List UInt8} (h : l≠s.data.toList) : ((⟨l.toArray⟩ : ByteArray).toList == s.toList)=false:=beq_eq_false_iff_ne.2 (a5A h)
theorem a3d {s : ByteArray} {l : List UInt8} (h : l=s.data.toList) : s=⟨l.toArray⟩:=by
 subst h; cases s; simp
theorem a0d {L : List (List UInt8)} {l : List UInt8} {k : Nat} (hk : k<L.length) (h : L[k]=l) : L.contains l=true:=by
 rw [List.contains_iff_mem,← h]; exact List.getElem_mem _
theorem a3g {L : List (List UInt8)} {l : List UInt8} (h : ∀ j (hj : j<L.length),L[j]≠l) : L.contains l=false:=by
 rw [Bool.eq_false_iff]
 intro e
 obtain ⟨j,hj,e2⟩:=List.getElem_of_mem (List.contains_iff_mem.1 e)
 exact h j hj e2
theorem eF (s : ByteArray) (w : World) : Calls Tryz.prog 73 #[.string s] w fun e w' => e=.returned (.bool (aI s.data.toList))∧Below w.heap.size w w':=by
 have hc : Hid (∀ (k : Nat) (hk : k<L4.length),(w.alloc (.cells (L4.map H5).toArray 9)).cell? ⟨w.heap.size,k,none⟩=some (H5 L4[k])):=hZ w L4 _
 have HB:=hid (a7 w (.cells (L4.map H5).toArray 9))
 go_enter Tryz.func73,Tryz.ntmps73
 go_wp2_with (go_at_call 110; refine (xB _).mono ?_; rintro e w' ⟨rfl,rfl⟩)
 generalize (w.alloc (.cells (L4.map H5).toArray 9))=W1 at hc HB ⊢
 go_loop [4] (fun i => ∃ k : Nat,k≤13∧i=.int .i64 k∧Hid (∀ j (hj : j<L4.length),j<k→L4[j]≠s.data.toList)) (fun i => 13 - (intOf i).toNat)
 case atStart => exact ⟨0,by omega,rfl,fun j hj h => by omega⟩
 case round =>
  obtain ⟨k,hk,rfl,HI⟩:=hrel
  by_cases hlt : k<13
  ·have c:=hc.out k hlt
   by_cases he : L4[k]'hlt=s.data.toList
   ·have F:=hid (show aI s.data.toList=true from a0d hlt he)
    have e1:=a3d he
    unfold H5 at c
    rw [← e1] at c
    clear e1 he
    go_wp2
    go_ret
    exact ⟨i7 F.out.symm,HB⟩
   ·have e1:=zQ he
    unfold H5 at c
    have HE:=hid he
    clear he
    generalize (⟨(L4[k]'hlt).toArray⟩ : ByteArray)=x at c e1
    go_wp2
    go_round
    case rel =>
     refine ⟨k + 1,by omega,by go_num,fun j hj h => ?_⟩
     by_cases ej : j=k
     ·subst ej; exact HE
     ·exact HI.out j hj (by omega)
    case measure => simp [intOf]; omega
  ·have F:=hid (show aI s.data.toList=false from a3g fun j hj => HI.out j hj (by have : j<13:=hj; omega))
   go_wp2
   go_ret
   exact ⟨i7 F.out.symm,HB⟩
theorem H6 (s : ByteArray) (w : World) (hs : s.size≤maxLen) : Calls Tryz.prog 39 #[.string s] w fun e w' => e=.returned (.bool (j8 s.data.toList))∧Below w.heap.size w w':=by
 have E:=hid (show j8 s.data.toList=(cE s.data.toList && !aI s.data.toList) by rw [eN]; rfl)
 cases h1 : cE s.data.toList
 all_goals
  go_enter Tryz.func39,Tryz.ntmps39
  go_wp2_with (first | (go_at_call 72; refine (cG s _ hs).mono ?_; rintro e w' ⟨rfl,rfl⟩; rw [h1]) | (go_at_call 73; refine (eF s _).mono ?_; rintro e w' ⟨rfl,hb⟩))
  go_ret
  exact ⟨i7 (by rw [E.out,h1]; rfl),hb⟩
theorem a0Y (s : ByteArray) (w : World) : Calls Tryz.prog 169 #[.string s] w fun e w' => e=.returned (.bool (cB s.data.toList))∧Below w.heap.size w w':=by
 have hc : Hid (∀ (k : Nat) (hk : k<v7.length),(w.alloc (.cells (v7.map H5).toArray 9)).cell? ⟨w.heap.size,k,none⟩=some (H5 v7[k])):=hZ w v7 _
 have HB:=hid (a7 w (.cells (v7.map H5).toArray 9))
 go_enter Tryz.func169,Tryz.ntmps169
 go_wp2
 have ew : w.alloc (.cells (v7.map H5).toArray 9)=w.alloc (.cells #[H5 [111,114],H5 [97,110,100],H5 [60],H5 [60,61],H5 [61],H5 [43],H5 [45],H5 [42],H5 [47]] 9):=rfl
 rw [ew] at hc HB
 unfold H5 at HB hc
 generalize (w.alloc _)=W1 at hc HB ⊢
 go_loop [4] (fun i => ∃ k : Nat,k≤9∧i=.int .i64 k∧Hid (∀ j (hj : j<v7.length),j<k→v7[j]≠s.data.toList)) (fun i => 9 - (intOf i).toNat)
 case atStart => exact ⟨0,by omega,rfl,fun j hj h => by omega⟩
 case round =>
  obtain ⟨k,hk,rfl,HI⟩:=hrel
  by_cases hlt : k<9
  ·have c:=hc.out k hlt
   by_cases he : v7[k]'hlt=s.data.toList
   ·have F:=hid (show cB s.data.toList=true from a0d hlt he)
    have e1:=a3d he
    rw [← e1] at c
    clear e1 he
    go_wp2
    go_ret
    exact ⟨i7 F.out.symm,HB⟩
   ·have e1:=zQ he
    have HE:=hid he
    clear he
    generalize (⟨(v7[k]'hlt).toArray⟩ : ByteArray)=x at c e1
    go_wp2
    go_round
    case rel =>
     refine ⟨k + 1,by omega,by go_num,fun j hj h => ?_⟩
     by_cases ej : j=k
     ·subst ej; exact HE
     ·exact HI.out j hj (by omega)
    case measure => simp [intOf]; omega
  ·have F:=hid (show cB s.data.toList=false from a3g fun j hj => HI.out j hj (by have : j<9:=hj; omega))
   go_wp2
   go_ret
   exact ⟨i7 F.out.symm,HB⟩
end
section
open Lib (hid)
open Go.RowKit Go.Shelf
def Fm.ty : Fm→TypeId
 | .leaf _ => 150
 | .called _ _ => 149
 | .unary _ _ => 177
 | .binary _ _ _ => 179
 | .choice _ _ _ => 175
def Fm.fn : Fm→Nat
 | .leaf _ => 232
 | .called _ _ => 119
 | .unary _ _ => 234
 | .binary _ _ _ => 236
 | .choice _ _ _ => 233
mutual
def Fm.is (av : Nat→Prop) (W : World) : Fm→Value→Prop
 | .leaf s,x => x=.string s∧s.size≤maxLen
 | .called h ks,x => ∃ a cap,x=.agg #[.string h,.slice a ks.length cap]∧h.size≤maxLen∧ks.length≤cap∧cap≤maxLen∧Fm.are av W ks a 0
 | .unary s k,x => ∃ y z,x=.agg #[.iface s.ty y,.iface k.ty z]∧Fm.is av W s y∧Fm.is av W k z
 | .binary a s b,x => ∃ y u z,x=.agg #[.iface a.ty y,.iface s.ty u,.iface b.ty z]∧Fm.is av W a y∧Fm.is av W s u∧Fm.is av W b z
 | .choice a b c,x => ∃ y u z,x=.agg #[.iface a.ty y,.iface b.ty u,.iface c.ty z]∧Fm.is av W a y∧Fm.is av W b u∧Fm.is av W c z
def Fm.are (av : Nat→Prop) (W : World) : List Fm→Option Addr→Nat→Prop
 | [],_,_ => True
 | k :: ks,a,i => (∃ g y cur fz,a=some ⟨g,0,none⟩∧av g∧W.heap[g]?=some (.cells cur 145 fz)∧cur[i]?=some (.iface k.ty y)∧Fm.is av W k y)∧Fm.are av W ks a (i + 1)
end
mutual
theorem Fm.is.kept {av av' : Nat→Prop} {W W' : World} (h : ∀ g cur fz,av g→W.heap[g]?=some (.cells cur 145 fz)→av' g∧W'.heap[g]?=some (.cells cur 145 fz)) : ∀ (f : Fm) {x : Value},f.is av W x→f.is av' W' x
 | .leaf _,_,hx => hx
 | .called _ ks,_,⟨a,cap,e,h1,h2,h3,h4⟩ => ⟨a,cap,e,h1,h2,h3,Fm.are.kept h ks h4⟩
 | .unary s k,_,⟨y,z,e,h1,h2⟩ => ⟨y,z,e,Fm.is.kept h s h1,Fm.is.kept h k h2⟩
 | .binary a s b,_,⟨y,u,z,e,h1,h2,h3⟩ => ⟨y,u,z,e,Fm.is.kept h a h1,Fm.is.kept h s h2,Fm.is.kept h b h3⟩
 | .choice a s b,_,⟨y,u,z,e,h1,h2,h3⟩ => ⟨y,u,z,e,Fm.is.kept h a h1,Fm.is.kept h s h2,Fm.is.kept h b h3⟩
theorem Fm.are.kept {av av' : Nat→Prop} {W W' : World} (h : ∀ g cur fz,av g→W.heap[g]?=some (.cells cur 145 fz)→av' g∧W'.heap[g]?=some (.cells cur 145 fz)) : ∀ (fs : List Fm) {a : Option Addr} {i : Nat},Fm.are av W fs a i→Fm.are av' W' fs a i
 | [],_,_,_ => trivial
 | k :: ks,_,_,⟨⟨g,y,cur,fz,e,hg,hh,hc,hi⟩,hr⟩ => ⟨⟨g,y,cur,fz,e,(h g cur fz hg hh).1,(h g cur fz hg hh).2,hc,Fm.is.kept h k hi⟩,Fm.are.kept h ks hr⟩
end
theorem Fm.are.get {av : Nat→Prop} {W : World} {a : Option Addr} : ∀ (fs : List Fm) (i : Nat),Fm.are av W fs a i→∀ j (hj : j<fs.length),∃ g y cur fz,a=some ⟨g,0,none⟩∧av g∧W.heap[g]?=some (.cells cur 145 fz)∧cur[i + j]?=some (.iface fs[j].ty y)∧Fm.is av W fs[j] y
 | k :: ks,i,⟨h,hr⟩,j,hj => by
   cases j with
   | zero => exact h
   | succ j =>
     have:=Fm.are.get ks (i + 1) hr j (by simpa using hj)
     rw [show i + (j + 1)=i + 1 + j by omega]
     exact this
theorem a4E (y : Value) (k : Nat) (w : World) : (method (k + 1) 150 y "usance/show.write").run Tryz.prog w=.ok (232,y) w:=by kernel_rfl
theorem a1b (y : Value) (k : Nat) (w : World) : (method (k + 1) 149 y "usance/show.write").run Tryz.prog w=.ok (119,y) w:=by kernel_rfl
theorem a1W (y : Value) (k : Nat) (w : World) : (method (k + 1) 177 y "usance/show.write").run Tryz.prog w=.ok (234,y) w:=by kernel_rfl
theorem a1j (y : Value) (k : Nat) (w : World) : (method (k + 1) 179 y "usance/show.write").run Tryz.prog w=.ok (236,y) w:=by kernel_rfl
theorem a03 (y : Value) (k : Nat) (w : World) : (method (k + 1) 175 y "usance/show.write").run Tryz.prog w=.ok (233,y) w:=by kernel_rfl
theorem mt (f : Fm) (y : Value) (k : Nat) (w : World) : (method (k + 1) f.ty y "usance/show.write").run Tryz.prog w=.ok (f.fn,y) w:=by
 cases f
 ·exact a4E y k w
 ·exact a1b y k w
 ·exact a1W y k w
 ·exact a1j y k w
 ·exact a03 y k w
theorem en (f : Fm) : ∀ args w,(callFunc f.fn args).run Tryz.prog w=.ok (.enter f.fn args) w:=by
 cases f
 ·exact enters_of Tryz.func232 (by kernel_rfl) rfl
 ·exact enters_of Tryz.func119 (by kernel_rfl) rfl
 ·exact enters_of Tryz.func234 (by kernel_rfl) rfl
 ·exact enters_of Tryz.func236 (by kernel_rfl) rfl
 ·exact enters_of Tryz.func233 (by kernel_rfl) rfl
structure Aft (B b : Nat) (l : List UInt8) (w w' : World) : Prop where
 bld : Bld B b l w'
 below : Below B w w'
 keeps : zH b w w'
theorem Aft.start {B b : Nat} {l : List UInt8} {w : World} (h : Bld B b l w) : Aft B b l w w:=⟨h,Below.refl _ _,Lib.OthersKept.refl _ _ _⟩
theorem Aft.alloc {B b : Nat} {l : List UInt8} {w w' : World} (h : Aft B b l w w') (hB : B≤w.heap.size) (o : Obj) : Aft B b l w (w'.alloc o) :=
 ⟨Lib.IsBuilderF.alloc h.bld o,h.below.alloc (Nat.le_trans hB h.below.size) o,h.keeps.alloc o⟩
theorem Aft.trans {B b : Nat} {l l' : List UInt8} {w w1 w2 : World} (h : Aft B b l w w1) (k : Aft B b l' w1 w2) : Aft B b l' w w2 :=
 ⟨k.bld,h.below.trans k.below,h.keeps.trans k.keeps⟩
theorem Aft.size {B b : Nat} {l : List UInt8} {w w' : World} (h : Aft B b l w w') (hB : B≤w.heap.size) : B≤w'.heap.size:=Nat.le_trans hB h.below.size
theorem Aft.block {B b : Nat} {l : List UInt8} {w w' : World} (h : Aft B b l w w') {k : Nat} {cs : Array Value} {T : TypeId} {fz : Nat × Nat} (hk : w.heap[k]?=some (.cells cs T fz)) (hb : k≠b) (hT : T≠5) : w'.heap[k]?=some (.cells cs T fz) :=
 h.keeps k _ hk (fun e => hb (Option.some.inj e)) (fun c z e => hT (by injection e))
theorem Fm.is.aft {B b : Nat} {l : List UInt8} {w w' : World} (h : Aft B b l w w') {f : Fm} {x : Value} (hf : f.is (· ≠ b) w x) : f.is (· ≠ b) w' x :=
 Fm.is.kept (fun g _ _ hg hh => ⟨hg,h.block hh hg (by decide)⟩) f hf
theorem Fm.are.aft {B b : Nat} {l : List UInt8} {w w' : World} (h : Aft B b l w w') {fs : List Fm} {a : Option Addr} {i : Nat} (hf : Fm.are (· ≠ b) w fs a i) : Fm.are (· ≠ b) w' fs a i :=
 Fm.are.kept (fun g _ _ hg hh => ⟨hg,h.block hh hg (by decide)⟩) fs hf
theorem Bld.lt {B b : Nat} {l : List UInt8} {w : World} (h : Bld B b l w) : b<w.heap.size:=by
 rcases h with h | h <;> exact h.lt
theorem aD (w : World) (o : Obj) : (w.alloc o).heap[w.heap.size]?=some o:=by show (w.heap.push o)[w.heap.size]?=_; simp
def O2 (f : Fm) : Prop:=∀ (x : Value) (B b : Nat) (l : List UInt8) (w : World),f.is (· ≠ b) w x→Bld B b l w→l.length + f.text.length≤1099511627776→B≤w.heap.size →
 Calls Tryz.prog f.fn #[x,.pointer (some ⟨b,0,none⟩)] w fun e w' => e=.returned (.tuple #[])∧Aft B b (l ++ f.text) w w'
theorem l8 (B b : Nat) (l : List UInt8) (s : ByteArray) (w : World) (h : Bld B b l w) (hlen : l.length + s.size≤1099511627776) (hBw : B≤w.heap.size) :
 Calls Tryz.prog 69 #[.pointer (some ⟨b,0,none⟩),.string s] w fun e w' => e=.returned (.tuple #[.int .i64 s.size,.nilIface])∧Aft B b (l ++ s.data.toList) w w' :=
 (wZ B b l s w h (by omega) hBw).mono fun _ _ ⟨h1,h2,h3,h4⟩ => ⟨h1,h2,h3,h4⟩
theorem a02 (s : ByteArray) : O2 (.leaf s):=by
 intro x B b l w hf hb hlen hB
 obtain ⟨rfl,-⟩:=hf
 have hl : l.length + s.size≤1099511627776:=by
  have : (Fm.leaf s).text.length=s.size:=by rw [Fm.text]; exact d6 s
  omega
 show Calls Tryz.prog 232 _ w _
 go_enter Tryz.func232,Tryz.ntmps232
 go_wp2_with (go_at_call 69; refine (l8 B b l s _ hb hl hB).mono ?_; rintro e w' ⟨rfl,ha⟩)
 refine bodyPost_end (results_none rfl _ _ _) rfl ?_
 exact ⟨rfl,by rw [Fm.text]; exact ha⟩
theorem oQ (v : Value) (w : World) : (Instr.typeAssert (.iface 150 v) 145 177 true).run Tryz.prog w=.ok (.tuple #[.agg #[.nilIface,.nilIface],.bool false]) w:=by kernel_rfl
theorem kH (v : Value) (w : World) : (Instr.typeAssert (.iface 149 v) 145 177 true).run Tryz.prog w=.ok (.tuple #[.agg #[.nilIface,.nilIface],.bool false]) w:=by kernel_rfl
theorem nY (v : Value) (w : World) : (Instr.typeAssert (.iface 177 v) 145 177 true).run Tryz.prog w=.ok (.tuple #[v,.bool true]) w:=by kernel_rfl
theorem kM (v : Value) (w : World) : (Instr.typeAssert (.iface 179 v) 145 177 true).run Tryz.prog w=.ok (.tuple #[.agg #[.nilIface,.nilIface],.bool false]) w:=by kernel_rfl
theorem kG (v : Value) (w : World) : (Instr.typeAssert (.iface 175 v) 145 177 true).run Tryz.prog w=.ok (.tuple #[.agg #[.nilIface,.nilIface],.bool false]) w:=by kernel_rfl
theorem lV (v : Value) (w : World) : (Instr.typeAssert (.iface 150 v) 145 179 true).run Tryz.prog w=.ok (.tuple #[.agg #[.nilIface,.nilIface,.nilIface],.bool false]) w:=by kernel_rfl
theorem iG (v : Value) (w : World) : (Instr.typeAssert (.iface 149 v) 145 179 true).run Tryz.prog w=.ok (.tuple #[.agg #[.nilIface,.nilIface,.nilIface],.bool false]) w:=by kernel_rfl
theorem kE (v : Value) (w : World) : (Instr.typeAssert (.iface 177 v) 145 179 true).run Tryz.prog w=.ok (.tuple #[.agg #[.nilIface,.nilIface,.nilIface],.bool false]) w:=by kernel_rfl
theorem iU (v : Value) (w : World) : (Instr.typeAssert (.iface 179 v) 145 179 true).run Tryz.prog w=.ok (.tuple #[v,.bool true]) w:=by kernel_rfl
theorem iT (v : Value) (w : World) : (Instr.typeAssert (.iface 175 v) 145 179 true).run Tryz.prog w=.ok (.tuple #[.agg #[.nilIface,.nilIface,.nilIface],.bool false]) w:=by kernel_rfl
theorem lQ (v : Value) (w : World) : (Instr.typeAssert (.iface 150 v) 145 175 true).run Tryz.prog w=.ok (.tuple #[.agg #[.nilIface,.nilIface,.nilIface],.bool false]) w:=by kernel_rfl
theorem iO (v : Value) (w : World) : (Instr.typeAssert (.iface 149 v) 145 175 true).run Tryz.prog w=.ok (.tuple #[.agg #[.nilIface,.nilIface,.nilIface],.bool false]) w:=by kernel_rfl
theorem kL (v : Value) (w : World) : (Instr.typeAssert (.iface 177 v) 145 175 true).run Tryz.prog w=.ok (.tuple #[.agg #[.nilIface,.nilIface,.nilIface],.bool false]) w:=by kernel_rfl
theorem iI (v : Value) (w : World) : (Instr.typeAssert (.iface 179 v) 145 175 true).run Tryz.prog w=.ok (.tuple #[.agg #[.nilIface,.nilIface,.nilIface],.bool false]) w:=by kernel_rfl
theorem iP (v : Value) (w : World) : (Instr.typeAssert (.iface 175 v) 145 175 true).run Tryz.prog w=.ok (.tuple #[v,.bool true]) w:=by kernel_rfl
theorem lH (f : Fm) (hw : O2 f) (x : Value) (B b : Nat) (l : List UInt8) (w : World) (hf : f.is (· ≠ b) w x) (hb : Bld B b l w) (hlen : l.length + (U9 f.wrap f.text).length≤1099511627776) (hB : B≤w.heap.size) :
 Calls Tryz.prog 235 #[.pointer (some ⟨b,0,none⟩),.iface f.ty x] w fun e w' => e=.returned (.tuple #[])∧Aft B b (l ++ U9 f.wrap f.text) w w':=by
 have M:=mt f x
 have eg:=en f
 have HW:=hid hw
 clear hw
 by_cases hwr : f.wrap=true
 ·have E:=hid (show l ++ U9 f.wrap f.text=l ++ [40] ++ f.text ++ [41] by rw [hwr]; simp [U9])
  replace hlen : l.length + f.text.length + 2≤1099511627776:=by
   rw [hwr] at hlen
   simp [U9] at hlen
   omega
  have h1 : l.length + (⟨#[40]⟩ : ByteArray).size≤1099511627776:=by show l.length + 1≤_; omega
  cases f
  case leaf => cases hwr
  case called => cases hwr
  case' unary u1 u2 => have a1:=nY x; have a2:=kE x; have a3:=kL x; generalize hg : Fm.unary u1 u2=g at M eg HW E hf hlen ⊢; have ht : g.ty=177:=(by rw [← hg]; rfl); have HF:=hid (show g.fn=234 from hg ▸ rfl)
  case' binary u1 u2 u3 => have a1:=kM x; have a2:=iU x; have a3:=iI x; generalize hg : Fm.binary u1 u2 u3=g at M eg HW E hf hlen ⊢; have ht : g.ty=179:=(by rw [← hg]; rfl); have HF:=hid (show g.fn=236 from hg ▸ rfl)
  case' choice u1 u2 u3 => have a1:=kG x; have a2:=iT x; have a3:=iP x; generalize hg : Fm.choice u1 u2 u3=g at M eg HW E hf hlen ⊢; have ht : g.ty=175:=(by rw [← hg]; rfl); have HF:=hid (show g.fn=233 from hg ▸ rfl)
  all_goals
   rw [ht] at M ⊢
   clear ht hg hwr
   go_enter Tryz.func235,Tryz.ntmps235
   go_wp2_with fail
   refine Calls.mono (l8 B b l ⟨#[40]⟩ _ hb h1 hB) ?_
   rintro e w1 ⟨rfl,ha⟩
   have HA:=hid ha
   clear ha
   go_wp2_with fail
   first | refine Calls.mono (HW.out x B b (l ++ [40]) _ (Fm.is.aft HA hf) HA.out.bld (by simp; omega) (HA.out.size hB)) ?_ | refine Calls.mono (HW.out.at HF x B b (l ++ [40]) _ (Fm.is.aft HA hf) HA.out.bld (by simp; omega) (HA.out.size hB)) ?_
   rintro e w2 ⟨rfl,ha⟩
   have HA2:=hid (HA.out.trans ha)
   clear ha
   go_wp2_with fail
   refine Calls.mono (l8 B b _ ⟨#[41]⟩ _ HA2.out.bld (by simp [ByteArray.size]; omega) (HA2.out.size hB)) ?_
   rintro e w3 ⟨rfl,ha⟩
   have HA3:=hid (HA2.out.trans ha)
   clear ha
   go_wp2_with fail
   refine bodyPost_end (results_none rfl _ _ _) rfl ?_
   exact ⟨rfl,by rw [E.out]; exact HA3⟩
 ·have E:=hid (show l ++ U9 f.wrap f.text=l ++ f.text by rw [Bool.eq_false_iff.2 hwr]; rfl)
  replace hlen : l.length + f.text.length≤1099511627776:=by
   rw [Bool.eq_false_iff.2 hwr] at hlen
   exact hlen
  cases f
  case unary => exact absurd rfl hwr
  case binary => exact absurd rfl hwr
  case choice => exact absurd rfl hwr
  case' leaf u1 => have a1:=oQ x; have a2:=lV x; have a3:=lQ x; generalize hg : Fm.leaf u1=g at M eg HW E hf hlen ⊢; have ht : g.ty=150:=(by rw [← hg]; rfl); have HF:=hid (show g.fn=232 from hg ▸ rfl)
  case' called u1 u2 => have a1:=kH x; have a2:=iG x; have a3:=iO x; generalize hg : Fm.called u1 u2=g at M eg HW E hf hlen ⊢; have ht : g.ty=149:=(by rw [← hg]; rfl); have HF:=hid (show g.fn=119 from hg ▸ rfl)
  all_goals
   rw [ht] at M ⊢
   clear ht hg hwr
   go_enter Tryz.func235,Tryz.ntmps235
   go_wp2_with fail
   first | refine Calls.mono (HW.out x B b l _ hf hb (by omega) hB) ?_ | refine Calls.mono (HW.out.at HF x B b l _ hf hb (by omega) hB) ?_
   rintro e w2 ⟨rfl,ha⟩
   have HA:=hid ha
   clear ha
   go_wp2_with fail
   refine bodyPost_end (results_none rfl _ _ _) rfl ?_
   exact ⟨rfl,by rw [E.out]; exact HA⟩
end
section
open Lib (hid)
open Go.RowKit Go.Shelf
theorem rI {s : ByteArray} {j : Nat} (hj : j<s.size) : Lib.occAt s.data.toList [46] j=(s[j] == 46):=by
 unfold Lib.occAt
 rw [z8 hj,List.isPrefixOf,List.isPrefixOf,Bool.and_true,Bool.eq_iff_iff,beq_iff_eq,beq_iff_eq]
 exact eq_comm
theorem a4g {s : ByteArray} {k : Nat} (hk : k<s.size) (h : s[k]=46) (hn : ∀ j (hj : j<s.size),j<k→s[j]≠46) : qW s.data.toList=(j8 (s.extract 0 k).data.toList && j8 (s.extract (k + 1) s.size).data.toList):=by
 have hi : Lib.index s.data.toList [46]=k:=Lib.index_first (by rw [d6]; omega) (by rw [rI hk,h]; rfl) fun j hj => by
  rw [rI (show j<s.size by omega),beq_eq_false_iff_ne]; exact hn j _ hj
 obtain ⟨e1,e2,e3⟩:=Lib.cutB_hit s ⟨#[46]⟩ k hi
 have e1' : (⟨(Lib.cut s.data.toList [46]).1.toArray⟩ : ByteArray)=s.extract 0 k:=e1
 have e2' : (⟨(Lib.cut s.data.toList [46]).2.1.toArray⟩ : ByteArray)=s.extract (k + 1) s.size:=e2
 have e3' : (Lib.cut s.data.toList [46]).2.2=true:=e3
 unfold qW
 rw [e3',← e1',← e2']; rfl
theorem a0W {s : ByteArray} (hn : ∀ j (hj : j<s.size),s[j]≠46) : qW s.data.toList=false:=by
 have hi : Lib.index s.data.toList [46]=-1:=Lib.index_none fun j hj => by
  by_cases h : j<s.size
  ·rw [rI h,beq_eq_false_iff_ne]; exact hn j h
  ·unfold Lib.occAt; rw [aJ (by omega)]; rfl
 obtain ⟨e1,e2,e3⟩:=Lib.cutB_miss s ⟨#[46]⟩ hi
 have e3' : (Lib.cut s.data.toList [46]).2.2=false:=e3
 unfold qW
 rw [e3']; rfl
theorem wH (s : ByteArray) (w : World) (hs : s.size≤maxLen) : Calls Tryz.prog 167 #[.string s] w fun e w' => e=.returned (.bool (qW s.data.toList))∧Below w.heap.size w w':=by
 have hm : s.size≤9223372036854775807:=hs
 go_enter Tryz.func167,Tryz.ntmps167
 go_wp2
 go_loop [3] (fun i => ∃ k : Nat,k≤s.size∧i=.int .i64 k∧Hid (∀ j (hj : j<s.size),j<k→s[j]≠46)) (fun i => s.size - (intOf i).toNat)
 case atStart => exact ⟨0,by omega,rfl,fun j hj h => by omega⟩
 case round =>
  obtain ⟨k,hk,rfl,HI⟩:=hrel
  by_cases hlt : k<s.size
  ·by_cases he : s[k]=46
   ·have F:=hid (a4g hlt he HI)
    have e1 : (s[k].toNat : Int)=46:=by rw [he]; rfl
    have z1 : (s.extract 0 k).size≤maxLen:=by rw [ByteArray.size_extract]; omega
    have z2 : (s.extract (k + 1) s.size).size≤maxLen:=by rw [ByteArray.size_extract]; omega
    have c1 : (0 : Int)≤↑k:=by omega
    have c2 : (↑k : Int)≤↑s.size:=by omega
    have c3 : (0 : Int)≤↑k + 1:=by omega
    have c4 : (↑k + 1 : Int)≤↑s.size:=by omega
    clear he
    cases h1 : j8 (s.extract 0 k).data.toList
    all_goals
     go_wp2_with fail
     refine Calls.mono (H6 (s.extract 0 k) _ z1) ?_
     rintro e w1 ⟨rfl,hb1⟩
     rw [h1]
     have HB:=hid hb1
     clear hb1
     go_wp2_with fail
     refine Calls.mono (H6 (s.extract (k + 1) s.size) _ z2) ?_
     rintro e w2 ⟨rfl,hb1⟩
     have HC:=hid (HB.out.trans (hb1.mono HB.out.size))
     clear hb1
     go_wp2_with fail
     go_ret
     exact ⟨i7 (by rw [F.out,h1]; simp),HC⟩
   ·have e1 : ¬ (s[k].toNat : Int)=46:=fun e => he (UInt8.toNat_inj.1 (Int.ofNat.inj e))
    have HE:=hid he
    clear he
    go_wp2
    go_round
    case rel =>
     refine ⟨k + 1,by omega,by go_num,fun j hj h => ?_⟩
     by_cases ej : j=k
     ·subst ej; exact HE
     ·exact HI.out j hj (by omega)
    case measure => simp [intOf]; omega
  ·have F:=hid (a0W fun j hj => HI.out j hj (by omega))
   go_wp2
   go_ret
   exact ⟨i7 F.out.symm,Below.refl _ _⟩
def fQ (k : Int) : Int:=if 5≤k∧k≤10 then 0 else if k=12 then 1 else if k=13 then 2 else if k=14∨k=15 then 3 else 1
def fP (k : Int) : Int:=if 5≤k∧k≤10 then 0 else if k=12 then 1 else if k=13 then 2 else if k=14∨k=15 then 3 else if k=11 then 8 else 0
theorem a0m (k : Int) (n : Nat) : x6 k n=(decide (fQ k≤n) && decide (n≤fP k)):=by
 unfold x6 fQ fP
 rw [Bool.eq_iff_iff]
 repeat' split
 all_goals simp
 all_goals omega
theorem a6n {a b c d : Int} (h : a=c) (h' : b=d) : Ending.returned (.tuple #[.int .i64 a,.int .i64 b])=.returned (.tuple #[.int .i64 c,.int .i64 d]):=by rw [h,h']
theorem a0I (k : Int) (w : World) : Calls Tryz.prog 143 #[.int .i64 k] w fun e w' => e=.returned (.tuple #[.int .i64 (fQ k),.int .i64 (fP k)])∧w=w':=by
 go_enter Tryz.func143,Tryz.ntmps143
 go_wp2
 all_goals go_ret2
 all_goals (try simp only [beq_iff_eq,beq_eq_false_iff_ne,ne_eq] at *)
 all_goals exact ⟨a6n (by unfold fQ; (repeat' split) <;> omega) (by unfold fP; (repeat' split) <;> omega),by first | rfl | trivial⟩
theorem oK (t : Nd) (a : Option Addr) (cap : Nat) (w : World) :
 Calls Tryz.prog 145 #[.agg #[.int .i64 t.kind,.string t.text,.int .i64 t.n,.slice a t.kids.length cap,.int .i64 t.place]] w fun e w' => e=.returned (.bool (bM t.kind t.n))∧Below w.heap.size w w':=by
 have HB:=hid (a7 w (.cells #[.int .i64 t.kind,.string t.text,.int .i64 t.n,.slice a t.kids.length cap,.int .i64 t.place] 24))
 generalize t.n=n at HB ⊢
 generalize t.kind=k at HB ⊢
 go_enter Tryz.func145,Tryz.ntmps145
 go_wp2
 all_goals go_ret
 all_goals (try simp only [beq_iff_eq,beq_eq_false_iff_ne,ne_eq] at *)
 all_goals exact ⟨i7 (by unfold bM; rw [Bool.eq_iff_iff]; (repeat' split) <;> (try simp) <;> omega),a7 _ _⟩
theorem Boxed.kind {b : Nat} {t : Nd} {a : Option Addr} {cap : Nat} {w : World} (h : Boxed b t a cap w) {k : Int} (hk : t.kind=k) : w.cell? ⟨b,0,none⟩=some (.int .i64 k):=hk ▸ h.c0
theorem uX (t : Nd) (a : Option Addr) (cap : Nat) (w : World) (hs : t.text.size≤maxLen) :
 Calls Tryz.prog 144 #[.agg #[.int .i64 t.kind,.string t.text,.int .i64 t.n,.slice a t.kids.length cap,.int .i64 t.place]] w fun e w' => e=.returned (.bool (q6 t.kind t.text.data.toList))∧Below w.heap.size w w':=by
 have HB:=hid (a7 w (.cells #[.int .i64 t.kind,.string t.text,.int .i64 t.n,.slice a t.kids.length cap,.int .i64 t.place] 24))
 have B0:=hid (Boxed.make w t a cap)
 go_enter Tryz.func144,Tryz.ntmps144
 go_wp2_with fail
 refine Calls.mono (H6 t.text _ hs) ?_
 rintro e w1 ⟨rfl,hb⟩
 have HC:=hid (HB.out.trans (hb.mono HB.out.size))
 have B1:=hid (B0.out.below hb)
 clear hb B0 HB
 have c1:=B1.out.c1
 go_wp2_with fail
 refine Calls.mono (wH t.text _ hs) ?_
 rintro e w2 ⟨rfl,hb⟩
 have HD:=hid (HC.out.trans (hb.mono HC.out.size))
 have B2:=hid (B1.out.below hb)
 clear hb B1 HC c1
 have c1:=B2.out.c1
 have hk : t.kind=7∨t.kind=9∨t.kind=15∨t.kind=10∨t.kind=11∨t.kind=12∨t.kind=13∨(t.kind≠7∧t.kind≠9∧t.kind≠15∧t.kind≠10∧t.kind≠11∧t.kind≠12∧t.kind≠13):=by omega
 rcases hk with hk | hk | hk | hk | hk | hk | hk | hk
 ·have c0:=B2.out.kind hk
  have E:=hid (show q6 t.kind t.text.data.toList=eI t.text.data.toList by rw [hk]; rfl)
  clear hk
  go_wp2_with (go_at_call 168; refine (xW t.text _ hs).mono ?_; rintro e w' ⟨rfl,rfl⟩)
  go_ret
  exact ⟨i7 E.out.symm,HD⟩
 ·have c0:=B2.out.kind hk
  have E:=hid (show q6 t.kind t.text.data.toList=cE t.text.data.toList by rw [hk,eN]; rfl)
  clear hk
  go_wp2_with (go_at_call 72; refine (cG t.text _ hs).mono ?_; rintro e w' ⟨rfl,rfl⟩)
  go_ret
  exact ⟨i7 E.out.symm,HD⟩
 ·have c0:=B2.out.kind hk
  have E:=hid (show q6 t.kind t.text.data.toList=cE t.text.data.toList by rw [hk,eN]; rfl)
  clear hk
  go_wp2_with (go_at_call 72; refine (cG t.text _ hs).mono ?_; rintro e w' ⟨rfl,rfl⟩)
  go_ret
  exact ⟨i7 E.out.symm,HD⟩
 ·have c0:=B2.out.kind hk
  have E:=hid (show q6 t.kind t.text.data.toList=(j8 t.text.data.toList || qW t.text.data.toList) by rw [hk,a2I]; rfl)
  clear hk
  cases h1 : j8 t.text.data.toList
  all_goals
   go_wp2_with fail
   go_ret
   exact ⟨i7 (by rw [E.out,h1]; rfl),HD⟩
 ·have c0:=B2.out.kind hk
  have E:=hid (show q6 t.kind t.text.data.toList=(j8 t.text.data.toList || qW t.text.data.toList) by rw [hk,a2I]; rfl)
  clear hk
  cases h1 : j8 t.text.data.toList
  all_goals
   go_wp2_with fail
   go_ret
   exact ⟨i7 (by rw [E.out,h1]; rfl),HD⟩
 ·have c0:=B2.out.kind hk
  have E:=hid (show q6 t.kind t.text.data.toList=(t.text.toList == [45] || t.text.toList == [110,111,116]) by rw [hk,Lib.toList_data]; rfl)
  clear hk
  by_cases h1 : t.text.toList=[45]
  ·go_wp2_with fail
   go_ret
   exact ⟨i7 (by rw [E.out,h1]; simp),HD⟩
  ·by_cases h2 : t.text.toList=[110,111,116]
   ·go_wp2_with fail
    go_ret
    exact ⟨i7 (by rw [E.out,h2]; rfl),HD⟩
   ·go_wp2_with fail
    go_ret
    exact ⟨i7 (by rw [E.out] <;> simp [h1,h2]),HD⟩
 ·have c0:=B2.out.kind hk
  have E:=hid (show q6 t.kind t.text.data.toList=cB t.text.data.toList by rw [hk]; rfl)
  clear hk
  go_wp2_with (go_at_call 169; refine (a0Y t.text _).mono ?_; rintro e w' ⟨rfl,hb⟩)
  go_ret
  exact ⟨i7 E.out.symm,HD.out.trans (hb.mono HD.out.size)⟩
 ·have c0:=B2.out.c0
  have E:=hid (show q6 t.kind t.text.data.toList=t.text.toList.isEmpty by
   unfold q6
   rw [if_neg (by omega),if_neg (by omega),if_neg (by omega),if_neg (by omega),if_neg (by omega),Lib.toList_data])
  obtain ⟨k1,k2,k3,k4,k5,k6,k7⟩:=hk
  go_wp2_with fail
  go_ret
  exact ⟨i7 E.out.symm,HD⟩
end
section
open Lib (hid)
open Go.RowKit Go.Shelf
theorem a0u (b : Bool) (l : List UInt8) : l.length≤(U9 b l).length∧(U9 b l).length≤l.length + 2:=by
 unfold U9
 split <;> simp <;> omega
theorem Fm.is.alloc {b : Nat} {w : World} {f : Fm} {x : Value} (hf : f.is (· ≠ b) w x) (o : Obj) : f.is (· ≠ b) (w.alloc o) x :=
 Fm.is.kept (fun g _ _ hg hh => ⟨hg,(Lib.alloc_old w o g (Array.getElem?_eq_some_iff.1 hh).1).trans hh⟩) f hf
theorem Fm.are.alloc {b : Nat} {w : World} {fs : List Fm} {a : Option Addr} {i : Nat} (hf : Fm.are (· ≠ b) w fs a i) (o : Obj) : Fm.are (· ≠ b) (w.alloc o) fs a i :=
 Fm.are.kept (fun g _ _ hg hh => ⟨hg,(Lib.alloc_old w o g (Array.getElem?_eq_some_iff.1 hh).1).trans hh⟩) fs hf
theorem xI (s k : Fm) (hs : O2 s) (hk : O2 k) : O2 (.unary s k):=by
 intro x B b l w hf hb hlen hB
 obtain ⟨y,z,rfl,hy,hz⟩:=hf
 have E:=hid (show (Fm.unary s k).text=s.text ++ U9 k.wrap k.text by rw [Fm.text])
 have hl : l.length + s.text.length + (U9 k.wrap k.text).length≤1099511627776:=by
  rw [E.out,List.length_append] at hlen; omega
 have hwl:=a0u k.wrap k.text
 clear hlen
 have hne : w.heap.size≠b:=by have:=hb.lt; omega
 have A0:=hid ((Aft.start hb).alloc hB (.cells #[.iface s.ty y,.iface k.ty z] 177))
 have hbk:=aD w (.cells #[.iface s.ty y,.iface k.ty z] 177)
 have HY:=hid (hy.alloc (.cells #[.iface s.ty y,.iface k.ty z] 177))
 have HZ:=hid (hz.alloc (.cells #[.iface s.ty y,.iface k.ty z] 177))
 have HS:=hid hs
 have HK:=hid hk
 clear hs hk hy hz hb
 have M:=mt s y
 have eg:=en s
 show Calls Tryz.prog 234 _ w _
 go_enter Tryz.func234,Tryz.ntmps234
 go_wp2_with fail
 generalize hW : w.alloc (.cells #[.iface s.ty y,.iface k.ty z] 177)=W1 at A0 hbk HY HZ ⊢
 clear hW
 refine Calls.mono (HS.out y B b l _ HY A0.out.bld (by omega) (A0.out.size hB)) ?_
 rintro e w1 ⟨rfl,ha⟩
 have A1:=hid (A0.out.trans ha)
 have hbk1:=ha.block hbk hne (by decide)
 have HZ1:=hid (Fm.is.aft ha HZ)
 clear ha
 have c1 : w1.cell? ⟨w.heap.size,1,none⟩=some (.iface k.ty z):=by rw [Lib.cell_of_heap hbk1]; rfl
 go_wp2_with fail
 refine Calls.mono (lH k HK z B b (l ++ s.text) _ HZ1 A1.out.bld (by rw [List.length_append]; omega) (A1.out.size hB)) ?_
 rintro e w2 ⟨rfl,ha⟩
 have A2:=hid (A1.out.trans ha)
 clear ha
 go_wp2_with fail
 refine bodyPost_end (results_none rfl _ _ _) rfl ?_
 exact ⟨rfl,by rw [E.out,← List.append_assoc]; exact A2⟩
theorem sK (f s k : Fm) (hf : O2 f) (hs : O2 s) (hk : O2 k) : O2 (.binary f s k):=by
 intro x B b l w hx hb hlen hB
 obtain ⟨v,y,z,rfl,hv,hy,hz⟩:=hx
 have E:=hid (show l ++ (Fm.binary f s k).text=l ++ U9 f.wrap f.text ++ [32] ++ s.text ++ [32] ++ U9 k.wrap k.text by rw [Fm.text]; simp)
 have hl : l.length + (U9 f.wrap f.text).length + 1 + s.text.length + 1 + (U9 k.wrap k.text).length≤1099511627776:=by
  rw [Fm.text] at hlen
  simp only [List.length_append,List.length_cons,List.length_nil] at hlen
  omega
 clear hlen
 have hne : w.heap.size≠b:=by have:=hb.lt; omega
 have A0:=hid ((Aft.start hb).alloc hB (.cells #[.iface f.ty v,.iface s.ty y,.iface k.ty z] 179))
 have hbk:=aD w (.cells #[.iface f.ty v,.iface s.ty y,.iface k.ty z] 179)
 have HV:=hid (hv.alloc (.cells #[.iface f.ty v,.iface s.ty y,.iface k.ty z] 179))
 have HY:=hid (hy.alloc (.cells #[.iface f.ty v,.iface s.ty y,.iface k.ty z] 179))
 have HZ:=hid (hz.alloc (.cells #[.iface f.ty v,.iface s.ty y,.iface k.ty z] 179))
 have HF:=hid hf
 have HS:=hid hs
 have HK:=hid hk
 clear hf hs hk hv hy hz hb
 have M:=mt s y
 have eg:=en s
 show Calls Tryz.prog 236 _ w _
 go_enter Tryz.func236,Tryz.ntmps236
 go_wp2_with fail
 generalize hW : w.alloc (.cells #[.iface f.ty v,.iface s.ty y,.iface k.ty z] 179)=W1 at A0 hbk HV HY HZ ⊢
 clear hW
 refine Calls.mono (lH f HF v B b l _ HV A0.out.bld (by omega) (A0.out.size hB)) ?_
 rintro e w1 ⟨rfl,ha⟩
 have A1:=hid (A0.out.trans ha)
 have hbk1:=ha.block hbk hne (by decide)
 have HY1:=hid (Fm.is.aft ha HY)
 have HZ1:=hid (Fm.is.aft ha HZ)
 clear ha hbk A0 HY HZ
 go_wp2_with fail
 refine Calls.mono (l8 B b _ ⟨#[32]⟩ _ A1.out.bld (by rw [List.length_append]; show _ + 1≤_; omega) (A1.out.size hB)) ?_
 rintro e w2 ⟨rfl,ha⟩
 have A2:=hid (A1.out.trans ha)
 have hbk2:=ha.block hbk1 hne (by decide)
 have HY2:=hid (Fm.is.aft ha HY1)
 have HZ2:=hid (Fm.is.aft ha HZ1)
 clear ha hbk1 A1 HY1 HZ1
 have c1 : w2.cell? ⟨w.heap.size,1,none⟩=some (.iface s.ty y):=by rw [Lib.cell_of_heap hbk2]; rfl
 go_wp2_with fail
 refine Calls.mono (HS.out y B b _ _ HY2 A2.out.bld (by simp only [List.length_append]; show _ + 1 + _≤_; omega) (A2.out.size hB)) ?_
 rintro e w3 ⟨rfl,ha⟩
 have A3:=hid (A2.out.trans ha)
 have hbk3:=ha.block hbk2 hne (by decide)
 have HZ3:=hid (Fm.is.aft ha HZ2)
 clear ha hbk2 A2 HY2 HZ2 c1
 go_wp2_with fail
 refine Calls.mono (l8 B b _ ⟨#[32]⟩ _ A3.out.bld (by simp only [List.length_append]; show _ + 1 + _ + 1≤_; omega) (A3.out.size hB)) ?_
 rintro e w4 ⟨rfl,ha⟩
 have A4:=hid (A3.out.trans ha)
 have hbk4:=ha.block hbk3 hne (by decide)
 have HZ4:=hid (Fm.is.aft ha HZ3)
 clear ha hbk3 A3 HZ3
 have c2 : w4.cell? ⟨w.heap.size,2,none⟩=some (.iface k.ty z):=by rw [Lib.cell_of_heap hbk4]; rfl
 go_wp2_with fail
 refine Calls.mono (lH k HK z B b _ _ HZ4 A4.out.bld (by simp only [List.length_append]; show _ + 1 + _ + 1 + _≤_; omega) (A4.out.size hB)) ?_
 rintro e w5 ⟨rfl,ha⟩
 have A5:=hid (A4.out.trans ha)
 clear ha
 go_wp2_with fail
 refine bodyPost_end (results_none rfl _ _ _) rfl ?_
 exact ⟨rfl,by rw [E.out]; exact A5⟩
def chT (f g h : Fm) : Nat→List UInt8
 | 0 => []
 | 1 => [105,102,32] ++ f.text
 | 2 => [105,102,32] ++ f.text ++ [32,116,104,101,110,32] ++ g.text
 | _ => [105,102,32] ++ f.text ++ [32,116,104,101,110,32] ++ g.text ++ [32,101,108,115,101,32] ++ h.text
theorem qT (w : World) (o o' : Obj) : ((w.alloc o).alloc o').heap[w.heap.size]?=some o∧((w.alloc o).alloc o').heap[w.heap.size + 1]?=some o':=by
 constructor
 ·rw [Lib.alloc_old _ _ _ (by simp)]; exact aD w o
 ·have:=aD (w.alloc o) o'
  rw [show (w.alloc o).heap.size=w.heap.size + 1 by simp] at this
  exact this
theorem sM (f g k : Fm) (hf : O2 f) (hg : O2 g) (hk : O2 k) : O2 (.choice f g k):=by
 intro x B b l w hx hb hlen hB
 obtain ⟨v,y,z,rfl,hv,hy,hz⟩:=hx
 have E:=hid (show l ++ (Fm.choice f g k).text=l ++ chT f g k 3 by rw [Fm.text]; rfl)
 have hl : l.length + f.text.length + g.text.length + k.text.length + 15≤1099511627776:=by
  rw [Fm.text] at hlen
  simp only [List.length_append,List.length_cons,List.length_nil] at hlen
  omega
 clear hlen
 have hne : w.heap.size≠b:=by have:=hb.lt; omega
 have hne' : w.heap.size + 1≠b:=by have:=hb.lt; omega
 have A0:=hid (((Aft.start hb).alloc hB (.cells #[.iface f.ty v,.iface g.ty y,.iface k.ty z] 175)).alloc hB (.cells #[.string ⟨#[105,102,32]⟩,.string ⟨#[32,116,104,101,110,32]⟩,.string ⟨#[32,101,108,115,101,32]⟩] 9))
 have HB0:=hid (qT w (.cells #[.iface f.ty v,.iface g.ty y,.iface k.ty z] 175) (.cells #[.string ⟨#[105,102,32]⟩,.string ⟨#[32,116,104,101,110,32]⟩,.string ⟨#[32,101,108,115,101,32]⟩] 9))
 have HV:=hid hv
 have HY:=hid hy
 have HZ:=hid hz
 have HF:=hid hf
 have HG:=hid hg
 have HK:=hid hk
 clear hf hg hk hv hy hz hb
 have M1:=mt f v
 have eg1:=en f
 have M2:=mt g y
 have eg2:=en g
 have M3:=mt k z
 have eg3:=en k
 show Calls Tryz.prog 233 _ w _
 go_enter Tryz.func233,Tryz.ntmps233
 go_wp2_with fail
 go_loopw [8] (fun i wr => ∃ n : Nat,n≤3∧i=.int .i64 n∧Hid (Aft B b (l ++ chT f g k n) w wr)∧Hid (wr.heap[w.heap.size]?=some (.cells #[.iface f.ty v,.iface g.ty y,.iface k.ty z] 175))∧Hid (wr.heap[w.heap.size + 1]?=some (.cells #[.string ⟨#[105,102,32]⟩,.string ⟨#[32,116,104,101,110,32]⟩,.string ⟨#[32,101,108,115,101,32]⟩] 9))) (fun i _ => 3 - (intOf i).toNat)
 case atStart => exact ⟨0,by omega,rfl,by show Aft B b (l ++ []) w _; rw [List.append_nil]; exact A0,HB0.out.1,HB0.out.2⟩
 case round =>
  obtain ⟨n,hn,rfl,AR,HR,HR'⟩:=hrel
  clear A0 HB0
  by_cases hlt : n<3
  ·have d0 : wr.cell? ⟨w.heap.size,0,none⟩=some (.iface f.ty v):=by rw [Lib.cell_of_heap HR.out]; rfl
   have d1 : wr.cell? ⟨w.heap.size,1,none⟩=some (.iface g.ty y):=by rw [Lib.cell_of_heap HR.out]; rfl
   have d2 : wr.cell? ⟨w.heap.size,2,none⟩=some (.iface k.ty z):=by rw [Lib.cell_of_heap HR.out]; rfl
   have r0 : wr.cell? ⟨w.heap.size + 1,0,none⟩=some (.string ⟨#[105,102,32]⟩):=by rw [Lib.cell_of_heap HR'.out]; rfl
   have r1 : wr.cell? ⟨w.heap.size + 1,1,none⟩=some (.string ⟨#[32,116,104,101,110,32]⟩):=by rw [Lib.cell_of_heap HR'.out]; rfl
   have r2 : wr.cell? ⟨w.heap.size + 1,2,none⟩=some (.string ⟨#[32,101,108,115,101,32]⟩):=by rw [Lib.cell_of_heap HR'.out]; rfl
   have hn3 : n=0∨n=1∨n=2:=by omega
   rcases hn3 with rfl | rfl | rfl
   ·go_wp2_with fail
    refine Calls.mono (l8 B b _ ⟨#[105,102,32]⟩ _ AR.out.bld (by rw [List.length_append]; show _ + 0 + 3≤_; omega) (AR.out.size hB)) ?_
    rintro e w2 ⟨rfl,ha⟩
    have A2:=hid (AR.out.trans ha)
    have hb2:=ha.block HR hne (by decide)
    have hb2':=ha.block HR' hne' (by decide)
    clear ha d0 d1 d2 r0 r1 r2 AR HR HR'
    have d0 : w2.cell? ⟨w.heap.size,0,none⟩=some (.iface f.ty v):=by rw [Lib.cell_of_heap hb2]; rfl
    go_wp2_with fail
    refine Calls.mono (HF.out v B b _ _ (Fm.is.aft A2 HV) A2.out.bld (by simp only [List.length_append]; show _ + 0 + 3 + _≤_; omega) (A2.out.size hB)) ?_
    rintro e w3 ⟨rfl,ha⟩
    have A3:=hid (A2.out.trans ha)
    have hb3:=hid (ha.block hb2 hne (by decide))
    have hb3':=hid (ha.block hb2' hne' (by decide))
    clear ha d0
    go_wp2_with fail
    go_roundw
    case rel => exact ⟨1,by omega,by go_num,by show Aft B b (l ++ ([105,102,32] ++ f.text)) w _; have:=A3.out; simpa [chT] using this,hb3,hb3'⟩
    case measure => simp [intOf]
   ·go_wp2_with fail
    refine Calls.mono (l8 B b _ ⟨#[32,116,104,101,110,32]⟩ _ AR.out.bld (by simp only [List.length_append,chT,List.length_cons,List.length_nil]; show _ + 6≤_; omega) (AR.out.size hB)) ?_
    rintro e w2 ⟨rfl,ha⟩
    have A2:=hid (AR.out.trans ha)
    have hb2:=ha.block HR hne (by decide)
    have hb2':=ha.block HR' hne' (by decide)
    clear ha d0 d1 d2 r0 r1 r2 AR HR HR'
    have d1 : w2.cell? ⟨w.heap.size,1,none⟩=some (.iface g.ty y):=by rw [Lib.cell_of_heap hb2]; rfl
    go_wp2_with fail
    refine Calls.mono (HG.out y B b _ _ (Fm.is.aft A2 HY) A2.out.bld (by simp only [List.length_append,chT,List.length_cons,List.length_nil]; omega) (A2.out.size hB)) ?_
    rintro e w3 ⟨rfl,ha⟩
    have A3:=hid (A2.out.trans ha)
    have hb3:=hid (ha.block hb2 hne (by decide))
    have hb3':=hid (ha.block hb2' hne' (by decide))
    clear ha d1
    go_wp2_with fail
    go_roundw
    case rel => exact ⟨2,by omega,by go_num,by have:=A3.out; show Aft B b _ w _; simpa [chT] using this,hb3,hb3'⟩
    case measure => simp [intOf]
   ·go_wp2_with fail
    refine Calls.mono (l8 B b _ ⟨#[32,101,108,115,101,32]⟩ _ AR.out.bld (by simp only [List.length_append,chT,List.length_cons,List.length_nil]; show _ + 6≤_; omega) (AR.out.size hB)) ?_
    rintro e w2 ⟨rfl,ha⟩
    have A2:=hid (AR.out.trans ha)
    have hb2:=ha.block HR hne (by decide)
    have hb2':=ha.block HR' hne' (by decide)
    clear ha d0 d1 d2 r0 r1 r2 AR HR HR'
    have d2 : w2.cell? ⟨w.heap.size,2,none⟩=some (.iface k.ty z):=by rw [Lib.cell_of_heap hb2]; rfl
    go_wp2_with fail
    refine Calls.mono (HK.out z B b _ _ (Fm.is.aft A2 HZ) A2.out.bld (by simp only [List.length_append,chT,List.length_cons,List.length_nil]; omega) (A2.out.size hB)) ?_
    rintro e w3 ⟨rfl,ha⟩
    have A3:=hid (A2.out.trans ha)
    have hb3:=hid (ha.block hb2 hne (by decide))
    have hb3':=hid (ha.block hb2' hne' (by decide))
    clear ha d2
    go_wp2_with fail
    go_roundw
    case rel => exact ⟨3,by omega,by go_num,by have:=A3.out; show Aft B b _ w _; simpa [chT] using this,hb3,hb3'⟩
    case measure => simp [intOf]
  ·obtain rfl : n=3:=by omega
   go_wp2_with fail
   refine bodyPost_end (results_none rfl _ _ _) rfl ?_
   exact ⟨rfl,by rw [E.out]; exact AR⟩
def a3W (n : Nat) : List UInt8:=if n=0 then [40] else [44,32]
theorem vW (h : ByteArray) (ks : List Fm) (ih : ∀ (n : Nat) (hn : n<ks.length),O2 ks[n]) : O2 (.called h ks):=by
 intro x B b l w hx hb hlen hB
 obtain ⟨a,cap,rfl,hh,hkc,hcm,hks⟩:=hx
 have hm : ks.length≤9223372036854775807:=Nat.le_trans hkc hcm
 have E:=hid (show l ++ (Fm.called h ks).text=l ++ h.data.toList ++ Fm.texts true ks ++ [41] by rw [Fm.text]; simp)
 have hl : l.length + h.size + (Fm.texts true ks).length + 1≤1099511627776:=by
  rw [Fm.text] at hlen
  simp only [List.length_append,List.length_cons,List.length_nil,d6] at hlen
  omega
 clear hlen
 have hne : w.heap.size≠b:=by have:=hb.lt; omega
 have A0:=hid ((Aft.start hb).alloc hB (.cells #[.string h,.slice a ks.length cap] 149))
 have hbk:=aD w (.cells #[.string h,.slice a ks.length cap] 149)
 have HS:=hid (hks.alloc (.cells #[.string h,.slice a ks.length cap] 149))
 have IH:=hid ih
 clear ih hks hb
 show Calls Tryz.prog 119 _ w _
 go_enter Tryz.func119,Tryz.ntmps119
 go_wp2_with fail
 generalize hW : w.alloc (.cells #[.string h,.slice a ks.length cap] 149)=W1 at A0 hbk HS ⊢
 clear hW
 refine Calls.mono (l8 B b _ h _ A0.out.bld (by omega) (A0.out.size hB)) ?_
 rintro e w1 ⟨rfl,ha⟩
 have A1:=hid (A0.out.trans ha)
 have hb1:=ha.block hbk hne (by decide)
 have HS1:=hid (Fm.are.aft ha HS)
 clear ha A0 HS hbk
 have c1 : w1.cell? ⟨w.heap.size,1,none⟩=some (.slice a ks.length cap):=by rw [Lib.cell_of_heap hb1]; rfl
 clear hb1
 go_wp2_with fail
 clear c1
 go_loopw [13] (fun i wr => ∃ (n : Nat) (t : List UInt8),n≤ks.length∧i=.int .i64 n∧Hid (t ++ Fm.texts (decide (n=0)) (ks.drop n)=l ++ h.data.toList ++ Fm.texts true ks)∧Hid (Aft B b t w wr)∧Hid (Fm.are (· ≠ b) wr ks a 0)) (fun i _ => ks.length - (intOf i).toNat)
 case atStart => exact ⟨0,l ++ h.data.toList,by omega,rfl,rfl,A1,HS1⟩
 case round =>
  obtain ⟨n,t,hn,rfl,HI,AR,HR⟩:=hrel
  clear A1 HS1
  have hlen : t.length + (Fm.texts (decide (n=0)) (ks.drop n)).length + 1≤1099511627776:=by
   have:=congrArg List.length HI
   simp only [List.length_append,d6] at this
   omega
  by_cases hlt : n<ks.length
  ·obtain ⟨g,y,cur,fz,rfl,hgb,hg,hcur,hy⟩:=Fm.are.get ks 0 HR n hlt
   rw [Nat.zero_add] at hcur
   have S:=hid (wC ks n hlt)
   have hsz : t.length + (a3W n).length + ks[n].text.length + 1≤1099511627776:=by
    rw [S.out] at hlen
    simp only [List.length_append] at hlen
    unfold a3W
    omega
   clear hlen
   have cg : wr.cell? ⟨g,n,none⟩=some (.iface ks[n].ty y):=by rw [Lib.cell_of_heap hg]; exact hcur
   have M:=mt ks[n] y
   have eg:=en ks[n]
   have AR2:=hid (AR.out.alloc hB (.cells #[.string ⟨#[40]⟩,.string ⟨#[44,32]⟩] 9))
   have HY:=hid (Fm.is.alloc hy (.cells #[.string ⟨#[40]⟩,.string ⟨#[44,32]⟩] 9))
   have HR2:=hid (HR.out.alloc (.cells #[.string ⟨#[40]⟩,.string ⟨#[44,32]⟩] 9))
   have hrow:=aD wr (.cells #[.string ⟨#[40]⟩,.string ⟨#[44,32]⟩] 9)
   have r0 : (wr.alloc (.cells #[.string ⟨#[40]⟩,.string ⟨#[44,32]⟩] 9)).cell? ⟨wr.heap.size,0,none⟩=some (.string ⟨#[40]⟩):=by rw [Lib.cell_of_heap hrow]; rfl
   have r1 : (wr.alloc (.cells #[.string ⟨#[40]⟩,.string ⟨#[44,32]⟩] 9)).cell? ⟨wr.heap.size,1,none⟩=some (.string ⟨#[44,32]⟩):=by rw [Lib.cell_of_heap hrow]; rfl
   clear hrow hy hg hcur
   have IHn:=hid (IH.out n hlt)
   generalize ks[n]=f at M eg hsz S HY cg IHn
   by_cases hn0 : n=0
   ·subst hn0
    have e0 : (a3W 0).length=1:=rfl
    have r0' : (wr.alloc (.cells #[.string ⟨#[40]⟩,.string ⟨#[44,32]⟩] 9)).cell? ⟨wr.heap.size,(min (0 : Int) 1).toNat,none⟩=some (.string ⟨#[40]⟩):=r0
    go_wp2_with fail
    refine Calls.mono (l8 B b t ⟨#[40]⟩ _ AR2.out.bld (by show _ + 1≤_; omega) (AR2.out.size hB)) ?_
    rintro e w2 ⟨rfl,ha⟩
    have A2:=hid (AR2.out.trans ha)
    have HY2:=hid (Fm.is.aft ha HY)
    have HR3:=hid (Fm.are.aft ha HR2)
    clear ha r0 r1 r0'
    go_wp2_with fail
    refine Calls.mono (IHn.out y B b _ _ HY2 A2.out.bld (by rw [List.length_append]; show _ + 1 + _≤_; omega) (A2.out.size hB)) ?_
    rintro e w3 ⟨rfl,ha⟩
    have A3:=hid (A2.out.trans ha)
    have HR4:=hid (Fm.are.aft ha HR3)
    clear ha
    go_wp2_with fail
    go_roundw
    case rel => exact ⟨1,_,by omega,by go_num,by show _=_; rw [← HI.out,S.out]; simp,A3,HR4⟩
    case measure => simp [intOf]; omega
   ·have e0 : (a3W n).length=2:=by unfold a3W; rw [if_neg hn0]; rfl
    have hmin : min (n : Int) 1=1:=by omega
    have r1' : (wr.alloc (.cells #[.string ⟨#[40]⟩,.string ⟨#[44,32]⟩] 9)).cell? ⟨wr.heap.size,(min (n : Int) 1).toNat,none⟩=some (.string ⟨#[44,32]⟩):=by rw [hmin]; exact r1
    have m1 : (0 : Int)≤min (n : Int) 1:=by omega
    have m2 : min (n : Int) 1<2:=by omega
    clear hmin
    go_wp2_with fail
    refine Calls.mono (l8 B b t ⟨#[44,32]⟩ _ AR2.out.bld (by show _ + 2≤_; omega) (AR2.out.size hB)) ?_
    rintro e w2 ⟨rfl,ha⟩
    have A2:=hid (AR2.out.trans ha)
    have HY2:=hid (Fm.is.aft ha HY)
    have HR3:=hid (Fm.are.aft ha HR2)
    clear ha r0 r1 r1'
    go_wp2_with fail
    refine Calls.mono (IHn.out y B b _ _ HY2 A2.out.bld (by rw [List.length_append]; show _ + 2 + _≤_; omega) (A2.out.size hB)) ?_
    rintro e w3 ⟨rfl,ha⟩
    have A3:=hid (A2.out.trans ha)
    have HR4:=hid (Fm.are.aft ha HR3)
    clear ha
    go_wp2_with fail
    go_roundw
    case rel => exact ⟨n + 1,_,by omega,by go_num,by show _=_; rw [← HI.out,S.out,if_neg hn0]; simp,A3,HR4⟩
    case measure => simp [intOf]; omega
  ·have hz : ks.drop n=[]:=List.drop_of_length_le (by omega)
   have HF : Hid (t=l ++ h.data.toList ++ Fm.texts true ks):=by
    show _=_
    have:=HI.out
    rw [hz,Fm.texts,List.append_nil] at this
    exact this
   go_wp2_with fail
   refine Calls.mono (l8 B b t ⟨#[41]⟩ _ AR.out.bld (by show _ + 1≤_; omega) (AR.out.size hB)) ?_
   rintro e w2 ⟨rfl,ha⟩
   have A2:=hid (AR.out.trans ha)
   clear ha
   go_wp2_with fail
   refine bodyPost_end (results_none rfl _ _ _) rfl ?_
   exact ⟨rfl,by rw [E.out,← HF.out]; exact A2⟩
theorem a4j (N : Nat) : ∀ f : Fm,SizeOf.sizeOf f<N→O2 f:=by
 induction N with
 | zero => intro f h; omega
 | succ N ih =>
 intro f h
 cases f with
 | leaf s => exact a02 s
 | called hd ks => exact vW hd ks fun n hn => ih _ (wS hn h)
 | unary s k => exact xI s k (ih s (by simp only [Fm.unary.sizeOf_spec] at h; omega)) (ih k (by simp only [Fm.unary.sizeOf_spec] at h; omega))
 | binary a s k => exact sK a s k (ih a (by simp only [Fm.binary.sizeOf_spec] at h; omega)) (ih s (by simp only [Fm.binary.sizeOf_spec] at h; omega)) (ih k (by simp only [Fm.binary.sizeOf_spec] at h; omega))
 | choice a s k => exact sM a s k (ih a (by simp only [Fm.choice.sizeOf_spec] at h; omega)) (ih s (by simp only [Fm.choice.sizeOf_spec] at h; omega)) (ih k (by simp only [Fm.choice.sizeOf_spec] at h; omega))
theorem xM (f : Fm) : O2 f:=a4j _ f (Nat.lt_succ_self _)
end
end Go.Proofs.YtppcfebnaieciaaGreatDoor
