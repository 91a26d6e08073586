/-
  Laws that the proof rests on.
-/
import Derived.Test.YtppcfebnaieciaaGreatDoorE06
import Derived.Test.YtppcfebnaieciaaGreatDoorE03
import Derived.Test.YtppcfebnaieciaaGreatDoorE02
import Derived.Test.YtppcfebnaieciaaGreatDoorE04
import Derived.Test.YtppcfebnaieciaaGreatDoorE01
import Derived.Test.YtppcfebnaieciaaGreatDoorE05
import Derived.Deep.DrawnRows
import Derived.WalkSmall
import Derived.Deep.RegionWith
namespace Go.Proofs.YtppcfebnaieciaaGreatDoor
set_option maxRecDepth 100000
set_option maxHeartbeats 16000000
theorem sT (c : UInt8) : dgC c=Cal.isDig c:=by
 have:=sE (p:=fun c => dgC c == Cal.isDig c) (by decide +kernel) c
 exact eq_of_beq this
theorem cA (c : UInt8) : dgC c=dgI c.toNat:=by
 have:=sE (p:=fun c => dgC c == dgI c.toNat) (by decide +kernel) c
 exact eq_of_beq this
theorem a1L (l : List UInt8) : l.all dgC=l.all Cal.isDig:=by rw [show dgC=Cal.isDig from funext sT]
theorem sA {d : List UInt8} {k : Nat} (hk : k≤d.length) (h : ∀ j (hj : j<d.length),j<k→dgC d[j]=true) (h' : ∀ (hk : k<d.length),dgC d[k]=false) : bS d=k:=y5 dgC d k hk h h'
theorem mE {α : Type} (p : α→Bool) (l : List α) : l.takeWhile p=l.take (l.takeWhile p).length:=(List.prefix_iff_eq_take.1 (List.takeWhile_prefix p))
theorem a4S {d : List UInt8} {k : Nat} (h : bS d=k) : aT d=if 1≤k∧k≤10∧(k=1∨d.headD 0≠48)∧cN (d.drop k)=true then some (Cal.val (d.take k ++ d.drop (k + 1) ++ List.replicate (6 - (d.drop (k + 1)).length) 48)) else none:=by
 unfold bS at h
 unfold aT
 simp only
 rw [h,List.tail_drop,mE,h]
def V3 (d : List UInt8) (k : Nat) : List UInt8:=d.drop (k + 1) ++ List.replicate (6 - (d.drop (k + 1)).length) 48
theorem tF {d : List UInt8} {k : Nat} (h : d.length - (k + 1)≤6) : (V3 d k).length=6:=by
 unfold V3
 rw [List.length_append,List.length_replicate,List.length_drop]; omega
theorem zP {d : List UInt8} {k i : Nat} (h : k + 1 + i<d.length) (hi : i<(V3 d k).length) : (V3 d k)[i]=d[k + 1 + i]:=by
 unfold V3 at hi ⊢
 rw [List.getElem_append_left (by rw [List.length_drop]; omega),List.getElem_drop]
theorem a10 {d : List UInt8} {k i : Nat} (h : ¬ k + 1 + i<d.length) (hi : i<(V3 d k).length) : (V3 d k)[i]=48:=by
 unfold V3 at hi ⊢
 rw [List.getElem_append_right (by rw [List.length_drop]; omega),List.getElem_replicate]
theorem tM {l q : List UInt8} {i : Nat} (hi : i<q.length) : Cal.val (l ++ q.take (i + 1))=10 * Cal.val (l ++ q.take i) + ((q[i].toNat : Int) - 48):=by
 rw [List.take_succ_eq_append_getElem hi,← List.append_assoc,Cal.val_snoc]
theorem pB {d : List UInt8} {i : Nat} (hi : i<d.length) : Cal.val (d.take (i + 1))=10 * Cal.val (d.take i) + ((d[i].toNat : Int) - 48):=by
 rw [List.take_succ_eq_append_getElem hi,Cal.val_snoc]
theorem fU {l : List UInt8} {n : Nat} (h : l.all dgC=true) (hn : l.length≤n) : 0≤Cal.val l∧Cal.val l<10 ^ n:=by
 have:=Cal.val_bd (l:=l) (by rw [← a1L]; exact h)
 exact ⟨this.1,Int.lt_of_lt_of_le this.2 (by exact_mod_cast Nat.pow_le_pow_right (by decide) hn)⟩
theorem eT {c : UInt8} (h : dgC c=true) : 48≤(c.toNat : Int)∧(c.toNat : Int)≤57:=by
 unfold dgC at h
 simp only [Bool.and_eq_true,decide_eq_true_eq] at h
 omega
def oM (l : List UInt8) : Int:=(oG l).getD 0
def oL (l : List UInt8) : Bool:=(oG l).isSome
theorem nH {d : List UInt8} (h : d.headD 0≠45) : oG d=match aT d with | some n => if 1000000000000000<n then none else some n | none => none:=if_neg h
theorem U5 {d : List UInt8} (h : d.headD 0≠45) (hu : aT d=none) : oM d=0∧oL d=false:=by
 unfold oM oL
 rw [nH h,hu]
 exact ⟨rfl,rfl⟩
theorem oW {d : List UInt8} {n : Int} (h : d.headD 0≠45) (hu : aT d=some n) (hn : ¬ 1000000000000000<n) : oM d=n∧oL d=true:=by
 unfold oM oL
 rw [nH h,hu]
 simp only [if_neg hn]
 exact ⟨rfl,rfl⟩
theorem tE {d : List UInt8} {n : Int} (h : d.headD 0≠45) (hu : aT d=some n) (hn : 1000000000000000<n) : oM d=0∧oL d=false:=by
 unfold oM oL
 rw [nH h,hu]
 simp only [if_pos hn]
 exact ⟨rfl,rfl⟩
theorem tB {l : List UInt8} (h : l.headD 0≠0) : 0<l.length:=by
 cases l with
 | nil => exact absurd rfl h
 | cons a l => simp
theorem qU {l : List UInt8} {n : Nat} (h : (l.drop n).headD 0≠0) : n<l.length:=by
 have:=tB h
 rw [List.length_drop] at this; omega
theorem aW {α : Type} (p : α→Bool) (l : List α) : (l.takeWhile p).length≤l.length:=(List.takeWhile_sublist (l:=l) p).length_le
theorem wG {l : List UInt8} {pos : Int} {t : Tk} {n : Nat} (h : cQ l pos=.ok (t,n)) (h1 : 1≤y6 l) : 1≤n∧n≤l.length:=by
 have hs:=iA l
 unfold cQ at h
 simp only at h
 split at h
 ·rename_i hd
  have hd':=qU (l:=l) (n:=y6 l) (by rw [hd]; decide)
  have hs2:=iA (l.drop (y6 l + 1))
  rw [List.length_drop] at hs2
  split at h
  ·cases h
  ·simp only [Except.ok.injEq,Prod.mk.injEq] at h
   omega
 ·split at h
  ·cases h
  ·simp only [Except.ok.injEq,Prod.mk.injEq] at h
   omega
theorem a2Y {c : UInt8} {r : List UInt8} (h : dgC c=true) : 1≤bS (c :: r):=by
 unfold bS
 rw [List.takeWhile_cons,if_pos h]; simp
theorem a2F {l : List UInt8} (h : 1≤bS l) : 1≤dP l∧dP l≤l.length:=by
 have h1 : bS l≤l.length:=aW dgC l
 unfold dP
 split
 ·rename_i hd
  have hd':=qU (l:=l) (n:=bS l) (by rw [hd.1]; decide)
  have h2 : bS (l.drop (bS l + 1))≤(l.drop (bS l + 1)).length:=aW dgC _
  rw [List.length_drop] at h2
  omega
 ·omega
theorem a2X {l : List UInt8} {pos : Int} {t : Tk} {n : Nat} (h : aL l pos=.ok (t,n)) (h1 : 1≤bS l) : 1≤n∧n≤l.length:=by
 unfold aL at h
 split at h
 ·rename_i hd
  unfold aQ at hd
  rw [Bool.and_eq_true,decide_eq_true_eq] at hd
  split at h
  ·cases h
  ·split at h
   ·simp only [Except.ok.injEq,Prod.mk.injEq] at h; omega
   ·cases h
 ·have:=a2F h1
  split at h
  ·cases h
  ·split at h
   ·simp only [Except.ok.injEq,Prod.mk.injEq] at h; omega
   ·cases h
theorem a0F {r : List UInt8} {pos : Int} {t : Tk} {n : Nat} (h : dE r pos=.ok (t,n)) : 1≤n∧n≤r.length + 1:=by
 unfold dE at h
 split at h
 ·cases h
 ·rename_i hd
  have:=qU (l:=r) (n:=oU r) (by rw [Decidable.not_not.1 hd]; decide)
  split at h
  ·simp only [Except.ok.injEq,Prod.mk.injEq] at h; omega
  ·cases h
theorem zD {c : UInt8} {r : List UInt8} {pos : Int} {t : Tk} {n : Nat} (h : dW c r pos=.ok (t,n)) : 1≤n∧n≤r.length + 1:=by
 unfold dW at h
 split at h
 ·rename_i hs
  exact wG h (by show 1≤(if smC c=true then 1 + (r.takeWhile inC).length else 0); rw [if_pos hs]; omega)
 split at h
 ·rename_i hd
  exact a2X h (a2Y hd)
 split at h
 ·exact a0F h
 split at h
 ·unfold a4L at h
  split at h
  ·rename_i h3
   have : a4x (c :: r)≤(c :: r).length:=aW grC _
   simp only [Except.ok.injEq,Prod.mk.injEq] at h
   rw [List.length_cons] at this
   omega
  ·cases h
 ·unfold nU at h
  split at h
  ·rename_i h2
   have:=tB (l:=r) (by rw [h2.2]; decide)
   simp only [Except.ok.injEq,Prod.mk.injEq] at h; omega
  ·split at h
   ·simp only [Except.ok.injEq,Prod.mk.injEq] at h; omega
   ·cases h
theorem jJ : ∀ (l : List UInt8) (pos : Int) (k n : Nat),n≤l.length→x7 l pos k n=x7 (l.drop n) (pos + n) k 0
 | l,pos,k,0,_ => by rw [List.drop_zero]; congr 1; omega
 | [],_,_,n + 1,h => by simp at h
 | c :: r,pos,k,n + 1,h => by
   rw [x7,jJ r (pos + 1) k n (by simpa using h),List.drop_succ_cons]
   congr 1; omega
def ahead (ts : List Tk) (x : Except (Int × Int) (List Tk)) : Except (Int × Int) (List Tk):=match x with
 | .error e => .error e
 | .ok r => .ok (ts ++ r)
theorem a0H (x : Except (Int × Int) (List Tk)) : ahead [] x=x:=by cases x <;> rfl
theorem a0N (a b : List Tk) (x : Except (Int × Int) (List Tk)) : ahead a (ahead b x)=ahead (a ++ b) x:=by
 cases x with
 | error e => rfl
 | ok r => simp [ahead]
theorem xU {c : UInt8} {r : List UInt8} {pos : Int} {k : Nat} (h : c.toNat≤32) : x7 (c :: r) pos k 0=x7 r (pos + 1) k 0:=by
 rw [x7,if_pos h]
theorem a3F {c : UInt8} {r : List UInt8} {pos : Int} {k : Nat} (h : c=35) : x7 (c :: r) pos k 0=x7 (r.drop (uJ r)) (pos + 1 + uJ r) k 0:=by
 rw [x7,if_neg (by rw [h]; decide),if_pos h]
 exact jJ _ _ _ _ (aW _ r)
theorem a3w {c : UInt8} {r : List UInt8} {pos : Int} {k : Nat} {e : Int} (h : ¬ c.toNat≤32) (h' : c≠35) (ht : dW c r pos=.error e) : x7 (c :: r) pos k 0=.error (e,pos):=by
 rw [x7,if_neg h,if_neg h',ht]
theorem a08 {c : UInt8} {r : List UInt8} {pos : Int} {k : Nat} {t : Tk} {n : Nat} (h : ¬ c.toNat≤32) (h' : c≠35) (ht : dW c r pos=.ok (t,n)) (hk : k=8192) : x7 (c :: r) pos k 0=.error (76,pos):=by
 rw [x7,if_neg h,if_neg h',ht]
 simp only
 rw [if_pos hk]
theorem a2b {c : UInt8} {r : List UInt8} {pos : Int} {k : Nat} {t : Tk} {n : Nat} (h : ¬ c.toNat≤32) (h' : c≠35) (ht : dW c r pos=.ok (t,n)) (hk : k≠8192) : x7 (c :: r) pos k 0=ahead [t] (x7 ((c :: r).drop n) (pos + n) (k + 1) 0):=by
 have hl:=zD ht
 obtain ⟨m,rfl⟩ : ∃ m,n=m + 1:=⟨n - 1,by omega⟩
 rw [x7,if_neg h,if_neg h',ht]
 simp only
 rw [if_neg hk,Nat.add_sub_cancel,jJ r _ _ m (by omega),List.drop_succ_cons,show pos + 1 + (m : Int)=pos + ((m + 1 : Nat) : Int) by omega]
 cases x7 (r.drop m) (pos + ((m + 1 : Nat) : Int)) (k + 1) 0 <;> rfl
section
open Lib (hid)
open Go.RowKit
theorem qY (ks : List Nd) (k : Nat) (h : k<ks.length) : o0 (ks.drop k)=max (j3 ks[k]) (o0 (ks.drop (k + 1))):=by
 rw [List.drop_eq_getElem_cons h,o0]
theorem tI (ks : List Nd) (k : Nat) (h : ¬ k<ks.length) : o0 (ks.drop k)=0:=by
 rw [List.drop_eq_nil_of_le (by omega),o0]
theorem uT (N : Nat) : ∀ (t : Nd),SizeOf.sizeOf t<N→∀ (a : Option Addr) (cap n₀ : Nat) (w : World),t.hold n₀ w a cap→n₀≤w.heap.size→j3 t≤1000 →
 Calls Tryz.prog 138 #[.agg #[.int .i64 t.kind,.string t.text,.int .i64 t.n,.slice a t.kids.length cap,.int .i64 t.place]] w fun e w' => e=.returned (.int .i64 (j3 t))∧Below w.heap.size w w':=by
 induction N with
 | zero => intro t ht; omega
 | succ N ih =>
 intro t ht
 cases t with
 | mk kind s n ks p =>
 intro a cap n₀ w hh hn h0
 show Calls Tryz.prog 138 #[.agg #[.int .i64 kind,.string s,.int .i64 n,.slice a ks.length cap,.int .i64 p]] w _
 have hkl : ks.length≤cap∧cap≤maxLen:=⟨hh.2.2.2.2.1,hh.2.2.2.2.2.1⟩
 have hm:=hkl
 unfold maxLen at hm
 have HH:=hid hh
 have IH:=hid ih
 have HT:=hid ht
 clear hh ih ht
 have E:=hid (show j3 (.mk kind s n ks p)=o0 ks + 1 by rw [j3])
 have h9 : o0 ks≤999:=by rw [E.out] at h0; omega
 clear h0
 go_enter Tryz.func138,Tryz.ntmps138
 go_wp2
 obtain ⟨W1,hW1⟩ : ∃ W1,W1=w.alloc (.cells #[.int .i64 kind,.string s,.int .i64 n,.slice a ks.length cap,.int .i64 p] 24):=⟨_,rfl⟩
 have HB:=hid (show Below w.heap.size w W1 from hW1 ▸ a7 _ _)
 have hsz : W1.heap.size=w.heap.size + 1:=by rw [hW1]; simp
 have D3:=hid (show W1.cell? ⟨w.heap.size,3,none⟩=some (.slice a ks.length cap) from hW1 ▸ (a5C w _ _ _ _ _).2.2.2.1)
 rw [← hW1]
 clear hW1
 go_loopw [3,4] (fun x i wr => ∃ (k y : Nat),k≤ks.length∧i=.int .i64 k∧x=.int .i64 y∧y≤999∧Hid (max y (o0 (ks.drop k))=o0 ks)∧Hid (Below W1.heap.size W1 wr)) (fun _ i _ => (ks.length - (intOf i).toNat))
 case atStart => exact ⟨0,0,Nat.zero_le _,rfl,rfl,by omega,by show _=_; rw [Nat.zero_max]; rfl,Below.refl _ _⟩
 case round =>
  obtain ⟨k,y,hk,rfl,rfl,hy0,HI,HBr⟩:=hrel
  have d3:=(HBr.out.cell (p:=⟨w.heap.size,3,none⟩) (by show w.heap.size<W1.heap.size; omega)).trans D3
  have HW:=hid (HB.out.trans (HBr.out.mono HB.out.size))
  by_cases hlt : k<ks.length
  ·obtain ⟨b,off,a',cap',A⟩:=(HH.out.below (HW.out.mono hn)).kid k hlt
   obtain ⟨rfl,hb,c0,c1,c2,c3,c4,hk1⟩:=A
   have HK:=hid hk1
   clear hk1
   have S:=hid (qY ks k hlt)
   have hd : j3 ks[k]≤999:=by
    have:=HI.out
    rw [S.out] at this
    omega
   go_wp2_with (go_at_call 138; refine (IH.out _ (bJ hlt HT) a' cap' n₀ _ HK (Nat.le_trans hn HW.out.size) (by omega)).mono ?_; rintro e w' ⟨rfl,hb⟩)
   go_roundw
   case rel => exact ⟨k + 1,max y (j3 ks[k]),by omega,by go_num,by go_num,by omega,by show _=_; rw [← HI.out,S.out,Nat.max_assoc],HBr.out.trans (hb.mono HBr.out.size)⟩
   case measure => simp [intOf]; omega
  ·have S:=hid (tI ks k hlt)
   go_wp2
   go_ret
   exact ⟨cF (by rw [E.out,← HI.out,S.out]; omega),HW⟩
theorem yM (t : Nd) (a : Option Addr) (cap n₀ : Nat) (w : World) (hh : t.hold n₀ w a cap) (hn : n₀≤w.heap.size) (hd : j3 t≤1000) :
 Calls Tryz.prog 138 #[.agg #[.int .i64 t.kind,.string t.text,.int .i64 t.n,.slice a t.kids.length cap,.int .i64 t.place]] w fun e w' => e=.returned (.int .i64 (j3 t))∧Below w.heap.size w w' :=
 uT _ t (Nat.lt_succ_self _) a cap n₀ w hh hn hd
end
theorem wR {l : List UInt8} (h : z7 l=true) : ∃ c r,l=c :: r∧smC c=true∧r.all inC=true∧l.length≤24:=by
 have hn:=h
 rw [← eN] at hn
 unfold cE at hn
 simp only [Bool.and_eq_true,decide_eq_true_eq] at hn
 cases l with
 | nil => exact absurd hn.1.1 (by decide)
 | cons c r =>
   have hs : (if smC c=true then 1 + (r.takeWhile inC).length else 0)=r.length + 1:=hn.2
   by_cases hc : smC c=true
   ·rw [if_pos hc] at hs
    exact ⟨c,r,rfl,hc,(cP inC r).1 (by omega),hn.1.2⟩
   ·rw [if_neg hc] at hs; omega
def qG (rdr : List Tk→Rd) : Nat→List Nd→List Tk→Rd
 | 0,_,l => .error (76,(hd l).pos)
 | f + 1,acc,l => (rdr l).then fun t r => if isT A9 r=true then qG rdr f (acc ++ [t]) (b9 r) else p5 Q6 r fun r => .ok (mkN 0 [] 0 (acc ++ [t]) 0,r)
def mP (l : List Tk) : Rd:=U4 1 l fun t r => .ok (mkN 4 t.text 0 [] t.pos,r)
def V6 (l : List Tk) : Rd:=if isT O0 l=true then qG mP 8 [] (b9 l) else .ok (mkN 0 [] 0 [] 0,l)
def gC (l : List Tk) : Rd:=p5 kK l fun r => U4 1 r fun t r => (V6 r).then fun ps r => p5 tEq r fun r => (rd .expr 0 r).then fun x r => p5 Y2 r fun r => .ok (mkN 3 t.text 0 (ps.kids ++ [x]) t.pos,r)
def Q4 : Nat→List Nd→List Tk→Rd
 | 0,acc,l => if isT eU l=true then .error (76,(hd l).pos) else .ok (mkN 0 [] 0 acc 0,l)
 | f + 1,acc,l => if isT eU l=true then U4 1 (b9 l) fun t r => p5 Y2 r fun r => Q4 f (acc ++ [mkN 2 t.text 0 [] t.pos]) r else .ok (mkN 0 [] 0 acc 0,l)
def fO : Nat→List Nd→List Tk→Rd
 | 0,acc,l => if isT kK l=true then .error (76,(hd l).pos) else .ok (mkN 0 [] 0 acc 0,l)
 | f + 1,acc,l => if isT kK l=true then (gC l).then fun t r => fO f (acc ++ [t]) r else .ok (mkN 0 [] 0 acc 0,l)
def kJ (l : List Tk) : Rd:=p5 aU l fun r => U4 1 r fun t r => p5 Y2 r fun r => (Q4 100 [] r).then fun is r => (fO 200 is.kids r).then fun ls r => .ok (mkN 1 t.text 0 ls.kids (hd l).pos,r)
section
open Lib (hid)
open Go.RowKit Go.Shelf
theorem yB (a : Int) (w : World) : Calls Tryz.prog 197 #[.int .i64 a] w fun e w' => e=.returned (.int .i64 (V9 a))∧w=w':=by
 go_enter Tryz.func197,Tryz.ntmps197
 go_wp2
 go_ret
 exact ⟨cF (by unfold V9; (repeat' split) <;> omega),by first | rfl | trivial⟩
theorem a3G {a : Int} {b : Nat} {c d : Bool} (h : a=b) (h' : c=d) : Ending.returned (.tuple #[.int .u64 a,.bool c])=.returned (.tuple #[.int .u64 b,.bool d]):=by rw [h,h']
theorem yJ (a : Int) (w : World) : Calls Tryz.prog 185 #[.int .i64 a] w fun e w' => e=.returned (.tuple #[.int .u64 ((V9 a).natAbs : Nat),.bool (decide (V9 a<0))])∧w=w':=by
 obtain ⟨b1,b2⟩:=tU a
 go_enter Tryz.func185,Tryz.ntmps185
 go_wp2_with (go_at_call 197; refine (yB a _).mono ?_; rintro e w' ⟨rfl,rfl⟩)
 go_wp2
 all_goals go_ret2
 ·exact ⟨a3G (by omega) (decide_eq_true (by omega)).symm,by first | rfl | trivial⟩
 ·exact ⟨a3G (by omega) (decide_eq_false (by omega)).symm,by first | rfl | trivial⟩
structure Dg (h : Nat) (s : ByteArray) (n : Nat) (w : World) : Prop where
 lt : h<w.heap.size
 c0 : w.cell? ⟨h,0,none⟩=some (.string s)
 c1 : w.cell? ⟨h,1,none⟩=some (.int .u64 n)
 f0 : w.frozen? ⟨h,0,none⟩=false
 f1 : w.frozen? ⟨h,1,none⟩=false
theorem zV (n : Nat) : Utf8.encode (48 + (n : Int) % 10)=⟨#[dig n]⟩:=by
 have h : n % 10<10:=Nat.mod_lt _ (by decide)
 have : ∀ d : Fin 10,Utf8.encode (48 + ((d.val : Nat) : Int))=⟨#[UInt8.ofNat (48 + d.val)]⟩:=by decide +kernel
 have e : (n : Int) % 10=((n % 10 : Nat) : Int):=by omega
 rw [e]
 exact this ⟨n % 10,h⟩
theorem iV (h : Nat) (s : ByteArray) (n : Nat) (hn : n≤1000000000000000) (hs : s.size≤100) (w : World) (D : Dg h s n w) : Calls Tryz.prog 186 #[.pointer (some ⟨h,0,none⟩)] w fun e w' => e=.returned (.tuple #[])∧Dg h (⟨#[dig n]⟩ ++ s) (n / 10) w'∧Below h w w':=by
 obtain ⟨lt,c0,c1,f0,f1⟩:=D
 have mixed : Tryz.prog.follows .mixedOrders=true:=by kernel_rfl
 go_enter Tryz.func186,Tryz.ntmps186
 have hz : (Utf8.encode (48 + (n : Int) % 10)).size=1:=by rw [zV]; rfl
 go_wp2
 go_region
 rw [zV]
 have ND : Dg h (⟨#[dig n]⟩ ++ s) n (w.setCell ⟨h,0,none⟩ (.string (⟨#[dig n]⟩ ++ s))).drew :=
  ⟨by simpa [World.setCell] using lt,World.cell?_setCell_same' _ _ _ (by rw [c0]; rfl),(World.cell?_setCell_other _ _ _ _ (by simp)).trans c1,(World.frozen?_setCell _ _ _ _).trans f0,(World.frozen?_setCell _ _ _ _).trans f1⟩
 have NB:=hid (show Below h w (w.setCell ⟨h,0,none⟩ (.string (⟨#[dig n]⟩ ++ s))).drew from (fun b => ⟨b.os,b.tape,b.output,b.size,b.block⟩ : Below h w (w.setCell ⟨h,0,none⟩ (.string (⟨#[dig n]⟩ ++ s)))→_) ((Below.refl h w).setCell (p:=⟨h,0,none⟩) (Nat.le_refl _) _))
 generalize (w.setCell ⟨h,0,none⟩ (.string (⟨#[dig n]⟩ ++ s))).drew=W1 at ND NB ⊢
 clear c0 c1 f0 f1 lt hz
 have HD:=hid ND
 obtain ⟨lt,c0,c1,f0,f1⟩:=ND
 go_wp2
 refine bodyPost_end (results_none rfl _ _ _) rfl ?_
 have ed : Value.int IntKind.u64 ((n : Int) / 10)=.int .u64 ((n / 10 : Nat) : Int):=by congr 1
 rw [ed]
 refine ⟨rfl,⟨by simpa [World.setCell] using lt,(World.cell?_setCell_other _ _ _ _ (by simp)).trans c0,World.cell?_setCell_same' _ _ _ (by rw [c1]; rfl),(World.frozen?_setCell _ _ _ _).trans f0,(World.frozen?_setCell _ _ _ _).trans f1⟩,?_⟩
 exact NB.out.setCell (p:=⟨h,1,none⟩) (Nat.le_refl _) _
theorem a1a (a : Int) (w : World) : Calls Tryz.prog 171 #[.int .i64 a] w fun e w' => e=.returned (.string ⟨(bX a).toArray⟩)∧Below w.heap.size w w':=by
 have E:=hid (a2B a)
 obtain ⟨b1,b2⟩:=tU a
 have eg:=enters_of Tryz.func186 (by kernel_rfl) rfl
 go_enter Tryz.func171,Tryz.ntmps171
 go_wp2_with fail
 refine Calls.mono (yJ a _) ?_
 rintro e w' ⟨rfl,rfl⟩
 generalize hc : V9 a=c at b1 b2 E ⊢
 generalize hx : c.natAbs=x at E ⊢
 have hxb : x≤1000000000000000:=by omega
 go_wp2_with fail
 have D0 : Dg w.heap.size ⟨#[]⟩ x (w.alloc (.cells #[.string ⟨#[]⟩,.int .u64 x] 222)):=by
  refine ⟨?_,?_,?_,?_,?_⟩ <;> simp
 have HB:=hid (a7 w (.cells #[.string ⟨#[]⟩,.int .u64 x] 222))
 have HD:=hid D0
 clear D0
 generalize (w.alloc (.cells #[.string ⟨#[]⟩,.int .u64 x] 222))=W1 at HB HD ⊢
 go_loopw [19] (fun i wr => ∃ (k : Nat) (s : ByteArray) (n : Nat),i=.int .i64 k∧k≤6∧s.size≤6∧s.size=k∧n≤1000000000000000∧Hid (n=x / 10 ^ k∧bD (6 - k) n s.data.toList=bD 6 x [])∧Hid (Dg w.heap.size s n wr)∧Hid (Below w.heap.size w wr)) (fun i _ => (6 - (intOf i).toNat))
 case atStart => exact ⟨0,⟨#[]⟩,x,rfl,by omega,by decide,rfl,hxb,⟨by simp,rfl⟩,HD,HB⟩
 case round =>
  obtain ⟨k,s,n,rfl,hk,hs6,hsk,hn,HI,DR,BR⟩:=hrel
  by_cases hlt : k<6
  ·go_wp2_with fail
   refine Calls.mono (iV w.heap.size s n hn (by omega) _ DR) ?_
   rintro e w' ⟨rfl,hd,hb⟩
   have D2:=hid hd
   have B2:=hid (BR.out.trans hb)
   clear hd hb
   go_wp2_with fail
   go_roundw
   case rel =>
    refine ⟨k + 1,⟨#[dig n]⟩ ++ s,n / 10,by go_num,by omega,by rw [ByteArray.size_append]; show 1 + s.size≤6; omega,by rw [ByteArray.size_append]; show 1 + s.size=k + 1; omega,by omega,⟨?_,?_⟩,D2,B2⟩
    ·rw [HI.out.1,Nat.div_div_eq_div_mul,Nat.pow_succ]
    ·rw [← HI.out.2,show 6 - k=(6 - (k + 1)) + 1 by omega,bD]
     simp
   case measure => simp [intOf]; omega
  ·obtain rfl : k=6:=by omega
   have HX:=hid (show s.data.toList=bD 6 x [] from HI.out.2)
   have HN:=hid (show n=x / 1000000 from HI.out.1)
   clear HI
   obtain ⟨lt,c0,c1,f0,f1⟩:=DR.out
   go_wp2_with fail
   refine Calls.mono (Tryz.strings_TrimRight_one s 48 (by decide) _ (by omega)) ?_
   rintro e w' ⟨rfl,rfl⟩
   obtain ⟨T,hTe,hTl,hTs⟩ : ∃ T : ByteArray,T=⟨(Lib.trimRightB s.data.toList 48).toArray⟩∧Hid (T.data.toList=dX (bD 6 x []))∧T.size≤6:=by
    have e1 : Lib.trimRightB s.data.toList 48=dX (bD 6 x []):=by rw [HX.out]; rfl
    refine ⟨_,rfl,e1,?_⟩
    show (Lib.trimRightB s.data.toList 48).toArray.size≤6
    rw [e1,List.size_toArray]
    have:=pQ (bD 6 x [])
    rw [eC] at this
    exact this
   rw [show (⟨(Lib.trimRightB s.data.toList (48 : UInt8)).toArray⟩ : ByteArray)=T from hTe.symm]
   clear hTe
   have ND : Hid (Dg w.heap.size ⟨#[]⟩ n (w'.setCell ⟨w.heap.size,0,none⟩ (.string ⟨#[]⟩))) :=
    ⟨by simpa [World.setCell] using lt,World.cell?_setCell_same' _ _ _ (by rw [c0]; rfl),(World.cell?_setCell_other _ _ _ _ (by simp)).trans c1,(World.frozen?_setCell _ _ _ _).trans f0,(World.frozen?_setCell _ _ _ _).trans f1⟩
   have NB:=hid (BR.out.setCell (p:=⟨w.heap.size,0,none⟩) (Nat.le_refl _) (.string ⟨#[]⟩))
   clear DR BR HX hs6 hsk hlt hk
   go_wp2_with fail
   generalize (w'.setCell ⟨w.heap.size,0,none⟩ (.string ⟨#[]⟩))=W2 at ND NB ⊢
   clear c0 c1 f0 f1 lt
   go_loopw [32] (fun _ wr => ∃ (k : Nat) (s : ByteArray) (f : Nat),k≤n∧k<10 ^ f∧s.size + f≤18∧Hid ((s=⟨#[]⟩∧k=n∧f=17)∨(0<s.size∧aV 20 k s.data.toList=fS n))∧Hid (Dg w.heap.size s k wr)∧Hid (Below w.heap.size w wr)) (fun _ wr => 20 - a32 ((wr.cell? ⟨w.heap.size,0,none⟩).getD undef))
   case atStart => exact ⟨n,⟨#[]⟩,17,Nat.le_refl _,by omega,by decide,.inl ⟨rfl,rfl,rfl⟩,ND,NB⟩
   case round =>
    obtain ⟨k,s,f,hkn,hk,hsf,HI,DR,BR⟩:=hrel
    obtain ⟨lt,c0,c1,f0,f1⟩:=DR.out
    by_cases he : s=⟨#[]⟩
    ·have HE : Hid (k=n∧f=17):=by
      rcases HI.out with h | h
      ·exact h.2
      ·rw [he] at h; exact absurd h.1 (by decide)
     subst he
     clear HI
     go_wp2_with fail
     refine Calls.mono (iV w.heap.size ⟨#[]⟩ k (by omega) (by decide) _ DR) ?_
     rintro e w3 ⟨rfl,hd,hb⟩
     have D2:=hid hd
     have B2:=hid (BR.out.trans hb)
     clear hd hb
     go_wp2_with fail
     go_roundw
     case rel =>
      obtain ⟨rfl,rfl⟩:=HE.out
      exact ⟨k / 10,⟨#[dig k]⟩ ++ ⟨#[]⟩,16,by omega,by omega,by rw [ByteArray.size_append]; show 1 + 0 + 16≤18; decide,.inr ⟨by rw [ByteArray.size_append]; show 0<1 + 0; decide,rfl⟩,D2,B2⟩
     case measure =>
      rw [D2.out.c0,c0]
      show 20 - (⟨#[dig k]⟩ ++ ⟨#[]⟩ : ByteArray).size<20 - 0
      rw [ByteArray.size_append]
      show 20 - (1 + 0)<20 - 0
      decide
    ·have h0 : 0<s.size:=by
      rcases Nat.eq_zero_or_pos s.size with h | h
      ·exact absurd (by cases s with | mk d => simp only [ByteArray.mk.injEq]; exact Array.eq_empty_of_size_eq_zero h) he
      ·exact h
     have HD : Hid (aV 20 k s.data.toList=fS n):=by
      rcases HI.out with h | h
      ·exact absurd h.1 he
      ·exact h.2
     have e1 : ¬ s.toList=[]:=fun e => by
      rw [Lib.toList_data] at e; have:=d6 s; rw [e] at this; simp at this; omega
     have e2 : s.toList.isEmpty=false:=by simpa using e1
     clear he HI
     by_cases hz : k=0
     ·subst hz
      have E3 : Hid (s.data.toList=fS (x / 1000000)):=by
       show _=_
       have:=HD.out
       rw [pZ] at this
       rw [this,HN.out]
      have tn:=a3D x
      have hsl : s.size≤18:=by omega
      clear hk hsf HD
      by_cases ht : T.toList=[]
      ·have EE : Hid (bX a=(if c<0 then [45] else []) ++ s.data.toList):=by
        show _=_
        rw [E.out,E3.out]
        unfold vL
        have : dX (bD 6 x [])=[]:=by rw [← hTl.out,← Lib.toList_data,ht]
        simp only [if_pos this,List.append_nil]
       have ht2 : T.toList.isEmpty=true:=by rw [ht]; rfl
       clear tn
       by_cases hcn : c<0
       ·have ER:=hid (gF (s:=(⟨#[45]⟩ : ByteArray) ++ s) (show bX a=_ by rw [EE.out,if_pos hcn]; simp))
        go_wp2_with fail
        go_ret
        exact ⟨by rw [ER.out]; rfl,BR⟩
       ·have ER:=hid (gF (s:=s) (show bX a=_ by rw [EE.out,if_neg hcn]; rfl))
        go_wp2_with fail
        go_ret
        exact ⟨by rw [ER.out]; rfl,BR⟩
      ·have EE : Hid (bX a=(if c<0 then [45] else []) ++ (s.data.toList ++ 46 :: T.data.toList)):=by
        show _=_
        rw [E.out,E3.out,hTl.out]
        unfold vL
        have : ¬ dX (bD 6 x [])=[]:=by rw [← hTl.out,← Lib.toList_data]; exact ht
        simp only [if_neg this]
       have ht2 : T.toList.isEmpty=false:=by simpa using ht
       clear tn
       by_cases hcn : c<0
       ·have ER:=hid (gF (s:=(⟨#[45]⟩ : ByteArray) ++ (s ++ (⟨#[46]⟩ ++ T))) (show bX a=_ by rw [EE.out,if_pos hcn]; simp))
        go_wp2_with fail
        go_ret
        exact ⟨by rw [ER.out]; rfl,BR⟩
       ·have ER:=hid (gF (s:=s ++ (⟨#[46]⟩ ++ T)) (show bX a=_ by rw [EE.out,if_neg hcn]; simp))
        go_wp2_with fail
        go_ret
        exact ⟨by rw [ER.out]; rfl,BR⟩
     ·cases f with
      | zero => omega
      | succ f =>
      have hk' : k / 10<10 ^ f:=by rw [Nat.pow_succ] at hk; omega
      have hz2 : k<10 ^ 20:=by omega
      clear hk
      go_wp2_with fail
      refine Calls.mono (iV w.heap.size s k (by omega) (by omega) _ DR) ?_
      rintro e w3 ⟨rfl,hd,hb⟩
      have D2:=hid hd
      have B2:=hid (BR.out.trans hb)
      clear hd hb
      go_wp2_with fail
      go_roundw
      case rel =>
       refine ⟨k / 10,⟨#[dig k]⟩ ++ s,f,by omega,hk',by rw [ByteArray.size_append]; show 1 + s.size + f≤18; omega,.inr ⟨by rw [ByteArray.size_append]; show 0<1 + s.size; omega,?_⟩,D2,B2⟩
       rw [← HD.out,jI k _ hz hz2]
       simp
      case measure =>
       rw [D2.out.c0,c0]
       show 20 - (⟨#[dig k]⟩ ++ s : ByteArray).size<20 - s.size
       rw [ByteArray.size_append]
       show 20 - (1 + s.size)<20 - s.size
       omega
end
section
open Lib (hid)
open Go.RowKit
theorem oY {a b : ByteArray} (h : a.data.toList=b.data.toList) : a=b:=by
 cases a; cases b; simp only [ByteArray.mk.injEq]; exact Array.toList_inj.1 h
def Tab (w : World) : Prop:=Lib.TabIs Tryz.prog w "internal/strconv.uint64pow10" .u64 Lib.pow10Tab
theorem Tab.below {w w' : World} (h : Tab w) (hb : Below w.heap.size w w') : Tab w':=by
 have hg : Tryz.prog.globalNamed "internal/strconv.uint64pow10"=some 3:=by kernel_rfl
 unfold Tab Lib.TabIs World.var? at *
 rw [hg] at h ⊢
 simp only [Option.bind_some] at h ⊢
 have hlt : 3<w.heap.size:=by
  rcases Nat.lt_or_ge 3 w.heap.size with h' | h'
  ·exact h'
  ·rw [Array.getElem?_eq_none h'] at h; cases h
 rw [hb.block _ hlt]
 exact h
theorem jY (w : World) (k : Nat) (os : Array Obj) : Below w.heap.size w (Sort.grow (w.drewN k) os) :=
 ⟨rfl,rfl,rfl,by rw [Sort.size_grow]; exact Nat.le_add_right _ _,fun i hi => Sort.heap_grow_old (w.drewN k) os hi⟩
theorem sR (n : Int) (w : World) (ht : Hid (Tab w)) (h0 : -9223372036854775808≤n) (h1 : n≤9223372036854775807) :
 Calls Tryz.prog 67 #[.int .i64 n] w fun e w' => e=.returned (.string ⟨(Lib.itoa n).toArray⟩)∧Below w.heap.size w w':=by
 refine (Tryz.strconv_Itoa n h0 h1 w ht).mono ?_
 rintro e w' ⟨rfl,k,os,rfl⟩
 exact ⟨rfl,jY w k os⟩
theorem a0O (n : Int) (w : World) (ht : Hid (Tab w)) (h0 : 0≤n) (h1 : n<100) :
 Calls Tryz.prog 189 #[.int .i64 n] w fun e w' => e=.returned (.string ⟨(Cal.dig2 n.toNat).toArray⟩)∧Below w.heap.size w w':=by
 have hlen:=Cal.itoa3_len h0 h1
 have hcut : (ByteArray.mk (Lib.itoa (100 + n)).toArray).extract 1 3=⟨(Cal.dig2 n.toNat).toArray⟩:=by
  rw [← Cal.itoa3 h0 h1]
  refine oY ?_
  rw [Lib.extract_data]
  rw [List.take_of_length_le (by simp [hlen])]
 have HC:=hid hcut
 clear hcut
 go_enter Tryz.func189,Tryz.ntmps189
 go_wp2_with (go_at_call 67; refine (sR _ _ ht (by omega) (by omega)).mono ?_; rintro e w' ⟨rfl,hb⟩)
 go_ret
 exact ⟨congrArg (fun x => Ending.returned (.string x)) HC,hb⟩
def a3y (y m d : Int) : ByteArray:=⟨(Cal.text y m d).toArray⟩
theorem a41 (y m d k : Int) (w : World) (ht : Tab w) (h : Cal.ok y m d) (hk : Cal.num y m d=k) :
 Calls Tryz.prog 172 #[.int .i64 k] w fun e w' => e=.returned (.tuple #[.string (a3y y m d),.int .i64 0])∧Below w.heap.size w w':=by
 have H:=hid h
 have K:=hid hk
 clear hk
 obtain ⟨h1,h2,h3,h4,h5,h6⟩:=h
 have ml:=Cal.mlen_bd y m
 have HB : Hid (Below w.heap.size w w∧Tab w):=⟨Below.refl _ _,ht⟩
 clear ht
 have hi:=hid (Cal.itoa4 (y:=y) (by omega) (by omega))
 have l4 : (Lib.itoa y).length=4:=by rw [hi.out]; rfl
 have l2 : (Cal.dig2 m.toNat).length=2:=rfl
 have l2' : (Cal.dig2 d.toNat).length=2:=rfl
 have HT : Hid ((ByteArray.mk (Lib.itoa y).toArray ++ ByteArray.mk #[45] ++ ByteArray.mk (Cal.dig2 m.toNat).toArray ++ ByteArray.mk #[45] ++ ByteArray.mk (Cal.dig2 d.toNat).toArray)=a3y y m d):=by
  refine oY ?_
  rw [hi.out]
  simp [a3y,Cal.text,ByteArray.data_append]
 go_enter Tryz.func172,Tryz.ntmps172
 go_wp2_with (first
  | (go_at_call 188; refine (a24 _ _ _ _ _ H K).mono ?_; rintro e w' ⟨rfl,hb⟩; replace HB:=hid (And.intro (HB.out.1.trans (hb.mono HB.out.1.size)) (HB.out.2.below hb)); clear hb)
  | (go_at_call 67; refine (sR _ _ (hid HB.out.2) (by omega) (by omega)).mono ?_; rintro e w' ⟨rfl,hb⟩; replace HB:=hid (And.intro (HB.out.1.trans (hb.mono HB.out.1.size)) (HB.out.2.below hb)); clear hb)
  | (go_at_call 189; refine (a0O _ _ (hid HB.out.2) (by omega) (by omega)).mono ?_; rintro e w' ⟨rfl,hb⟩; replace HB:=hid (And.intro (HB.out.1.trans (hb.mono HB.out.1.size)) (HB.out.2.below hb)); clear hb))
 go_ret2
 exact ⟨congrArg (fun x => Ending.returned (.tuple #[.string x,.int .i64 0])) HT,HB.out.1⟩
end
section
open Lib (hid)
open Go.RowKit
theorem a1w (s : ByteArray) (k : Nat) (h : k<s.size) : s.data.toList.take (k + 1)=s.data.toList.take k ++ [s[k]]:=by
 rw [List.take_succ_eq_append_getElem (by simpa using h)]; rfl
theorem tD (s : ByteArray) (k : Nat) (h : k<s.size) (hd : Cal.isDig s[k]=false) : Cal.numL s.data.toList=-1:=by
 unfold Cal.numL
 rw [if_neg]
 intro a
 rw [List.all_eq_true] at a
 have:=a s[k] (by rw [Array.mem_toList_iff]; exact Array.getElem_mem (by simpa using h))
 rw [this] at hd
 cases hd
theorem yA (s : ByteArray) (w : World) (hs : s.size≤4) :
 Calls Tryz.prog 176 #[.string s] w fun e w' => e=.returned (.int .i64 (Cal.numL s.data.toList))∧w=w':=by
 go_enter Tryz.func176,Tryz.ntmps176
 go_wp2
 go_loop [3,4] (fun n i => ∃ k : Nat,k≤s.size∧i=.int .i64 k∧n=.int .i64 (Cal.val (s.data.toList.take k))∧Hid ((s.data.toList.take k).all Cal.isDig=true)) (fun _ i => s.size - (intOf i).toNat)
 case atStart => exact ⟨0,Nat.zero_le _,rfl,rfl,rfl⟩
 case round =>
  obtain ⟨k,hk,rfl,rfl,ha⟩:=hrel
  have hb:=Cal.val_bd ha
  have hl : (s.data.toList.take k).length≤k:=List.length_take_le _ _
  have hp : (10 : Int) ^ (s.data.toList.take k).length≤10 ^ 4:=by
   generalize (s.data.toList.take k).length=n at *
   have c : n=0∨n=1∨n=2∨n=3∨n=4:=by omega
   rcases c with e | e | e | e | e <;> subst e <;> decide
  have hb' : Cal.val (s.data.toList.take k)<10000:=by omega
  clear hl hp
  by_cases hlt : k<s.size
  ·have HT:=hid (a1w s k hlt)
   by_cases h1 : (s[k].toNat : Int)<48
   ·have e:=hid (show Cal.numL s.data.toList=-1 from tD s k hlt (by unfold Cal.isDig; rw [Bool.and_eq_false_iff,decide_eq_false_iff_not,decide_eq_false_iff_not]; omega))
    go_wp2
    go_ret
    exact ⟨rW e.out.symm,rfl⟩
   by_cases h2 : 57<(s[k].toNat : Int)
   ·have e:=hid (show Cal.numL s.data.toList=-1 from tD s k hlt (by unfold Cal.isDig; rw [Bool.and_eq_false_iff,decide_eq_false_iff_not,decide_eq_false_iff_not]; omega))
    go_wp2
    go_ret
    exact ⟨rW e.out.symm,rfl⟩
   have hd:=hid (show Cal.isDig s[k]=true by unfold Cal.isDig; rw [Bool.and_eq_true,decide_eq_true_iff,decide_eq_true_iff]; omega)
   go_wp2
   go_round
   case rel => exact ⟨k + 1,by omega,by go_num,by rw [HT.out,Cal.val_snoc],hid (by rw [HT.out,List.all_append,ha.out]; simp only [List.all_cons,List.all_nil,hd.out,Bool.and_self])⟩
   case measure => simp [intOf]; omega
  ·have e:=hid (show Cal.numL s.data.toList=Cal.val (s.data.toList.take k) by
    have ha':=ha.out
    rw [List.take_of_length_le (by simp; omega)] at ha' ⊢
    unfold Cal.numL; rw [if_pos ha'])
   go_wp2
   go_ret
   exact ⟨rW e.out.symm,rfl⟩
def ofV (y m d : Int) : Int:=if Cal.ok y m d then Cal.num y m d else 0
def ofE (y m d : Int) : Int:=if Cal.ok y m d then 0 else 30
theorem a4e (y m d : Int) (w : World) :
 Calls Tryz.prog 175 #[.int .i64 y,.int .i64 m,.int .i64 d] w fun e w' => e=.returned (.tuple #[.int .i64 (ofV y m d),.int .i64 (ofE y m d)])∧Below w.heap.size w w':=by
 unfold ofV ofE
 by_cases h : Cal.ok y m d
 ·rw [if_pos h,if_pos h]; exact a5L y m d w h
 ·rw [if_neg h,if_neg h]; exact a4m y m d w h
theorem yH (s : ByteArray) (w : World) (hs : ¬ s.size=10) :
 Calls Tryz.prog 159 #[.string s] w fun e w' => e=.returned (.tuple #[.int .i64 0,.int .i64 30])∧Below w.heap.size w w':=by
 go_enter Tryz.func159,Tryz.ntmps159
 go_wp2
 go_ret2
 exact ⟨rfl,Below.refl _ _⟩
theorem yI (s : ByteArray) (w : World) (hs : s.size=10) (h4 : (s[4].toNat : Int)=45) (h7 : (s[7].toNat : Int)=45) :
 Calls Tryz.prog 159 #[.string s] w fun e w' => e=.returned (.tuple #[.int .i64 (ofV (Cal.numL (s.data.toList.take 4)) (Cal.numL ((s.data.toList.drop 5).take 2)) (Cal.numL ((s.data.toList.drop 8).take 2))),.int .i64 (ofE (Cal.numL (s.data.toList.take 4)) (Cal.numL ((s.data.toList.drop 5).take 2)) (Cal.numL ((s.data.toList.drop 8).take 2)))])∧Below w.heap.size w w':=by
 go_enter Tryz.func159,Tryz.ntmps159
 go_wp2
 have e1 : (s.extract 0 4).size=4:=by simp [ByteArray.size_extract]; omega
 have e2 : (s.extract 5 7).size=2:=by simp [ByteArray.size_extract]; omega
 have e3 : (s.extract 8 10).size=2:=by simp [ByteArray.size_extract]; omega
 go_region_with (first | (go_at_call 176; refine (yA _ _ (by omega)).mono ?_; rintro e w' ⟨rfl,rfl⟩) | (go_at_call 175; refine (a4e _ _ _ _).mono ?_; rintro e w' ⟨rfl,hb⟩))
 go_wp2
 go_ret2
 exact ⟨rfl,(Below.refl _ _).drew.trans hb⟩
theorem xQ (s : ByteArray) (w : World) (hs : s.size=10) (h : ¬ ((s[4].toNat : Int)=45∧(s[7].toNat : Int)=45)) :
 Calls Tryz.prog 159 #[.string s] w fun e w' => e=.returned (.tuple #[.int .i64 0,.int .i64 30])∧Below w.heap.size w w':=by
 by_cases h4 : (s[4].toNat : Int)=45
 ·have h7 : ¬ (s[7].toNat : Int)=45:=fun c => h ⟨h4,c⟩
  clear h
  go_enter Tryz.func159,Tryz.ntmps159
  go_wp2
  go_ret2
  exact ⟨rfl,Below.refl _ _⟩
 ·clear h
  go_enter Tryz.func159,Tryz.ntmps159
  go_wp2
  go_ret2
  exact ⟨rfl,Below.refl _ _⟩
end
end Go.Proofs.YtppcfebnaieciaaGreatDoor
