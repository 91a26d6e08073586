/-
  Laws that the proof rests on.
-/
import Derived.Test.YtppcfebnaieciaaGreatDoorF06
import Derived.Test.YtppcfebnaieciaaGreatDoorF03
import Derived.Test.YtppcfebnaieciaaGreatDoorF02
import Derived.Test.YtppcfebnaieciaaGreatDoorF01
import Derived.Test.YtppcfebnaieciaaGreatDoorF04
import Derived.Test.YtppcfebnaieciaaGreatDoorF05
import Derived.Deep.DrawnRows
import Derived.WalkSmall
namespace Go.Proofs.YtppcfebnaieciaaGreatDoor
set_option maxRecDepth 100000
set_option maxHeartbeats 16000000
theorem sW (c : UInt8) : dgC c=Cal.isDig c:=by
 have:=fY (p:=fun c => dgC c == Cal.isDig c) (by decide +kernel) c
 exact eq_of_beq this
theorem bM (c : UInt8) : dgC c=dgI c.toNat:=by
 have:=fY (p:=fun c => dgC c == dgI c.toNat) (by decide +kernel) c
 exact eq_of_beq this
theorem zL (l : List UInt8) : l.all dgC=l.all Cal.isDig:=by rw [show dgC=Cal.isDig from funext sW]
theorem pW {d : List UInt8} {k : Nat} (hk : k≤d.length) (h : ∀ j (hj : j<d.length),j<k→dgC d[j]=true) (h' : ∀ (hk : k<d.length),dgC d[k]=false) : bK d=k:=D8 dgC d k hk h h'
theorem kI {α : Type} (p : α→Bool) (l : List α) : l.takeWhile p=l.take (l.takeWhile p).length:=(List.prefix_iff_eq_take.1 (List.takeWhile_prefix p))
theorem a33 {d : List UInt8} {k : Nat} (h : bK d=k) : aP d=if 1≤k∧k≤10∧(k=1∨d.headD 0≠48)∧bY (d.drop k)=true then some (Cal.val (d.take k ++ d.drop (k + 1) ++ List.replicate (6 - (d.drop (k + 1)).length) 48)) else none:=by
 unfold bK at h
 unfold aP
 simp only
 rw [h,List.tail_drop,kI,h]
def U7 (d : List UInt8) (k : Nat) : List UInt8:=d.drop (k + 1) ++ List.replicate (6 - (d.drop (k + 1)).length) 48
theorem rT {d : List UInt8} {k : Nat} (h : d.length - (k + 1)≤6) : (U7 d k).length=6:=by
 unfold U7
 rw [List.length_append,List.length_replicate,List.length_drop]; omega
theorem yO {d : List UInt8} {k i : Nat} (h : k + 1 + i<d.length) (hi : i<(U7 d k).length) : (U7 d k)[i]=d[k + 1 + i]:=by
 unfold U7 at hi ⊢
 rw [List.getElem_append_left (by rw [List.length_drop]; omega),List.getElem_drop]
theorem a3e {d : List UInt8} {k i : Nat} (h : ¬ k + 1 + i<d.length) (hi : i<(U7 d k).length) : (U7 d k)[i]=48:=by
 unfold U7 at hi ⊢
 rw [List.getElem_append_right (by rw [List.length_drop]; omega),List.getElem_replicate]
theorem uC {l q : List UInt8} {i : Nat} (hi : i<q.length) : Cal.val (l ++ q.take (i + 1))=10 * Cal.val (l ++ q.take i) + ((q[i].toNat : Int) - 48):=by
 rw [List.take_succ_eq_append_getElem hi,← List.append_assoc,Cal.val_snoc]
theorem oW {d : List UInt8} {i : Nat} (hi : i<d.length) : Cal.val (d.take (i + 1))=10 * Cal.val (d.take i) + ((d[i].toNat : Int) - 48):=by
 rw [List.take_succ_eq_append_getElem hi,Cal.val_snoc]
theorem fH {l : List UInt8} {n : Nat} (h : l.all dgC=true) (hn : l.length≤n) : 0≤Cal.val l∧Cal.val l<10 ^ n:=by
 have:=Cal.val_bd (l:=l) (by rw [← zL]; exact h)
 exact ⟨this.1,Int.lt_of_lt_of_le this.2 (by exact_mod_cast Nat.pow_le_pow_right (by decide) hn)⟩
theorem eE {c : UInt8} (h : dgC c=true) : 48≤(c.toNat : Int)∧(c.toNat : Int)≤57:=by
 unfold dgC at h
 simp only [Bool.and_eq_true,decide_eq_true_eq] at h
 omega
def nF (l : List UInt8) : Int:=(nG l).getD 0
def nD (l : List UInt8) : Bool:=(nG l).isSome
theorem kG {d : List UInt8} (h : d.headD 0≠45) : nG d=match aP d with | some n => if 1000000000000000<n then none else some n | none => none:=if_neg h
theorem U1 {d : List UInt8} (h : d.headD 0≠45) (hu : aP d=none) : nF d=0∧nD d=false:=by
 unfold nF nD
 rw [kG h,hu]
 exact ⟨rfl,rfl⟩
theorem oS {d : List UInt8} {n : Int} (h : d.headD 0≠45) (hu : aP d=some n) (hn : ¬ 1000000000000000<n) : nF d=n∧nD d=true:=by
 unfold nF nD
 rw [kG h,hu]
 simp only [if_neg hn]
 exact ⟨rfl,rfl⟩
theorem rY {d : List UInt8} {n : Int} (h : d.headD 0≠45) (hu : aP d=some n) (hn : 1000000000000000<n) : nF d=0∧nD d=false:=by
 unfold nF nD
 rw [kG h,hu]
 simp only [if_pos hn]
 exact ⟨rfl,rfl⟩
theorem tY {l : List UInt8} (h : l.headD 0≠0) : 0<l.length:=by
 cases l with
 | nil => exact absurd rfl h
 | cons a l => simp
theorem qW {l : List UInt8} {n : Nat} (h : (l.drop n).headD 0≠0) : n<l.length:=by
 have:=tY h
 rw [List.length_drop] at this; omega
theorem aU {α : Type} (p : α→Bool) (l : List α) : (l.takeWhile p).length≤l.length:=(List.takeWhile_sublist (l:=l) p).length_le
theorem wN {l : List UInt8} {pos : Int} {t : Tk} {n : Nat} (h : cC l pos=.ok (t,n)) (h1 : 1≤x9 l) : 1≤n∧n≤l.length:=by
 have hs:=gM l
 unfold cC at h
 simp only at h
 split at h
 ·rename_i hd
  have hd':=qW (l:=l) (n:=x9 l) (by rw [hd]; decide)
  have hs2:=gM (l.drop (x9 l + 1))
  rw [List.length_drop] at hs2
  split at h
  ·cases h
  ·simp only [Except.ok.injEq,Prod.mk.injEq] at h
   omega
 ·split at h
  ·cases h
  ·simp only [Except.ok.injEq,Prod.mk.injEq] at h
   omega
theorem a3d {c : UInt8} {r : List UInt8} (h : dgC c=true) : 1≤bK (c :: r):=by
 unfold bK
 rw [List.takeWhile_cons,if_pos h]; simp
theorem a2e {l : List UInt8} (h : 1≤bK l) : 1≤cW l∧cW l≤l.length:=by
 have h1 : bK l≤l.length:=aU dgC l
 unfold cW
 split
 ·rename_i hd
  have hd':=qW (l:=l) (n:=bK l) (by rw [hd.1]; decide)
  have h2 : bK (l.drop (bK l + 1))≤(l.drop (bK l + 1)).length:=aU dgC _
  rw [List.length_drop] at h2
  omega
 ·omega
theorem a2Z {l : List UInt8} {pos : Int} {t : Tk} {n : Nat} (h : aA l pos=.ok (t,n)) (h1 : 1≤bK l) : 1≤n∧n≤l.length:=by
 unfold aA at h
 split at h
 ·rename_i hd
  unfold aF at hd
  rw [Bool.and_eq_true,decide_eq_true_eq] at hd
  split at h
  ·cases h
  ·split at h
   ·simp only [Except.ok.injEq,Prod.mk.injEq] at h; omega
   ·cases h
 ·have:=a2e h1
  split at h
  ·cases h
  ·split at h
   ·simp only [Except.ok.injEq,Prod.mk.injEq] at h; omega
   ·cases h
theorem a1j {r : List UInt8} {pos : Int} {t : Tk} {n : Nat} (h : cM r pos=.ok (t,n)) : 1≤n∧n≤r.length + 1:=by
 unfold cM at h
 split at h
 ·cases h
 ·rename_i hd
  have:=qW (l:=r) (n:=nP r) (by rw [Decidable.not_not.1 hd]; decide)
  split at h
  ·simp only [Except.ok.injEq,Prod.mk.injEq] at h; omega
  ·cases h
theorem yD {c : UInt8} {r : List UInt8} {pos : Int} {t : Tk} {n : Nat} (h : eB c r pos=.ok (t,n)) : 1≤n∧n≤r.length + 1:=by
 unfold eB at h
 split at h
 ·rename_i hs
  exact wN h (by show 1≤(if smC c=true then 1 + (r.takeWhile inC).length else 0); rw [if_pos hs]; omega)
 split at h
 ·rename_i hd
  exact a2Z h (a3d hd)
 split at h
 ·exact a1j h
 split at h
 ·unfold a3o at h
  split at h
  ·rename_i h3
   have : a3N (c :: r)≤(c :: r).length:=aU grC _
   simp only [Except.ok.injEq,Prod.mk.injEq] at h
   rw [List.length_cons] at this
   omega
  ·cases h
 ·unfold mH at h
  split at h
  ·rename_i h2
   have:=tY (l:=r) (by rw [h2.2]; decide)
   simp only [Except.ok.injEq,Prod.mk.injEq] at h; omega
  ·split at h
   ·simp only [Except.ok.injEq,Prod.mk.injEq] at h; omega
   ·cases h
theorem iQ : ∀ (l : List UInt8) (pos : Int) (k n : Nat),n≤l.length→v8 l pos k n=v8 (l.drop n) (pos + n) k 0
 | l,pos,k,0,_ => by rw [List.drop_zero]; congr 1; omega
 | [],_,_,n + 1,h => by simp at h
 | c :: r,pos,k,n + 1,h => by
   rw [v8,iQ r (pos + 1) k n (by simpa using h),List.drop_succ_cons]
   congr 1; omega
def ahead (ts : List Tk) (x : Except (Int × Int) (List Tk)) : Except (Int × Int) (List Tk):=match x with
 | .error e => .error e
 | .ok r => .ok (ts ++ r)
theorem a0w (x : Except (Int × Int) (List Tk)) : ahead [] x=x:=by cases x <;> rfl
theorem a00 (a b : List Tk) (x : Except (Int × Int) (List Tk)) : ahead a (ahead b x)=ahead (a ++ b) x:=by
 cases x with
 | error e => rfl
 | ok r => simp [ahead]
theorem wA {c : UInt8} {r : List UInt8} {pos : Int} {k : Nat} (h : c.toNat≤32) : v8 (c :: r) pos k 0=v8 r (pos + 1) k 0:=by
 rw [v8,if_pos h]
theorem a1R {c : UInt8} {r : List UInt8} {pos : Int} {k : Nat} (h : c=35) : v8 (c :: r) pos k 0=v8 (r.drop (uL r)) (pos + 1 + uL r) k 0:=by
 rw [v8,if_neg (by rw [h]; decide),if_pos h]
 exact iQ _ _ _ _ (aU _ r)
theorem a1W {c : UInt8} {r : List UInt8} {pos : Int} {k : Nat} {e : Int} (h : ¬ c.toNat≤32) (h' : c≠35) (ht : eB c r pos=.error e) : v8 (c :: r) pos k 0=.error (e,pos):=by
 rw [v8,if_neg h,if_neg h',ht]
theorem a0E {c : UInt8} {r : List UInt8} {pos : Int} {k : Nat} {t : Tk} {n : Nat} (h : ¬ c.toNat≤32) (h' : c≠35) (ht : eB c r pos=.ok (t,n)) (hk : k=8192) : v8 (c :: r) pos k 0=.error (76,pos):=by
 rw [v8,if_neg h,if_neg h',ht]
 simp only
 rw [if_pos hk]
theorem a27 {c : UInt8} {r : List UInt8} {pos : Int} {k : Nat} {t : Tk} {n : Nat} (h : ¬ c.toNat≤32) (h' : c≠35) (ht : eB c r pos=.ok (t,n)) (hk : k≠8192) : v8 (c :: r) pos k 0=ahead [t] (v8 ((c :: r).drop n) (pos + n) (k + 1) 0):=by
 have hl:=yD ht
 obtain ⟨m,rfl⟩ : ∃ m,n=m + 1:=⟨n - 1,by omega⟩
 rw [v8,if_neg h,if_neg h',ht]
 simp only
 rw [if_neg hk,Nat.add_sub_cancel,iQ r _ _ m (by omega),List.drop_succ_cons,show pos + 1 + (m : Int)=pos + ((m + 1 : Nat) : Int) by omega]
 cases v8 (r.drop m) (pos + ((m + 1 : Nat) : Int)) (k + 1) 0 <;> rfl
theorem kW {l : List UInt8} (h : x8 l=true) : ∃ c r,l=c :: r∧smC c=true∧r.all inC=true∧l.length≤24:=by
 have hn:=h
 rw [← tX] at hn
 unfold eY at hn
 simp only [Bool.and_eq_true,decide_eq_true_eq] at hn
 cases l with
 | nil => exact absurd hn.1.1 (by decide)
 | cons c r =>
   have hs : (if smC c=true then 1 + (r.takeWhile inC).length else 0)=r.length + 1:=hn.2
   by_cases hc : smC c=true
   ·rw [if_pos hc] at hs
    exact ⟨c,r,rfl,hc,(bW inC r).1 (by omega),hn.1.2⟩
   ·rw [if_neg hc] at hs; omega
section
open Lib (hid)
open Go.RowKit
theorem qH (ks : List Nd) (k : Nat) (h : k<ks.length) : o2 (ks.drop k)=max (i8 ks[k]) (o2 (ks.drop (k + 1))):=by
 rw [List.drop_eq_getElem_cons h,o2]
theorem sT (ks : List Nd) (k : Nat) (h : ¬ k<ks.length) : o2 (ks.drop k)=0:=by
 rw [List.drop_eq_nil_of_le (by omega),o2]
theorem tD (N : Nat) : ∀ (t : Nd),SizeOf.sizeOf t<N→∀ (a : Option Addr) (cap n₀ : Nat) (w : World),t.hold n₀ w a cap→n₀≤w.heap.size→i8 t≤1000 →
 Calls Tryz.prog 138 #[.agg #[.int .i64 t.kind,.string t.text,.int .i64 t.n,.slice a t.kids.length cap,.int .i64 t.place]] w fun e w' => e=.returned (.int .i64 (i8 t))∧Below w.heap.size w w':=by
 induction N with
 | zero => intro t ht; omega
 | succ N ih =>
 intro t ht
 cases t with
 | mk kind s n ks p =>
 intro a cap n₀ w hh hn h0
 show Calls Tryz.prog 138 #[.agg #[.int .i64 kind,.string s,.int .i64 n,.slice a ks.length cap,.int .i64 p]] w _
 have hkl : ks.length≤cap∧cap≤maxLen:=⟨hh.2.2.2.2.1,hh.2.2.2.2.2.1⟩
 have hm:=hkl
 unfold maxLen at hm
 have HH:=hid hh
 have IH:=hid ih
 have HT:=hid ht
 clear hh ih ht
 have E:=hid (show i8 (.mk kind s n ks p)=o2 ks + 1 by rw [i8])
 have h9 : o2 ks≤999:=by rw [E.out] at h0; omega
 clear h0
 go_enter Tryz.func138,Tryz.ntmps138
 go_wp2
 obtain ⟨W1,hW1⟩ : ∃ W1,W1=w.alloc (.cells #[.int .i64 kind,.string s,.int .i64 n,.slice a ks.length cap,.int .i64 p] 24):=⟨_,rfl⟩
 have HB:=hid (show Below w.heap.size w W1 from hW1 ▸ a7 _ _)
 have hsz : W1.heap.size=w.heap.size + 1:=by rw [hW1]; simp
 have D3:=hid (show W1.cell? ⟨w.heap.size,3,none⟩=some (.slice a ks.length cap) from hW1 ▸ (a5j w _ _ _ _ _).2.2.2.1)
 rw [← hW1]
 clear hW1
 go_loopw [3,4] (fun x i wr => ∃ (k y : Nat),k≤ks.length∧i=.int .i64 k∧x=.int .i64 y∧y≤999∧Hid (max y (o2 (ks.drop k))=o2 ks)∧Hid (Below W1.heap.size W1 wr)) (fun _ i _ => (ks.length - (intOf i).toNat))
 case atStart => exact ⟨0,0,Nat.zero_le _,rfl,rfl,by omega,by show _=_; rw [Nat.zero_max]; rfl,Below.refl _ _⟩
 case round =>
  obtain ⟨k,y,hk,rfl,rfl,hy0,HI,HBr⟩:=hrel
  have d3:=(HBr.out.cell (p:=⟨w.heap.size,3,none⟩) (by show w.heap.size<W1.heap.size; omega)).trans D3
  have HW:=hid (HB.out.trans (HBr.out.mono HB.out.size))
  by_cases hlt : k<ks.length
  ·obtain ⟨b,off,a',cap',A⟩:=(HH.out.below (HW.out.mono hn)).kid k hlt
   obtain ⟨rfl,hb,c0,c1,c2,c3,c4,hk1⟩:=A
   have HK:=hid hk1
   clear hk1
   have S:=hid (qH ks k hlt)
   have hd : i8 ks[k]≤999:=by
    have:=HI.out
    rw [S.out] at this
    omega
   go_wp2_with (go_at_call 138; refine (IH.out _ (eD hlt HT) a' cap' n₀ _ HK (Nat.le_trans hn HW.out.size) (by omega)).mono ?_; rintro e w' ⟨rfl,hb⟩)
   go_roundw
   case rel => exact ⟨k + 1,max y (i8 ks[k]),by omega,by go_num,by go_num,by omega,by show _=_; rw [← HI.out,S.out,Nat.max_assoc],HBr.out.trans (hb.mono HBr.out.size)⟩
   case measure => simp [intOf]; omega
  ·have S:=hid (sT ks k hlt)
   go_wp2
   go_ret
   exact ⟨dH (by rw [E.out,← HI.out,S.out]; omega),HW⟩
theorem vC (t : Nd) (a : Option Addr) (cap n₀ : Nat) (w : World) (hh : t.hold n₀ w a cap) (hn : n₀≤w.heap.size) (hd : i8 t≤1000) :
 Calls Tryz.prog 138 #[.agg #[.int .i64 t.kind,.string t.text,.int .i64 t.n,.slice a t.kids.length cap,.int .i64 t.place]] w fun e w' => e=.returned (.int .i64 (i8 t))∧Below w.heap.size w w' :=
 tD _ t (Nat.lt_succ_self _) a cap n₀ w hh hn hd
end
def oX (rdr : List Tk→Rd) : Nat→List Nd→List Tk→Rd
 | 0,_,l => .error (76,(hd l).pos)
 | f + 1,acc,l => (rdr l).then fun t r => if isT z6 r=true then oX rdr f (acc ++ [t]) (b9 r) else o8 O9 r fun r => .ok (mkN 0 [] 0 (acc ++ [t]) 0,r)
def kE (l : List Tk) : Rd:=U0 1 l fun t r => .ok (mkN 4 t.text 0 [] t.pos,r)
def V6 (l : List Tk) : Rd:=if isT J7 l=true then oX kE 8 [] (b9 l) else .ok (mkN 0 [] 0 [] 0,l)
def fN (l : List Tk) : Rd:=o8 jU l fun r => U0 1 r fun t r => (V6 r).then fun ps r => o8 tEq r fun r => (rd .expr 0 r).then fun x r => o8 X4 r fun r => .ok (mkN 3 t.text 0 (ps.kids ++ [x]) t.pos,r)
def O6 : Nat→List Nd→List Tk→Rd
 | 0,acc,l => if isT eG l=true then .error (76,(hd l).pos) else .ok (mkN 0 [] 0 acc 0,l)
 | f + 1,acc,l => if isT eG l=true then U0 1 (b9 l) fun t r => o8 X4 r fun r => O6 f (acc ++ [mkN 2 t.text 0 [] t.pos]) r else .ok (mkN 0 [] 0 acc 0,l)
def fC : Nat→List Nd→List Tk→Rd
 | 0,acc,l => if isT jU l=true then .error (76,(hd l).pos) else .ok (mkN 0 [] 0 acc 0,l)
 | f + 1,acc,l => if isT jU l=true then (fN l).then fun t r => fC f (acc ++ [t]) r else .ok (mkN 0 [] 0 acc 0,l)
def jP (l : List Tk) : Rd:=o8 aT l fun r => U0 1 r fun t r => o8 X4 r fun r => (O6 100 [] r).then fun is r => (fC 200 is.kids r).then fun ls r => .ok (mkN 1 t.text 0 ls.kids (hd l).pos,r)
section
open Lib (hid)
open Go.RowKit Go.Shelf
theorem xA (a : Int) (w : World) : Calls Tryz.prog 197 #[.int .i64 a] w fun e w' => e=.returned (.int .i64 (U5 a))∧w=w':=by
 go_enter Tryz.func197,Tryz.ntmps197
 go_wp2
 go_ret
 exact ⟨dH (by unfold U5; (repeat' split) <;> omega),by first | rfl | trivial⟩
theorem a2b {a : Int} {b : Nat} {c d : Bool} (h : a=b) (h' : c=d) : Ending.returned (.tuple #[.int .u64 a,.bool c])=.returned (.tuple #[.int .u64 b,.bool d]):=by rw [h,h']
theorem wQ (a : Int) (w : World) : Calls Tryz.prog 185 #[.int .i64 a] w fun e w' => e=.returned (.tuple #[.int .u64 ((U5 a).natAbs : Nat),.bool (decide (U5 a<0))])∧w=w':=by
 obtain ⟨b1,b2⟩:=rW a
 go_enter Tryz.func185,Tryz.ntmps185
 go_wp2_with (go_at_call 197; refine (xA a _).mono ?_; rintro e w' ⟨rfl,rfl⟩)
 go_wp2
 all_goals go_ret2
 ·exact ⟨a2b (by omega) (decide_eq_true (by omega)).symm,by first | rfl | trivial⟩
 ·exact ⟨a2b (by omega) (decide_eq_false (by omega)).symm,by first | rfl | trivial⟩
structure Dg (h : Nat) (s : ByteArray) (n : Nat) (w : World) : Prop where
 lt : h<w.heap.size
 c0 : w.cell? ⟨h,0,none⟩=some (.string s)
 c1 : w.cell? ⟨h,1,none⟩=some (.int .u64 n)
 f0 : w.frozen? ⟨h,0,none⟩=false
 f1 : w.frozen? ⟨h,1,none⟩=false
theorem xV (n : Nat) : Utf8.encode (48 + (n : Int) % 10)=⟨#[dig n]⟩:=by
 have h : n % 10<10:=Nat.mod_lt _ (by decide)
 have : ∀ d : Fin 10,Utf8.encode (48 + ((d.val : Nat) : Int))=⟨#[UInt8.ofNat (48 + d.val)]⟩:=by decide +kernel
 have e : (n : Int) % 10=((n % 10 : Nat) : Int):=by omega
 rw [e]
 exact this ⟨n % 10,h⟩
theorem hG (h : Nat) (s : ByteArray) (n : Nat) (hn : n≤1000000000000000) (hs : s.size≤100) (w : World) (D : Dg h s n w) : Calls Tryz.prog 186 #[.pointer (some ⟨h,0,none⟩)] w fun e w' => e=.returned (.tuple #[])∧Dg h (⟨#[dig n]⟩ ++ s) (n / 10) w'∧Below h w w':=by
 obtain ⟨lt,c0,c1,f0,f1⟩:=D
 have mixed : Tryz.prog.follows .mixedOrders=true:=by kernel_rfl
 go_enter Tryz.func186,Tryz.ntmps186
 have hz : (Utf8.encode (48 + (n : Int) % 10)).size=1:=by rw [xV]; rfl
 go_wp2
 go_region
 rw [xV]
 have ND : Dg h (⟨#[dig n]⟩ ++ s) n (w.setCell ⟨h,0,none⟩ (.string (⟨#[dig n]⟩ ++ s))).drew :=
  ⟨by simpa [World.setCell] using lt,World.cell?_setCell_same' _ _ _ (by rw [c0]; rfl),(World.cell?_setCell_other _ _ _ _ (by simp)).trans c1,(World.frozen?_setCell _ _ _ _).trans f0,(World.frozen?_setCell _ _ _ _).trans f1⟩
 have NB:=hid (show Below h w (w.setCell ⟨h,0,none⟩ (.string (⟨#[dig n]⟩ ++ s))).drew from (fun b => ⟨b.os,b.tape,b.output,b.size,b.block⟩ : Below h w (w.setCell ⟨h,0,none⟩ (.string (⟨#[dig n]⟩ ++ s)))→_) ((Below.refl h w).setCell (p:=⟨h,0,none⟩) (Nat.le_refl _) _))
 generalize (w.setCell ⟨h,0,none⟩ (.string (⟨#[dig n]⟩ ++ s))).drew=W1 at ND NB ⊢
 clear c0 c1 f0 f1 lt hz
 have HD:=hid ND
 obtain ⟨lt,c0,c1,f0,f1⟩:=ND
 go_wp2
 refine bodyPost_end (results_none rfl _ _ _) rfl ?_
 have ed : Value.int IntKind.u64 ((n : Int) / 10)=.int .u64 ((n / 10 : Nat) : Int):=by congr 1
 rw [ed]
 refine ⟨rfl,⟨by simpa [World.setCell] using lt,(World.cell?_setCell_other _ _ _ _ (by simp)).trans c0,World.cell?_setCell_same' _ _ _ (by rw [c1]; rfl),(World.frozen?_setCell _ _ _ _).trans f0,(World.frozen?_setCell _ _ _ _).trans f1⟩,?_⟩
 exact NB.out.setCell (p:=⟨h,1,none⟩) (Nat.le_refl _) _
theorem zK (a : Int) (w : World) : Calls Tryz.prog 171 #[.int .i64 a] w fun e w' => e=.returned (.string ⟨(bP a).toArray⟩)∧Below w.heap.size w w':=by
 have E:=hid (a1L a)
 obtain ⟨b1,b2⟩:=rW a
 have eg:=enters_of Tryz.func186 (by kernel_rfl) rfl
 go_enter Tryz.func171,Tryz.ntmps171
 go_wp2_with fail
 refine Calls.mono (wQ a _) ?_
 rintro e w' ⟨rfl,rfl⟩
 generalize hc : U5 a=c at b1 b2 E ⊢
 generalize hx : c.natAbs=x at E ⊢
 have hxb : x≤1000000000000000:=by omega
 go_wp2_with fail
 have D0 : Dg w.heap.size ⟨#[]⟩ x (w.alloc (.cells #[.string ⟨#[]⟩,.int .u64 x] 222)):=by
  refine ⟨?_,?_,?_,?_,?_⟩ <;> simp
 have HB:=hid (a7 w (.cells #[.string ⟨#[]⟩,.int .u64 x] 222))
 have HD:=hid D0
 clear D0
 generalize (w.alloc (.cells #[.string ⟨#[]⟩,.int .u64 x] 222))=W1 at HB HD ⊢
 go_loopw [19] (fun i wr => ∃ (k : Nat) (s : ByteArray) (n : Nat),i=.int .i64 k∧k≤6∧s.size≤6∧s.size=k∧n≤1000000000000000∧Hid (n=x / 10 ^ k∧aN (6 - k) n s.data.toList=aN 6 x [])∧Hid (Dg w.heap.size s n wr)∧Hid (Below w.heap.size w wr)) (fun i _ => (6 - (intOf i).toNat))
 case atStart => exact ⟨0,⟨#[]⟩,x,rfl,by omega,by decide,rfl,hxb,⟨by simp,rfl⟩,HD,HB⟩
 case round =>
  obtain ⟨k,s,n,rfl,hk,hs6,hsk,hn,HI,DR,BR⟩:=hrel
  by_cases hlt : k<6
  ·go_wp2_with fail
   refine Calls.mono (hG w.heap.size s n hn (by omega) _ DR) ?_
   rintro e w' ⟨rfl,hd,hb⟩
   have D2:=hid hd
   have B2:=hid (BR.out.trans hb)
   clear hd hb
   go_wp2_with fail
   go_roundw
   case rel =>
    refine ⟨k + 1,⟨#[dig n]⟩ ++ s,n / 10,by go_num,by omega,by rw [ByteArray.size_append]; show 1 + s.size≤6; omega,by rw [ByteArray.size_append]; show 1 + s.size=k + 1; omega,by omega,⟨?_,?_⟩,D2,B2⟩
    ·rw [HI.out.1,Nat.div_div_eq_div_mul,Nat.pow_succ]
    ·rw [← HI.out.2,show 6 - k=(6 - (k + 1)) + 1 by omega,aN]
     simp
   case measure => simp [intOf]; omega
  ·obtain rfl : k=6:=by omega
   have HX:=hid (show s.data.toList=aN 6 x [] from HI.out.2)
   have HN:=hid (show n=x / 1000000 from HI.out.1)
   clear HI
   obtain ⟨lt,c0,c1,f0,f1⟩:=DR.out
   go_wp2_with fail
   refine Calls.mono (Tryz.strings_TrimRight_one s 48 (by decide) _ (by omega)) ?_
   rintro e w' ⟨rfl,rfl⟩
   obtain ⟨T,hTe,hTl,hTs⟩ : ∃ T : ByteArray,T=⟨(Lib.trimRightB s.data.toList 48).toArray⟩∧Hid (T.data.toList=dO (aN 6 x []))∧T.size≤6:=by
    have e1 : Lib.trimRightB s.data.toList 48=dO (aN 6 x []):=by rw [HX.out]; rfl
    refine ⟨_,rfl,e1,?_⟩
    show (Lib.trimRightB s.data.toList 48).toArray.size≤6
    rw [e1,List.size_toArray]
    have:=oK (aN 6 x [])
    rw [dP] at this
    exact this
   rw [show (⟨(Lib.trimRightB s.data.toList (48 : UInt8)).toArray⟩ : ByteArray)=T from hTe.symm]
   clear hTe
   have ND : Hid (Dg w.heap.size ⟨#[]⟩ n (w'.setCell ⟨w.heap.size,0,none⟩ (.string ⟨#[]⟩))) :=
    ⟨by simpa [World.setCell] using lt,World.cell?_setCell_same' _ _ _ (by rw [c0]; rfl),(World.cell?_setCell_other _ _ _ _ (by simp)).trans c1,(World.frozen?_setCell _ _ _ _).trans f0,(World.frozen?_setCell _ _ _ _).trans f1⟩
   have NB:=hid (BR.out.setCell (p:=⟨w.heap.size,0,none⟩) (Nat.le_refl _) (.string ⟨#[]⟩))
   clear DR BR HX hs6 hsk hlt hk
   go_wp2_with fail
   generalize (w'.setCell ⟨w.heap.size,0,none⟩ (.string ⟨#[]⟩))=W2 at ND NB ⊢
   clear c0 c1 f0 f1 lt
   go_loopw [32] (fun _ wr => ∃ (k : Nat) (s : ByteArray) (f : Nat),k≤n∧k<10 ^ f∧s.size + f≤18∧Hid ((s=⟨#[]⟩∧k=n∧f=17)∨(0<s.size∧dW 20 k s.data.toList=a01 n))∧Hid (Dg w.heap.size s k wr)∧Hid (Below w.heap.size w wr)) (fun _ wr => 20 - a4M ((wr.cell? ⟨w.heap.size,0,none⟩).getD undef))
   case atStart => exact ⟨n,⟨#[]⟩,17,Nat.le_refl _,by omega,by decide,.inl ⟨rfl,rfl,rfl⟩,ND,NB⟩
   case round =>
    obtain ⟨k,s,f,hkn,hk,hsf,HI,DR,BR⟩:=hrel
    obtain ⟨lt,c0,c1,f0,f1⟩:=DR.out
    by_cases he : s=⟨#[]⟩
    ·have HE : Hid (k=n∧f=17):=by
      rcases HI.out with h | h
      ·exact h.2
      ·rw [he] at h; exact absurd h.1 (by decide)
     subst he
     clear HI
     go_wp2_with fail
     refine Calls.mono (hG w.heap.size ⟨#[]⟩ k (by omega) (by decide) _ DR) ?_
     rintro e w3 ⟨rfl,hd,hb⟩
     have D2:=hid hd
     have B2:=hid (BR.out.trans hb)
     clear hd hb
     go_wp2_with fail
     go_roundw
     case rel =>
      obtain ⟨rfl,rfl⟩:=HE.out
      exact ⟨k / 10,⟨#[dig k]⟩ ++ ⟨#[]⟩,16,by omega,by omega,by rw [ByteArray.size_append]; show 1 + 0 + 16≤18; decide,.inr ⟨by rw [ByteArray.size_append]; show 0<1 + 0; decide,rfl⟩,D2,B2⟩
     case measure =>
      rw [D2.out.c0,c0]
      show 20 - (⟨#[dig k]⟩ ++ ⟨#[]⟩ : ByteArray).size<20 - 0
      rw [ByteArray.size_append]
      show 20 - (1 + 0)<20 - 0
      decide
    ·have h0 : 0<s.size:=by
      rcases Nat.eq_zero_or_pos s.size with h | h
      ·exact absurd (by cases s with | mk d => simp only [ByteArray.mk.injEq]; exact Array.eq_empty_of_size_eq_zero h) he
      ·exact h
     have HD : Hid (dW 20 k s.data.toList=a01 n):=by
      rcases HI.out with h | h
      ·exact absurd h.1 he
      ·exact h.2
     have e1 : ¬ s.toList=[]:=fun e => by
      rw [Lib.toList_data] at e; have:=d7 s; rw [e] at this; simp at this; omega
     have e2 : s.toList.isEmpty=false:=by simpa using e1
     clear he HI
     by_cases hz : k=0
     ·subst hz
      have E3 : Hid (s.data.toList=a01 (x / 1000000)):=by
       show _=_
       have:=HD.out
       rw [a0S] at this
       rw [this,HN.out]
      have tn:=a2R x
      have hsl : s.size≤18:=by omega
      clear hk hsf HD
      by_cases ht : T.toList=[]
      ·have EE : Hid (bP a=(if c<0 then [45] else []) ++ s.data.toList):=by
        show _=_
        rw [E.out,E3.out]
        unfold uK
        have : dO (aN 6 x [])=[]:=by rw [← hTl.out,← Lib.toList_data,ht]
        simp only [if_pos this,List.append_nil]
       have ht2 : T.toList.isEmpty=true:=by rw [ht]; rfl
       clear tn
       by_cases hcn : c<0
       ·have ER:=hid (fK (s:=(⟨#[45]⟩ : ByteArray) ++ s) (show bP a=_ by rw [EE.out,if_pos hcn]; simp))
        go_wp2_with fail
        go_ret
        exact ⟨by rw [ER.out]; rfl,BR⟩
       ·have ER:=hid (fK (s:=s) (show bP a=_ by rw [EE.out,if_neg hcn]; rfl))
        go_wp2_with fail
        go_ret
        exact ⟨by rw [ER.out]; rfl,BR⟩
      ·have EE : Hid (bP a=(if c<0 then [45] else []) ++ (s.data.toList ++ 46 :: T.data.toList)):=by
        show _=_
        rw [E.out,E3.out,hTl.out]
        unfold uK
        have : ¬ dO (aN 6 x [])=[]:=by rw [← hTl.out,← Lib.toList_data]; exact ht
        simp only [if_neg this]
       have ht2 : T.toList.isEmpty=false:=by simpa using ht
       clear tn
       by_cases hcn : c<0
       ·have ER:=hid (fK (s:=(⟨#[45]⟩ : ByteArray) ++ (s ++ (⟨#[46]⟩ ++ T))) (show bP a=_ by rw [EE.out,if_pos hcn]; simp))
        go_wp2_with fail
        go_ret
        exact ⟨by rw [ER.out]; rfl,BR⟩
       ·have ER:=hid (fK (s:=s ++ (⟨#[46]⟩ ++ T)) (show bP a=_ by rw [EE.out,if_neg hcn]; simp))
        go_wp2_with fail
        go_ret
        exact ⟨by rw [ER.out]; rfl,BR⟩
     ·cases f with
      | zero => omega
      | succ f =>
      have hk' : k / 10<10 ^ f:=by rw [Nat.pow_succ] at hk; omega
      have hz2 : k<10 ^ 20:=by omega
      clear hk
      go_wp2_with fail
      refine Calls.mono (hG w.heap.size s k (by omega) (by omega) _ DR) ?_
      rintro e w3 ⟨rfl,hd,hb⟩
      have D2:=hid hd
      have B2:=hid (BR.out.trans hb)
      clear hd hb
      go_wp2_with fail
      go_roundw
      case rel =>
       refine ⟨k / 10,⟨#[dig k]⟩ ++ s,f,by omega,hk',by rw [ByteArray.size_append]; show 1 + s.size + f≤18; omega,.inr ⟨by rw [ByteArray.size_append]; show 0<1 + s.size; omega,?_⟩,D2,B2⟩
       rw [← HD.out,a1b k _ hz hz2]
       simp
      case measure =>
       rw [D2.out.c0,c0]
       show 20 - (⟨#[dig k]⟩ ++ s : ByteArray).size<20 - s.size
       rw [ByteArray.size_append]
       show 20 - (1 + s.size)<20 - s.size
       omega
end
section
open Lib (hid)
open Go.RowKit
theorem oO {a b : ByteArray} (h : a.data.toList=b.data.toList) : a=b:=by
 cases a; cases b; simp only [ByteArray.mk.injEq]; exact Array.toList_inj.1 h
def Tab (w : World) : Prop:=Lib.TabIs Tryz.prog w "internal/strconv.uint64pow10" .u64 Lib.pow10Tab
theorem Tab.below {w w' : World} (h : Tab w) (hb : Below w.heap.size w w') : Tab w':=by
 have hg : Tryz.prog.globalNamed "internal/strconv.uint64pow10"=some 3:=by kernel_rfl
 unfold Tab Lib.TabIs World.var? at *
 rw [hg] at h ⊢
 simp only [Option.bind_some] at h ⊢
 have hlt : 3<w.heap.size:=by
  rcases Nat.lt_or_ge 3 w.heap.size with h' | h'
  ·exact h'
  ·rw [Array.getElem?_eq_none h'] at h; cases h
 rw [hb.block _ hlt]
 exact h
theorem jM (w : World) (k : Nat) (os : Array Obj) : Below w.heap.size w (Sort.grow (w.drewN k) os) :=
 ⟨rfl,rfl,rfl,by rw [Sort.size_grow]; exact Nat.le_add_right _ _,fun i hi => Sort.heap_grow_old (w.drewN k) os hi⟩
theorem sC (n : Int) (w : World) (ht : Hid (Tab w)) (h0 : -9223372036854775808≤n) (h1 : n≤9223372036854775807) :
 Calls Tryz.prog 67 #[.int .i64 n] w fun e w' => e=.returned (.string ⟨(Lib.itoa n).toArray⟩)∧Below w.heap.size w w':=by
 refine (Tryz.strconv_Itoa n h0 h1 w ht).mono ?_
 rintro e w' ⟨rfl,k,os,rfl⟩
 exact ⟨rfl,jM w k os⟩
theorem a0f (n : Int) (w : World) (ht : Hid (Tab w)) (h0 : 0≤n) (h1 : n<100) :
 Calls Tryz.prog 189 #[.int .i64 n] w fun e w' => e=.returned (.string ⟨(Cal.dig2 n.toNat).toArray⟩)∧Below w.heap.size w w':=by
 have hlen:=Cal.itoa3_len h0 h1
 have hcut : (ByteArray.mk (Lib.itoa (100 + n)).toArray).extract 1 3=⟨(Cal.dig2 n.toNat).toArray⟩:=by
  rw [← Cal.itoa3 h0 h1]
  refine oO ?_
  rw [Lib.extract_data]
  rw [List.take_of_length_le (by simp [hlen])]
 have HC:=hid hcut
 clear hcut
 go_enter Tryz.func189,Tryz.ntmps189
 go_wp2_with (go_at_call 67; refine (sC _ _ ht (by omega) (by omega)).mono ?_; rintro e w' ⟨rfl,hb⟩)
 go_ret
 exact ⟨congrArg (fun x => Ending.returned (.string x)) HC,hb⟩
def a1F (y m d : Int) : ByteArray:=⟨(Cal.text y m d).toArray⟩
theorem a3O (y m d k : Int) (w : World) (ht : Tab w) (h : Cal.ok y m d) (hk : Cal.num y m d=k) :
 Calls Tryz.prog 172 #[.int .i64 k] w fun e w' => e=.returned (.tuple #[.string (a1F y m d),.int .i64 0])∧Below w.heap.size w w':=by
 have H:=hid h
 have K:=hid hk
 clear hk
 obtain ⟨h1,h2,h3,h4,h5,h6⟩:=h
 have ml:=Cal.mlen_bd y m
 have HB : Hid (Below w.heap.size w w∧Tab w):=⟨Below.refl _ _,ht⟩
 clear ht
 have hi:=hid (Cal.itoa4 (y:=y) (by omega) (by omega))
 have l4 : (Lib.itoa y).length=4:=by rw [hi.out]; rfl
 have l2 : (Cal.dig2 m.toNat).length=2:=rfl
 have l2' : (Cal.dig2 d.toNat).length=2:=rfl
 have HT : Hid ((ByteArray.mk (Lib.itoa y).toArray ++ ByteArray.mk #[45] ++ ByteArray.mk (Cal.dig2 m.toNat).toArray ++ ByteArray.mk #[45] ++ ByteArray.mk (Cal.dig2 d.toNat).toArray)=a1F y m d):=by
  refine oO ?_
  rw [hi.out]
  simp [a1F,Cal.text,ByteArray.data_append]
 go_enter Tryz.func172,Tryz.ntmps172
 go_wp2_with (first
  | (go_at_call 188; refine (a1z _ _ _ _ _ H K).mono ?_; rintro e w' ⟨rfl,hb⟩; replace HB:=hid (And.intro (HB.out.1.trans (hb.mono HB.out.1.size)) (HB.out.2.below hb)); clear hb)
  | (go_at_call 67; refine (sC _ _ (hid HB.out.2) (by omega) (by omega)).mono ?_; rintro e w' ⟨rfl,hb⟩; replace HB:=hid (And.intro (HB.out.1.trans (hb.mono HB.out.1.size)) (HB.out.2.below hb)); clear hb)
  | (go_at_call 189; refine (a0f _ _ (hid HB.out.2) (by omega) (by omega)).mono ?_; rintro e w' ⟨rfl,hb⟩; replace HB:=hid (And.intro (HB.out.1.trans (hb.mono HB.out.1.size)) (HB.out.2.below hb)); clear hb))
 go_ret2
 exact ⟨congrArg (fun x => Ending.returned (.tuple #[.string x,.int .i64 0])) HT,HB.out.1⟩
end
end Go.Proofs.YtppcfebnaieciaaGreatDoor
