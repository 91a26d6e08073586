/-
  Laws that the proof rests on.
-/
import Derived.Test.YtibiccacafjjfaaGreatDoorB08
import Derived.Test.YtibiccacafjjfaaGreatDoorB09
import Derived.Test.YtibiccacafjjfaaGreatDoorB04
import Derived.Laws.RangeString
import Derived.Lib.OthersKept
import Derived.Test.YtibiccacafjjfaaGreatDoorB20
import Derived.Maps.Own
import Derived.Maps.OwnOps
import Derived.Maps.Views
import Derived.StringKeys
import Derived.Test.YtibiccacafjjfaaGreatDoorB28
namespace Go.Proofs.YtibiccacafjjfaaGreatDoor
set_option maxRecDepth 100000
set_option maxHeartbeats 16000000
section
open Lib (hid)
open Go.RowKit Go.Shelf
def a5n : ByteArray:=⟨#[48,49,50,51,52,53,54,55,56,57]⟩
theorem sH : ∀ (j : Nat) (b : UInt8),a5n.data.toList[j]?=some b→b.toNat<128:=ascii_of_all (by decide)
theorem a6d (c : UInt8) : a5n.data.toList.contains c=dgC c:=by
 have:=jF (p:=fun c => a5n.data.toList.contains c == dgC c) (by decide +kernel) c
 simpa using this
theorem iU (s : ByteArray) (w : World) (hs : s.size≤maxLen) :
 Calls Tryz.prog 177 #[.string s] w fun e w' => e=.returned (.bool (kR s.data.toList))∧Below w.heap.size w w':=by
 have e:=hid (show (Lib.trimS s.data.toList a5n.data.toList).isEmpty=s.data.toList.all dgC by rw [qP]; exact List.all_congr rfl fun a => a6d a)
 by_cases h0 : 0<s.size
 ·have hne : ¬ s.toList=[]:=fun e => by have:=d6 s; rw [← Lib.toList_data,e] at this; simp at this; omega
  have hne' : s.toList.isEmpty=false:=by cases h : s.toList with | nil => exact absurd h hne | cons a l => rfl
  have F:=hid (show kR s.data.toList=(Lib.trimS s.data.toList a5n.data.toList).isEmpty by unfold kR; rw [e.out,← Lib.toList_data,hne']; rfl)
  go_enter Tryz.func177,Tryz.ntmps177
  go_wp2_with (go_at_call 137; refine (kN _ _ _ hs (by decide) sH).mono ?_; rintro e w' ⟨rfl,hb⟩)
  go_ret
  exact ⟨j9 F.out.symm,hb⟩
 ·have h1:=uB h0
  subst h1
  go_enter Tryz.func177,Tryz.ntmps177
  go_wp2_with (go_at_call 137; refine (kN _ _ _ hs (by decide) sH).mono ?_; rintro e w' ⟨rfl,hb⟩)
  go_ret
  exact ⟨rfl,Below.refl _ _⟩
theorem a2w (k : Nat) (hk : k≤6) (w : World) :
 Calls Tryz.prog 178 #[.string ⟨#[48]⟩,.int .i64 k] w fun e w' => e=.returned (.string ⟨(List.replicate k 48).toArray⟩)∧Below w.heap.size w w':=by
 by_cases h2 : 2≤k
 ·refine (Tryz.strings_Repeat_main ⟨#[48]⟩ k w h2 (by omega) (by show 1 * k≤_; omega) (by decide)).mono ?_
  rintro e w' ⟨rfl,hb⟩
  refine ⟨?_,hb⟩
  have : Lib.repeatL [48] k=List.replicate k 48:=by
   match k,hk with
   | 0,_ => rfl
   | 1,_ => rfl
   | 2,_ => rfl
   | 3,_ => rfl
   | 4,_ => rfl
   | 5,_ => rfl
   | 6,_ => rfl
  rw [show (⟨#[48]⟩ : ByteArray).data.toList=[48] from rfl,this]
 ·obtain rfl | rfl : k=0∨k=1:=by omega
  ·refine (Tryz.strings_Repeat_zero ⟨#[48]⟩ w).mono ?_
   rintro e w' ⟨rfl,rfl⟩
   exact ⟨rfl,Below.refl _ _⟩
  ·refine (Tryz.strings_Repeat_one ⟨#[48]⟩ w).mono ?_
   rintro e w' ⟨rfl,rfl⟩
   exact ⟨rfl,Below.refl _ _⟩
theorem a4i (l : List UInt8) : (Lib.cut l [46]).1.length + (Lib.cut l [46]).2.1.length≤l.length:=by
 cases h : (Lib.cut l [46]).2.2 with
 | false => rw [kJ h]; simp
 | true =>
   have:=congrArg List.length (a5a h)
   rw [List.length_append,List.length_cons] at this
   omega
def a7e (r : Option Int) (w : World) (e : Ending) (w' : World) : Prop :=
 Below w.heap.size w w'∧match r with
  | some v => e=.returned (.tuple #[.int .i64 v,.bool true])
  | none => e=.returned (.tuple #[.int .i64 0,.bool false])
theorem gA {r : Option Int} {w w' : World} (h : r=none) (hb : Below w.heap.size w w') : a7e r w (.returned (.tuple #[.int .i64 0,.bool false])) w':=by subst h; exact ⟨hb,rfl⟩
theorem zE {r : Option Int} {w w' : World} {v u : Int} (h : r=some v) (hu : u=v) (hb : Below w.heap.size w w') : a7e r w (.returned (.tuple #[.int .i64 u,.bool true])) w':=by subst h hu; exact ⟨hb,rfl⟩
def a4y (below : Bool) (c : Option Int) : Option Int:=match c with
 | some n => if 1000000000000000 < n∨(below=true∧n=0) then none else some (if below=true then -n else n)
 | none => none
theorem a4Q (l : List UInt8) : gL l=a4y (Lib.hasPrefix l [45]) (rN (Lib.cut (Lib.trimPrefix l [45]) [46])):=by
 rw [← a38]
 unfold gL Lib.trimPrefix Lib.hasPrefix
 cases l with
 | nil => rfl
 | cons c r =>
   have e : [45].isPrefixOf (c :: r)=(45 == c):=by rw [List.isPrefixOf,List.isPrefixOf,Bool.and_true]
   rw [e]
   by_cases hc : c=45
   ·subst hc
    show (match V8 r with | some n => if 1000000000000000<n∨n=0 then none else some (-n) | none => none)=a4y true (V8 r)
    cases V8 r with
    | none => rfl
    | some n =>
      show (if 1000000000000000<n∨n=0 then none else some (-n))=(if 1000000000000000<n∨(true=true∧n=0) then none else some (if true=true then -n else n))
      simp only [true_and,if_true]
   ·have h45 : (45 == c)=false:=beq_eq_false_iff_ne.2 fun e => hc e.symm
    rw [List.headD_cons,if_neg hc,h45]
    show _=a4y false (V8 (c :: r))
    cases V8 (c :: r) with
    | none => rfl
    | some n =>
      show (if 1000000000000000<n then none else some n)=(if 1000000000000000<n∨(false=true∧n=0) then none else some (if false=true then -n else n))
      simp only [Bool.false_eq_true,false_and,or_false,if_false]
theorem a39 (k : Nat) : (List.replicate k (48 : UInt8)).all dgC=true:=List.all_eq_true.2 fun c hc => by rw [List.eq_of_mem_replicate hc]; decide
theorem a3z {z : ByteArray} {k : Nat} (h : k<z.size) : Cal.val (z.data.toList.take (k + 1))=10 * Cal.val (z.data.toList.take k) + ((z[k].toNat : Int) - 48):=by
 rw [List.take_succ_eq_append_getElem (by rw [d6]; exact h),Cal.val_snoc]; rfl
theorem sC (s : ByteArray) (w : World) (hs : s.size≤16384) : Calls Tryz.prog 148 #[.string s] w (a7e (gL s.data.toList) w):=by
 have hz : s.data.toList.length=s.size:=d6 s
 have R:=hid (a4Q s.data.toList)
 obtain ⟨t,ht⟩ : ∃ t : ByteArray,t=⟨(Lib.trimPrefix s.data.toList [45]).toArray⟩:=⟨_,rfl⟩
 have htl : t.data.toList=Lib.trimPrefix s.data.toList [45]:=by rw [ht]
 have hts : t.size≤16384:=by
  rw [← d6,htl]
  unfold Lib.trimPrefix
  split
  ·rw [List.length_drop]; omega
  ·omega
 rw [← htl] at R
 have C1:=hid (Tryz.strings_CutPrefix s ⟨#[45]⟩ w)
 rw [show (⟨#[45]⟩ : ByteArray).data.toList=[45] from rfl,← ht] at C1
 generalize Lib.hasPrefix s.data.toList [45]=below at R C1
 generalize gL s.data.toList=N at R ⊢
 have C2:=hid (a1R t w (Nat.le_trans hts (by decide)))
 have hcut:=a4i t.data.toList
 rw [d6] at hcut
 rcases hc : Lib.cut t.data.toList [46] with ⟨a,b,pt⟩
 rw [hc] at C2 R hcut
 replace hcut : a.length + b.length≤t.size:=hcut
 replace R:=hid (show N=a4y below (rN (a,b,pt)) from R)
 obtain ⟨A,hA⟩ : ∃ A : ByteArray,A=⟨a.toArray⟩:=⟨_,rfl⟩
 obtain ⟨B,hB⟩ : ∃ B : ByteArray,B=⟨b.toArray⟩:=⟨_,rfl⟩
 have hAl : A.data.toList=a:=by rw [hA]
 have hBl : B.data.toList=b:=by rw [hB]
 have hAs : A.size≤16384:=by rw [← d6,hAl]; omega
 have hBs : B.size≤16384:=by rw [← d6,hBl]; omega
 replace C2:=hid (show Calls Tryz.prog 111 #[.string t,.string ⟨#[46]⟩] w fun e w' => e=.returned (.tuple #[.string A,.string B,.bool pt])∧Below w.heap.size w w' by rw [hA,hB]; exact C2)
 have HBE:=hid (show pt=false→B.data.toList=[] from fun e => by
  have:=kJ (l:=t.data.toList) (by rw [hc]; exact e)
  rw [hc] at this
  rw [hBl]
  exact (Prod.mk.inj (Prod.mk.inj this).2).1)
 subst hAl hBl
 clear hc hcut hA hB ht htl hz hs hts
 have LA:=hid (d6 A)
 have LB:=hid (d6 B)
 go_enter Tryz.func148,Tryz.ntmps148
 go_wp2_with fail
 (with_reducible refine Calls.mono C1.out ?_)
 rintro e w0 ⟨rfl,hw0⟩
 rw [hw0]
 clear C1 hw0 w0
 go_wp2_with fail
 (with_reducible refine Calls.mono C2.out ?_)
 rintro e w1 ⟨rfl,hb⟩
 have HB:=hid hb
 clear hb C2
 have C3:=hid (iU A w1 (Nat.le_trans hAs (by decide)))
 cases hd : kR A.data.toList
 case false =>
  have X:=hid (show N=none by rw [R.out]; unfold rN O1; rw [hd]; rfl)
  rw [hd] at C3
  clear hd
  go_wp2_with fail
  (with_reducible refine Calls.mono C3.out ?_)
  rintro e w2 ⟨rfl,hb⟩
  have HC:=hid (HB.out.trans (hb.mono HB.out.size))
  clear hb C3
  go_wp2_with fail
  go_ret2
  exact gA X HC
 have HD:=hid hd
 rw [hd] at C3
 clear hd
 go_wp2_with fail
 (with_reducible refine Calls.mono C3.out ?_)
 rintro e w2 ⟨rfl,hb⟩
 replace HB:=hid (HB.out.trans (hb.mono HB.out.size))
 clear hb C3
 by_cases h10 : 10<A.size
 ·have X:=hid (show N=none by rw [R.out]; unfold rN O1; rw [LA.out,decide_eq_true h10]; simp; rfl)
  have h10' : (10 : Int)<A.size:=by omega
  clear h10
  go_wp2_with fail
  go_ret2
  exact gA X HB
 have hA0 : 0<A.size:=by
  rcases Nat.eq_zero_or_pos A.size with h | h
  ·have e : A.data.toList=[]:=List.eq_nil_of_length_eq_zero (by rw [LA.out]; exact h)
   have:=HD.out
   rw [e] at this
   exact absurd this (by decide)
  ·exact h
 have HH:=hid (aD hA0)
 by_cases h48 : 1<A.size∧(A[0].toNat : Int)=48
 ·obtain ⟨h1,h2⟩:=h48
  have q : ((A[0].toNat : Int) == 48)=true:=by rw [h2]; rfl
  have e0 : A[0]=48:=UInt8.toNat_inj.1 (Int.ofNat.inj h2)
  have X:=hid (show N=none by rw [R.out]; unfold rN O1; rw [LA.out,decide_eq_true h1,HH.out,e0]; simp; rfl)
  clear h2 e0
  go_wp2_with fail
  go_ret2
  exact gA X HB
 have HW:=hid (show O1 A.data.toList=true by
  unfold O1
  rw [HD.out,LA.out,decide_eq_false h10,HH.out]
  by_cases h1 : 1<A.size
  ·have : ¬ A[0]=48:=fun e => h48 ⟨h1,by rw [e]; rfl⟩
   rw [beq_eq_false_iff_ne.2 this]; simp
  ·rw [decide_eq_false h1]; rfl)
 have h1or : (1<A.size∧((A[0].toNat : Int) == 48)=false)∨¬ 1<A.size:=by
  by_cases h1 : 1<A.size
  ·exact .inl ⟨h1,beq_eq_false_iff_ne.2 fun e => h48 ⟨h1,e⟩⟩
  ·exact .inr h1
 have hbig : A.size + B.size≤32768:=by omega
 have h10i : ¬ (10 : Int)<A.size:=by omega
 have hA10 : A.size≤10:=by omega
 clear h10 h48
 rcases h1or with ⟨h1,q⟩ | h1
 all_goals
  cases pt
  case' true =>
   have C4:=hid (iU B w2 (Nat.le_trans hBs (by decide)))
   cases hd2 : kR B.data.toList
   case false =>
    have X:=hid (show N=none by rw [R.out]; unfold rN fN; rw [hd2]; simp; rfl)
    rw [hd2] at C4
    clear hd2
    go_wp2_with fail
    (with_reducible refine Calls.mono C4.out ?_)
    rintro e w3 ⟨rfl,hb⟩
    have HC:=hid (HB.out.trans (hb.mono HB.out.size))
    clear hb C4
    go_wp2_with fail
    go_ret2
    exact gA X HC
   have HD2:=hid hd2
   rw [hd2] at C4
   clear hd2
   by_cases h6 : 6<B.size
   case pos =>
    have X:=hid (show N=none by rw [R.out]; unfold rN fN; rw [LB.out,decide_eq_true h6]; simp; rfl)
    have h6' : (6 : Int)<B.size:=by omega
    clear h6
    go_wp2_with fail
    (with_reducible refine Calls.mono C4.out ?_)
    rintro e w3 ⟨rfl,hb⟩
    have HC:=hid (HB.out.trans (hb.mono HB.out.size))
    clear hb C4
    go_wp2_with fail
    go_ret2
    exact gA X HC
   have h6' : ¬ (6 : Int)<B.size:=by omega
   have h6n : B.size≤6:=by omega
   clear h6
   have HT:=hid (show fN true B.data.toList=true by unfold fN; rw [HD2.out,LB.out,decide_eq_false (by omega)]; rfl)
   have HBd:=hid (show B.data.toList.all dgC=true by have:=HD2.out; unfold kR at this; rw [Bool.and_eq_true] at this; exact this.2)
   go_upto_region 8 with (first | ((with_reducible refine Calls.mono C4.out ?_); rintro e w3 ⟨rfl,hb⟩))
   replace HB:=hid (HB.out.trans (hb.mono HB.out.size))
   clear hb C4 HD2
  case' false =>
   have hbe:=HBE.out rfl
   have h6n : B.size≤6:=by rw [← LB.out,hbe]; decide
   have HT:=hid (show fN false B.data.toList=true from rfl)
   have HBd:=hid (show B.data.toList.all dgC=true by rw [hbe]; rfl)
   clear hbe
   go_upto_region 8 with fail
  all_goals
   clear HBE
   have X:=hid (show N=a4y below (some (a6f A.data.toList B.data.toList)) by rw [R.out]; unfold rN; rw [if_pos ⟨HW,HT⟩])
   have CZ:=hid (fun v : World => a2w (6 - B.size) (by omega) v)
   rw [show ((6 - B.size : Nat) : Int)=6 - (B.size : Int) by omega] at CZ
   obtain ⟨Z,hZ⟩ : ∃ Z : ByteArray,Z=⟨(List.replicate (6 - B.size) 48).toArray⟩:=⟨_,rfl⟩
   rw [← hZ] at CZ
   have hZl : Z.data.toList=List.replicate (6 - B.size) 48:=by rw [hZ]
   have hZs : Z.size=6 - B.size:=by rw [← d6,hZl,List.length_replicate]
   have hs1 : ¬ 9223372036854775807<A.size + B.size:=by omega
   have hs2 : ¬ 9223372036854775807<(A ++ B).size + Z.size:=by rw [ByteArray.size_append]; omega
   have HS:=hid (show (A ++ B ++ Z).data.toList=A.data.toList ++ B.data.toList ++ List.replicate (6 - B.data.toList.length) 48 by
    rw [ByteArray.data_append,ByteArray.data_append,Array.toList_append,Array.toList_append,hZl,LB.out])
   have hsz : (A ++ B ++ Z).size≤16:=by rw [ByteArray.size_append,ByteArray.size_append]; omega
   clear hZ hZl hZs
   go_wp2_with fail
   (with_reducible refine Calls.mono (CZ.out _) ?_)
   rintro e w4 ⟨rfl,hb⟩
   replace HB:=hid (HB.out.trans (hb.mono HB.out.size))
   clear hb CZ
   have HDz:=hid (show (A ++ B ++ Z).data.toList.all dgC=true by rw [HS.out,List.all_append,List.all_append,HBd.out,a39]; have:=HD.out; unfold kR at this; rw [Bool.and_eq_true] at this; rw [this.2]; rfl)
   go_wp2_with fail
   have HV:=hid (show a6f A.data.toList B.data.toList=Cal.val (A ++ B ++ Z).data.toList by rw [HS.out]; rfl)
   have HZL:=hid (d6 (A ++ B ++ Z))
   have hk0:=World.iter_heap w4 (A ++ B ++ Z) 0
   have hlt4 : w4.heap.size<(w4.iter (A ++ B ++ Z) 0).heap.size:=by show _<(w4.heap.push _).size; simp
   have hb0 : Below w.heap.size w (w4.iter (A ++ B ++ Z) 0):=HB.out.alloc HB.out.size _
   have hit:=HB.out.size
   generalize w4.iter (A ++ B ++ Z) 0=W5 at hk0 hb0 hlt4 ⊢
   generalize w4.heap.size=it at hk0 hit hlt4 ⊢
   clear HS hs1 hs2
   generalize (A ++ B ++ Z)=z at hk0 hsz HDz HV HZL ⊢
   have HK0:=hid hk0
   have HB0:=hid hb0
   clear hk0 hb0
   go_loopw [9] (fun n wr => ∃ k : Nat,k≤z.size∧n=.int .i64 (Cal.val (z.data.toList.take k))∧Hid (wr.heap[it]?=some (.stringIter z k))∧Hid (Below w.heap.size w wr)) (fun _ wr => z.size - wr.iterPos it)
   case atStart => exact ⟨0,Nat.zero_le _,rfl,HK0,HB0⟩
   case round =>
    obtain ⟨k,hk,rfl,HK,HBr⟩:=hrel
    have hvb:=hY (l:=z.data.toList.take k) (n:=16) (by
     refine List.all_eq_true.2 fun c hc => List.all_eq_true.1 HDz c (List.mem_of_mem_take hc)) (by rw [List.length_take,HZL.out]; omega)
    have hvb1 : 0≤Cal.val (z.data.toList.take k):=hvb.1
    have hvb2 : Cal.val (z.data.toList.take k)<10000000000000000:=hvb.2
    have hmu:=hid (show wr.iterPos it=k by simp [World.iterPos,HK.out])
    clear hvb
    by_cases hp : k<z.size
    ·have hdz : dgC z[k]=true:=List.all_eq_true.1 HDz _ (by rw [show z[k]=z.data.toList[k]'(by rw [HZL.out]; exact hp) from rfl]; exact List.getElem_mem _)
     have hd1 : 48≤(z[k].toNat : Int)∧(z[k].toNat : Int)≤57:=by
      unfold dgC at hdz; rw [Bool.and_eq_true,decide_eq_true_eq,decide_eq_true_eq] at hdz; omega
     obtain ⟨hd2,hd3⟩:=hd1
     have hnext : ∀ ty,(Instr.next (.pointer (some ⟨it,0,none⟩)) true ty).run Tryz.prog wr=_:=fun ty => Lib.run_next_ascii_at wr it z k ty HK hp (by omega)
     have HK1:=hid (Lib.iterAt_heap wr it z k (k + 1) HK)
     have HB1:=hid (Lib.below_iterAt HBr hit z (k + 1))
     have HV1:=hid (a3z hp)
     generalize wr.iterAt it z (k + 1)=W6 at hnext HK1 HB1
     clear hdz
     go_wp2_with fail
     go_roundw
     case rel => exact ⟨k + 1,by omega,by rw [HV1.out],HK1,HB1⟩
     case measure =>
      have : W6.iterPos it=k + 1:=by simp [World.iterPos,HK1.out]
      rw [hmu.out,this]; omega
    ·obtain rfl : k=z.size:=by omega
     have hnext : ∀ ty,(Instr.next (.pointer (some ⟨it,0,none⟩)) true ty).run Tryz.prog wr=_:=fun ty => Lib.run_next_end_at wr it z z.size ty HK hp
     have HVV:=hid (show a6f A.data.toList B.data.toList=Cal.val (z.data.toList.take z.size) by rw [HV.out,List.take_of_length_le (by rw [HZL.out]; exact Nat.le_refl _)])
     generalize Cal.val (z.data.toList.take z.size)=v at hvb1 hvb2 HVV
     rw [HVV.out] at X
     clear HVV HV
     by_cases hmx : 1000000000000000<v
     ·have Y:=hid (show N=none by rw [X.out]; show (if _ then _ else _)=_; rw [if_pos (.inl hmx)])
      go_wp2_with fail
      go_ret2
      exact gA Y HBr
     cases below
     ·have Y:=hid (show N=some v by rw [X.out]; show (if _ then _ else _)=_; rw [if_neg (by rintro (h | h); exact hmx h; exact absurd h.1 (by decide))]; rfl)
      go_wp2_with fail
      go_ret2
      exact zE Y rfl HBr
     ·by_cases h0 : v=0
      ·have q0 : (v == 0)=true:=by rw [h0]; rfl
       have Y:=hid (show N=none by rw [X.out]; show (if _ then _ else _)=_; rw [if_pos (.inr ⟨rfl,h0⟩)])
       clear h0
       go_wp2_with fail
       go_ret2
       exact gA Y HBr
      ·have q0 : (v == 0)=false:=beq_eq_false_iff_ne.2 h0
       have Y:=hid (show N=some (-v) by rw [X.out]; show (if _ then _ else _)=_; rw [if_neg (by rintro (h | h); exact hmx h; exact h0 h.2)]; rfl)
       clear h0
       go_wp2_with fail
       go_ret2
       exact zE Y rfl HBr
end
section
open Lib (hid)
open Go.RowKit Go.Shelf Go.Maps Go.WideMaps
def iS (w : World) : Prop:=Lib.TabIs Tryz.prog w "strings.asciiSpace" .u8 Lib.asciiSpaceTab
theorem iS.below {w w' : World} (h : iS w) (hb : Below w.heap.size w w') : iS w':=by
 have hg : Tryz.prog.globalNamed "strings.asciiSpace"=some 0:=by kernel_rfl
 unfold iS Lib.TabIs World.var? at *
 rw [hg] at h ⊢
 simp only [Option.bind_some] at h ⊢
 have hlt : 0<w.heap.size:=by
  rcases Nat.lt_or_ge 0 w.heap.size with h' | h'
  ·exact h'
  ·rw [Array.getElem?_eq_none h'] at h; cases h
 rw [hb.block _ hlt]
 exact h
def a65 : ByteArray:=⟨#[109,111,100,117,108,101,32,105,109,112,111,114,116,32,108,101,116,32,105,102,32,116,104,101,110,32,101,108,115,101,32,97,110,100,32,111,114,32,110,111,116,32,116,114,117,101,32,102,97,108,115,101,32,102,101,101,100,32,112,105,99,107]⟩
theorem wK : Lib.fields a65.data.toList=n8:=by decide +kernel
theorem a3l : ∀ (j : Nat) b,a65.data.toList[j]?=some b→b.toNat<128:=ascii_of_all (by decide)
theorem wM (w : World) (ht : iS w) : Calls Tryz.prog 115 #[.string ⟨#[109,111,100,117,108,101,32,105,109,112,111,114,116,32,108,101,116,32,105,102,32,116,104,101,110,32,101,108,115,101,32,97,110,100,32,111,114,32,110,111,116,32,116,114,117,101,32,102,97,108,115,101,32,102,101,101,100,32,112,105,99,107]⟩] w fun e w' => e=.returned (.slice (some ⟨w.heap.size,0,none⟩) 13 13)∧w'=w.alloc (.cells (n8.map bM).toArray 9):=by
 refine (Tryz.strings_Fields a65 w (by decide) a3l ht).mono ?_
 rintro e w' ⟨rfl,rfl⟩
 rw [wK]
 exact ⟨rfl,rfl⟩
def wD : Nat→DataW Unit
 | 0 => .map []
 | k + 1 => (wD k).put (.string (n8.getD k [])) (.lit (.int .i64 (k + 1)))
theorem a35 : ∀ k,IsMap (wD k)
 | 0 => isMap_empty
 | k + 1 => (a35 k).put _ _
theorem a6G (l : List UInt8) : ∀ k,k≤13→∃ c : Int,(wD k).atKey (.string l) (.lit (.int .i64 0))=.lit (.int .i64 c)∧0≤c∧(0<c↔l∈n8.take k)
 | 0,_ => ⟨0,rfl,Int.le_refl _,by simp⟩
 | k + 1,hk => by
   obtain ⟨c,h1,h2,h3⟩:=a6G l k (by omega)
   have hlt : k<n8.length:=by show k<13; omega
   have et : n8.take (k + 1)=n8.take k ++ [n8.getD k []]:=by
    rw [List.take_succ_eq_append_getElem hlt,List.getD_eq_getElem?_getD,List.getElem?_eq_getElem hlt]; rfl
   by_cases e : l=n8.getD k []
   ·refine ⟨k + 1,?_,by omega,?_⟩
    ·rw [wD,← e]; exact atKey_put_same (a35 k) (by trivial) _ _
    ·rw [et]
     constructor
     ·intro _; rw [e]; exact List.mem_append_right _ (List.mem_singleton_self _)
     ·intro _; omega
   ·refine ⟨c,?_,h2,?_⟩
    ·rw [wD,atKey_put_other (fun h => e (by cases h; rfl))]; exact h1
    ·rw [h3,et,List.mem_append,List.mem_singleton]
     exact ⟨.inl,fun h => h.resolve_right e⟩
theorem a6l (l : List UInt8) {c : Int} (h : (wD 13).atKey (.string l) (.lit (.int .i64 0))=.lit (.int .i64 c)) : 0<c↔F7 l=true:=by
 obtain ⟨d,h1,-,h3⟩:=a6G l 13 (Nat.le_refl _)
 rw [h1] at h
 cases h
 rw [h3]
 unfold F7
 rw [List.contains_iff_mem]
 exact Iff.rfl
theorem a4z : Keyed Tryz.prog 9:=string_keyed Tryz.underlying9
theorem a7x (w : World) : (zeroValue 3).run Tryz.prog w=.ok (.int .i64 0) w:=by kernel_rfl
def cA (M k : Nat) (W : World) : Prop:=W.ownsMap Tryz.prog 9 (plainElem Tryz.prog 3) M k (wD k)
theorem cA.below {M k B : Nat} {W W' : World} (h : cA M k W) (hb : Below B W W') (hM : M<B) : cA M k W':=by
 obtain ⟨es,clock,h1,h2,h3,h4⟩:=h
 exact ⟨es,clock,(hb.block M hM).trans h1,h2,h3,h4⟩
theorem cA.look {M : Nat} {W : World} (h : cA M 13 W) (s : ByteArray) (hs : s.size≤16384) : ∃ c : Int,(Instr.lookup 106 (.map (some M)) (.string s) false).run Tryz.prog W=.ok (.int .i64 c) W∧(decide (0<c)=F7 s.data.toList):=by
 obtain ⟨c,h1,h2,-⟩:=World.ownsMap.lookup_int h a4z Tryz.underlying106 Tryz.underlying3 (a7x W) (keyOf_string_mk Tryz.underlying9 (Nat.le_trans hs (by decide)))
 refine ⟨c,h1,?_⟩
 rw [Bool.eq_iff_iff,decide_eq_true_eq]
 exact a6l _ h2
theorem a1m (w : World) (ht : iS w) : Calls Tryz.prog 83 #[] w fun e w' => e=.returned (.map (some w.heap.size))∧cA w.heap.size 13 w'∧Below w.heap.size w w':=by
 have hmm:=@run_makeMap Tryz.prog
 obtain ⟨W1,hW1⟩ : ∃ W,W=w.alloc (.map #[] 0):=⟨_,rfl⟩
 have B1:=hid (show Below w.heap.size w W1 from hW1 ▸ c6 _ _)
 have K1:=hid (show cA w.heap.size 0 W1 from hW1 ▸ World.ownsMap_made _ _ _ _)
 have hz1 : w.heap.size<W1.heap.size:=K1.out.lt
 have C:=hid (wM W1 (ht.below B1))
 clear ht
 go_enter Tryz.func83,Tryz.ntmps83
 go_upto_region 2 with fail
 rw [← hW1]
 clear hW1
 go_wp2_with fail
 (with_reducible refine Calls.mono C.out ?_)
 rintro e w2 ⟨rfl,hw2⟩
 have B2:=hid (show Below W1.heap.size W1 w2 from hw2 ▸ c6 _ _)
 have hc:=hid (show ∀ (k : Nat) (hk : k<n8.length),w2.cell? ⟨W1.heap.size,k,none⟩=some (bM n8[k]) from fun k hk => by rw [hw2]; exact oO W1 n8 _ k hk)
 have hz2 : W1.heap.size<w2.heap.size:=by rw [hw2]; simp
 have K2:=hid (K1.out.below B2 hz1)
 have HB:=hid (B1.out.trans (B2.out.mono (by omega)))
 generalize W1.heap.size=fb at hc hz2 hz1
 clear hw2 C K1 B1 B2 hmm
 go_wp2_with fail
 go_loopw [7] (fun i wr => ∃ k : Nat,k≤13∧i=.int .i64 k∧Hid (cA w.heap.size k wr)∧Hid (Below w.heap.size w wr)∧fb<wr.heap.size∧Hid (∀ (k : Nat) (hk : k<n8.length),wr.cell? ⟨fb,k,none⟩=some (bM n8[k]))) (fun i _ => 13 - (intOf i).toNat)
 case atStart => exact ⟨0,by omega,rfl,K2,HB,hz2,hc⟩
 case round =>
  obtain ⟨k,hk,rfl,HK,HBr,hfb,HC⟩:=hrel
  by_cases hlt : k<13
  ·have c0:=HC.out k hlt
   have hw:=hid (show n8.getD k []=n8[k]'hlt by rw [List.getD_eq_getElem?_getD,List.getElem?_eq_getElem (show k<n8.length from hlt)]; rfl)
   have hwl : (n8[k]'hlt).length≤24:=by
    have : ∀ w∈n8,w.length≤24:=by decide
    exact this _ (List.getElem_mem _)
   generalize n8[k]'hlt=x at c0 hw hwl
   unfold bM at c0
   have hkey:=hid (show keyOf Tryz.prog 9 (.string ⟨x.toArray⟩)=some (.string x) from keyOf_string_mk Tryz.underlying9 (s:=⟨x.toArray⟩) (by show x.toArray.size≤maxLen; unfold maxLen; simp; omega))
   go_wp2_with (at_mapUpdate; refine wpList_mapUpdate_own _ rfl _ _ _ 106 rfl 9 3 a4z Tryz.underlying106 _ w.heap.size k _ rfl HK (by unfold maxLen; omega) _ _ _ rfl rfl hkey _ [] (plainElem_int Tryz.underlying3 (WalkArith.wf_i64 (by omega))) ?_; intro w5 hown5 hgrow5)
   go_roundw
   case rel =>
    refine ⟨k + 1,by omega,by go_num,?_,?_,Nat.lt_of_lt_of_le hfb hgrow5.size,fun j hj => ?_⟩
    ·show cA w.heap.size (k + 1) w5
     unfold cA
     rw [wD,hw.out]
     exact hown5
    ·exact HBr.out.trans ⟨hgrow5.os,hgrow5.tape,hgrow5.output,hgrow5.size,fun j hj => hgrow5.block j (by have:=HK.out.lt; omega) (fun e => by have:=Option.some.inj e; omega)⟩
    ·exact (World.cell?_of_block (hgrow5.block fb hfb (fun e => by have:=Option.some.inj e; omega))).trans (HC.out j hj)
   case measure => simp [intOf]; omega
  ·obtain rfl : k=13:=by omega
   go_wp2_with fail
   go_ret
   exact ⟨rfl,HK,HBr⟩
end
section
open Lib (hid)
open Go.RowKit
def a1v (r : Except (Int × Int) (List Tk)) (w : World) (e : Ending) (w' : World) : Prop :=
 Below w.heap.size w w'∧match r with
  | .ok ts => ∃ g cap,e=.returned (.tuple #[.slice (some ⟨g,0,none⟩) ts.length cap,.pointer none])∧w'.ownsRow w.heap.size 79 4 (.slice (some ⟨g,0,none⟩) ts.length cap) ts.length (l8 ts)
  | .error (c,p) => ∃ b,e=.returned (.tuple #[.slice none 0 0,.pointer (some ⟨b,0,none⟩)])∧w.heap.size≤b∧w'.heap[b]?=some (.cells #[.int .i64 p,.int .i64 c] 75 (0,0))
def mP (x : Except (Int × Int) Nd) (w : World) (e : Ending) (w' : World) : Prop :=
 ∃ (t : Nd) (a : Option Addr) (cp : Nat) (f k : Int),e=.returned (.tuple #[t.val a cp,.int .i64 f,.int .i64 k])∧Below w.heap.size w w'∧match x with
  | .ok u => u=t∧f=0∧k=0∧t.lies (Fr w.heap.size w'.heap.size) w' a cp
  | .error (c,p) => k=c∧f=p∧t=nd0∧a=none∧cp=0
def oS (rdr : List Tk→Rd) (l : List UInt8) : Except (Int × Int) Nd:=match r6 l with
 | .error e => .error e
 | .ok ts => a1X (rdr ts)
section
variable {b P g cap cp n : Nat} {t : Nd} {a : Option Addr} {p k : Int} {ts : List Tk} {w W W' : World}
theorem Res3.lt (h : Res3 b t a cp p k W) : b + 2<W.heap.size:=(Array.getElem?_eq_some_iff.1 h.k).1
theorem Res3.grown (h : Res3 b t a cp p k W) (g : W.grownBy W' (some P)) (h0 : b + 2<P) : Res3 b t a cp p k W' :=
 ⟨h.n.grown g (by omega),(g.block _ (by have:=h.lt; omega) (fun e => by have:=Option.some.inj e; omega)).trans h.p,(g.block _ h.lt (fun e => by have:=Option.some.inj e; omega)).trans h.k⟩
theorem Res3.below (h : Res3 b t a cp p k W) (g : Below W.heap.size W W') : Res3 b t a cp p k W' :=
 ⟨h.n.below g,(g.block _ (by have:=h.lt; omega)).trans h.p,(g.block _ h.lt).trans h.k⟩
theorem Res3.put (h : Res3 b t a cp p k W) (t' : Nd) (a' : Option Addr) (cp' : Nat) : Res3 b t' a' cp' p k (V6 W b t' a' cp'):=by
 have q : ∀ d,d≠b→(V6 W b t' a' cp').heap[d]?=W.heap[d]?:=fun d hd =>
  (j0.put (av:=fun c => c=d) (j0.refl _ W) (fun c hc => hc ▸ hd) t' a' cp') d rfl
 exact ⟨h.n.put t' a' cp',(q _ (by omega)).trans h.p,(q _ (by omega)).trans h.k⟩
theorem Res3.setp (h : Res3 b t a cp p k W) (p' : Int) : Res3 b t a cp p' k (W.setCell ⟨b + 1,0,none⟩ (.int .i64 p')) :=
 ⟨h.n.set (by omega) _ _,l5 h.p 0 _,(Below.heap_setCell _ _ _ _ (show b + 2≠b + 1 by omega)).trans h.k⟩
theorem Res3.setk (h : Res3 b t a cp p k W) (k' : Int) : Res3 b t a cp p k' (W.setCell ⟨b + 2,0,none⟩ (.int .i64 k')) :=
 ⟨h.n.set (by omega) _ _,(Below.heap_setCell _ _ _ _ (show b + 1≠b + 2 by omega)).trans h.p,l5 h.k 0 _⟩
theorem Res3.drew (h : Res3 b t a cp p k W) : Res3 b t a cp p k W.drew:=h.below (A7 (Below.refl _ _))
theorem Res3.catch (h : Res3 b t a cp p k W) (p' k' : Int) : Res3 b nd0 none 0 p' k' (oZ W b p' k') :=
 ((((h.below (c6 _ _)).put nd0 none 0).setp p').setk k').drew
theorem cJ {r : Option Nat} (h : w.grownBy W r) {c : Nat} (hc : w.heap.size≤c) (v : Value) : w.grownBy (W.setCell ⟨c,0,none⟩ v) r :=
 ⟨h.os,h.tape,h.output,by have:=h.size; simpa [World.setCell] using this,fun d hd hn => (Below.heap_setCell _ _ _ _ (show d≠c by omega)).trans (h.block d hd hn)⟩
theorem zC {r : Option Nat} (h : w.grownBy W r) (hb : w.heap.size≤b) (p k : Int) : w.grownBy (oZ W b p k) r:=by
 have h1 : w.grownBy (W.alloc (.cells #[.int .i64 p,.int .i64 k] 75)) r:=b6 h (b8 (c6 _ _))
 have h2:=r7 h1 hb nd0 none 0
 exact a6K (cJ (cJ h2 (by omega) _) (by omega) _)
theorem oJ {x : Except (Int × Int) Nd} (hx : x=.error (k,p)) (h : w.grownBy W (some P)) (hP : w.heap.size≤P) : mP x w (.returned (.tuple #[nd0.val none 0,.int .i64 p,.int .i64 k])) (oZ W w.heap.size p k):=by
 subst hx
 exact ⟨nd0,none,0,p,k,rfl,L5 (zC h (Nat.le_refl _) p k) hP,rfl,rfl,rfl,rfl,rfl⟩
theorem a0E {x : Except (Int × Int) Nd} (hx : x=.error (k,p)) (h : Below w.heap.size w W) : mP x w (.returned (.tuple #[nd0.val none 0,.int .i64 p,.int .i64 k])) (((V6 W w.heap.size nd0 none 0).setCell ⟨w.heap.size + 1,0,none⟩ (.int .i64 p)).setCell ⟨w.heap.size + 2,0,none⟩ (.int .i64 k)).drew:=by
 subst hx
 exact ⟨nd0,none,0,p,k,rfl,L5 (P:=w.heap.size) (a6K (cJ (cJ (r7 (b8 h) (Nat.le_refl _) nd0 none 0) (by omega) _) (by omega) _)) (Nat.le_refl _),rfl,rfl,rfl,rfl,rfl⟩
theorem a15 {x : Except (Int × Int) Nd} {W0 : World} (hx : x=.ok t) (h : w.grownBy W (some P)) (hP : w.heap.size≤P) (hW0 : w.heap.size + 3≤W0.heap.size) (hl : t.lies (Fr W0.heap.size W.heap.size) W a cp) :
 mP x w (.returned (.tuple #[t.val a cp,.int .i64 0,.int .i64 0])) (((V6 (V6 W w.heap.size t a cp) w.heap.size t a cp).setCell ⟨w.heap.size + 1,0,none⟩ (.int .i64 0)).setCell ⟨w.heap.size + 2,0,none⟩ (.int .i64 0)):=by
 subst hx
 have hk : j0 (fun c => w.heap.size + 3≤c) W (((V6 (V6 W w.heap.size t a cp) w.heap.size t a cp).setCell ⟨w.heap.size + 1,0,none⟩ (.int .i64 0)).setCell ⟨w.heap.size + 2,0,none⟩ (.int .i64 0)) :=
  ((((j0.refl _ W).put (fun c hc e => by omega) t a cp).put (fun c hc e => by omega) t a cp).set (fun c hc e => by omega) _ _).set (fun c hc e => by omega) _ _
 refine ⟨t,a,cp,0,0,rfl,L5 (cJ (cJ (r7 (r7 h (Nat.le_refl _) t a cp) (Nat.le_refl _) t a cp) (by omega) _) (by omega) _) hP,rfl,rfl,rfl,?_⟩
 refine d5 hl (fun c hc => hk c (by have:=hc.1; omega)) fun c hc => ⟨by have:=hc.1; omega,?_⟩
 have:=hc.2
 simpa [World.setCell,L8] using this
theorem nU (h : Res3 b t a cp p k W) {tmps : Array Value} (h4 : tmps[4]?.getD undef=.pointer (some ⟨b,0,none⟩)) (h5 : tmps[5]?.getD undef=.pointer (some ⟨b + 1,0,none⟩)) (h6 : tmps[6]?.getD undef=.pointer (some ⟨b + 2,0,none⟩)) :
 (results Tryz.f23 tmps).run Tryz.prog W=.ok (.tuple #[t.val a cp,.int .i64 p,.int .i64 k]) W:=by
 obtain ⟨⟨z0,z1,z2,z3,z4⟩,-⟩:=h.n.cells
 have hp:=h.p
 have hk:=h.k
 have hp0 : W.cell? ⟨b + 1,0,none⟩=some (.int .i64 p):=by simp [World.cell?,hp]
 have hk0 : W.cell? ⟨b + 2,0,none⟩=some (.int .i64 k):=by simp [World.cell?,hk]
 clear hp hk h
 simp [results,Tryz.results23,go_sem,Nd.val,h4,h5,h6,z0,z1,z2,z3,z4,hp0,hk0]
theorem PQ.make {base : Nat} {T : TypeId} (h : w.ownsRow base T 4 (.slice (some ⟨g,0,none⟩) ts.length cap) ts.length (l8 ts)) (hne : ts≠[]) :
 SQ w.heap.size g cap ts 0 ts (w.alloc (.cells #[.slice (some ⟨g,0,none⟩) ts.length cap,.int .i64 0] 77)):=by
 have hg:=h.lt g rfl
 have hb:=c6 w (.cells #[.slice (some ⟨g,0,none⟩) ts.length cap,.int .i64 0] 77)
 refine ⟨0,rfl,⟨by show (w.heap.push _)[w.heap.size]?=_; simp,(vU.of_row h).below hb hg.2,by omega,Nat.lt_of_lt_of_le hg.2 hb.size,?_,?_,List.length_pos_iff.2 hne⟩⟩
 ·rcases h.2 with ⟨e,-⟩ | ⟨g',cap2,cur,e,-,-,h1,-⟩
  ·cases e
  ·cases e; exact h1
 ·rcases h.2 with ⟨e,-⟩ | ⟨g',cap2,cur,e,-,-,-,h1,-⟩
  ·cases e
  ·cases e; exact h1
end
theorem a6r {Pr : Program} {c : Code} {Q : Exit→Act→World→Prop} {a : Act} {w : World} (h : c.wp Pr (fun e a w => e=.normal∧Q .normal a w) a w) : c.wp Pr Q a w :=
 fun b k cs => let ⟨e,a',w',q,r⟩:=h b k cs; ⟨e,a',w',q.1 ▸ q.2,r⟩
theorem tR (F : Nat) (rdr : List Tk→Rd) (hE : ∀ args w,(callFunc F args).run Tryz.prog w=.ok (.enter F args) w) (hF : ∀ P g cap ts w,y7 ts→(∀ t∈ts,z8 t)→SQ P g cap ts 0 ts w→Calls Tryz.prog F #[.pointer (some ⟨P,0,none⟩)] w (NQ P g cap ts (rdr ts) w))
 (hS : ∀ (s : ByteArray) (w : World),s.size≤maxLen→iS w→Calls Tryz.prog 45 #[.string s] w (a1v (r6 s.data.toList) w)) (s : ByteArray) (w : World) (hs : s.size≤maxLen) (ht : iS w) :
 Calls Tryz.prog 23 #[.string s,.func (.func F) #[] #[]] w (mP (oS rdr s.data.toList) w):=by
 obtain ⟨W1,hW1⟩ : ∃ W,W=w.alloc (.cells #[.int .i64 0,.string ⟨#[]⟩,.int .i64 0,.slice none 0 0,.int .i64 0] 24):=⟨_,rfl⟩
 obtain ⟨W2,hW2⟩ : ∃ W,W=W1.alloc (.cells #[.int .i64 0] 3):=⟨_,rfl⟩
 obtain ⟨W3,hW3⟩ : ∃ W,W=W2.alloc (.cells #[.int .i64 0] 27):=⟨_,rfl⟩
 have hz1 : W1.heap.size=w.heap.size + 1:=by rw [hW1]; simp
 have hz2 : W2.heap.size=w.heap.size + 2:=by rw [hW2]; simp [hz1]
 have hz3 : W3.heap.size=w.heap.size + 3:=by rw [hW3]; simp [hz2]
 have HZ:=hid (show W1.heap.size=w.heap.size + 1∧W2.heap.size=w.heap.size + 2∧W3.heap.size=w.heap.size + 3 from ⟨hz1,hz2,hz3⟩)
 have b1 : Below w.heap.size w W1:=hW1 ▸ c6 _ _
 have b2 : Below W1.heap.size W1 W2:=hW2 ▸ c6 _ _
 have b3 : Below W2.heap.size W2 W3:=hW3 ▸ c6 _ _
 have E3:=hid (show Below w.heap.size w W3 from b1.trans ((b2.trans (b3.mono b2.size)).mono b1.size))
 have R3:=hid (show Res3 w.heap.size nd0 none 0 0 0 W3 from ⟨((show f6 w.heap.size nd0 none 0 W1 from hW1 ▸ f6.make w nd0 none 0).below b2).below b3,
  (b3.block (w.heap.size + 1) (by omega)).trans (by rw [hW2]; show (W1.heap.push _)[w.heap.size + 1]?=_; rw [← hz1]; simp),by rw [hW3]; show (W2.heap.push _)[w.heap.size + 2]?=_; rw [← hz2]; simp⟩)
 obtain ⟨X,hX⟩ : ∃ X,X=oS rdr s.data.toList:=⟨_,rfl⟩
 rw [← hX]
 have C1:=hid (hS s W3 hs (ht.below E3))
 unfold oS at hX
 generalize hsc : r6 s.data.toList=x at C1 hX
 have HX:=hid hX
 have HSC:=hid hsc
 have HF:=hid hF
 clear hX hsc hs hS ht hF b1 b2 b3 hz1 hz2 hz3
 have hmf : ∀ (fn : Fn) (first cap : Array Value) (w : World),(Instr.makeFunc fn first cap).run Tryz.prog w=.ok (.func fn first cap) w:=fun _ _ _ _ => rfl
 go_enter_defers Tryz.func23,Tryz.ntmps23
 go_upto_region 1 with fail
 rw [← hW1,← hW2,← hW3]
 clear hW1 hW2 hW3
 rw [show w.heap.size + 1 + 1=w.heap.size + 2 from rfl]
 go_wp2_with fail
 (with_reducible refine Calls.mono C1.out ?_)
 intro e w4 hsp
 obtain ⟨hb,hsp⟩:=hsp
 have R4:=hid (R3.out.below hb)
 have HB4:=hid hb
 have E4:=hid (show Below w.heap.size w w4 from E3.out.trans (hb.mono E3.out.size))
 have hz4:=hid (show w.heap.size + 3≤w4.heap.size by have:=hb.size; have:=HZ.out.2.2; omega)
 clear hb C1
 cases x with
 | error q =>
   obtain ⟨c,p⟩:=q
   obtain ⟨fb,rfl,hfb,hcel⟩:=hsp
   have HXe:=hid (show X=.error (c,p) from HX)
   have hfl:=hid (show fb<w4.heap.size∧w.heap.size + 3≤fb by have:=(Array.getElem?_eq_some_iff.1 hcel).1; have:=HZ.out.2.2; omega)
   have q0 : w4.cell? ⟨fb,0,none⟩=some (.int .i64 p):=by simp [World.cell?,hcel]
   have q1 : w4.cell? ⟨fb,1,none⟩=some (.int .i64 c):=by simp [World.cell?,hcel]
   obtain ⟨⟨z0,z1,z2,z3,z4⟩,⟨f0,f1,f2,f3,f4⟩⟩:=R4.out.n.cells
   have hp:=R4.out.p
   have hk:=R4.out.k
   have hp0 : w4.cell? ⟨w.heap.size + 1,0,none⟩=some (.int .i64 0):=by simp [World.cell?,hp]
   have hk0 : w4.cell? ⟨w.heap.size + 2,0,none⟩=some (.int .i64 0):=by simp [World.cell?,hk]
   have fp0 : w4.frozen? ⟨w.heap.size + 1,0,none⟩=false:=by simp [World.frozen?,hp]
   have fk0 : w4.frozen? ⟨w.heap.size + 2,0,none⟩=false:=by simp [World.frozen?,hk]
   have hn0 : ¬ fb=w.heap.size:=by have:=hfl.out; omega
   have hn1 : ¬ fb=w.heap.size + 1:=by have:=hfl.out; omega
   have hn2 : ¬ fb=w.heap.size + 2:=by have:=hfl.out; omega
   clear hp hk hcel hfb HX HF hE
   go_upto_region 3 with fail
   refine a6r ?_
   refine cR (S:=(fun cur => cur.cell? ⟨fb,0,none⟩=some (.int .i64 p)∧cur.cell? ⟨fb,1,none⟩=some (.int .i64 c))) (Z:=[]) (by kernel_rfl) ?_ (fun hHeld => ?_)
   ·exact ⟨q0,q1⟩
   refine l6.take (i:=0) (v:=?_) (l3 rfl) (by kernel_rfl) (by kernel_rfl) (by kernel_rfl) (by kernel_rfl) (fun _ _ _ h => nomatch h.1) (Or.inl ⟨by rfl,?_⟩) (by assumption) ?_
   rotate_left
   ·(intro w hSw; (try dsimp only at hSw); obtain ⟨s0,s1⟩:=hSw; go_simp; try with_reducible rfl)
   try simp only [Act.put,c9,f8,f7]
   refine l6.take (i:=1) (v:=?_) (l3 rfl) (by kernel_rfl) (by kernel_rfl) (by kernel_rfl) (by kernel_rfl) (fun _ _ _ h => nomatch h.1) (Or.inl ⟨by rfl,?_⟩) (by assumption) ?_
   rotate_left
   ·(intro w hSw; (try dsimp only at hSw); obtain ⟨s0,s1⟩:=hSw; go_simp; try with_reducible rfl)
   try simp only [Act.put,c9,f8,f7]
   refine l6.take (i:=2) (v:=?_) (l3 rfl) (by kernel_rfl) (by kernel_rfl) (by kernel_rfl) (by kernel_rfl) (fun _ _ _ h => nomatch h.1) (Or.inl ⟨by rfl,?_⟩) (by assumption) ?_
   rotate_left
   ·(intro w hSw; (try dsimp only at hSw); obtain ⟨s0,s1⟩:=hSw; go_simp; try with_reducible rfl)
   try simp only [Act.put,c9,f8,f7]
   refine l6.take (i:=3) (v:=?_) (l3 rfl) (by kernel_rfl) (by kernel_rfl) (by kernel_rfl) (by kernel_rfl) (fun _ _ _ h => nomatch h.1) (Or.inl ⟨by rfl,?_⟩) (by assumption) ?_
   rotate_left
   ·(intro w hSw; (try dsimp only at hSw); obtain ⟨s0,s1⟩:=hSw; go_simp; try with_reducible rfl)
   try simp only [Act.put,c9,f8,f7]
   refine l6.take (i:=4) (v:=?_) (l3 rfl) (by kernel_rfl) (by kernel_rfl) (by kernel_rfl) (by kernel_rfl) (fun _ _ _ h => nomatch h.1) (Or.inl ⟨by rfl,?_⟩) (by assumption) ?_
   rotate_left
   ·(intro w hSw; (try dsimp only at hSw); obtain ⟨s0,s1⟩:=hSw; go_simp; try with_reducible rfl)
   try simp only [Act.put,c9,f8,f7]
   refine l6.take (i:=5) (v:=?_) (l3 rfl) (by kernel_rfl) (by kernel_rfl) (by kernel_rfl) (by kernel_rfl) (fun _ _ _ h => nomatch h.1) (Or.inl ⟨by rfl,?_⟩) (by assumption) ?_
   rotate_left
   ·(intro w hSw; (try dsimp only at hSw); obtain ⟨s0,s1⟩:=hSw; go_simp; try with_reducible rfl)
   try simp only [Act.put,c9,f8,f7]
   refine l6.take (i:=6) (v:=?_) (l3 rfl) (by kernel_rfl) (by kernel_rfl) (by kernel_rfl) (by kernel_rfl) (fun _ _ _ h => nomatch h.1) (Or.inl ⟨by rfl,?_⟩) (by assumption) ?_
   rotate_left
   ·(intro w hSw; (try dsimp only at hSw); obtain ⟨s0,s1⟩:=hSw; go_simp; try with_reducible rfl)
   try simp only [Act.put,c9,f8,f7]
   refine l6.take (i:=7) (v:=?_) (l3 rfl) (by kernel_rfl) (by kernel_rfl) (by kernel_rfl) (by kernel_rfl) (fun _ _ _ h => nomatch h.1) (Or.inl ⟨by rfl,?_⟩) (by assumption) ?_
   rotate_left
   ·(intro w hSw; (try dsimp only at hSw); obtain ⟨s0,s1⟩:=hSw; go_simp; try with_reducible rfl)
   try simp only [Act.put,c9,f8,f7]
   refine l6.take (i:=8) (v:=?_) (l3 rfl) (by kernel_rfl) (by kernel_rfl) (by kernel_rfl) (by kernel_rfl) (fun _ _ _ h => nomatch h.1) (Or.inl ⟨by rfl,?_⟩) (by assumption) ?_
   rotate_left
   ·(intro w hSw; (try dsimp only at hSw); obtain ⟨s0,s1⟩:=hSw; go_simp; try with_reducible rfl)
   try simp only [Act.put,c9,f8,f7]
   refine l6.next (i:=9) (by kernel_rfl) (l3 rfl) (fun K hK => ?_)
   go_simp
   refine hK.out _ _ ?_ (fun hHeld => ?_)
   ·exact ⟨by simp [World.cell?_setCell_other, *],by simp [World.cell?_setCell_other, *]⟩
   clear hK K
   try simp only [Act.put,c9,f8,f7]
   refine l6.next (i:=10) (by kernel_rfl) (l3 rfl) (fun K hK => ?_)
   go_simp
   refine hK.out _ _ ?_ (fun hHeld => ?_)
   ·exact ⟨by simp [World.cell?_setCell_other, *],by simp [World.cell?_setCell_other, *]⟩
   clear hK K
   try simp only [Act.put,c9,f8,f7]
   refine l6.next (i:=11) (by kernel_rfl) (l3 rfl) (fun K hK => ?_)
   go_simp
   refine hK.out _ _ ?_ (fun hHeld => ?_)
   ·exact ⟨by simp [World.cell?_setCell_other, *],by simp [World.cell?_setCell_other, *]⟩
   clear hK K
   try simp only [Act.put,c9,f8,f7]
   refine l6.done (by kernel_rfl) ⟨rfl,?_⟩ _
   go_wp2_with fail
   exact ⟨_,nU (((R4.out.put nd0 none 0).setp p).setk c).drew rfl rfl rfl,a0E HXe E4⟩
 | ok ts =>
   obtain ⟨g,cap,rfl,how⟩:=hsp
   obtain ⟨htk,htz,he,hne⟩:=qA HSC
   obtain ⟨W5,hW5⟩ : ∃ W,W=w4.alloc (.cells #[.slice (some ⟨g,0,none⟩) ts.length cap,.int .i64 0] 77):=⟨_,rfl⟩
   have S5:=hid (show SQ w4.heap.size g cap ts 0 ts W5 from hW5 ▸ PQ.make how hne)
   have B5:=hid (show Below w4.heap.size w4 W5 from hW5 ▸ c6 _ _)
   have R5:=hid (R4.out.below B5)
   have G5:=hid (show w.grownBy W5 (some w4.heap.size) from b8 (E4.out.trans (B5.out.mono E4.out.size)))
   have hz5:=hid (show w.heap.size + 3≤W5.heap.size from Nat.le_trans hz4 B5.out.size)
   have C6:=hid (HF.out w4.heap.size g cap ts W5 he htk S5)
   have HXe:=hid (show X=a1X (rdr ts) from HX)
   generalize rdr ts=y at C6 HXe
   have hgw:=hid (show w.heap.size + 3≤g by have:=(how.lt g rfl).1; have:=HZ.out.2.2; omega)
   clear how htk htz he hne HX HSC HF
   go_upto_region 6 with fail
   rw [← hW5]
   clear hW5
   go_wp2_with fail
   (with_reducible refine Calls.mono C6.out ?_)
   intro e w6 hq
   cases y with
   | error q =>
     obtain ⟨k,p⟩:=q
     obtain ⟨rfl,hg⟩:=hq
     have R6:=R5.out.grown hg (by have:=hz4.out; omega)
     refine leaves_cons (f:=46) (args:=#[.pointer (some ⟨w.heap.size,0,none⟩),.pointer (some ⟨w.heap.size + 1,0,none⟩),.pointer (some ⟨w.heap.size + 2,0,none⟩)]) (by simp) (by simp [go_sem]) ?_
     refine (lE _ _ _ _ _ _ _ _ [] _ R6).mono ?_
     rintro e u' w'' ⟨rfl,rfl,rfl⟩
     exact ⟨_,nU (R6.catch p k) rfl rfl rfl,oJ HXe (b6 G5 hg) (by have:=hz4.out; omega)⟩
   | ok q =>
     obtain ⟨t,r⟩:=q
     obtain ⟨a,cp,rfl,hs,hg,hl⟩:=hq
     have R6:=hid (R5.out.grown hg (by have:=hz4.out; omega))
     have G6:=hid (b6 G5 hg)
     have S6:=hid hs
     have HL:=hid hl
     have hP:=hid (show w.heap.size + 3≤w4.heap.size from hz4)
     clear hs hg hl C6
     obtain ⟨⟨z0,z1,z2,z3,z4⟩,⟨f0,f1,f2,f3,f4⟩⟩:=R6.out.n.cells
     obtain ⟨W7,hW7⟩ : ∃ W,W=V6 w6 w.heap.size t a cp:=⟨_,rfl⟩
     have R7:=hid (show Res3 w.heap.size t a cp 0 0 W7 from hW7 ▸ R6.out.put t a cp)
     have G7:=hid (show w.grownBy W7 (some w4.heap.size) from hW7 ▸ r7 G6 (Nat.le_refl _) t a cp)
     have hW7':=hW7
     unfold V6 at hW7'
     have HW7:=hid hW7
     obtain ⟨aa,hr,hpq⟩:=S6.out
     have h7:=hpq.keeps (W':=W7) (fun c hc => hW7 ▸ (j0.refl (fun c => c=w4.heap.size∨c=g) w6).put (fun c hc e => by have:=hP.out; have:=hgw.out; rcases hc with rfl | rfl <;> omega) t a cp c hc) (by rw [hW7,L8]; exact Nat.le_refl _)
     have hpos:=h7.pos
     have HR:=hid (show hd r=ts[aa] from hr ▸ O0 hpos)
     obtain ⟨⟨p0,p1⟩,-⟩:=h7.cells
     obtain ⟨t0,t1,t2,t3⟩:=h7.tok
     have hL : 0<ts.length - aa:=by omega
     generalize ts[aa]'hpos=T at t0 t1 t2 t3 HR
     generalize ts.length - aa=Ln at p0 hL
     generalize cap - aa=C2 at p0
     generalize aa * 4=off at p0 t0 t1 t2 t3
     clear hr hpq h7 hpos hW7
     unfold Nd.val
     go_upto_region 7 with fail
     rw [← hW7']
     clear hW7' z0 z1 z2 z3 z4 f0 f1 f2 f3 f4
     by_cases hk : T.kind=0
     ·have e0 : (T.kind != 0)=false:=by rw [hk]; rfl
      have HXo:=hid (show X=.ok t by rw [HXe.out]; show (if (hd r).kind=0 then _ else _)=_; rw [HR.out,if_pos hk])
      obtain ⟨⟨z0,z1,z2,z3,z4⟩,⟨f0,f1,f2,f3,f4⟩⟩:=R7.out.n.cells
      have hp:=R7.out.p
      have hk:=R7.out.k
      have hp0 : W7.cell? ⟨w.heap.size + 1,0,none⟩=some (.int .i64 0):=by simp [World.cell?,hp]
      have hk0 : W7.cell? ⟨w.heap.size + 2,0,none⟩=some (.int .i64 0):=by simp [World.cell?,hk]
      have fp0 : W7.frozen? ⟨w.heap.size + 1,0,none⟩=false:=by simp [World.frozen?,hp]
      have fk0 : W7.frozen? ⟨w.heap.size + 2,0,none⟩=false:=by simp [World.frozen?,hk]
      clear hp hk
      go_wp2_with fail
      refine leaves_cons (f:=46) (args:=#[.pointer (some ⟨w.heap.size,0,none⟩),.pointer (some ⟨w.heap.size + 1,0,none⟩),.pointer (some ⟨w.heap.size + 2,0,none⟩)]) (by simp) (by simp [go_sem]) ?_
      refine (wU _ _ _ _).mono ?_
      rintro e u' w'' ⟨rfl,rfl,rfl⟩
      refine ⟨_,nU (((R7.out.put t a cp).setp 0).setk 0) rfl rfl rfl,?_⟩
      rw [HW7.out]
      exact a15 HXo G6 (by have:=hP.out; omega) hz5 HL
     ·have e0 : (T.kind != 0)=true:=bne_iff_ne.2 hk
      have HXo:=hid (show X=.error (74,T.pos) by rw [HXe.out]; show (if (hd r).kind=0 then _ else _)=_; rw [HR.out,if_neg hk])
      have C8:=hid (aE w4.heap.size 74 T.pos W7)
      clear hk
      go_wp2_with fail
      (with_reducible refine Calls.mono C8.out ?_)
      rintro e w8 ⟨rfl,rfl⟩
      refine leaves_cons (f:=46) (args:=#[.pointer (some ⟨w.heap.size,0,none⟩),.pointer (some ⟨w.heap.size + 1,0,none⟩),.pointer (some ⟨w.heap.size + 2,0,none⟩)]) (by simp) (by simp [go_sem]) ?_
      refine (lE _ _ _ _ _ _ _ _ [] _ R7).mono ?_
      rintro e u' w'' ⟨rfl,rfl,rfl⟩
      exact ⟨_,nU (R7.out.catch T.pos 74) rfl rfl rfl,oJ HXo G7 (by have:=hP.out; omega)⟩
end
end Go.Proofs.YtibiccacafjjfaaGreatDoor
