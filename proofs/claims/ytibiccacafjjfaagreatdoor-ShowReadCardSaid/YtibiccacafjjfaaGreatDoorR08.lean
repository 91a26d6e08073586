/-
  Laws that the proof rests on.
-/
import Derived.Test.YtibiccacafjjfaaGreatDoorR07
import Derived.Test.YtibiccacafjjfaaGreatDoorR05
import Derived.Test.YtibiccacafjjfaaGreatDoorR04
import Derived.Test.YtibiccacafjjfaaGreatDoorR03
import Derived.Test.YtibiccacafjjfaaGreatDoorR02
import Derived.Deep.DrawnRows
import Derived.Test.YtibiccacafjjfaaGreatDoorR01
import Derived.WalkSmall
import Derived.Deep.RegionWith
namespace Go.Proofs.YtibiccacafjjfaaGreatDoor
set_option maxRecDepth 100000
set_option maxHeartbeats 16000000
theorem eE {p : UInt8→Bool} (l : List UInt8) : (l.take (l.takeWhile p).length).all p=true:=by
 induction l with
 | nil => rfl
 | cons a l ih =>
   rw [List.takeWhile_cons]
   cases h : p a with
   | false => rfl
   | true =>
     simp only [if_true,List.length_cons,List.take_succ_cons,List.all_cons,h,Bool.true_and]
     exact ih
theorem a3e {p : UInt8→Bool} {l : List UInt8} (h : l.all p=true) : l.takeWhile p=l:=by
 induction l with
 | nil => rfl
 | cons a l ih =>
   rw [List.all_cons,Bool.and_eq_true] at h
   rw [List.takeWhile_cons,h.1,if_pos rfl,ih h.2]
theorem mF {l : List UInt8} (h1 : 1≤m5 l) (h24 : m5 l≤24) : p8 (l.take (m5 l))=true:=by
 rw [← kX]
 cases l with
 | nil => exact absurd h1 (by decide)
 | cons c r =>
   have e : ∀ x,m5 (c :: x)=if smC c then 1 + (x.takeWhile inC).length else 0:=fun x => rfl
   have hle:=x6 inC r
   rw [e] at h1 h24 ⊢
   split at h1
   ·rename_i hc
    rw [if_pos hc] at h24 ⊢
    have hlen : (r.take (r.takeWhile inC).length).length=(r.takeWhile inC).length:=by rw [List.length_take]; omega
    rw [Nat.add_comm,List.take_succ_cons]
    unfold gS
    rw [Bool.and_eq_true,Bool.and_eq_true,e,if_pos hc,a3e (eE (p:=inC) r),List.length_cons,hlen]
    exact ⟨⟨decide_eq_true (by omega),decide_eq_true (by omega)⟩,decide_eq_true (by omega)⟩
   ·omega
theorem uW : ∀ (a b : List UInt8),(∀ c∈a,c≠46)→Lib.index (a ++ 46 :: b) [46]=a.length
 | [],b,_ => by rw [List.nil_append,Lib.index]; rfl
 | c :: a,b,h => by
   have hc : (46 == c)=false:=by rw [beq_eq_false_iff_ne]; exact fun e => h c (List.mem_cons_self ..) e.symm
   rw [List.cons_append,Lib.index,uW a b (fun d hd => h d (List.mem_cons_of_mem _ hd))]
   have hp : [46].isPrefixOf (c :: (a ++ 46 :: b))=false:=by rw [List.isPrefixOf,hc,Bool.false_and]
   rw [hp,if_neg (by decide),if_neg (by rw [beq_iff_eq]; omega),List.length_cons]
   omega
theorem a4H {a b : List UInt8} (h : ∀ c∈a,c≠46) : Lib.cut (a ++ 46 :: b) [46]=(a,b,true):=by
 unfold Lib.cut
 rw [uW a b h,if_pos (by omega)]
 simp
theorem a4Z {l : List UInt8} (h : p8 l=true) : ∀ c∈l,c≠46:=fun c hc => (oG c (gI h c hc)).2
theorem vN {l : List UInt8} (h : p8 l=true) (h' : ¬ F0 l=true) : p7 l=true:=by
 unfold p7
 rw [h,Bool.eq_false_iff.2 h']; rfl
theorem a7k {a b : List UInt8} (ha : p7 a=true) (hb : p7 b=true) : eH (a ++ 46 :: b)=true:=by
 unfold eH
 rw [a4H (a4Z (fN ha))]
 simp only [ha,hb]
 rfl
theorem jK {k p : Int} {s : List UInt8} {n : Int} (h1 : k=1→p7 s=true) (h3 : k=3→eH s=true) (h4 : k=4→kG s=true) (h5 : k=5→0≤n∧n≤73048) (h6 : k=6→0≤n∧n≤1000000000000000) (h7 : k=7→p8 s=true) : GT ⟨k,s,n,p⟩ :=
 ⟨h1,h3,h4,h5,h6,h7⟩
theorem a33 {L : List UInt8} {p : Int} {t : Tk} {n : Nat} (h : Y5 L p=.ok (t,n)) (h1 : 1≤m5 L) : GT t:=by
 unfold Y5 at h
 simp only at h
 split at h
 ·split at h
  ·cases h
  ·rename_i hno
   cases h
   refine jK (fun e => absurd e (by decide)) (fun _ => ?_) (fun e => absurd e (by decide)) (fun e => absurd e (by decide)) (fun e => absurd e (by decide)) (fun e => absurd e (by decide))
   exact a7k (vN (mF h1 (by omega)) (fun e => hno (by simp [e]))) (vN (mF (by omega) (by omega)) (fun e => hno (by simp [e])))
 ·split at h
  ·cases h
  ·cases h
   by_cases hw : F0 (L.take (m5 L))=true
   ·rw [if_pos hw]
    exact jK (fun e => absurd e (by decide)) (fun e => absurd e (by decide)) (fun e => absurd e (by decide)) (fun e => absurd e (by decide)) (fun e => absurd e (by decide)) (fun e => absurd e (by decide))
   ·rw [if_neg hw]
    exact jK (fun _ => vN (mF h1 (by omega)) hw) (fun e => absurd e (by decide)) (fun e => absurd e (by decide)) (fun e => absurd e (by decide)) (fun e => absurd e (by decide)) (fun e => absurd e (by decide))
theorem a5f {l : List UInt8} {v : Int} (h : nR l=some v) : 0≤v∧v≤73048:=by
 unfold nR at h
 split at h
 ·rename_i hc
  cases h
  exact Cal.num_bd hc.2.2
 ·cases h
theorem a3m {l : List UInt8} {v : Int} (h : V4 l=some v) : 0≤v:=by
 unfold V4 at h
 simp only at h
 split at h
 ·rename_i hc
  cases h
  refine (gK (n:=_) ?_ (Nat.le_refl _)).1
  rw [List.all_append,List.all_append]
  have h1 : (l.takeWhile dgC).all dgC=true:=by
   have:=eE (p:=dgC) l
   rwa [show l.take (l.takeWhile dgC).length=l.takeWhile dgC from (List.prefix_iff_eq_take.1 (List.takeWhile_prefix dgC)).symm] at this
  have h2 : ((l.drop (l.takeWhile dgC).length).tail).all dgC=true:=by
   have hp:=hc.2.2.2
   cases hx : l.drop (l.takeWhile dgC).length with
   | nil => rfl
   | cons a q =>
     rw [hx] at hp
     unfold aD at hp
     simp only [Bool.and_eq_true] at hp
     exact hp.2.2
  have h3 : (List.replicate (6 - ((l.drop (l.takeWhile dgC).length).tail).length) (48 : UInt8)).all dgC=true:=List.all_eq_true.2 fun c hc => by
   rw [List.eq_of_mem_replicate hc]; decide
  rw [h1,h2,h3]; rfl
 ·cases h
theorem a4y {l : List UInt8} {v : Int} (h : fM l=some v) (hd : l.headD 0≠45) : 0≤v∧v≤1000000000000000:=by
 unfold fM at h
 rw [if_neg hd] at h
 split at h
 ·rename_i n hn
  split at h
  ·cases h
  ·cases h
   exact ⟨a3m hn,by omega⟩
 ·cases h
theorem a7f {c : UInt8} {r : List UInt8} {p : Int} {t : Tk} {n : Nat} (h : aP (c :: r) p=.ok (t,n)) (hc : dgC c=true) : GT t:=by
 have h45 : c≠45:=a60 hc
 unfold aP at h
 split at h
 ·split at h
  ·cases h
  ·rename_i v hv
   split at h
   ·cases h
    exact jK (fun e => absurd e (by decide)) (fun e => absurd e (by decide)) (fun e => absurd e (by decide)) (fun _ => a5f hv) (fun e => absurd e (by decide)) (fun e => absurd e (by decide))
   ·cases h
 ·split at h
  ·cases h
  ·rename_i v hv
   split at h
   ·cases h
    refine jK (fun e => absurd e (by decide)) (fun e => absurd e (by decide)) (fun e => absurd e (by decide)) (fun e => absurd e (by decide)) (fun _ => a4y hv ?_) (fun e => absurd e (by decide))
    have:=(rO (l:=c :: r) (pA hc)).1
    obtain ⟨m,hm⟩ : ∃ m,cC (c :: r)=m + 1:=⟨cC (c :: r) - 1,by omega⟩
    rw [hm,List.take_succ_cons,List.headD_cons]
    exact h45
   ·cases h
theorem a7z {c : UInt8} {r : List UInt8} {p : Int} {t : Tk} {n : Nat} (h : aB c r p=.ok (t,n)) : GT t:=by
 unfold aB at h
 split at h
 ·rename_i h1
  exact a33 h (by show 1≤(if smC c then 1 + (r.takeWhile inC).length else 0); rw [if_pos h1]; omega)
 ·split at h
  ·rename_i h2
   exact a7f h h2
  ·split at h
   ·unfold Y1 at h
    split at h
    ·cases h
    ·split at h
     ·rename_i hn
      cases h
      exact jK (fun e => absurd e (by decide)) (fun e => absurd e (by decide)) (fun e => absurd e (by decide)) (fun e => absurd e (by decide)) (fun e => absurd e (by decide)) (fun _ => hn)
     ·cases h
   ·split at h
    ·unfold yF at h
     split at h
     ·rename_i h3
      cases h
      refine jK (fun e => absurd e (by decide)) (fun e => absurd e (by decide)) (fun _ => ?_) (fun e => absurd e (by decide)) (fun e => absurd e (by decide)) (fun e => absurd e (by decide))
      have hg:=eE (p:=grC) (c :: r)
      have h3' : ((c :: r).takeWhile grC).length=3:=h3
      have hle:=x6 grC (c :: r)
      rw [h3'] at hg hle
      unfold kG
      rw [Bool.and_eq_true]
      refine ⟨decide_eq_true (by rw [List.length_take]; omega),?_⟩
      rw [← hg]
      exact List.all_congr rfl fun a => wU a
     ·cases h
    ·unfold iA at h
     split at h
     ·cases h
      exact jK (fun e => absurd e (by decide)) (fun e => absurd e (by decide)) (fun e => absurd e (by decide)) (fun e => absurd e (by decide)) (fun e => absurd e (by decide)) (fun e => absurd e (by decide))
     ·split at h
      ·cases h
       exact jK (fun e => absurd e (by decide)) (fun e => absurd e (by decide)) (fun e => absurd e (by decide)) (fun e => absurd e (by decide)) (fun e => absurd e (by decide)) (fun e => absurd e (by decide))
      ·cases h
theorem Scan.gt {u : List UInt8} {p : Int} {l : List Tk} (h : Scan u p l) : ∀ k∈l,GT k:=by
 induction h with
 | fin p =>
   intro k hk
   rw [List.mem_singleton.1 hk]
   exact jK (fun e => absurd e (by decide)) (fun e => absurd e (by decide)) (fun e => absurd e (by decide)) (fun e => absurd e (by decide)) (fun e => absurd e (by decide)) (fun e => absurd e (by decide))
 | blank h hl ih => exact ih
 | rem hl ih => exact ih
 | tok h h' ht hl ih =>
   intro k hk
   rcases List.mem_cons.1 hk with rfl | hk
   ·exact a7z ht
   ·exact ih k hk
def a73 (rdr : List Tk→Rd) (u : List UInt8) (t : Nd) : Prop:=∃ l r,p5 u=.ok l∧rdr l=.ok (t,r)∧(hd r).kind=0
section
variable {b : Bool} {x x' : List Tk}
end
theorem a1R {k p : Int} {s : List UInt8} (h : p7 s=true) : m6 k (mkN k s 0 [] p)=true:=by
 unfold m6
 show (k == k && p7 s && (0 : Int) == 0 && ([] : List Nd).isEmpty)=true
 rw [h,beq_self_eq_true]; rfl
def a3N (P : Nd→Prop) (l : List Tk) (t : Nd) (r : List Tk) : Prop:=P t∧(∀ k∈r,GT k)∧p9 t + r.length≤l.length
theorem a1l {l : List Tk} (hl : ∀ k∈l,GT k) : i8 (a3N (fun t => m6 4 t=true) l) (aT l):=by
 refine i8.kind fun h => ?_
 obtain ⟨L1,g⟩:=(Lt.refl hl).kind h (by decide)
 refine i8.ok ⟨a1R (g.name h),L1.1,?_⟩
 rw [jW]; have:=L1.2; omega
def a14 (P : Nd→Prop) (f : Nat) (acc : List Nd) (l : List Tk) (t : Nd) (r : List Tk) : Prop:=(∃ ks,t.kids=acc ++ ks∧(∀ k∈ks,P k)∧ks.length≤f)∧(∀ k∈r,GT k)∧l7 t.kids + r.length≤l7 acc + l.length
theorem uT {P : Nd→Prop} {rdr : List Tk→Rd} (hr : ∀ l,(∀ k∈l,GT k)→i8 (a3N P l) (rdr l)) : ∀ (f : Nat) (acc : List Nd) (l : List Tk),(∀ k∈l,GT k)→i8 (a14 P f acc l) (F4 rdr f acc l)
 | 0,_,_,_ => i8.error (by decide)
 | f + 1,acc,l,hl => by
   refine i8.then (hr l hl) ?_
   rintro t r ⟨gt,hr',nt⟩
   refine i8.ite (fun h => ?_) fun _ => ?_
   ·have L1:=(Lt.refl hr').is h
    refine (uT hr f (acc ++ [t]) (b9 r) L1.1).mono ?_
    rintro u q ⟨⟨ks,e,hk,hf⟩,hq,nu⟩
    refine ⟨⟨t :: ks,by rw [e,List.append_assoc]; rfl,fun k h => ?_,by rw [List.length_cons]; omega⟩,hq,?_⟩
    ·rcases List.mem_cons.1 h with rfl | h
     ·exact gt
     ·exact hk k h
    ·rw [V5,O1] at nu
     have:=L1.2; omega
   ·refine i8.want fun h => ?_
    have L1:=(Lt.refl hr').is h
    refine i8.ok ⟨⟨[t],rfl,fun k h => by rw [List.mem_singleton.1 h]; exact gt,by simp⟩,L1.1,?_⟩
    rw [fW,V5,O1]
    have:=L1.2; omega
theorem zG {l : List Tk} (hl : ∀ k∈l,GT k) : i8 (a14 (fun t => m6 4 t=true) 8 [] l) (V7 l):=by
 refine i8.ite (fun h => ?_) fun _ => ?_
 ·have L1:=(Lt.refl hl).is h
  refine (uT (fun l hl => a1l hl) 8 [] (b9 l) L1.1).mono ?_
  rintro t r ⟨h1,h2,h3⟩
  exact ⟨h1,h2,by have:=L1.2; omega⟩
 ·exact i8.ok ⟨⟨[],rfl,fun k h => (by cases h),by simp⟩,hl,Nat.le_refl _⟩
theorem a5Y {k n p : Int} {s : List UInt8} (ks : List Nd) (x : Nd) : T3 (mkN k s n (ks ++ [x]) p)=x:=by
 unfold T3
 rw [fW,List.getLastD_eq_getLast?,List.getLast?_append]; rfl
theorem a3T {l : List Tk} (hl : ∀ k∈l,GT k) : i8 (a3N (fun t => O9 t=true) l) (vW l):=by
 refine i8.want fun h => ?_
 have L1:=(Lt.refl hl).is h
 refine i8.kind fun h2 => ?_
 obtain ⟨L2,g⟩:=L1.kind h2 (by decide)
 refine i8.then (zG L2.1) ?_
 rintro ps r ⟨⟨ks,e,hk,hf⟩,hr,np⟩
 rw [List.nil_append] at e
 refine i8.want fun h3 => ?_
 have L3:=(Lt.refl hr).is h3
 refine i8.then (a6U 0 L3.1) ?_
 rintro x q ⟨gx,hq,nx⟩
 refine i8.want fun h4 => ?_
 have L4:=(Lt.refl hq).is h4
 refine i8.ok ⟨?_,L4.1,?_⟩
 ·show O9 (mkN 3 (hd (b9 l)).text 0 (ps.kids ++ [x]) (hd (b9 l)).pos)=true
  rw [iV,e,fW,a1L,a5Y,List.dropLast_concat,g.name h2,List.length_append,gx.right,List.all_eq_true.2 hk]
  simp only [List.length_singleton,Bool.and_eq_true,decide_eq_true_eq]
  exact ⟨⟨⟨⟨⟨(show ((3 : Int) == 3)=true by decide),trivial⟩,(show ((0 : Int) == 0)=true by decide)⟩,by omega⟩,by omega⟩,trivial,trivial⟩
 ·show p9 (mkN 3 (hd (b9 l)).text 0 (ps.kids ++ [x]) (hd (b9 l)).pos) + (b9 q).length≤l.length
  rw [bT,V5,O1]
  have:=L2.2
  have:=L3.2
  have:=L4.2
  rw [l7] at np
  omega
theorem kY : ∀ (f : Nat) (acc : List Nd) (l : List Tk),(∀ k∈l,GT k)→i8 (a14 (fun t => m6 2 t=true) f acc l) (q9 f acc l)
 | 0,acc,l,hl => i8.ite (fun _ => i8.error (by decide)) fun _ => i8.ok ⟨⟨[],by rw [List.append_nil]; rfl,fun k h => (by cases h),by simp⟩,hl,Nat.le_refl _⟩
 | f + 1,acc,l,hl => by
   refine i8.ite (fun h => ?_) fun _ => i8.ok ⟨⟨[],by rw [List.append_nil]; rfl,fun k h => (by cases h),by simp⟩,hl,Nat.le_refl _⟩
   have L1:=(Lt.refl hl).is h
   refine i8.kind fun h2 => ?_
   obtain ⟨L2,g⟩:=L1.kind h2 (by decide)
   refine i8.want fun h3 => ?_
   have L3:=L2.is h3
   refine (kY f (acc ++ [mkN 2 (hd (b9 l)).text 0 [] (hd (b9 l)).pos]) _ L3.1).mono ?_
   rintro u q ⟨⟨ks,e,hk,hf⟩,hq,nu⟩
   refine ⟨⟨mkN 2 (hd (b9 l)).text 0 [] (hd (b9 l)).pos :: ks,by rw [e,List.append_assoc]; rfl,fun k h => ?_,by rw [List.length_cons]; omega⟩,hq,?_⟩
   ·rcases List.mem_cons.1 h with rfl | h
    ·exact a1R (g.name h2)
    ·exact hk k h
   ·rw [V5,O1,jW] at nu
    have:=L3.2; omega
theorem tP : ∀ (f : Nat) (acc : List Nd) (l : List Tk),(∀ k∈l,GT k)→i8 (a14 (fun t => O9 t=true) f acc l) (R9 f acc l)
 | 0,acc,l,hl => i8.ite (fun _ => i8.error (by decide)) fun _ => i8.ok ⟨⟨[],by rw [List.append_nil]; rfl,fun k h => (by cases h),by simp⟩,hl,Nat.le_refl _⟩
 | f + 1,acc,l,hl => by
   refine i8.ite (fun h => ?_) fun _ => i8.ok ⟨⟨[],by rw [List.append_nil]; rfl,fun k h => (by cases h),by simp⟩,hl,Nat.le_refl _⟩
   refine i8.then (a3T hl) ?_
   rintro t r ⟨gt,hr,nt⟩
   refine (tP f (acc ++ [t]) r hr).mono ?_
   rintro u q ⟨⟨ks,e,hk,hf⟩,hq,nu⟩
   refine ⟨⟨t :: ks,by rw [e,List.append_assoc]; rfl,fun k h => ?_,by rw [List.length_cons]; omega⟩,hq,?_⟩
   ·rcases List.mem_cons.1 h with rfl | h
    ·exact gt
    ·exact hk k h
   ·rw [V5,O1] at nu
    omega
theorem a38 {is ls : List Nd} (hi : ∀ k∈is,m6 2 k=true) (hl : ∀ k∈ls,O9 k=true) : v8 (is ++ ls)=is.length:=by
 unfold v8
 have h : ∀ (is : List Nd),(∀ k∈is,m6 2 k=true)→((is ++ ls).takeWhile (m6 2)).length=is.length:=fun is => by
  induction is with
  | nil =>
    intro _
    cases ls with
    | nil => rfl
    | cons k ls =>
      have hk:=hl k (List.mem_cons_self ..)
      rw [iV] at hk
      simp only [Bool.and_eq_true,beq_iff_eq] at hk
      have hno : ¬ m6 2 k=true:=by
       intro e
       rw [kL] at e
       simp only [Bool.and_eq_true,beq_iff_eq] at e
       have h3:=hk.1.1.1.1.1
       have h2:=e.1.1.1
       omega
      rw [List.nil_append,List.takeWhile_cons,if_neg hno]
  | cons k is ih =>
    intro h
    rw [List.cons_append,List.takeWhile_cons,if_pos (h k (List.mem_cons_self ..)),List.length_cons,List.length_cons,ih (fun k hk => h k (List.mem_cons_of_mem _ hk))]
 exact h is hi
theorem xA {l : List Tk} (hl : ∀ k∈l,GT k) : i8 (fun t r => (z6 t=true→I9 t=true)∧p9 t + r.length + 2≤l.length) (nO l):=by
 refine i8.want fun h => ?_
 have L1:=(Lt.refl hl).is h
 refine i8.kind fun h2 => ?_
 obtain ⟨L2,g⟩:=L1.kind h2 (by decide)
 refine i8.want fun h3 => ?_
 have L3:=L2.is h3
 refine i8.then (kY 100 [] _ L3.1) ?_
 rintro is r ⟨⟨ks,e,hk,hf⟩,hr,ni⟩
 rw [List.nil_append] at e
 refine i8.then (tP 200 is.kids r hr) ?_
 rintro ls q ⟨⟨us,e2,hu,hf2⟩,hq,nl⟩
 rw [e] at e2
 refine i8.ok ⟨fun hs => ?_,?_⟩
 ·unfold I9
  rw [hs,fW,a1L,e2,a38 hk hu,List.drop_left,g.name h2,List.length_append,List.all_eq_true.2 hu]
  simp only [Bool.and_eq_true,decide_eq_true_eq]
  exact ⟨⟨⟨⟨(show ((1 : Int) == 1)=true by decide),trivial⟩,(show ((0 : Int) == 0)=true by decide)⟩,trivial⟩,⟨hf,by omega⟩,trivial⟩
 ·rw [bT]
  rw [l7] at ni
  have:=L3.2
  omega
theorem a52 {c : UInt8} {r : List UInt8} {p e : Int} (h : aB c r p=.error e) : e≠0:=by
 unfold aB Y5 aP Y1 yF iA at h
 simp only at h
 repeat' (split at h)
 all_goals first | (cases h; done) | (cases h; decide)
theorem yI (N : Nat) : ∀ (u : List UInt8),u.length≤N→∀ (p : Int) (k : Nat) (c q : Int),r9 u p k 0=.error (c,q)→c≠0:=by
 induction N with
 | zero =>
   intro u hu p k c q h
   cases u with
   | nil => cases h
   | cons a r => simp at hu
 | succ N ih =>
   intro u hu p k c q h
   cases u with
   | nil => cases h
   | cons a r =>
     rw [List.length_cons] at hu
     by_cases h32 : a.toNat≤32
     ·rw [eC h32] at h
      exact ih r (by omega) _ _ _ _ h
     by_cases h35 : a=35
     ·rw [lB h35] at h
      exact ih _ (by rw [List.length_drop]; omega) _ _ _ _ h
     cases hx : aB a r p with
     | error e =>
       rw [iM h32 h35 hx] at h
       cases h
       exact a52 hx
     | ok w =>
       obtain ⟨t,n⟩:=w
       have hn:=kH hx
       by_cases hk : k=8192
       ·rw [fD h32 h35 hx hk] at h
        cases h
        decide
       rw [iJ h32 h35 hx hk] at h
       cases hs : r9 ((a :: r).drop n) (p + n) (k + 1) 0 with
       | error e =>
         rw [hs] at h
         cases h
         exact ih _ (by rw [List.length_drop,List.length_cons]; omega) _ _ _ _ hs
       | ok l => rw [hs] at h; cases h
theorem a2x {u : List UInt8} {c q : Int} (h : p5 u=.error (c,q)) : c≠0:=by
 unfold p5 at h
 split at h
 ·cases h; decide
 ·exact yI _ u (Nat.le_refl _) _ _ _ _ h
section
open Lib (hid)
open Go.RowKit Go.Shelf
theorem a0q (a : Int) (w : World) : Calls Tryz.prog 159 #[.int .i64 a] w fun e w' => e=.returned (.int .i64 (aU a))∧w=w':=by
 go_enter Tryz.func159,Tryz.ntmps159
 go_wp2
 go_ret
 exact ⟨uG (by unfold aU; (repeat' split) <;> omega),by first | rfl | trivial⟩
theorem a34 {a : Int} {b : Nat} {c d : Bool} (h : a=b) (h' : c=d) : Ending.returned (.tuple #[.int .u64 a,.bool c])=.returned (.tuple #[.int .u64 b,.bool d]):=by rw [h,h']
theorem a08 (a : Int) (w : World) : Calls Tryz.prog 131 #[.int .i64 a] w fun e w' => e=.returned (.tuple #[.int .u64 ((aU a).natAbs : Nat),.bool (decide (aU a<0))])∧w=w':=by
 obtain ⟨b1,b2⟩:=zB a
 go_enter Tryz.func131,Tryz.ntmps131
 go_wp2_with (go_at_call 159; refine (a0q a _).mono ?_; rintro e w' ⟨rfl,rfl⟩)
 go_wp2
 all_goals go_ret2
 ·exact ⟨a34 (by omega) (decide_eq_true (by omega)).symm,by first | rfl | trivial⟩
 ·exact ⟨a34 (by omega) (decide_eq_false (by omega)).symm,by first | rfl | trivial⟩
structure Dg (h : Nat) (s : ByteArray) (n : Nat) (w : World) : Prop where
 lt : h<w.heap.size
 c0 : w.cell? ⟨h,0,none⟩=some (.string s)
 c1 : w.cell? ⟨h,1,none⟩=some (.int .u64 n)
 f0 : w.frozen? ⟨h,0,none⟩=false
 f1 : w.frozen? ⟨h,1,none⟩=false
theorem a1Z (n : Nat) : Utf8.encode (48 + (n : Int) % 10)=⟨#[dig n]⟩:=by
 have h : n % 10<10:=Nat.mod_lt _ (by decide)
 have : ∀ d : Fin 10,Utf8.encode (48 + ((d.val : Nat) : Int))=⟨#[UInt8.ofNat (48 + d.val)]⟩:=by decide +kernel
 have e : (n : Int) % 10=((n % 10 : Nat) : Int):=by omega
 rw [e]
 exact this ⟨n % 10,h⟩
theorem mC (h : Nat) (s : ByteArray) (n : Nat) (hn : n≤1000000000000000) (hs : s.size≤100) (w : World) (D : Dg h s n w) : Calls Tryz.prog 132 #[.pointer (some ⟨h,0,none⟩)] w fun e w' => e=.returned (.tuple #[])∧Dg h (⟨#[dig n]⟩ ++ s) (n / 10) w'∧Below h w w':=by
 obtain ⟨lt,c0,c1,f0,f1⟩:=D
 have mixed : Tryz.prog.follows .mixedOrders=true:=by kernel_rfl
 go_enter Tryz.func132,Tryz.ntmps132
 have hz : (Utf8.encode (48 + (n : Int) % 10)).size=1:=by rw [a1Z]; rfl
 go_wp2
 go_region
 rw [a1Z]
 have ND : Dg h (⟨#[dig n]⟩ ++ s) n (w.setCell ⟨h,0,none⟩ (.string (⟨#[dig n]⟩ ++ s))).drew :=
  ⟨by simpa [World.setCell] using lt,World.cell?_setCell_same' _ _ _ (by rw [c0]; rfl),(World.cell?_setCell_other _ _ _ _ (by simp)).trans c1,(World.frozen?_setCell _ _ _ _).trans f0,(World.frozen?_setCell _ _ _ _).trans f1⟩
 have NB:=hid (show Below h w (w.setCell ⟨h,0,none⟩ (.string (⟨#[dig n]⟩ ++ s))).drew from (fun b => ⟨b.os,b.tape,b.output,b.size,b.block⟩ : Below h w (w.setCell ⟨h,0,none⟩ (.string (⟨#[dig n]⟩ ++ s)))→_) ((Below.refl h w).setCell (p:=⟨h,0,none⟩) (Nat.le_refl _) _))
 generalize (w.setCell ⟨h,0,none⟩ (.string (⟨#[dig n]⟩ ++ s))).drew=W1 at ND NB ⊢
 clear c0 c1 f0 f1 lt hz
 have HD:=hid ND
 obtain ⟨lt,c0,c1,f0,f1⟩:=ND
 go_wp2
 refine bodyPost_end (results_none rfl _ _ _) rfl ?_
 have ed : Value.int IntKind.u64 ((n : Int) / 10)=.int .u64 ((n / 10 : Nat) : Int):=by congr 1
 rw [ed]
 refine ⟨rfl,⟨by simpa [World.setCell] using lt,(World.cell?_setCell_other _ _ _ _ (by simp)).trans c0,World.cell?_setCell_same' _ _ _ (by rw [c1]; rfl),(World.frozen?_setCell _ _ _ _).trans f0,(World.frozen?_setCell _ _ _ _).trans f1⟩,?_⟩
 exact NB.out.setCell (p:=⟨h,1,none⟩) (Nat.le_refl _) _
theorem a2w (a : Int) (w : World) : Calls Tryz.prog 108 #[.int .i64 a] w fun e w' => e=.returned (.string ⟨(aS a).toArray⟩)∧Below w.heap.size w w':=by
 have E:=hid (a4S a)
 obtain ⟨b1,b2⟩:=zB a
 have eg:=enters_of Tryz.func132 (by kernel_rfl) rfl
 go_enter Tryz.func108,Tryz.ntmps108
 go_wp2_with fail
 refine Calls.mono (a08 a _) ?_
 rintro e w' ⟨rfl,rfl⟩
 generalize hc : aU a=c at b1 b2 E ⊢
 generalize hx : c.natAbs=x at E ⊢
 have hxb : x≤1000000000000000:=by omega
 go_wp2_with fail
 have D0 : Dg w.heap.size ⟨#[]⟩ x (w.alloc (.cells #[.string ⟨#[]⟩,.int .u64 x] 145)):=by
  refine ⟨?_,?_,?_,?_,?_⟩ <;> simp
 have HB:=hid (c6 w (.cells #[.string ⟨#[]⟩,.int .u64 x] 145))
 have HD:=hid D0
 clear D0
 generalize (w.alloc (.cells #[.string ⟨#[]⟩,.int .u64 x] 145))=W1 at HB HD ⊢
 go_loopw [19] (fun i wr => ∃ (k : Nat) (s : ByteArray) (n : Nat),i=.int .i64 k∧k≤6∧s.size≤6∧s.size=k∧n≤1000000000000000∧Hid (n=x / 10 ^ k∧aC (6 - k) n s.data.toList=aC 6 x [])∧Hid (Dg w.heap.size s n wr)∧Hid (Below w.heap.size w wr)) (fun i _ => (6 - (intOf i).toNat))
 case atStart => exact ⟨0,⟨#[]⟩,x,rfl,by omega,by decide,rfl,hxb,⟨by simp,rfl⟩,HD,HB⟩
 case round =>
  obtain ⟨k,s,n,rfl,hk,hs6,hsk,hn,HI,DR,BR⟩:=hrel
  by_cases hlt : k<6
  ·go_wp2_with fail
   refine Calls.mono (mC w.heap.size s n hn (by omega) _ DR) ?_
   rintro e w' ⟨rfl,hd,hb⟩
   have D2:=hid hd
   have B2:=hid (BR.out.trans hb)
   clear hd hb
   go_wp2_with fail
   go_roundw
   case rel =>
    refine ⟨k + 1,⟨#[dig n]⟩ ++ s,n / 10,by go_num,by omega,by rw [ByteArray.size_append]; show 1 + s.size≤6; omega,by rw [ByteArray.size_append]; show 1 + s.size=k + 1; omega,by omega,⟨?_,?_⟩,D2,B2⟩
    ·rw [HI.out.1,Nat.div_div_eq_div_mul,Nat.pow_succ]
    ·rw [← HI.out.2,show 6 - k=(6 - (k + 1)) + 1 by omega,aC]
     simp
   case measure => simp [intOf]; omega
  ·obtain rfl : k=6:=by omega
   have HX:=hid (show s.data.toList=aC 6 x [] from HI.out.2)
   have HN:=hid (show n=x / 1000000 from HI.out.1)
   clear HI
   obtain ⟨lt,c0,c1,f0,f1⟩:=DR.out
   go_wp2_with fail
   refine Calls.mono (Tryz.strings_TrimRight_one s 48 (by decide) _ (by omega)) ?_
   rintro e w' ⟨rfl,rfl⟩
   obtain ⟨T,hTe,hTl,hTs⟩ : ∃ T : ByteArray,T=⟨(Lib.trimRightB s.data.toList 48).toArray⟩∧Hid (T.data.toList=cG (aC 6 x []))∧T.size≤6:=by
    have e1 : Lib.trimRightB s.data.toList 48=cG (aC 6 x []):=by rw [HX.out]; rfl
    refine ⟨_,rfl,e1,?_⟩
    show (Lib.trimRightB s.data.toList 48).toArray.size≤6
    rw [e1,List.size_toArray]
    have:=tD (aC 6 x [])
    rw [dD] at this
    exact this
   rw [show (⟨(Lib.trimRightB s.data.toList (48 : UInt8)).toArray⟩ : ByteArray)=T from hTe.symm]
   clear hTe
   have ND : Hid (Dg w.heap.size ⟨#[]⟩ n (w'.setCell ⟨w.heap.size,0,none⟩ (.string ⟨#[]⟩))) :=
    ⟨by simpa [World.setCell] using lt,World.cell?_setCell_same' _ _ _ (by rw [c0]; rfl),(World.cell?_setCell_other _ _ _ _ (by simp)).trans c1,(World.frozen?_setCell _ _ _ _).trans f0,(World.frozen?_setCell _ _ _ _).trans f1⟩
   have NB:=hid (BR.out.setCell (p:=⟨w.heap.size,0,none⟩) (Nat.le_refl _) (.string ⟨#[]⟩))
   clear DR BR HX hs6 hsk hlt hk
   go_wp2_with fail
   generalize (w'.setCell ⟨w.heap.size,0,none⟩ (.string ⟨#[]⟩))=W2 at ND NB ⊢
   clear c0 c1 f0 f1 lt
   go_loopw [32] (fun _ wr => ∃ (k : Nat) (s : ByteArray) (f : Nat),k≤n∧k<10 ^ f∧s.size + f≤18∧Hid ((s=⟨#[]⟩∧k=n∧f=17)∨(0<s.size∧dM 20 k s.data.toList=gO n))∧Hid (Dg w.heap.size s k wr)∧Hid (Below w.heap.size w wr)) (fun _ wr => 20 - a7e ((wr.cell? ⟨w.heap.size,0,none⟩).getD undef))
   case atStart => exact ⟨n,⟨#[]⟩,17,Nat.le_refl _,by omega,by decide,.inl ⟨rfl,rfl,rfl⟩,ND,NB⟩
   case round =>
    obtain ⟨k,s,f,hkn,hk,hsf,HI,DR,BR⟩:=hrel
    obtain ⟨lt,c0,c1,f0,f1⟩:=DR.out
    by_cases he : s=⟨#[]⟩
    ·have HE : Hid (k=n∧f=17):=by
      rcases HI.out with h | h
      ·exact h.2
      ·rw [he] at h; exact absurd h.1 (by decide)
     subst he
     clear HI
     go_wp2_with fail
     refine Calls.mono (mC w.heap.size ⟨#[]⟩ k (by omega) (by decide) _ DR) ?_
     rintro e w3 ⟨rfl,hd,hb⟩
     have D2:=hid hd
     have B2:=hid (BR.out.trans hb)
     clear hd hb
     go_wp2_with fail
     go_roundw
     case rel =>
      obtain ⟨rfl,rfl⟩:=HE.out
      exact ⟨k / 10,⟨#[dig k]⟩ ++ ⟨#[]⟩,16,by omega,by omega,by rw [ByteArray.size_append]; show 1 + 0 + 16≤18; decide,.inr ⟨by rw [ByteArray.size_append]; show 0<1 + 0; decide,rfl⟩,D2,B2⟩
     case measure =>
      rw [D2.out.c0,c0]
      show 20 - (⟨#[dig k]⟩ ++ ⟨#[]⟩ : ByteArray).size<20 - 0
      rw [ByteArray.size_append]
      show 20 - (1 + 0)<20 - 0
      decide
    ·have h0 : 0<s.size:=by
      rcases Nat.eq_zero_or_pos s.size with h | h
      ·exact absurd (by cases s with | mk d => simp only [ByteArray.mk.injEq]; exact Array.eq_empty_of_size_eq_zero h) he
      ·exact h
     have HD : Hid (dM 20 k s.data.toList=gO n):=by
      rcases HI.out with h | h
      ·exact absurd h.1 he
      ·exact h.2
     have e1 : ¬ s.toList=[]:=fun e => by
      rw [Lib.toList_data] at e; have:=d6 s; rw [e] at this; simp at this; omega
     have e2 : s.toList.isEmpty=false:=by simpa using e1
     clear he HI
     by_cases hz : k=0
     ·subst hz
      have E3 : Hid (s.data.toList=gO (x / 1000000)):=by
       show _=_
       have:=HD.out
       rw [a2v] at this
       rw [this,HN.out]
      have tn:=a5j x
      have hsl : s.size≤18:=by omega
      clear hk hsf HD
      by_cases ht : T.toList=[]
      ·have EE : Hid (aS a=(if c<0 then [45] else []) ++ s.data.toList):=by
        show _=_
        rw [E.out,E3.out]
        unfold U9
        have : cG (aC 6 x [])=[]:=by rw [← hTl.out,← Lib.toList_data,ht]
        simp only [if_pos this,List.append_nil]
       have ht2 : T.toList.isEmpty=true:=by rw [ht]; rfl
       clear tn
       by_cases hcn : c<0
       ·have ER:=hid (jX (s:=(⟨#[45]⟩ : ByteArray) ++ s) (show aS a=_ by rw [EE.out,if_pos hcn]; simp))
        go_wp2_with fail
        go_ret
        exact ⟨by rw [ER.out]; rfl,BR⟩
       ·have ER:=hid (jX (s:=s) (show aS a=_ by rw [EE.out,if_neg hcn]; rfl))
        go_wp2_with fail
        go_ret
        exact ⟨by rw [ER.out]; rfl,BR⟩
      ·have EE : Hid (aS a=(if c<0 then [45] else []) ++ (s.data.toList ++ 46 :: T.data.toList)):=by
        show _=_
        rw [E.out,E3.out,hTl.out]
        unfold U9
        have : ¬ cG (aC 6 x [])=[]:=by rw [← hTl.out,← Lib.toList_data]; exact ht
        simp only [if_neg this]
       have ht2 : T.toList.isEmpty=false:=by simpa using ht
       clear tn
       by_cases hcn : c<0
       ·have ER:=hid (jX (s:=(⟨#[45]⟩ : ByteArray) ++ (s ++ (⟨#[46]⟩ ++ T))) (show aS a=_ by rw [EE.out,if_pos hcn]; simp))
        go_wp2_with fail
        go_ret
        exact ⟨by rw [ER.out]; rfl,BR⟩
       ·have ER:=hid (jX (s:=s ++ (⟨#[46]⟩ ++ T)) (show aS a=_ by rw [EE.out,if_neg hcn]; simp))
        go_wp2_with fail
        go_ret
        exact ⟨by rw [ER.out]; rfl,BR⟩
     ·cases f with
      | zero => omega
      | succ f =>
      have hk' : k / 10<10 ^ f:=by rw [Nat.pow_succ] at hk; omega
      have hz2 : k<10 ^ 20:=by omega
      clear hk
      go_wp2_with fail
      refine Calls.mono (mC w.heap.size s k (by omega) (by omega) _ DR) ?_
      rintro e w3 ⟨rfl,hd,hb⟩
      have D2:=hid hd
      have B2:=hid (BR.out.trans hb)
      clear hd hb
      go_wp2_with fail
      go_roundw
      case rel =>
       refine ⟨k / 10,⟨#[dig k]⟩ ++ s,f,by omega,hk',by rw [ByteArray.size_append]; show 1 + s.size + f≤18; omega,.inr ⟨by rw [ByteArray.size_append]; show 0<1 + s.size; omega,?_⟩,D2,B2⟩
       rw [← HD.out,a2d k _ hz hz2]
       simp
      case measure =>
       rw [D2.out.c0,c0]
       show 20 - (⟨#[dig k]⟩ ++ s : ByteArray).size<20 - s.size
       rw [ByteArray.size_append]
       show 20 - (1 + s.size)<20 - s.size
       omega
end
section
open Lib (hid)
open Go.RowKit
theorem tK {a b : ByteArray} (h : a.data.toList=b.data.toList) : a=b:=by
 cases a; cases b; simp only [ByteArray.mk.injEq]; exact Array.toList_inj.1 h
def Tab (w : World) : Prop:=Lib.TabIs Tryz.prog w "internal/strconv.uint64pow10" .u64 Lib.pow10Tab
theorem Tab.below {w w' : World} (h : Tab w) (hb : Below w.heap.size w w') : Tab w':=by
 have hg : Tryz.prog.globalNamed "internal/strconv.uint64pow10"=some 3:=by kernel_rfl
 unfold Tab Lib.TabIs World.var? at *
 rw [hg] at h ⊢
 simp only [Option.bind_some] at h ⊢
 have hlt : 3<w.heap.size:=by
  rcases Nat.lt_or_ge 3 w.heap.size with h' | h'
  ·exact h'
  ·rw [Array.getElem?_eq_none h'] at h; cases h
 rw [hb.block _ hlt]
 exact h
theorem yK (w : World) (k : Nat) (os : Array Obj) : Below w.heap.size w (Sort.grow (w.drewN k) os) :=
 ⟨rfl,rfl,rfl,by rw [Sort.size_grow]; exact Nat.le_add_right _ _,fun i hi => Sort.heap_grow_old (w.drewN k) os hi⟩
theorem xY (n : Int) (w : World) (ht : Hid (Tab w)) (h0 : -9223372036854775808≤n) (h1 : n≤9223372036854775807) :
 Calls Tryz.prog 136 #[.int .i64 n] w fun e w' => e=.returned (.string ⟨(Lib.itoa n).toArray⟩)∧Below w.heap.size w w':=by
 refine (Tryz.strconv_Itoa n h0 h1 w ht).mono ?_
 rintro e w' ⟨rfl,k,os,rfl⟩
 exact ⟨rfl,yK w k os⟩
theorem a2r (n : Int) (w : World) (ht : Hid (Tab w)) (h0 : 0≤n) (h1 : n<100) :
 Calls Tryz.prog 135 #[.int .i64 n] w fun e w' => e=.returned (.string ⟨(Cal.dig2 n.toNat).toArray⟩)∧Below w.heap.size w w':=by
 have hlen:=Cal.itoa3_len h0 h1
 have hcut : (ByteArray.mk (Lib.itoa (100 + n)).toArray).extract 1 3=⟨(Cal.dig2 n.toNat).toArray⟩:=by
  rw [← Cal.itoa3 h0 h1]
  refine tK ?_
  rw [Lib.extract_data]
  rw [List.take_of_length_le (by simp [hlen])]
 have HC:=hid hcut
 clear hcut
 go_enter Tryz.func135,Tryz.ntmps135
 go_wp2_with (go_at_call 136; refine (xY _ _ ht (by omega) (by omega)).mono ?_; rintro e w' ⟨rfl,hb⟩)
 go_ret
 exact ⟨congrArg (fun x => Ending.returned (.string x)) HC,hb⟩
def a4a (y m d : Int) : ByteArray:=⟨(Cal.text y m d).toArray⟩
theorem a6D (y m d k : Int) (w : World) (ht : Tab w) (h : Cal.ok y m d) (hk : Cal.num y m d=k) :
 Calls Tryz.prog 109 #[.int .i64 k] w fun e w' => e=.returned (.tuple #[.string (a4a y m d),.int .i64 0])∧Below w.heap.size w w':=by
 have H:=hid h
 have K:=hid hk
 clear hk
 obtain ⟨h1,h2,h3,h4,h5,h6⟩:=h
 have ml:=Cal.mlen_bd y m
 have HB : Hid (Below w.heap.size w w∧Tab w):=⟨Below.refl _ _,ht⟩
 clear ht
 have hi:=hid (Cal.itoa4 (y:=y) (by omega) (by omega))
 have l4 : (Lib.itoa y).length=4:=by rw [hi.out]; rfl
 have l2 : (Cal.dig2 m.toNat).length=2:=rfl
 have l2' : (Cal.dig2 d.toNat).length=2:=rfl
 have HT : Hid ((ByteArray.mk (Lib.itoa y).toArray ++ ByteArray.mk #[45] ++ ByteArray.mk (Cal.dig2 m.toNat).toArray ++ ByteArray.mk #[45] ++ ByteArray.mk (Cal.dig2 d.toNat).toArray)=a4a y m d):=by
  refine tK ?_
  rw [hi.out]
  simp [a4a,Cal.text,ByteArray.data_append]
 go_enter Tryz.func109,Tryz.ntmps109
 go_wp2_with (first
  | (go_at_call 134; refine (a4U _ _ _ _ _ H K).mono ?_; rintro e w' ⟨rfl,hb⟩; replace HB:=hid (And.intro (HB.out.1.trans (hb.mono HB.out.1.size)) (HB.out.2.below hb)); clear hb)
  | (go_at_call 136; refine (xY _ _ (hid HB.out.2) (by omega) (by omega)).mono ?_; rintro e w' ⟨rfl,hb⟩; replace HB:=hid (And.intro (HB.out.1.trans (hb.mono HB.out.1.size)) (HB.out.2.below hb)); clear hb)
  | (go_at_call 135; refine (a2r _ _ (hid HB.out.2) (by omega) (by omega)).mono ?_; rintro e w' ⟨rfl,hb⟩; replace HB:=hid (And.intro (HB.out.1.trans (hb.mono HB.out.1.size)) (HB.out.2.below hb)); clear hb))
 go_ret2
 exact ⟨congrArg (fun x => Ending.returned (.tuple #[.string x,.int .i64 0])) HT,HB.out.1⟩
end
section
open Lib (hid)
open Go.RowKit
theorem a2E (s : ByteArray) (k : Nat) (h : k<s.size) : s.data.toList.take (k + 1)=s.data.toList.take k ++ [s[k]]:=by
 rw [List.take_succ_eq_append_getElem (by simpa using h)]; rfl
theorem xL (s : ByteArray) (k : Nat) (h : k<s.size) (hd : Cal.isDig s[k]=false) : Cal.numL s.data.toList=-1:=by
 unfold Cal.numL
 rw [if_neg]
 intro a
 rw [List.all_eq_true] at a
 have:=a s[k] (by rw [Array.mem_toList_iff]; exact Array.getElem_mem (by simpa using h))
 rw [this] at hd
 cases hd
theorem a0k (s : ByteArray) (w : World) (hs : s.size≤4) :
 Calls Tryz.prog 140 #[.string s] w fun e w' => e=.returned (.int .i64 (Cal.numL s.data.toList))∧w=w':=by
 go_enter Tryz.func140,Tryz.ntmps140
 go_wp2
 go_loop [3,4] (fun n i => ∃ k : Nat,k≤s.size∧i=.int .i64 k∧n=.int .i64 (Cal.val (s.data.toList.take k))∧Hid ((s.data.toList.take k).all Cal.isDig=true)) (fun _ i => s.size - (intOf i).toNat)
 case atStart => exact ⟨0,Nat.zero_le _,rfl,rfl,rfl⟩
 case round =>
  obtain ⟨k,hk,rfl,rfl,ha⟩:=hrel
  have hb:=Cal.val_bd ha
  have hl : (s.data.toList.take k).length≤k:=List.length_take_le _ _
  have hp : (10 : Int) ^ (s.data.toList.take k).length≤10 ^ 4:=by
   generalize (s.data.toList.take k).length=n at *
   have c : n=0∨n=1∨n=2∨n=3∨n=4:=by omega
   rcases c with e | e | e | e | e <;> subst e <;> decide
  have hb' : Cal.val (s.data.toList.take k)<10000:=by omega
  clear hl hp
  by_cases hlt : k<s.size
  ·have HT:=hid (a2E s k hlt)
   by_cases h1 : (s[k].toNat : Int)<48
   ·have e:=hid (show Cal.numL s.data.toList=-1 from xL s k hlt (by unfold Cal.isDig; rw [Bool.and_eq_false_iff,decide_eq_false_iff_not,decide_eq_false_iff_not]; omega))
    go_wp2
    go_ret
    exact ⟨wA e.out.symm,rfl⟩
   by_cases h2 : 57<(s[k].toNat : Int)
   ·have e:=hid (show Cal.numL s.data.toList=-1 from xL s k hlt (by unfold Cal.isDig; rw [Bool.and_eq_false_iff,decide_eq_false_iff_not,decide_eq_false_iff_not]; omega))
    go_wp2
    go_ret
    exact ⟨wA e.out.symm,rfl⟩
   have hd:=hid (show Cal.isDig s[k]=true by unfold Cal.isDig; rw [Bool.and_eq_true,decide_eq_true_iff,decide_eq_true_iff]; omega)
   go_wp2
   go_round
   case rel => exact ⟨k + 1,by omega,by go_num,by rw [HT.out,Cal.val_snoc],hid (by rw [HT.out,List.all_append,ha.out]; simp only [List.all_cons,List.all_nil,hd.out,Bool.and_self])⟩
   case measure => simp [intOf]; omega
  ·have e:=hid (show Cal.numL s.data.toList=Cal.val (s.data.toList.take k) by
    have ha':=ha.out
    rw [List.take_of_length_le (by simp; omega)] at ha' ⊢
    unfold Cal.numL; rw [if_pos ha'])
   go_wp2
   go_ret
   exact ⟨wA e.out.symm,rfl⟩
def ofV (y m d : Int) : Int:=if Cal.ok y m d then Cal.num y m d else 0
def ofE (y m d : Int) : Int:=if Cal.ok y m d then 0 else 30
theorem a6M (y m d : Int) (w : World) :
 Calls Tryz.prog 139 #[.int .i64 y,.int .i64 m,.int .i64 d] w fun e w' => e=.returned (.tuple #[.int .i64 (ofV y m d),.int .i64 (ofE y m d)])∧Below w.heap.size w w':=by
 unfold ofV ofE
 by_cases h : Cal.ok y m d
 ·rw [if_pos h,if_pos h]; exact a69 y m d w h
 ·rw [if_neg h,if_neg h]; exact a6x y m d w h
theorem a1b (s : ByteArray) (w : World) (hs : ¬ s.size=10) :
 Calls Tryz.prog 113 #[.string s] w fun e w' => e=.returned (.tuple #[.int .i64 0,.int .i64 30])∧Below w.heap.size w w':=by
 go_enter Tryz.func113,Tryz.ntmps113
 go_wp2
 go_ret2
 exact ⟨rfl,Below.refl _ _⟩
theorem a0O (s : ByteArray) (w : World) (hs : s.size=10) (h4 : (s[4].toNat : Int)=45) (h7 : (s[7].toNat : Int)=45) :
 Calls Tryz.prog 113 #[.string s] w fun e w' => e=.returned (.tuple #[.int .i64 (ofV (Cal.numL (s.data.toList.take 4)) (Cal.numL ((s.data.toList.drop 5).take 2)) (Cal.numL ((s.data.toList.drop 8).take 2))),.int .i64 (ofE (Cal.numL (s.data.toList.take 4)) (Cal.numL ((s.data.toList.drop 5).take 2)) (Cal.numL ((s.data.toList.drop 8).take 2)))])∧Below w.heap.size w w':=by
 go_enter Tryz.func113,Tryz.ntmps113
 go_wp2
 have e1 : (s.extract 0 4).size=4:=by simp [ByteArray.size_extract]; omega
 have e2 : (s.extract 5 7).size=2:=by simp [ByteArray.size_extract]; omega
 have e3 : (s.extract 8 10).size=2:=by simp [ByteArray.size_extract]; omega
 go_region_with (first | (go_at_call 140; refine (a0k _ _ (by omega)).mono ?_; rintro e w' ⟨rfl,rfl⟩) | (go_at_call 139; refine (a6M _ _ _ _).mono ?_; rintro e w' ⟨rfl,hb⟩))
 go_wp2
 go_ret2
 exact ⟨rfl,(Below.refl _ _).drew.trans hb⟩
theorem a1m (s : ByteArray) (w : World) (hs : s.size=10) (h : ¬ ((s[4].toNat : Int)=45∧(s[7].toNat : Int)=45)) :
 Calls Tryz.prog 113 #[.string s] w fun e w' => e=.returned (.tuple #[.int .i64 0,.int .i64 30])∧Below w.heap.size w w':=by
 by_cases h4 : (s[4].toNat : Int)=45
 ·have h7 : ¬ (s[7].toNat : Int)=45:=fun c => h ⟨h4,c⟩
  clear h
  go_enter Tryz.func113,Tryz.ntmps113
  go_wp2
  go_ret2
  exact ⟨rfl,Below.refl _ _⟩
 ·clear h
  go_enter Tryz.func113,Tryz.ntmps113
  go_wp2
  go_ret2
  exact ⟨rfl,Below.refl _ _⟩
end
end Go.Proofs.YtibiccacafjjfaaGreatDoor
