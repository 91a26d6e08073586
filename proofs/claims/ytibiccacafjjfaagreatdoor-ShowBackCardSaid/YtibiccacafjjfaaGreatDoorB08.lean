/-
  Laws that the proof rests on.
-/
import Derived.Test.YtibiccacafjjfaaGreatDoorB07
import Derived.Test.YtibiccacafjjfaaGreatDoorB06
import Derived.Test.YtibiccacafjjfaaGreatDoorB05
import Derived.Test.YtibiccacafjjfaaGreatDoorB03
import Derived.Test.YtibiccacafjjfaaGreatDoorB02
import Derived.Deep.DrawnRows
import Derived.Test.YtibiccacafjjfaaGreatDoorB04
import Derived.Test.YtibiccacafjjfaaGreatDoorB01
import Derived.WalkSmall
import Derived.Deep.RegionWith
namespace Go.Proofs.YtibiccacafjjfaaGreatDoor
set_option maxRecDepth 100000
set_option maxHeartbeats 16000000
inductive Scan : List UInt8→Int→List Tk→Prop
 | fin (p : Int) : Scan [] p [⟨0,[],0,p⟩]
 | blank {c : UInt8} {r : List UInt8} {p : Int} {l : List Tk} (h : c.toNat≤32) (hl : Scan r (p + 1) l) : Scan (c :: r) p l
 | rem {r : List UInt8} {p : Int} {l : List Tk} (hl : Scan (r.drop (gJ r)) (p + 1 + gJ r) l) : Scan (35 :: r) p l
 | tok {c : UInt8} {r : List UInt8} {p : Int} {t : Tk} {n : Nat} {l : List Tk} (h : ¬ c.toNat≤32) (h' : c≠35) (ht : aY c r p=.ok (t,n)) (hl : Scan ((c :: r).drop n) (p + n) l) : Scan (c :: r) p (t :: l)
theorem a6q (N : Nat) : ∀ (u : List UInt8),u.length≤N→∀ (p : Int) (k : Nat) (l : List Tk),s6 u p k 0=.ok l→Scan u p l∧k + l.length≤8193∨8192<k:=by
 induction N with
 | zero =>
   intro u hu p k l h
   cases u with
   | nil =>
     by_cases hk : 8192<k
     ·exact .inr hk
     ·cases h
      exact .inl ⟨.fin p,by simp; omega⟩
   | cons c r => simp at hu
 | succ N ih =>
   intro u hu p k l h
   cases u with
   | nil =>
     by_cases hk : 8192<k
     ·exact .inr hk
     ·cases h
      exact .inl ⟨.fin p,by simp; omega⟩
   | cons c r =>
     rw [List.length_cons] at hu
     by_cases h32 : c.toNat≤32
     ·rw [gB h32] at h
      rcases ih r (by omega) _ _ _ h with ⟨h1,h2⟩ | h1
      ·exact .inl ⟨.blank h32 h1,h2⟩
      ·exact .inr h1
     by_cases h35 : c=35
     ·rw [pZ h35] at h
      subst h35
      rcases ih _ (by rw [List.length_drop]; omega) _ _ _ h with ⟨h1,h2⟩ | h1
      ·exact .inl ⟨.rem h1,h2⟩
      ·exact .inr h1
     cases hx : aY c r p with
     | error e => rw [kF h32 h35 hx] at h; cases h
     | ok q =>
       obtain ⟨t,n⟩:=q
       have hn:=nS hx
       by_cases hk : k=8192
       ·rw [iE h32 h35 hx hk] at h; cases h
       rw [kP h32 h35 hx hk] at h
       cases hs : s6 ((c :: r).drop n) (p + n) (k + 1) 0 with
       | error e => rw [hs] at h; cases h
       | ok l' =>
         rw [hs] at h
         obtain rfl : [t] ++ l'=l:=Except.ok.inj h
         rcases ih _ (by rw [List.length_drop,List.length_cons]; omega) _ _ _ hs with ⟨h1,h2⟩ | h1
         ·exact .inl ⟨.tok h32 h35 hx h1,by simp; omega⟩
         ·exact .inr (by omega)
theorem a4K {u : List UInt8} {l : List Tk} (h : r6 u=.ok l) : Scan u 0 l∧l.length≤8193∧u.length≤16384:=by
 unfold r6 at h
 split at h
 ·cases h
 ·rename_i g
  rcases a6q _ u (Nat.le_refl _) 0 0 l h with ⟨h1,h2⟩ | h1
  ·exact ⟨h1,by omega,by omega⟩
  ·omega
def H5 (rdr : List Tk→Rd) : Nat→List Nd→List Tk→Rd
 | 0,_,l => .error (76,(hd l).pos)
 | f + 1,acc,l => (rdr l).then fun t r => if isT l0 r=true then H5 rdr f (acc ++ [t]) (b9 r) else d9 m5 r fun r => .ok (mkN 0 [] 0 (acc ++ [t]) 0,r)
theorem sP (nest : Nat) : ∀ (f : Nat) (acc : List Nd) (l : List Tk),acc.length + f=8→rd (.args acc) nest l=H5 (rd .expr nest) f acc l
 | 0,acc,l,h => by
   rw [t7]
   exact if_pos (by omega)
 | f + 1,acc,l,h => by
   rw [t7]
   show (if acc.length=8 then _ else _)=_
   rw [if_neg (by omega),H5]
   congr 1
   funext t r
   split
   ·exact sP nest f (acc ++ [t]) (b9 r) (by rw [List.length_append]; simp; omega)
   ·rfl
def aU (l : List Tk) : Rd:=F0 1 l fun t r => .ok (mkN 4 t.text 0 [] t.pos,r)
def X8 (l : List Tk) : Rd:=if isT o6 l=true then H5 aU 8 [] (b9 l) else .ok (mkN 0 [] 0 [] 0,l)
def wL (l : List Tk) : Rd:=d9 gK l fun r => F0 1 r fun t r => (X8 r).then fun ps r => d9 tEq r fun r => (rd .expr 0 r).then fun x r => d9 t8 r fun r => .ok (mkN 3 t.text 0 (ps.kids ++ [x]) t.pos,r)
def q9 : Nat→List Nd→List Tk→Rd
 | 0,acc,l => if isT aQ l=true then .error (76,(hd l).pos) else .ok (mkN 0 [] 0 acc 0,l)
 | f + 1,acc,l => if isT aQ l=true then F0 1 (b9 l) fun t r => d9 t8 r fun r => q9 f (acc ++ [mkN 2 t.text 0 [] t.pos]) r else .ok (mkN 0 [] 0 acc 0,l)
def S0 : Nat→List Nd→List Tk→Rd
 | 0,acc,l => if isT gK l=true then .error (76,(hd l).pos) else .ok (mkN 0 [] 0 acc 0,l)
 | f + 1,acc,l => if isT gK l=true then (wL l).then fun t r => S0 f (acc ++ [t]) r else .ok (mkN 0 [] 0 acc 0,l)
def vP (l : List Tk) : Rd:=d9 dN l fun r => F0 1 r fun t r => d9 t8 r fun r => (q9 100 [] r).then fun is r => (S0 200 is.kids r).then fun ls r => .ok (mkN 1 t.text 0 ls.kids (hd l).pos,r)
theorem pD (l : List UInt8) : p6 l=true↔10≤l.length∧(∀ j (hj : j<(l.take 10).length),Cal.fits j (l.take 10)[j]=true)∧dgC ((l.drop 10).headD 0)=false:=by
 unfold p6
 rw [Bool.and_eq_true,Bool.and_eq_true,decide_eq_true_eq,decide_eq_true_eq,Bool.not_eq_true']
def dD : List Bool→List UInt8→Bool
 | [],u => !dgC (u.headD 0)
 | _ :: _,[] => false
 | b :: P,c :: u => (if b=true then dgC c else c == 45) && dD P u
def o9 : List Bool:=[true,true,true,true,false,true,true,false,true,true]
theorem a4M (l : List UInt8) : p6 l=dD o9 l:=by
 have hx : ∀ (a b : UInt8) (k : Nat),Cal.fits k a=if k=4∨k=7 then decide ((a.toNat : Int)=45) else dgC a:=fun a b k => by
  unfold Cal.fits
  split
  ·rfl
  ·rw [oL]
 have h45 : ∀ a : UInt8,decide ((a.toNat : Int)=45)=(a == 45):=fun a => by
  have:=jF (p:=fun c => decide ((c.toNat : Int)=45) == (c == 45)) (by decide +kernel) a
  simpa using this
 match l with
 | [] => rfl
 | [_] => simp [p6,dD,o9]
 | [_,_] => simp [p6,dD,o9]
 | [_,_,_] => simp [p6,dD,o9]
 | [_,_,_,_] => simp [p6,dD,o9]
 | [_,_,_,_,_] => simp [p6,dD,o9]
 | [_,_,_,_,_,_] => simp [p6,dD,o9]
 | [_,_,_,_,_,_,_] => simp [p6,dD,o9]
 | [_,_,_,_,_,_,_,_] => simp [p6,dD,o9]
 | [_,_,_,_,_,_,_,_,_] => simp [p6,dD,o9]
 | a0 :: a1 :: a2 :: a3 :: a4 :: a5 :: a6 :: a7 :: a8 :: a9 :: r =>
   rw [Bool.eq_iff_iff,pD]
   have e : (a0 :: a1 :: a2 :: a3 :: a4 :: a5 :: a6 :: a7 :: a8 :: a9 :: r).take 10=[a0,a1,a2,a3,a4,a5,a6,a7,a8,a9]:=rfl
   rw [e]
   simp only [dD,o9,if_true,Bool.false_eq_true,if_false,Bool.and_eq_true,Bool.not_eq_true']
   constructor
   ·rintro ⟨-,h,h'⟩
    have g : ∀ j (hj : j<10),(if j=4∨j=7 then ([a0,a1,a2,a3,a4,a5,a6,a7,a8,a9][j]'hj == 45) else dgC ([a0,a1,a2,a3,a4,a5,a6,a7,a8,a9][j]'hj))=true:=fun j hj => by
     have:=h j hj
     rwa [hx _ 0,h45] at this
    exact ⟨g 0 (by decide),g 1 (by decide),g 2 (by decide),g 3 (by decide),g 4 (by decide),g 5 (by decide),g 6 (by decide),g 7 (by decide),g 8 (by decide),g 9 (by decide),h'⟩
   ·rintro ⟨g0,g1,g2,g3,g4,g5,g6,g7,g8,g9,h'⟩
    refine ⟨by simp,fun j hj => ?_,h'⟩
    rw [hx _ 0,h45]
    match j,hj with
    | 0,_ => exact g0
    | 1,_ => exact g1
    | 2,_ => exact g2
    | 3,_ => exact g3
    | 4,_ => exact g4
    | 5,_ => exact g5
    | 6,_ => exact g6
    | 7,_ => exact g7
    | 8,_ => exact g8
    | 9,_ => exact g9
def kR (l : List UInt8) : Bool:=!l.isEmpty && l.all dgC
def O1 (a : List UInt8) : Bool:=kR a && (!decide (10<a.length) && !(decide (1<a.length) && a.headD 0 == 48))
def fN (point : Bool) (b : List UInt8) : Bool:=!point || (kR b && !decide (6<b.length))
def a6f (a b : List UInt8) : Int:=Cal.val (a ++ b ++ List.replicate (6 - b.length) 48)
def rN (c : List UInt8 × List UInt8 × Bool) : Option Int:=if O1 c.1=true∧fN c.2.2 c.2.1=true then some (a6f c.1 c.2.1) else none
theorem tD {p : UInt8→Bool} {l : List UInt8} (h : l.all p=true) (r : List UInt8) (hr : ∀ c q,r=c :: q→p c=false) : (l ++ r).takeWhile p=l:=by
 induction l with
 | nil =>
   cases r with
   | nil => rfl
   | cons c q => rw [List.nil_append,List.takeWhile_cons,if_neg (by rw [hr c q rfl]; decide)]
 | cons a l ih =>
   rw [List.all_cons,Bool.and_eq_true] at h
   rw [List.cons_append,List.takeWhile_cons,if_pos h.1,ih h.2]
theorem lT {p : UInt8→Bool} : ∀ {l : List UInt8},l.all p=false→∀ r,∃ c q,(l ++ r).drop ((l ++ r).takeWhile p).length=c :: q∧p c=false∧c∈l
 | [],h,_ => by cases h
 | a :: l,h,r => by
   rw [List.all_cons] at h
   cases ha : p a with
   | false => exact ⟨a,l ++ r,by rw [List.cons_append,List.takeWhile_cons,if_neg (by rw [ha]; decide)]; rfl,ha,List.mem_cons_self ..⟩
   | true =>
     rw [ha,Bool.true_and] at h
     obtain ⟨c,q,h1,h2,h3⟩:=lT h r
     exact ⟨c,q,by rw [List.cons_append,List.takeWhile_cons,if_pos ha,List.length_cons,List.drop_succ_cons]; exact h1,h2,List.mem_cons_of_mem _ h3⟩
theorem a5a {l : List UInt8} (h : (Lib.cut l [46]).2.2=true) : l=(Lib.cut l [46]).1 ++ 46 :: (Lib.cut l [46]).2.1:=a1I h
theorem oE : ∀ (l : List UInt8),∀ c∈(Lib.cut l [46]).1,c≠46
 | [],c,h => by
   have : (Lib.cut [] [46]).1=([] : List UInt8):=rfl
   rw [this] at h; cases h
 | a :: l,c,h => by
   have ih:=oE l
   by_cases ha : a=46
   ·subst ha
    have : (Lib.cut (46 :: l) [46]).1=([] : List UInt8):=by
     unfold Lib.cut
     have e : Lib.index (46 :: l) [46]=0:=by rw [Lib.index]; rfl
     rw [e]; rfl
    rw [this] at h; cases h
   ·have hp : [46].isPrefixOf (a :: l)=false:=by
     rw [List.isPrefixOf,beq_eq_false_iff_ne.2 (fun e => ha e.symm),Bool.false_and]
    have e : Lib.index (a :: l) [46]=if Lib.index l [46] == -1 then -1 else Lib.index l [46] + 1:=by
     rw [Lib.index,hp]; rfl
    have hge:=Lib.index_ge l [46]
    have key : (Lib.cut (a :: l) [46]).1=a :: (Lib.cut l [46]).1:=by
     by_cases hn : Lib.index l [46]=-1
     ·have e2 : Lib.index (a :: l) [46]=-1:=by rw [e,hn]; rfl
      unfold Lib.cut
      rw [e2,hn,if_neg (by decide),if_neg (by decide)]
     ·have e2 : Lib.index (a :: l) [46]=Lib.index l [46] + 1:=by rw [e,if_neg (by rw [beq_iff_eq]; exact hn)]
      unfold Lib.cut
      rw [e2,if_pos (by omega),if_pos (by omega)]
      show (a :: l).take _=a :: l.take _
      rw [show (Lib.index l [46] + 1).toNat=(Lib.index l [46]).toNat + 1 by omega,List.take_succ_cons]
    rw [key] at h
    rcases List.mem_cons.1 h with rfl | h
    ·exact ha
    ·exact ih c h
theorem kJ {l : List UInt8} (h : (Lib.cut l [46]).2.2=false) : Lib.cut l [46]=(l,[],false):=by
 unfold Lib.cut at h ⊢
 split
 ·rename_i g; rw [if_pos g] at h; cases h
 ·rfl
theorem a38 (l : List UInt8) : V8 l=rN (Lib.cut l [46]):=by
 have h46 : dgC 46=false:=by decide
 cases hpt : (Lib.cut l [46]).2.2 with
 | false =>
   rw [kJ hpt]
   unfold rN fN
   have e0 : (O1 l=true∧(!false || (kR [] && !decide (6<([] : List UInt8).length)))=true)↔O1 l=true:=by simp
   simp only [e0]
   cases hd : l.all dgC with
   | true =>
     have ew : l.takeWhile dgC=l:=by
      have:=tD hd [] (fun c q h => by cases h)
      rwa [List.append_nil] at this
     unfold V8
     simp only [ew,List.drop_length]
     have ec : (1≤l.length∧l.length≤10∧(l.length=1∨l.headD 0≠48)∧aJ []=true)↔O1 l=true:=by
      unfold O1 kR
      rw [hd]
      cases l with
      | nil => simp
      | cons a l => simp [aJ]; try omega
     simp only [ec]
     rfl
   | false =>
     have hw : ¬ O1 l=true:=by unfold O1 kR; rw [hd]; simp
     rw [if_neg hw]
     obtain ⟨c,q,h1,h2,h3⟩:=lT hd []
     rw [List.append_nil] at h1
     unfold V8
     simp only
     rw [if_neg]
     rintro ⟨-,-,-,h⟩
     rw [h1] at h
     unfold aJ at h
     simp only [Bool.and_eq_true,beq_iff_eq] at h
     have:=oE l c (by rw [kJ hpt]; exact h3)
     exact this h.1
 | true =>
   have hl:=a5a hpt
   have hdots:=oE l
   rcases hcut : Lib.cut l [46] with ⟨a,b,f⟩
   rw [hcut] at hpt hl hdots
   replace hpt : f=true:=hpt
   subst hpt
   replace hl : l=a ++ 46 :: b:=hl
   replace hdots : ∀ c∈a,c≠46:=hdots
   unfold rN
   simp only
   cases hd : a.all dgC with
   | true =>
     have ew : l.takeWhile dgC=a:=by rw [hl]; exact tD hd _ (fun c q h => by cases h; exact h46)
     have er : l.drop a.length=46 :: b:=by rw [hl]; exact List.drop_left
     unfold V8
     simp only [ew,er]
     have ec : (1≤a.length∧a.length≤10∧(a.length=1∨l.headD 0≠48)∧aJ (46 :: b)=true)↔(O1 a=true∧fN true b=true):=by
      unfold O1 fN kR aJ
      rw [hd]
      cases a with
      | nil => simp
      | cons x a =>
        rw [hl]
        cases b with
        | nil => simp
        | cons y b =>
          simp
          constructor
          ·rintro ⟨h1,h2,h3,h4,h5⟩; exact ⟨⟨h1,h2⟩,⟨h4,h5⟩,h3⟩
          ·rintro ⟨⟨h1,h2⟩,⟨h4,h5⟩,h3⟩; exact ⟨h1,h2,h3,h4,h5⟩
     simp only [ec]
     rfl
   | false =>
     have hw : ¬ O1 a=true:=by unfold O1 kR; rw [hd]; simp
     rw [if_neg (fun h => hw h.1)]
     obtain ⟨c,q,h1,h2,h3⟩:=lT hd (46 :: b)
     rw [← hl] at h1
     unfold V8
     simp only
     rw [if_neg]
     rintro ⟨-,-,-,h⟩
     rw [h1] at h
     unfold aJ at h
     simp only [Bool.and_eq_true,beq_iff_eq] at h
     exact hdots c h3 h.1
section
open Lib (hid)
open Go.RowKit Go.Shelf
theorem a0T (a : Int) (w : World) : Calls Tryz.prog 159 #[.int .i64 a] w fun e w' => e=.returned (.int .i64 (aI a))∧w=w':=by
 go_enter Tryz.func159,Tryz.ntmps159
 go_wp2
 go_ret
 exact ⟨nC (by unfold aI; (repeat' split) <;> omega),by first | rfl | trivial⟩
theorem a4W {a : Int} {b : Nat} {c d : Bool} (h : a=b) (h' : c=d) : Ending.returned (.tuple #[.int .u64 a,.bool c])=.returned (.tuple #[.int .u64 b,.bool d]):=by rw [h,h']
theorem a0N (a : Int) (w : World) : Calls Tryz.prog 131 #[.int .i64 a] w fun e w' => e=.returned (.tuple #[.int .u64 ((aI a).natAbs : Nat),.bool (decide (aI a<0))])∧w=w':=by
 obtain ⟨b1,b2⟩:=yT a
 go_enter Tryz.func131,Tryz.ntmps131
 go_wp2_with (go_at_call 159; refine (a0T a _).mono ?_; rintro e w' ⟨rfl,rfl⟩)
 go_wp2
 all_goals go_ret2
 ·exact ⟨a4W (by omega) (decide_eq_true (by omega)).symm,by first | rfl | trivial⟩
 ·exact ⟨a4W (by omega) (decide_eq_false (by omega)).symm,by first | rfl | trivial⟩
structure Dg (h : Nat) (s : ByteArray) (n : Nat) (w : World) : Prop where
 lt : h<w.heap.size
 c0 : w.cell? ⟨h,0,none⟩=some (.string s)
 c1 : w.cell? ⟨h,1,none⟩=some (.int .u64 n)
 f0 : w.frozen? ⟨h,0,none⟩=false
 f1 : w.frozen? ⟨h,1,none⟩=false
theorem a1y (n : Nat) : Utf8.encode (48 + (n : Int) % 10)=⟨#[dig n]⟩:=by
 have h : n % 10<10:=Nat.mod_lt _ (by decide)
 have : ∀ d : Fin 10,Utf8.encode (48 + ((d.val : Nat) : Int))=⟨#[UInt8.ofNat (48 + d.val)]⟩:=by decide +kernel
 have e : (n : Int) % 10=((n % 10 : Nat) : Int):=by omega
 rw [e]
 exact this ⟨n % 10,h⟩
theorem lW (h : Nat) (s : ByteArray) (n : Nat) (hn : n≤1000000000000000) (hs : s.size≤100) (w : World) (D : Dg h s n w) : Calls Tryz.prog 132 #[.pointer (some ⟨h,0,none⟩)] w fun e w' => e=.returned (.tuple #[])∧Dg h (⟨#[dig n]⟩ ++ s) (n / 10) w'∧Below h w w':=by
 obtain ⟨lt,c0,c1,f0,f1⟩:=D
 have mixed : Tryz.prog.follows .mixedOrders=true:=by kernel_rfl
 go_enter Tryz.func132,Tryz.ntmps132
 have hz : (Utf8.encode (48 + (n : Int) % 10)).size=1:=by rw [a1y]; rfl
 go_wp2
 go_region
 rw [a1y]
 have ND : Dg h (⟨#[dig n]⟩ ++ s) n (w.setCell ⟨h,0,none⟩ (.string (⟨#[dig n]⟩ ++ s))).drew :=
  ⟨by simpa [World.setCell] using lt,World.cell?_setCell_same' _ _ _ (by rw [c0]; rfl),(World.cell?_setCell_other _ _ _ _ (by simp)).trans c1,(World.frozen?_setCell _ _ _ _).trans f0,(World.frozen?_setCell _ _ _ _).trans f1⟩
 have NB:=hid (show Below h w (w.setCell ⟨h,0,none⟩ (.string (⟨#[dig n]⟩ ++ s))).drew from (fun b => ⟨b.os,b.tape,b.output,b.size,b.block⟩ : Below h w (w.setCell ⟨h,0,none⟩ (.string (⟨#[dig n]⟩ ++ s)))→_) ((Below.refl h w).setCell (p:=⟨h,0,none⟩) (Nat.le_refl _) _))
 generalize (w.setCell ⟨h,0,none⟩ (.string (⟨#[dig n]⟩ ++ s))).drew=W1 at ND NB ⊢
 clear c0 c1 f0 f1 lt hz
 have HD:=hid ND
 obtain ⟨lt,c0,c1,f0,f1⟩:=ND
 go_wp2
 refine bodyPost_end (results_none rfl _ _ _) rfl ?_
 have ed : Value.int IntKind.u64 ((n : Int) / 10)=.int .u64 ((n / 10 : Nat) : Int):=by congr 1
 rw [ed]
 refine ⟨rfl,⟨by simpa [World.setCell] using lt,(World.cell?_setCell_other _ _ _ _ (by simp)).trans c0,World.cell?_setCell_same' _ _ _ (by rw [c1]; rfl),(World.frozen?_setCell _ _ _ _).trans f0,(World.frozen?_setCell _ _ _ _).trans f1⟩,?_⟩
 exact NB.out.setCell (p:=⟨h,1,none⟩) (Nat.le_refl _) _
theorem a2D (a : Int) (w : World) : Calls Tryz.prog 108 #[.int .i64 a] w fun e w' => e=.returned (.string ⟨(aH a).toArray⟩)∧Below w.heap.size w w':=by
 have E:=hid (a4H a)
 obtain ⟨b1,b2⟩:=yT a
 have eg:=enters_of Tryz.func132 (by kernel_rfl) rfl
 go_enter Tryz.func108,Tryz.ntmps108
 go_wp2_with fail
 refine Calls.mono (a0N a _) ?_
 rintro e w' ⟨rfl,rfl⟩
 generalize hc : aI a=c at b1 b2 E ⊢
 generalize hx : c.natAbs=x at E ⊢
 have hxb : x≤1000000000000000:=by omega
 go_wp2_with fail
 have D0 : Dg w.heap.size ⟨#[]⟩ x (w.alloc (.cells #[.string ⟨#[]⟩,.int .u64 x] 145)):=by
  refine ⟨?_,?_,?_,?_,?_⟩ <;> simp
 have HB:=hid (c6 w (.cells #[.string ⟨#[]⟩,.int .u64 x] 145))
 have HD:=hid D0
 clear D0
 generalize (w.alloc (.cells #[.string ⟨#[]⟩,.int .u64 x] 145))=W1 at HB HD ⊢
 go_loopw [19] (fun i wr => ∃ (k : Nat) (s : ByteArray) (n : Nat),i=.int .i64 k∧k≤6∧s.size≤6∧s.size=k∧n≤1000000000000000∧Hid (n=x / 10 ^ k∧Y9 (6 - k) n s.data.toList=Y9 6 x [])∧Hid (Dg w.heap.size s n wr)∧Hid (Below w.heap.size w wr)) (fun i _ => (6 - (intOf i).toNat))
 case atStart => exact ⟨0,⟨#[]⟩,x,rfl,by omega,by decide,rfl,hxb,⟨by simp,rfl⟩,HD,HB⟩
 case round =>
  obtain ⟨k,s,n,rfl,hk,hs6,hsk,hn,HI,DR,BR⟩:=hrel
  by_cases hlt : k<6
  ·go_wp2_with fail
   refine Calls.mono (lW w.heap.size s n hn (by omega) _ DR) ?_
   rintro e w' ⟨rfl,hd,hb⟩
   have D2:=hid hd
   have B2:=hid (BR.out.trans hb)
   clear hd hb
   go_wp2_with fail
   go_roundw
   case rel =>
    refine ⟨k + 1,⟨#[dig n]⟩ ++ s,n / 10,by go_num,by omega,by rw [ByteArray.size_append]; show 1 + s.size≤6; omega,by rw [ByteArray.size_append]; show 1 + s.size=k + 1; omega,by omega,⟨?_,?_⟩,D2,B2⟩
    ·rw [HI.out.1,Nat.div_div_eq_div_mul,Nat.pow_succ]
    ·rw [← HI.out.2,show 6 - k=(6 - (k + 1)) + 1 by omega,Y9]
     simp
   case measure => simp [intOf]; omega
  ·obtain rfl : k=6:=by omega
   have HX:=hid (show s.data.toList=Y9 6 x [] from HI.out.2)
   have HN:=hid (show n=x / 1000000 from HI.out.1)
   clear HI
   obtain ⟨lt,c0,c1,f0,f1⟩:=DR.out
   go_wp2_with fail
   refine Calls.mono (Tryz.strings_TrimRight_one s 48 (by decide) _ (by omega)) ?_
   rintro e w' ⟨rfl,rfl⟩
   obtain ⟨T,hTe,hTl,hTs⟩ : ∃ T : ByteArray,T=⟨(Lib.trimRightB s.data.toList 48).toArray⟩∧Hid (T.data.toList=bW (Y9 6 x []))∧T.size≤6:=by
    have e1 : Lib.trimRightB s.data.toList 48=bW (Y9 6 x []):=by rw [HX.out]; rfl
    refine ⟨_,rfl,e1,?_⟩
    show (Lib.trimRightB s.data.toList 48).toArray.size≤6
    rw [e1,List.size_toArray]
    have:=sS (Y9 6 x [])
    rw [cQ] at this
    exact this
   rw [show (⟨(Lib.trimRightB s.data.toList (48 : UInt8)).toArray⟩ : ByteArray)=T from hTe.symm]
   clear hTe
   have ND : Hid (Dg w.heap.size ⟨#[]⟩ n (w'.setCell ⟨w.heap.size,0,none⟩ (.string ⟨#[]⟩))) :=
    ⟨by simpa [World.setCell] using lt,World.cell?_setCell_same' _ _ _ (by rw [c0]; rfl),(World.cell?_setCell_other _ _ _ _ (by simp)).trans c1,(World.frozen?_setCell _ _ _ _).trans f0,(World.frozen?_setCell _ _ _ _).trans f1⟩
   have NB:=hid (BR.out.setCell (p:=⟨w.heap.size,0,none⟩) (Nat.le_refl _) (.string ⟨#[]⟩))
   clear DR BR HX hs6 hsk hlt hk
   go_wp2_with fail
   generalize (w'.setCell ⟨w.heap.size,0,none⟩ (.string ⟨#[]⟩))=W2 at ND NB ⊢
   clear c0 c1 f0 f1 lt
   go_loopw [32] (fun _ wr => ∃ (k : Nat) (s : ByteArray) (f : Nat),k≤n∧k<10 ^ f∧s.size + f≤18∧Hid ((s=⟨#[]⟩∧k=n∧f=17)∨(0<s.size∧dH 20 k s.data.toList=fQ n))∧Hid (Dg w.heap.size s k wr)∧Hid (Below w.heap.size w wr)) (fun _ wr => 20 - a6Z ((wr.cell? ⟨w.heap.size,0,none⟩).getD undef))
   case atStart => exact ⟨n,⟨#[]⟩,17,Nat.le_refl _,by omega,by decide,.inl ⟨rfl,rfl,rfl⟩,ND,NB⟩
   case round =>
    obtain ⟨k,s,f,hkn,hk,hsf,HI,DR,BR⟩:=hrel
    obtain ⟨lt,c0,c1,f0,f1⟩:=DR.out
    by_cases he : s=⟨#[]⟩
    ·have HE : Hid (k=n∧f=17):=by
      rcases HI.out with h | h
      ·exact h.2
      ·rw [he] at h; exact absurd h.1 (by decide)
     subst he
     clear HI
     go_wp2_with fail
     refine Calls.mono (lW w.heap.size ⟨#[]⟩ k (by omega) (by decide) _ DR) ?_
     rintro e w3 ⟨rfl,hd,hb⟩
     have D2:=hid hd
     have B2:=hid (BR.out.trans hb)
     clear hd hb
     go_wp2_with fail
     go_roundw
     case rel =>
      obtain ⟨rfl,rfl⟩:=HE.out
      exact ⟨k / 10,⟨#[dig k]⟩ ++ ⟨#[]⟩,16,by omega,by omega,by rw [ByteArray.size_append]; show 1 + 0 + 16≤18; decide,.inr ⟨by rw [ByteArray.size_append]; show 0<1 + 0; decide,rfl⟩,D2,B2⟩
     case measure =>
      rw [D2.out.c0,c0]
      show 20 - (⟨#[dig k]⟩ ++ ⟨#[]⟩ : ByteArray).size<20 - 0
      rw [ByteArray.size_append]
      show 20 - (1 + 0)<20 - 0
      decide
    ·have h0 : 0<s.size:=by
      rcases Nat.eq_zero_or_pos s.size with h | h
      ·exact absurd (by cases s with | mk d => simp only [ByteArray.mk.injEq]; exact Array.eq_empty_of_size_eq_zero h) he
      ·exact h
     have HD : Hid (dH 20 k s.data.toList=fQ n):=by
      rcases HI.out with h | h
      ·exact absurd h.1 he
      ·exact h.2
     have e1 : ¬ s.toList=[]:=fun e => by
      rw [Lib.toList_data] at e; have:=d6 s; rw [e] at this; simp at this; omega
     have e2 : s.toList.isEmpty=false:=by simpa using e1
     clear he HI
     by_cases hz : k=0
     ·subst hz
      have E3 : Hid (s.data.toList=fQ (x / 1000000)):=by
       show _=_
       have:=HD.out
       rw [a3k] at this
       rw [this,HN.out]
      have tn:=a4J x
      have hsl : s.size≤18:=by omega
      clear hk hsf HD
      by_cases ht : T.toList=[]
      ·have EE : Hid (aH a=(if c<0 then [45] else []) ++ s.data.toList):=by
        show _=_
        rw [E.out,E3.out]
        unfold O7
        have : bW (Y9 6 x [])=[]:=by rw [← hTl.out,← Lib.toList_data,ht]
        simp only [if_pos this,List.append_nil]
       have ht2 : T.toList.isEmpty=true:=by rw [ht]; rfl
       clear tn
       by_cases hcn : c<0
       ·have ER:=hid (jO (s:=(⟨#[45]⟩ : ByteArray) ++ s) (show aH a=_ by rw [EE.out,if_pos hcn]; simp))
        go_wp2_with fail
        go_ret
        exact ⟨by rw [ER.out]; rfl,BR⟩
       ·have ER:=hid (jO (s:=s) (show aH a=_ by rw [EE.out,if_neg hcn]; rfl))
        go_wp2_with fail
        go_ret
        exact ⟨by rw [ER.out]; rfl,BR⟩
      ·have EE : Hid (aH a=(if c<0 then [45] else []) ++ (s.data.toList ++ 46 :: T.data.toList)):=by
        show _=_
        rw [E.out,E3.out,hTl.out]
        unfold O7
        have : ¬ bW (Y9 6 x [])=[]:=by rw [← hTl.out,← Lib.toList_data]; exact ht
        simp only [if_neg this]
       have ht2 : T.toList.isEmpty=false:=by simpa using ht
       clear tn
       by_cases hcn : c<0
       ·have ER:=hid (jO (s:=(⟨#[45]⟩ : ByteArray) ++ (s ++ (⟨#[46]⟩ ++ T))) (show aH a=_ by rw [EE.out,if_pos hcn]; simp))
        go_wp2_with fail
        go_ret
        exact ⟨by rw [ER.out]; rfl,BR⟩
       ·have ER:=hid (jO (s:=s ++ (⟨#[46]⟩ ++ T)) (show aH a=_ by rw [EE.out,if_neg hcn]; simp))
        go_wp2_with fail
        go_ret
        exact ⟨by rw [ER.out]; rfl,BR⟩
     ·cases f with
      | zero => omega
      | succ f =>
      have hk' : k / 10<10 ^ f:=by rw [Nat.pow_succ] at hk; omega
      have hz2 : k<10 ^ 20:=by omega
      clear hk
      go_wp2_with fail
      refine Calls.mono (lW w.heap.size s k (by omega) (by omega) _ DR) ?_
      rintro e w3 ⟨rfl,hd,hb⟩
      have D2:=hid hd
      have B2:=hid (BR.out.trans hb)
      clear hd hb
      go_wp2_with fail
      go_roundw
      case rel =>
       refine ⟨k / 10,⟨#[dig k]⟩ ++ s,f,by omega,hk',by rw [ByteArray.size_append]; show 1 + s.size + f≤18; omega,.inr ⟨by rw [ByteArray.size_append]; show 0<1 + s.size; omega,?_⟩,D2,B2⟩
       rw [← HD.out,a2l k _ hz hz2]
       simp
      case measure =>
       rw [D2.out.c0,c0]
       show 20 - (⟨#[dig k]⟩ ++ s : ByteArray).size<20 - s.size
       rw [ByteArray.size_append]
       show 20 - (1 + s.size)<20 - s.size
       omega
end
section
open Lib (hid)
open Go.RowKit
theorem tO {a b : ByteArray} (h : a.data.toList=b.data.toList) : a=b:=by
 cases a; cases b; simp only [ByteArray.mk.injEq]; exact Array.toList_inj.1 h
def Tab (w : World) : Prop:=Lib.TabIs Tryz.prog w "internal/strconv.uint64pow10" .u64 Lib.pow10Tab
theorem Tab.below {w w' : World} (h : Tab w) (hb : Below w.heap.size w w') : Tab w':=by
 have hg : Tryz.prog.globalNamed "internal/strconv.uint64pow10"=some 3:=by kernel_rfl
 unfold Tab Lib.TabIs World.var? at *
 rw [hg] at h ⊢
 simp only [Option.bind_some] at h ⊢
 have hlt : 3<w.heap.size:=by
  rcases Nat.lt_or_ge 3 w.heap.size with h' | h'
  ·exact h'
  ·rw [Array.getElem?_eq_none h'] at h; cases h
 rw [hb.block _ hlt]
 exact h
theorem yV (w : World) (k : Nat) (os : Array Obj) : Below w.heap.size w (Sort.grow (w.drewN k) os) :=
 ⟨rfl,rfl,rfl,by rw [Sort.size_grow]; exact Nat.le_add_right _ _,fun i hi => Sort.heap_grow_old (w.drewN k) os hi⟩
theorem xH (n : Int) (w : World) (ht : Hid (Tab w)) (h0 : -9223372036854775808≤n) (h1 : n≤9223372036854775807) :
 Calls Tryz.prog 136 #[.int .i64 n] w fun e w' => e=.returned (.string ⟨(Lib.itoa n).toArray⟩)∧Below w.heap.size w w':=by
 refine (Tryz.strconv_Itoa n h0 h1 w ht).mono ?_
 rintro e w' ⟨rfl,k,os,rfl⟩
 exact ⟨rfl,yV w k os⟩
theorem a2B (n : Int) (w : World) (ht : Hid (Tab w)) (h0 : 0≤n) (h1 : n<100) :
 Calls Tryz.prog 135 #[.int .i64 n] w fun e w' => e=.returned (.string ⟨(Cal.dig2 n.toNat).toArray⟩)∧Below w.heap.size w w':=by
 have hlen:=Cal.itoa3_len h0 h1
 have hcut : (ByteArray.mk (Lib.itoa (100 + n)).toArray).extract 1 3=⟨(Cal.dig2 n.toNat).toArray⟩:=by
  rw [← Cal.itoa3 h0 h1]
  refine tO ?_
  rw [Lib.extract_data]
  rw [List.take_of_length_le (by simp [hlen])]
 have HC:=hid hcut
 clear hcut
 go_enter Tryz.func135,Tryz.ntmps135
 go_wp2_with (go_at_call 136; refine (xH _ _ ht (by omega) (by omega)).mono ?_; rintro e w' ⟨rfl,hb⟩)
 go_ret
 exact ⟨congrArg (fun x => Ending.returned (.string x)) HC,hb⟩
def a3I (y m d : Int) : ByteArray:=⟨(Cal.text y m d).toArray⟩
theorem a5H (y m d k : Int) (w : World) (ht : Tab w) (h : Cal.ok y m d) (hk : Cal.num y m d=k) :
 Calls Tryz.prog 109 #[.int .i64 k] w fun e w' => e=.returned (.tuple #[.string (a3I y m d),.int .i64 0])∧Below w.heap.size w w':=by
 have H:=hid h
 have K:=hid hk
 clear hk
 obtain ⟨h1,h2,h3,h4,h5,h6⟩:=h
 have ml:=Cal.mlen_bd y m
 have HB : Hid (Below w.heap.size w w∧Tab w):=⟨Below.refl _ _,ht⟩
 clear ht
 have hi:=hid (Cal.itoa4 (y:=y) (by omega) (by omega))
 have l4 : (Lib.itoa y).length=4:=by rw [hi.out]; rfl
 have l2 : (Cal.dig2 m.toNat).length=2:=rfl
 have l2' : (Cal.dig2 d.toNat).length=2:=rfl
 have HT : Hid ((ByteArray.mk (Lib.itoa y).toArray ++ ByteArray.mk #[45] ++ ByteArray.mk (Cal.dig2 m.toNat).toArray ++ ByteArray.mk #[45] ++ ByteArray.mk (Cal.dig2 d.toNat).toArray)=a3I y m d):=by
  refine tO ?_
  rw [hi.out]
  simp [a3I,Cal.text,ByteArray.data_append]
 go_enter Tryz.func109,Tryz.ntmps109
 go_wp2_with (first
  | (go_at_call 134; refine (a3B _ _ _ _ _ H K).mono ?_; rintro e w' ⟨rfl,hb⟩; replace HB:=hid (And.intro (HB.out.1.trans (hb.mono HB.out.1.size)) (HB.out.2.below hb)); clear hb)
  | (go_at_call 136; refine (xH _ _ (hid HB.out.2) (by omega) (by omega)).mono ?_; rintro e w' ⟨rfl,hb⟩; replace HB:=hid (And.intro (HB.out.1.trans (hb.mono HB.out.1.size)) (HB.out.2.below hb)); clear hb)
  | (go_at_call 135; refine (a2B _ _ (hid HB.out.2) (by omega) (by omega)).mono ?_; rintro e w' ⟨rfl,hb⟩; replace HB:=hid (And.intro (HB.out.1.trans (hb.mono HB.out.1.size)) (HB.out.2.below hb)); clear hb))
 go_ret2
 exact ⟨congrArg (fun x => Ending.returned (.tuple #[.string x,.int .i64 0])) HT,HB.out.1⟩
end
section
open Lib (hid)
open Go.RowKit
theorem a2I (s : ByteArray) (k : Nat) (h : k<s.size) : s.data.toList.take (k + 1)=s.data.toList.take k ++ [s[k]]:=by
 rw [List.take_succ_eq_append_getElem (by simpa using h)]; rfl
theorem xM (s : ByteArray) (k : Nat) (h : k<s.size) (hd : Cal.isDig s[k]=false) : Cal.numL s.data.toList=-1:=by
 unfold Cal.numL
 rw [if_neg]
 intro a
 rw [List.all_eq_true] at a
 have:=a s[k] (by rw [Array.mem_toList_iff]; exact Array.getElem_mem (by simpa using h))
 rw [this] at hd
 cases hd
theorem a0y (s : ByteArray) (w : World) (hs : s.size≤4) :
 Calls Tryz.prog 140 #[.string s] w fun e w' => e=.returned (.int .i64 (Cal.numL s.data.toList))∧w=w':=by
 go_enter Tryz.func140,Tryz.ntmps140
 go_wp2
 go_loop [3,4] (fun n i => ∃ k : Nat,k≤s.size∧i=.int .i64 k∧n=.int .i64 (Cal.val (s.data.toList.take k))∧Hid ((s.data.toList.take k).all Cal.isDig=true)) (fun _ i => s.size - (intOf i).toNat)
 case atStart => exact ⟨0,Nat.zero_le _,rfl,rfl,rfl⟩
 case round =>
  obtain ⟨k,hk,rfl,rfl,ha⟩:=hrel
  have hb:=Cal.val_bd ha
  have hl : (s.data.toList.take k).length≤k:=List.length_take_le _ _
  have hp : (10 : Int) ^ (s.data.toList.take k).length≤10 ^ 4:=by
   generalize (s.data.toList.take k).length=n at *
   have c : n=0∨n=1∨n=2∨n=3∨n=4:=by omega
   rcases c with e | e | e | e | e <;> subst e <;> decide
  have hb' : Cal.val (s.data.toList.take k)<10000:=by omega
  clear hl hp
  by_cases hlt : k<s.size
  ·have HT:=hid (a2I s k hlt)
   by_cases h1 : (s[k].toNat : Int)<48
   ·have e:=hid (show Cal.numL s.data.toList=-1 from xM s k hlt (by unfold Cal.isDig; rw [Bool.and_eq_false_iff,decide_eq_false_iff_not,decide_eq_false_iff_not]; omega))
    go_wp2
    go_ret
    exact ⟨vT e.out.symm,rfl⟩
   by_cases h2 : 57<(s[k].toNat : Int)
   ·have e:=hid (show Cal.numL s.data.toList=-1 from xM s k hlt (by unfold Cal.isDig; rw [Bool.and_eq_false_iff,decide_eq_false_iff_not,decide_eq_false_iff_not]; omega))
    go_wp2
    go_ret
    exact ⟨vT e.out.symm,rfl⟩
   have hd:=hid (show Cal.isDig s[k]=true by unfold Cal.isDig; rw [Bool.and_eq_true,decide_eq_true_iff,decide_eq_true_iff]; omega)
   go_wp2
   go_round
   case rel => exact ⟨k + 1,by omega,by go_num,by rw [HT.out,Cal.val_snoc],hid (by rw [HT.out,List.all_append,ha.out]; simp only [List.all_cons,List.all_nil,hd.out,Bool.and_self])⟩
   case measure => simp [intOf]; omega
  ·have e:=hid (show Cal.numL s.data.toList=Cal.val (s.data.toList.take k) by
    have ha':=ha.out
    rw [List.take_of_length_le (by simp; omega)] at ha' ⊢
    unfold Cal.numL; rw [if_pos ha'])
   go_wp2
   go_ret
   exact ⟨vT e.out.symm,rfl⟩
def ofV (y m d : Int) : Int:=if Cal.ok y m d then Cal.num y m d else 0
def ofE (y m d : Int) : Int:=if Cal.ok y m d then 0 else 30
theorem a5L (y m d : Int) (w : World) :
 Calls Tryz.prog 139 #[.int .i64 y,.int .i64 m,.int .i64 d] w fun e w' => e=.returned (.tuple #[.int .i64 (ofV y m d),.int .i64 (ofE y m d)])∧Below w.heap.size w w':=by
 unfold ofV ofE
 by_cases h : Cal.ok y m d
 ·rw [if_pos h,if_pos h]; exact a63 y m d w h
 ·rw [if_neg h,if_neg h]; exact a5W y m d w h
theorem a02 (s : ByteArray) (w : World) (hs : ¬ s.size=10) :
 Calls Tryz.prog 113 #[.string s] w fun e w' => e=.returned (.tuple #[.int .i64 0,.int .i64 30])∧Below w.heap.size w w':=by
 go_enter Tryz.func113,Tryz.ntmps113
 go_wp2
 go_ret2
 exact ⟨rfl,Below.refl _ _⟩
theorem zW (s : ByteArray) (w : World) (hs : s.size=10) (h4 : (s[4].toNat : Int)=45) (h7 : (s[7].toNat : Int)=45) :
 Calls Tryz.prog 113 #[.string s] w fun e w' => e=.returned (.tuple #[.int .i64 (ofV (Cal.numL (s.data.toList.take 4)) (Cal.numL ((s.data.toList.drop 5).take 2)) (Cal.numL ((s.data.toList.drop 8).take 2))),.int .i64 (ofE (Cal.numL (s.data.toList.take 4)) (Cal.numL ((s.data.toList.drop 5).take 2)) (Cal.numL ((s.data.toList.drop 8).take 2)))])∧Below w.heap.size w w':=by
 go_enter Tryz.func113,Tryz.ntmps113
 go_wp2
 have e1 : (s.extract 0 4).size=4:=by simp [ByteArray.size_extract]; omega
 have e2 : (s.extract 5 7).size=2:=by simp [ByteArray.size_extract]; omega
 have e3 : (s.extract 8 10).size=2:=by simp [ByteArray.size_extract]; omega
 go_region_with (first | (go_at_call 140; refine (a0y _ _ (by omega)).mono ?_; rintro e w' ⟨rfl,rfl⟩) | (go_at_call 139; refine (a5L _ _ _ _).mono ?_; rintro e w' ⟨rfl,hb⟩))
 go_wp2
 go_ret2
 exact ⟨rfl,(Below.refl _ _).drew.trans hb⟩
theorem a0n (s : ByteArray) (w : World) (hs : s.size=10) (h : ¬ ((s[4].toNat : Int)=45∧(s[7].toNat : Int)=45)) :
 Calls Tryz.prog 113 #[.string s] w fun e w' => e=.returned (.tuple #[.int .i64 0,.int .i64 30])∧Below w.heap.size w w':=by
 by_cases h4 : (s[4].toNat : Int)=45
 ·have h7 : ¬ (s[7].toNat : Int)=45:=fun c => h ⟨h4,c⟩
  clear h
  go_enter Tryz.func113,Tryz.ntmps113
  go_wp2
  go_ret2
  exact ⟨rfl,Below.refl _ _⟩
 ·clear h
  go_enter Tryz.func113,Tryz.ntmps113
  go_wp2
  go_ret2
  exact ⟨rfl,Below.refl _ _⟩
end
section
open Lib (hid)
open Go.RowKit
theorem dB {a b : Int} {c d : Bool} (h : a=b) (h' : c=d) : Ending.returned (.tuple #[.int .i64 a,.bool c])=.returned (.tuple #[.int .i64 b,.bool d]):=by rw [h,h']
theorem L9 (n : Int) (w : World) : Calls Tryz.prog 141 #[.int .u8 n] w fun e w' => e=.returned (.bool (dgI n))∧w=w':=by
 go_enter Tryz.func141,Tryz.ntmps141
 go_wp2
 all_goals go_ret
 all_goals exact ⟨R8 (by unfold dgI; rw [Bool.eq_iff_iff]; simp; omega),rfl⟩
theorem kX {s : ByteArray} {k : Nat} (_h : k<s.size) (h' : k<s.data.toList.length) : s.data.toList[k]=s[k]'_h:=rfl
theorem bG (s : ByteArray) (w : World) (hs : s.size≤maxLen) (h0 : 0<s.size) (hd : dgC s[0]=true) :
 Calls Tryz.prog 114 #[.string s] w fun e w' => e=.returned (.tuple #[.int .i64 (sD s.data.toList),.bool (rQ s.data.toList)])∧w=w':=by
 have hm:=hs
 unfold maxLen at hm
 have hdn:=fA hd
 have hz : s.data.toList.headD 0=s[0]:=aD h0
 have h45 : s.data.toList.headD 0≠45:=by
  rw [hz]; rintro e; rw [e] at hd; exact absurd hd (by decide)
 have H45:=hid h45
 have HZ:=hid hz
 have HD:=hid hd
 have HL:=hid (d6 s)
 have e45 : ((s[0].toNat : Int) == 45)=false:=by rw [beq_eq_false_iff_ne]; omega
 clear h45 hz hd hdn
 go_enter Tryz.func114,Tryz.ntmps114
 go_wp2_with fail
 clear e45
 go_loop [5] (fun n => ∃ k : Nat,k≤s.size∧n=.int .i64 k∧Hid (∀ j (hj : j<s.data.toList.length),j<k→dgC s.data.toList[j]=true)) (fun n => s.size - (intOf n).toNat)
 case atStart => exact ⟨0,by omega,rfl,fun j hj h => by omega⟩
 case round =>
  obtain ⟨k,hk,rfl,HAll⟩:=hrel
  by_cases hgo : ∃ hlt : k<s.size,dgC s[k]=true
  ·obtain ⟨hlt,hc⟩:=hgo
   have hi : dgI s[k].toNat=true:=by rw [← bL]; exact hc
   have HC:=hid hc
   clear hc
   go_wp2_with (first | (go_at_call 141; refine (L9 _ _).mono ?_; rintro e w' ⟨rfl,rfl⟩; rw [hi]))
   go_round
   case rel =>
    refine ⟨k + 1,by omega,by go_num,fun j hj h => ?_⟩
    by_cases e : j=k
    ·subst e; exact HC
    ·exact HAll.out j hj (by omega)
   case measure => simp [intOf]; omega
  ·have hnd : ∀ (hlt : k<s.data.toList.length),dgC s.data.toList[k]=false:=fun hlt => by
    rw [Bool.eq_false_iff]; exact fun e => hgo ⟨by rw [← HL.out]; exact hlt,e⟩
   have hdr:=uZ (d:=s.data.toList) (k:=k) (by rw [HL.out]; exact hk) HAll hnd
   have HDR:=hid hdr
   have hk1 : 1≤k:=by
    rcases Nat.eq_zero_or_pos k with e | e
    ·exfalso; subst e; exact hgo ⟨h0,HD⟩
    ·exact e
   have HU:=hid (a56 hdr)
   clear hdr
   have HV0:=hid (show dgC s[0]=true from HD)
   by_cases hlt : k<s.size
   ·have hi0 : dgI s[k].toNat=false:=by rw [← bL]; exact hnd (by rw [HL.out]; exact hlt)
    clear hgo hnd
    by_cases h10 : 10<(k : Int)
    ·have HN:=hid (bI H45 (show V8 s.data.toList=none by rw [HU.out,if_neg]; omega))
     go_wp2_with (first | (go_at_call 141; refine (L9 _ _).mono ?_; rintro e w' ⟨rfl,rfl⟩; rw [hi0]))
     go_ret2
     exact ⟨dB HN.out.1.symm HN.out.2.symm,rfl⟩
    by_cases h1 : 1<(k : Int)∧(s[0].toNat : Int)=48
    ·obtain ⟨h1,h2⟩:=h1
     have e48 : ((s[0].toNat : Int) == 48)=true:=by rw [h2]; rfl
     have HN:=hid (bI H45 (show V8 s.data.toList=none by
      rw [HU.out,if_neg]
      rintro ⟨-,-,h | h,-⟩
      ·omega
      ·rw [HZ.out] at h; exact h (UInt8.toNat_inj.1 (Int.ofNat.inj h2))))
     clear h2
     go_wp2_with (first | (go_at_call 141; refine (L9 _ _).mono ?_; rintro e w' ⟨rfl,rfl⟩; rw [hi0]))
     go_ret2
     exact ⟨dB HN.out.1.symm HN.out.2.symm,rfl⟩
    have hz1 : k=1∨s[0]≠48:=by
     rcases Nat.lt_or_ge 1 k with g | g
     ·refine .inr fun e => h1 ⟨by omega,by rw [e]; rfl⟩
     ·exact .inl (by omega)
    have HZ1:=hid hz1
    have e1 : (¬ 1<(k : Int))∨(1<(k : Int)∧((s[0].toNat : Int) == 48)=false):=by
     rcases Nat.lt_or_ge 1 k with g | g
     ·refine .inr ⟨by omega,?_⟩
      rcases hz1 with e | e
      ·omega
      ·rw [beq_eq_false_iff_ne]; exact fun g => e (UInt8.toNat_inj.1 (Int.ofNat.inj g))
     ·exact .inl (by omega)
    clear hz1 h1
    obtain ⟨P,hP⟩ : ∃ P,s.size=k + 1 + P:=⟨s.size - k - 1,by omega⟩
    have hPe : ((s.size : Int) - k - 1)=P:=by omega
    have HPP:=hid hP
    have HDK:=hid (List.drop_eq_getElem_cons (show k<s.data.toList.length by rw [HL.out]; exact hlt))
    have hpl : (s.data.toList.drop (k + 1)).length=P:=by rw [List.length_drop,HL.out]; omega
    have HPL:=hid hpl
    clear hP hpl
    rcases e1 with e1 | ⟨e1,e1'⟩
    all_goals
     by_cases h46 : (s[k].toNat : Int)=46
     case neg =>
      have e46 : ((s[k].toNat : Int) != 46)=true:=by rw [bne_iff_ne]; exact h46
      have HN:=hid (bI H45 (show V8 s.data.toList=none by
       rw [HU.out,if_neg]
       rintro ⟨-,-,-,h⟩
       rw [HDK.out] at h
       simp only [aJ,Bool.and_eq_true,beq_iff_eq] at h
       exact h46 (by rw [← kX hlt (by rw [HL.out]; exact hlt),h.1]; rfl)))
      clear h46
      go_wp2_with (first | (go_at_call 141; refine (L9 _ _).mono ?_; rintro e w' ⟨rfl,rfl⟩; rw [hi0]))
      go_ret2
      exact ⟨dB HN.out.1.symm HN.out.2.symm,rfl⟩
     have e46 : ((s[k].toNat : Int) != 46)=false:=by rw [h46]; rfl
     have H46:=hid (show s.data.toList[k]'(by rw [HL.out]; exact hlt)=46 from UInt8.toNat_inj.1 (Int.ofNat.inj h46))
     clear h46
     by_cases hp1 : (P : Int)<1
     ·have HN:=hid (bI H45 (show V8 s.data.toList=none by
       rw [HU.out,if_neg]
       rintro ⟨-,-,-,h⟩
       rw [HDK.out] at h
       simp only [aJ,Bool.and_eq_true,decide_eq_true_eq] at h
       have:=HPL.out
       omega))
      go_wp2_with (first | (go_at_call 141; refine (L9 _ _).mono ?_; rintro e w' ⟨rfl,rfl⟩; rw [hi0]))
      go_ret2
      exact ⟨dB HN.out.1.symm HN.out.2.symm,rfl⟩
     by_cases hp6 : 6<(P : Int)
     ·have HN:=hid (bI H45 (show V8 s.data.toList=none by
       rw [HU.out,if_neg]
       rintro ⟨-,-,-,h⟩
       rw [HDK.out] at h
       simp only [aJ,Bool.and_eq_true,decide_eq_true_eq] at h
       have:=HPL.out
       omega))
      go_wp2_with (first | (go_at_call 141; refine (L9 _ _).mono ?_; rintro e w' ⟨rfl,rfl⟩; rw [hi0]))
      go_ret2
      exact ⟨dB HN.out.1.symm HN.out.2.symm,rfl⟩
     go_wp2_with (first | (go_at_call 141; refine (L9 _ _).mono ?_; rintro e w' ⟨rfl,rfl⟩; rw [hi0]))
     have hjP1 : s.size≤k + 1 + P:=Nat.le_of_eq HPP
     have hjP2 : k + 1 + P≤s.size:=Nat.le_of_eq HPP.out.symm
     clear hPe
     have hq6 : (bT s.data.toList k).length=6:=yU (by rw [HL.out]; omega)
     have HQ6:=hid hq6
     have HVE:=hid (show V8 s.data.toList=some (Cal.val (s.data.toList.take k ++ (bT s.data.toList k).take 6))∨V8 s.data.toList=none from by
      rw [HU.out]
      split
      ·refine .inl ?_
       rw [List.take_of_length_le (Nat.le_of_eq hq6),List.append_assoc]; rfl
      ·exact .inr rfl)
     clear hq6
     go_loop [7,8] (fun n i => ∃ j : Nat,j≤k∧i=.int .i64 j∧n=.int .i64 (Cal.val (s.data.toList.take j))) (fun _ i => k - (intOf i).toNat)
     case atStart => exact ⟨0,Nat.zero_le _,rfl,rfl⟩
     case round =>
      obtain ⟨j,hj,rfl,rfl⟩:=hrel
      have hbd:=hY (l:=s.data.toList.take j) (n:=10) (by
       exact Y6 fun i hi h => HAll.out i hi (by omega)) (by rw [List.length_take]; omega)
      simp only [Int.reducePow] at hbd
      obtain ⟨hb1,hb2⟩:=hbd
      by_cases hjk : j<k
      ·have hjs : j<s.size:=by omega
       have hdj:=fA (show dgC s[j]=true from HAll.out j (by rw [HL.out]; omega) hjk)
       have V:=hid (sO (d:=s.data.toList) (i:=j) (by rw [HL.out]; omega))
       obtain ⟨hd1,hd2⟩:=hdj
       go_wp2_with fail
       go_round
       case rel => exact ⟨j + 1,by omega,by go_num,by rw [V.out,kX hjs]⟩
       case measure => simp [intOf]; omega
      ·obtain rfl : j=k:=by omega
       go_wp2_with fail
       clear hb1 hb2
       go_loop [7,9,10,11] (fun n i _ _ => ∃ m : Nat,m≤6∧i=.int .i64 m∧n=.int .i64 (Cal.val (s.data.toList.take j ++ (bT s.data.toList j).take m))∧Hid (∀ i (hi : i<(bT s.data.toList j).length),i<m→dgC (bT s.data.toList j)[i]=true)) (fun _ i _ _ => 6 - (intOf i).toNat)
       case atStart => exact ⟨0,Nat.zero_le _,rfl,by rw [List.take_zero,List.append_nil],fun i hi h => by omega⟩
       case round =>
        obtain ⟨m,hm6,rfl,rfl,HQ⟩:=hrel
        have hbd:=hY (l:=s.data.toList.take j ++ (bT s.data.toList j).take m) (n:=16) (by
         rw [List.all_append,Y6 fun i hi h => HAll.out i hi (by omega),Y6 fun i hi h => HQ.out i hi h]; rfl) (by rw [List.length_append,List.length_take,List.length_take]; omega)
        have hbd':=hbd
        simp only [Int.reducePow] at hbd
        obtain ⟨hb1,hb2⟩:=hbd
        by_cases hm : m<6
        ·have V:=hid (xV (l:=s.data.toList.take j) (q:=bT s.data.toList j) (i:=m) (by rw [HQ6.out]; exact hm))
         have hb3:=(hY (l:=s.data.toList.take j ++ (bT s.data.toList j).take m) (n:=15) (by
          rw [List.all_append,Y6 fun i hi h => HAll.out i hi (by omega),Y6 fun i hi h => HQ.out i hi h]; rfl) (by rw [List.length_append,List.length_take,List.length_take]; omega)).2
         simp only [Int.reducePow] at hb3
         clear hbd'
         by_cases hmp : (m : Int)<P
         ·have hjm : j + 1 + m<s.size:=by omega
          have QA:=hid (a1x (d:=s.data.toList) (k:=j) (i:=m) (by rw [HL.out]; exact hjm) (by rw [HQ6.out]; exact hm))
          cases hdg : dgC s[j + 1 + m]
          ·have hi : dgI s[j + 1 + m].toNat=false:=by rw [← bL]; exact hdg
           have HN:=hid (bI H45 (show V8 s.data.toList=none by
            rw [HU.out,if_neg]
            rintro ⟨-,-,-,h⟩
            rw [List.drop_eq_getElem_cons (show j<s.data.toList.length by rw [HL.out]; omega)] at h
            simp only [aJ,Bool.and_eq_true] at h
            have:=List.all_eq_true.1 h.2.2 s[j + 1 + m] (by
             have h2 : j + 1 + m<s.data.toList.length:=by rw [HL.out]; exact hjm
             exact kE (l:=s.data.toList) (j:=j + 1 + m) h2 (by omega))
            rw [this] at hdg; cases hdg))
           clear hdg
           go_wp2_with (first | (go_at_call 141; refine (L9 _ _).mono ?_; rintro e w' ⟨rfl,rfl⟩; rw [hi]))
           go_ret2
           exact ⟨dB HN.out.1.symm HN.out.2.symm,rfl⟩
          ·have hi : dgI s[j + 1 + m].toNat=true:=by rw [← bL]; exact hdg
           have HDG:=hid hdg
           obtain ⟨hd1,hd2⟩:=fA hdg
           clear hdg
           go_wp2_with (first | (go_at_call 141; refine (L9 _ _).mono ?_; rintro e w' ⟨rfl,rfl⟩; rw [hi]))
           go_round
           case rel =>
            refine ⟨m + 1,by omega,by go_num,by rw [V.out,QA.out,kX hjm]; (try go_num),fun i hi h => ?_⟩
            by_cases e : i=m
            ·subst e; rw [QA.out]; exact HDG
            ·exact HQ.out i hi (by omega)
           case measure => simp [intOf]; omega
         ·have hmz : ¬ (m : Int)<P:=hmp
          have Q0:=hid (a36 (d:=s.data.toList) (k:=j) (i:=m) (by rw [HL.out]; omega) (by rw [HQ6.out]; exact hm))
          go_wp2_with fail
          go_round
          case rel =>
           refine ⟨m + 1,by omega,by go_num,by rw [V.out,Q0.out]; exact congrArg (Value.int .i64) (by have : ((48 : UInt8).toNat : Int)=48:=rfl; omega),fun i hi h => ?_⟩
           by_cases e : i=m
           ·subst e; rw [Q0.out]; decide
           ·exact HQ.out i hi (by omega)
          case measure => simp [intOf]; omega
        ·obtain rfl : m=6:=by omega
         have hok : 1≤j∧j≤10∧(j=1∨s.data.toList.headD 0≠48)∧aJ (s.data.toList.drop j)=true:=⟨hk1,by omega,by rw [HZ.out]; exact HZ1,by
          rw [HDK.out,H46.out]
          have:=HPL.out
          simp only [aJ,Bool.and_eq_true,decide_eq_true_eq,beq_self_eq_true,true_and]
          refine ⟨⟨by omega,by omega⟩,?_⟩
          rw [List.all_eq_true]
          intro c hc
          obtain ⟨i,hi,rfl⟩:=List.getElem_of_mem hc
          rw [List.getElem_drop]
          have hi2 : i<(bT s.data.toList j).length:=by rw [HQ6.out]; omega
          have hi3 : j + 1 + i<s.data.toList.length:=by rw [List.length_drop] at hi; omega
          rw [← a1x hi3 hi2]
          exact HQ.out i hi2 (by omega)⟩
         have HV:=hid (show V8 s.data.toList=some (Cal.val (s.data.toList.take j ++ (bT s.data.toList j).take 6)) by
          rcases HVE.out with e | e
          ·exact e
          ·rw [HU.out,if_pos hok] at e; cases e)
         clear hbd' HQ
         generalize Cal.val (s.data.toList.take j ++ (bT s.data.toList j).take 6)=V at hb1 hb2 HV HVE ⊢
         by_cases hbig : 1000000000000000<V
         ·have HN:=hid (xP H45 HV hbig)
          go_wp2_with fail
          go_ret2
          exact ⟨dB HN.out.1.symm HN.out.2.symm,rfl⟩
         ·have HN:=hid (tB H45 HV hbig)
          go_wp2_with fail
          go_ret2
          exact ⟨dB HN.out.1.symm HN.out.2.symm,rfl⟩
   ·obtain rfl : k=s.size:=by omega
    clear hgo hnd
    by_cases h10 : 10<(s.size : Int)
    ·have HN:=hid (bI H45 (show V8 s.data.toList=none by rw [HU.out,if_neg]; omega))
     go_wp2_with fail
     go_ret2
     exact ⟨dB HN.out.1.symm HN.out.2.symm,rfl⟩
    by_cases h1 : 1<(s.size : Int)∧(s[0].toNat : Int)=48
    ·obtain ⟨h1,h2⟩:=h1
     have e48 : ((s[0].toNat : Int) == 48)=true:=by rw [h2]; rfl
     have HN:=hid (bI H45 (show V8 s.data.toList=none by
      rw [HU.out,if_neg]
      rintro ⟨-,-,h | h,-⟩
      ·omega
      ·rw [HZ.out] at h; exact h (UInt8.toNat_inj.1 (Int.ofNat.inj h2))))
     clear h2
     go_wp2_with fail
     go_ret2
     exact ⟨dB HN.out.1.symm HN.out.2.symm,rfl⟩
    have hz1 : s.size=1∨s[0]≠48:=by
     rcases Nat.lt_or_ge 1 s.size with g | g
     ·refine .inr fun e => h1 ⟨by omega,by rw [e]; rfl⟩
     ·exact .inl (by omega)
    have HZ1:=hid hz1
    have e1 : (¬ 1<(s.size : Int))∨(1<(s.size : Int)∧((s[0].toNat : Int) == 48)=false):=by
     rcases Nat.lt_or_ge 1 s.size with g | g
     ·refine .inr ⟨by omega,?_⟩
      rcases hz1 with e | e
      ·omega
      ·rw [beq_eq_false_iff_ne]; exact fun g => e (UInt8.toNat_inj.1 (Int.ofNat.inj g))
     ·exact .inl (by omega)
    clear hz1 h1
    rcases e1 with e1 | ⟨e1,e1'⟩
    all_goals
     go_wp2_with fail
     have hq6 : (bT s.data.toList s.size).length=6:=yU (by rw [HL.out]; omega)
     have HQ6:=hid hq6
     have HVE:=hid (show V8 s.data.toList=some (Cal.val (s.data.toList.take s.size ++ (bT s.data.toList s.size).take 6))∨V8 s.data.toList=none from by
      rw [HU.out]
      split
      ·refine .inl ?_
       rw [List.take_of_length_le (Nat.le_of_eq hq6),List.append_assoc]; rfl
      ·exact .inr rfl)
     clear hq6
     go_loop [7,8] (fun n i => ∃ j : Nat,j≤s.size∧i=.int .i64 j∧n=.int .i64 (Cal.val (s.data.toList.take j))) (fun _ i => s.size - (intOf i).toNat)
     case atStart => exact ⟨0,Nat.zero_le _,rfl,rfl⟩
     case round =>
      obtain ⟨j,hj,rfl,rfl⟩:=hrel
      have hbd:=hY (l:=s.data.toList.take j) (n:=10) (by
       exact Y6 fun i hi h => HAll.out i hi (by omega)) (by rw [List.length_take]; omega)
      simp only [Int.reducePow] at hbd
      obtain ⟨hb1,hb2⟩:=hbd
      by_cases hjk : j<s.size
      ·have hjs : j<s.size:=by omega
       have hdj:=fA (show dgC s[j]=true from HAll.out j (by rw [HL.out]; omega) hjk)
       have V:=hid (sO (d:=s.data.toList) (i:=j) (by rw [HL.out]; omega))
       obtain ⟨hd1,hd2⟩:=hdj
       go_wp2_with fail
       go_round
       case rel => exact ⟨j + 1,by omega,by go_num,by rw [V.out,kX hjs]⟩
       case measure => simp [intOf]; omega
      ·obtain rfl : j=s.size:=by omega
       go_wp2_with fail
       clear hb1 hb2
       go_loop [7,9,10,11] (fun n i _ _ => ∃ m : Nat,m≤6∧i=.int .i64 m∧n=.int .i64 (Cal.val (s.data.toList.take s.size ++ (bT s.data.toList s.size).take m))∧Hid (∀ i (hi : i<(bT s.data.toList s.size).length),i<m→dgC (bT s.data.toList s.size)[i]=true)) (fun _ i _ _ => 6 - (intOf i).toNat)
       case atStart => exact ⟨0,Nat.zero_le _,rfl,by rw [List.take_zero,List.append_nil],fun i hi h => by omega⟩
       case round =>
        obtain ⟨m,hm6,rfl,rfl,HQ⟩:=hrel
        have hbd:=hY (l:=s.data.toList.take s.size ++ (bT s.data.toList s.size).take m) (n:=16) (by
         rw [List.all_append,Y6 fun i hi h => HAll.out i hi (by omega),Y6 fun i hi h => HQ.out i hi h]; rfl) (by rw [List.length_append,List.length_take,List.length_take]; omega)
        have hbd':=hbd
        simp only [Int.reducePow] at hbd
        obtain ⟨hb1,hb2⟩:=hbd
        by_cases hm : m<6
        ·have V:=hid (xV (l:=s.data.toList.take s.size) (q:=bT s.data.toList s.size) (i:=m) (by rw [HQ6.out]; exact hm))
         have hb3:=(hY (l:=s.data.toList.take s.size ++ (bT s.data.toList s.size).take m) (n:=15) (by
          rw [List.all_append,Y6 fun i hi h => HAll.out i hi (by omega),Y6 fun i hi h => HQ.out i hi h]; rfl) (by rw [List.length_append,List.length_take,List.length_take]; omega)).2
         simp only [Int.reducePow] at hb3
         clear hbd'
         ·skip
          have Q0:=hid (a36 (d:=s.data.toList) (k:=s.size) (i:=m) (by rw [HL.out]; omega) (by rw [HQ6.out]; exact hm))
          go_wp2_with fail
          go_round
          case rel =>
           refine ⟨m + 1,by omega,by go_num,by rw [V.out,Q0.out]; exact congrArg (Value.int .i64) (by have : ((48 : UInt8).toNat : Int)=48:=rfl; omega),fun i hi h => ?_⟩
           by_cases e : i=m
           ·subst e; rw [Q0.out]; decide
           ·exact HQ.out i hi (by omega)
          case measure => simp [intOf]; omega
        ·obtain rfl : m=6:=by omega
         have hok : 1≤s.size∧s.size≤10∧(s.size=1∨s.data.toList.headD 0≠48)∧aJ (s.data.toList.drop s.size)=true:=⟨hk1,by omega,by rw [HZ.out]; exact HZ1,by
          rw [List.drop_of_length_le (by rw [HL.out]; omega)]; rfl⟩
         have HV:=hid (show V8 s.data.toList=some (Cal.val (s.data.toList.take s.size ++ (bT s.data.toList s.size).take 6)) by
          rcases HVE.out with e | e
          ·exact e
          ·rw [HU.out,if_pos hok] at e; cases e)
         clear hbd' HQ
         generalize Cal.val (s.data.toList.take s.size ++ (bT s.data.toList s.size).take 6)=V at hb1 hb2 HV HVE ⊢
         by_cases hbig : 1000000000000000<V
         ·have HN:=hid (xP H45 HV hbig)
          go_wp2_with fail
          go_ret2
          exact ⟨dB HN.out.1.symm HN.out.2.symm,rfl⟩
         ·have HN:=hid (tB H45 HV hbig)
          go_wp2_with fail
          go_ret2
          exact ⟨dB HN.out.1.symm HN.out.2.symm,rfl⟩
end
end Go.Proofs.YtibiccacafjjfaaGreatDoor
