/-
  Laws that the proof rests on.
-/
import Derived.Test.YtibiccacafjjfaaGreatDoorE06
import Derived.Test.YtibiccacafjjfaaGreatDoorE05
import Derived.Test.YtibiccacafjjfaaGreatDoorE04
import Derived.Test.YtibiccacafjjfaaGreatDoorE03
import Derived.Test.YtibiccacafjjfaaGreatDoorE02
import Derived.Deep.DrawnRows
import Derived.Test.YtibiccacafjjfaaGreatDoorE01
import Derived.WalkSmall
import Derived.Deep.RegionWith
namespace Go.Proofs.YtibiccacafjjfaaGreatDoor
set_option maxRecDepth 100000
set_option maxHeartbeats 16000000
def aK (rdr : List Tk→Rd) : Nat→List Nd→List Tk→Rd
 | 0,_,l => .error (76,(hd l).pos)
 | f + 1,acc,l => (rdr l).then fun t r => if isT i8 r=true then aK rdr f (acc ++ [t]) (c6 r) else f7 m5 r fun r => .ok (mkN 0 [] 0 (acc ++ [t]) 0,r)
theorem qK (nest : Nat) : ∀ (f : Nat) (acc : List Nd) (l : List Tk),acc.length + f=8→rd (.args acc) nest l=aK (rd .expr nest) f acc l
 | 0,acc,l,h => by
   rw [r5]
   exact if_pos (by omega)
 | f + 1,acc,l,h => by
   rw [r5]
   show (if acc.length=8 then _ else _)=_
   rw [if_neg (by omega),aK]
   congr 1
   funext t r
   split
   ·exact qK nest f (acc ++ [t]) (c6 r) (by rw [List.length_append]; simp; omega)
   ·rfl
section
open Lib (hid)
open Go.RowKit Go.Shelf
theorem yP (a : Int) (w : World) : Calls Tryz.prog 159 #[.int .i64 a] w fun e w' => e=.returned (.int .i64 (U6 a))∧w=w':=by
 go_enter Tryz.func159,Tryz.ntmps159
 go_wp2
 go_ret
 exact ⟨kR (by unfold U6; (repeat' split) <;> omega),by first | rfl | trivial⟩
theorem a2y {a : Int} {b : Nat} {c d : Bool} (h : a=b) (h' : c=d) : Ending.returned (.tuple #[.int .u64 a,.bool c])=.returned (.tuple #[.int .u64 b,.bool d]):=by rw [h,h']
theorem vN (a : Int) (w : World) : Calls Tryz.prog 131 #[.int .i64 a] w fun e w' => e=.returned (.tuple #[.int .u64 ((U6 a).natAbs : Nat),.bool (decide (U6 a<0))])∧w=w':=by
 obtain ⟨b1,b2⟩:=tB a
 go_enter Tryz.func131,Tryz.ntmps131
 go_wp2_with (go_at_call 159; refine (yP a _).mono ?_; rintro e w' ⟨rfl,rfl⟩)
 go_wp2
 all_goals go_ret2
 ·exact ⟨a2y (by omega) (decide_eq_true (by omega)).symm,by first | rfl | trivial⟩
 ·exact ⟨a2y (by omega) (decide_eq_false (by omega)).symm,by first | rfl | trivial⟩
structure Dg (h : Nat) (s : ByteArray) (n : Nat) (w : World) : Prop where
 lt : h<w.heap.size
 c0 : w.cell? ⟨h,0,none⟩=some (.string s)
 c1 : w.cell? ⟨h,1,none⟩=some (.int .u64 n)
 f0 : w.frozen? ⟨h,0,none⟩=false
 f1 : w.frozen? ⟨h,1,none⟩=false
theorem zC (n : Nat) : Utf8.encode (48 + (n : Int) % 10)=⟨#[dig n]⟩:=by
 have h : n % 10<10:=Nat.mod_lt _ (by decide)
 have : ∀ d : Fin 10,Utf8.encode (48 + ((d.val : Nat) : Int))=⟨#[UInt8.ofNat (48 + d.val)]⟩:=by decide +kernel
 have e : (n : Int) % 10=((n % 10 : Nat) : Int):=by omega
 rw [e]
 exact this ⟨n % 10,h⟩
theorem iY (h : Nat) (s : ByteArray) (n : Nat) (hn : n≤1000000000000000) (hs : s.size≤100) (w : World) (D : Dg h s n w) : Calls Tryz.prog 132 #[.pointer (some ⟨h,0,none⟩)] w fun e w' => e=.returned (.tuple #[])∧Dg h (⟨#[dig n]⟩ ++ s) (n / 10) w'∧Below h w w':=by
 obtain ⟨lt,c0,c1,f0,f1⟩:=D
 have mixed : Tryz.prog.follows .mixedOrders=true:=by kernel_rfl
 go_enter Tryz.func132,Tryz.ntmps132
 have hz : (Utf8.encode (48 + (n : Int) % 10)).size=1:=by rw [zC]; rfl
 go_wp2
 go_region
 rw [zC]
 have ND : Dg h (⟨#[dig n]⟩ ++ s) n (w.setCell ⟨h,0,none⟩ (.string (⟨#[dig n]⟩ ++ s))).drew :=
  ⟨by simpa [World.setCell] using lt,World.cell?_setCell_same' _ _ _ (by rw [c0]; rfl),(World.cell?_setCell_other _ _ _ _ (by simp)).trans c1,(World.frozen?_setCell _ _ _ _).trans f0,(World.frozen?_setCell _ _ _ _).trans f1⟩
 have NB:=hid (show Below h w (w.setCell ⟨h,0,none⟩ (.string (⟨#[dig n]⟩ ++ s))).drew from (fun b => ⟨b.os,b.tape,b.output,b.size,b.block⟩ : Below h w (w.setCell ⟨h,0,none⟩ (.string (⟨#[dig n]⟩ ++ s)))→_) ((Below.refl h w).setCell (p:=⟨h,0,none⟩) (Nat.le_refl _) _))
 generalize (w.setCell ⟨h,0,none⟩ (.string (⟨#[dig n]⟩ ++ s))).drew=W1 at ND NB ⊢
 clear c0 c1 f0 f1 lt hz
 have HD:=hid ND
 obtain ⟨lt,c0,c1,f0,f1⟩:=ND
 go_wp2
 refine bodyPost_end (results_none rfl _ _ _) rfl ?_
 have ed : Value.int IntKind.u64 ((n : Int) / 10)=.int .u64 ((n / 10 : Nat) : Int):=by congr 1
 rw [ed]
 refine ⟨rfl,⟨by simpa [World.setCell] using lt,(World.cell?_setCell_other _ _ _ _ (by simp)).trans c0,World.cell?_setCell_same' _ _ _ (by rw [c1]; rfl),(World.frozen?_setCell _ _ _ _).trans f0,(World.frozen?_setCell _ _ _ _).trans f1⟩,?_⟩
 exact NB.out.setCell (p:=⟨h,1,none⟩) (Nat.le_refl _) _
theorem a1j (a : Int) (w : World) : Calls Tryz.prog 108 #[.int .i64 a] w fun e w' => e=.returned (.string ⟨(U5 a).toArray⟩)∧Below w.heap.size w w':=by
 have E:=hid (a1S a)
 obtain ⟨b1,b2⟩:=tB a
 have eg:=enters_of Tryz.func132 (by kernel_rfl) rfl
 go_enter Tryz.func108,Tryz.ntmps108
 go_wp2_with fail
 refine Calls.mono (vN a _) ?_
 rintro e w' ⟨rfl,rfl⟩
 generalize hc : U6 a=c at b1 b2 E ⊢
 generalize hx : c.natAbs=x at E ⊢
 have hxb : x≤1000000000000000:=by omega
 go_wp2_with fail
 have D0 : Dg w.heap.size ⟨#[]⟩ x (w.alloc (.cells #[.string ⟨#[]⟩,.int .u64 x] 145)):=by
  refine ⟨?_,?_,?_,?_,?_⟩ <;> simp
 have HB:=hid (b9 w (.cells #[.string ⟨#[]⟩,.int .u64 x] 145))
 have HD:=hid D0
 clear D0
 generalize (w.alloc (.cells #[.string ⟨#[]⟩,.int .u64 x] 145))=W1 at HB HD ⊢
 go_loopw [19] (fun i wr => ∃ (k : Nat) (s : ByteArray) (n : Nat),i=.int .i64 k∧k≤6∧s.size≤6∧s.size=k∧n≤1000000000000000∧Hid (n=x / 10 ^ k∧O6 (6 - k) n s.data.toList=O6 6 x [])∧Hid (Dg w.heap.size s n wr)∧Hid (Below w.heap.size w wr)) (fun i _ => (6 - (intOf i).toNat))
 case atStart => exact ⟨0,⟨#[]⟩,x,rfl,by omega,by decide,rfl,hxb,⟨by simp,rfl⟩,HD,HB⟩
 case round =>
  obtain ⟨k,s,n,rfl,hk,hs6,hsk,hn,HI,DR,BR⟩:=hrel
  by_cases hlt : k<6
  ·go_wp2_with fail
   refine Calls.mono (iY w.heap.size s n hn (by omega) _ DR) ?_
   rintro e w' ⟨rfl,hd,hb⟩
   have D2:=hid hd
   have B2:=hid (BR.out.trans hb)
   clear hd hb
   go_wp2_with fail
   go_roundw
   case rel =>
    refine ⟨k + 1,⟨#[dig n]⟩ ++ s,n / 10,by go_num,by omega,by rw [ByteArray.size_append]; show 1 + s.size≤6; omega,by rw [ByteArray.size_append]; show 1 + s.size=k + 1; omega,by omega,⟨?_,?_⟩,D2,B2⟩
    ·rw [HI.out.1,Nat.div_div_eq_div_mul,Nat.pow_succ]
    ·rw [← HI.out.2,show 6 - k=(6 - (k + 1)) + 1 by omega,O6]
     simp
   case measure => simp [intOf]; omega
  ·obtain rfl : k=6:=by omega
   have HX:=hid (show s.data.toList=O6 6 x [] from HI.out.2)
   have HN:=hid (show n=x / 1000000 from HI.out.1)
   clear HI
   obtain ⟨lt,c0,c1,f0,f1⟩:=DR.out
   go_wp2_with fail
   refine Calls.mono (Tryz.strings_TrimRight_one s 48 (by decide) _ (by omega)) ?_
   rintro e w' ⟨rfl,rfl⟩
   obtain ⟨T,hTe,hTl,hTs⟩ : ∃ T : ByteArray,T=⟨(Lib.trimRightB s.data.toList 48).toArray⟩∧Hid (T.data.toList=aL (O6 6 x []))∧T.size≤6:=by
    have e1 : Lib.trimRightB s.data.toList 48=aL (O6 6 x []):=by rw [HX.out]; rfl
    refine ⟨_,rfl,e1,?_⟩
    show (Lib.trimRightB s.data.toList 48).toArray.size≤6
    rw [e1,List.size_toArray]
    have:=qE (O6 6 x [])
    rw [bF] at this
    exact this
   rw [show (⟨(Lib.trimRightB s.data.toList (48 : UInt8)).toArray⟩ : ByteArray)=T from hTe.symm]
   clear hTe
   have ND : Hid (Dg w.heap.size ⟨#[]⟩ n (w'.setCell ⟨w.heap.size,0,none⟩ (.string ⟨#[]⟩))) :=
    ⟨by simpa [World.setCell] using lt,World.cell?_setCell_same' _ _ _ (by rw [c0]; rfl),(World.cell?_setCell_other _ _ _ _ (by simp)).trans c1,(World.frozen?_setCell _ _ _ _).trans f0,(World.frozen?_setCell _ _ _ _).trans f1⟩
   have NB:=hid (BR.out.setCell (p:=⟨w.heap.size,0,none⟩) (Nat.le_refl _) (.string ⟨#[]⟩))
   clear DR BR HX hs6 hsk hlt hk
   go_wp2_with fail
   generalize (w'.setCell ⟨w.heap.size,0,none⟩ (.string ⟨#[]⟩))=W2 at ND NB ⊢
   clear c0 c1 f0 f1 lt
   go_loopw [32] (fun _ wr => ∃ (k : Nat) (s : ByteArray) (f : Nat),k≤n∧k<10 ^ f∧s.size + f≤18∧Hid ((s=⟨#[]⟩∧k=n∧f=17)∨(0<s.size∧bU 20 k s.data.toList=dY n))∧Hid (Dg w.heap.size s k wr)∧Hid (Below w.heap.size w wr)) (fun _ wr => 20 - a5y ((wr.cell? ⟨w.heap.size,0,none⟩).getD undef))
   case atStart => exact ⟨n,⟨#[]⟩,17,Nat.le_refl _,by omega,by decide,.inl ⟨rfl,rfl,rfl⟩,ND,NB⟩
   case round =>
    obtain ⟨k,s,f,hkn,hk,hsf,HI,DR,BR⟩:=hrel
    obtain ⟨lt,c0,c1,f0,f1⟩:=DR.out
    by_cases he : s=⟨#[]⟩
    ·have HE : Hid (k=n∧f=17):=by
      rcases HI.out with h | h
      ·exact h.2
      ·rw [he] at h; exact absurd h.1 (by decide)
     subst he
     clear HI
     go_wp2_with fail
     refine Calls.mono (iY w.heap.size ⟨#[]⟩ k (by omega) (by decide) _ DR) ?_
     rintro e w3 ⟨rfl,hd,hb⟩
     have D2:=hid hd
     have B2:=hid (BR.out.trans hb)
     clear hd hb
     go_wp2_with fail
     go_roundw
     case rel =>
      obtain ⟨rfl,rfl⟩:=HE.out
      exact ⟨k / 10,⟨#[dig k]⟩ ++ ⟨#[]⟩,16,by omega,by omega,by rw [ByteArray.size_append]; show 1 + 0 + 16≤18; decide,.inr ⟨by rw [ByteArray.size_append]; show 0<1 + 0; decide,rfl⟩,D2,B2⟩
     case measure =>
      rw [D2.out.c0,c0]
      show 20 - (⟨#[dig k]⟩ ++ ⟨#[]⟩ : ByteArray).size<20 - 0
      rw [ByteArray.size_append]
      show 20 - (1 + 0)<20 - 0
      decide
    ·have h0 : 0<s.size:=by
      rcases Nat.eq_zero_or_pos s.size with h | h
      ·exact absurd (by cases s with | mk d => simp only [ByteArray.mk.injEq]; exact Array.eq_empty_of_size_eq_zero h) he
      ·exact h
     have HD : Hid (bU 20 k s.data.toList=dY n):=by
      rcases HI.out with h | h
      ·exact absurd h.1 he
      ·exact h.2
     have e1 : ¬ s.toList=[]:=fun e => by
      rw [Lib.toList_data] at e; have:=c9 s; rw [e] at this; simp at this; omega
     have e2 : s.toList.isEmpty=false:=by simpa using e1
     clear he HI
     by_cases hz : k=0
     ·subst hz
      have E3 : Hid (s.data.toList=dY (x / 1000000)):=by
       show _=_
       have:=HD.out
       rw [a0u] at this
       rw [this,HN.out]
      have tn:=a17 x
      have hsl : s.size≤18:=by omega
      clear hk hsf HD
      by_cases ht : T.toList=[]
      ·have EE : Hid (U5 a=(if c<0 then [45] else []) ++ s.data.toList):=by
        show _=_
        rw [E.out,E3.out]
        unfold H6
        have : aL (O6 6 x [])=[]:=by rw [← hTl.out,← Lib.toList_data,ht]
        simp only [if_pos this,List.append_nil]
       have ht2 : T.toList.isEmpty=true:=by rw [ht]; rfl
       clear tn
       by_cases hcn : c<0
       ·have ER:=hid (gO (s:=(⟨#[45]⟩ : ByteArray) ++ s) (show U5 a=_ by rw [EE.out,if_pos hcn]; simp))
        go_wp2_with fail
        go_ret
        exact ⟨by rw [ER.out]; rfl,BR⟩
       ·have ER:=hid (gO (s:=s) (show U5 a=_ by rw [EE.out,if_neg hcn]; rfl))
        go_wp2_with fail
        go_ret
        exact ⟨by rw [ER.out]; rfl,BR⟩
      ·have EE : Hid (U5 a=(if c<0 then [45] else []) ++ (s.data.toList ++ 46 :: T.data.toList)):=by
        show _=_
        rw [E.out,E3.out,hTl.out]
        unfold H6
        have : ¬ aL (O6 6 x [])=[]:=by rw [← hTl.out,← Lib.toList_data]; exact ht
        simp only [if_neg this]
       have ht2 : T.toList.isEmpty=false:=by simpa using ht
       clear tn
       by_cases hcn : c<0
       ·have ER:=hid (gO (s:=(⟨#[45]⟩ : ByteArray) ++ (s ++ (⟨#[46]⟩ ++ T))) (show U5 a=_ by rw [EE.out,if_pos hcn]; simp))
        go_wp2_with fail
        go_ret
        exact ⟨by rw [ER.out]; rfl,BR⟩
       ·have ER:=hid (gO (s:=s ++ (⟨#[46]⟩ ++ T)) (show U5 a=_ by rw [EE.out,if_neg hcn]; simp))
        go_wp2_with fail
        go_ret
        exact ⟨by rw [ER.out]; rfl,BR⟩
     ·cases f with
      | zero => omega
      | succ f =>
      have hk' : k / 10<10 ^ f:=by rw [Nat.pow_succ] at hk; omega
      have hz2 : k<10 ^ 20:=by omega
      clear hk
      go_wp2_with fail
      refine Calls.mono (iY w.heap.size s k (by omega) (by omega) _ DR) ?_
      rintro e w3 ⟨rfl,hd,hb⟩
      have D2:=hid hd
      have B2:=hid (BR.out.trans hb)
      clear hd hb
      go_wp2_with fail
      go_roundw
      case rel =>
       refine ⟨k / 10,⟨#[dig k]⟩ ++ s,f,by omega,hk',by rw [ByteArray.size_append]; show 1 + s.size + f≤18; omega,.inr ⟨by rw [ByteArray.size_append]; show 0<1 + s.size; omega,?_⟩,D2,B2⟩
       rw [← HD.out,a1i k _ hz hz2]
       simp
      case measure =>
       rw [D2.out.c0,c0]
       show 20 - (⟨#[dig k]⟩ ++ s : ByteArray).size<20 - s.size
       rw [ByteArray.size_append]
       show 20 - (1 + s.size)<20 - s.size
       omega
end
section
open Lib (hid)
open Go.RowKit
theorem qC {a b : ByteArray} (h : a.data.toList=b.data.toList) : a=b:=by
 cases a; cases b; simp only [ByteArray.mk.injEq]; exact Array.toList_inj.1 h
def Tab (w : World) : Prop:=Lib.TabIs Tryz.prog w "internal/strconv.uint64pow10" .u64 Lib.pow10Tab
theorem Tab.below {w w' : World} (h : Tab w) (hb : Below w.heap.size w w') : Tab w':=by
 have hg : Tryz.prog.globalNamed "internal/strconv.uint64pow10"=some 3:=by kernel_rfl
 unfold Tab Lib.TabIs World.var? at *
 rw [hg] at h ⊢
 simp only [Option.bind_some] at h ⊢
 have hlt : 3<w.heap.size:=by
  rcases Nat.lt_or_ge 3 w.heap.size with h' | h'
  ·exact h'
  ·rw [Array.getElem?_eq_none h'] at h; cases h
 rw [hb.block _ hlt]
 exact h
theorem uX (w : World) (k : Nat) (os : Array Obj) : Below w.heap.size w (Sort.grow (w.drewN k) os) :=
 ⟨rfl,rfl,rfl,by rw [Sort.size_grow]; exact Nat.le_add_right _ _,fun i hi => Sort.heap_grow_old (w.drewN k) os hi⟩
theorem uU (n : Int) (w : World) (ht : Hid (Tab w)) (h0 : -9223372036854775808≤n) (h1 : n≤9223372036854775807) :
 Calls Tryz.prog 136 #[.int .i64 n] w fun e w' => e=.returned (.string ⟨(Lib.itoa n).toArray⟩)∧Below w.heap.size w w':=by
 refine (Tryz.strconv_Itoa n h0 h1 w ht).mono ?_
 rintro e w' ⟨rfl,k,os,rfl⟩
 exact ⟨rfl,uX w k os⟩
theorem a1K (n : Int) (w : World) (ht : Hid (Tab w)) (h0 : 0≤n) (h1 : n<100) :
 Calls Tryz.prog 135 #[.int .i64 n] w fun e w' => e=.returned (.string ⟨(Cal.dig2 n.toNat).toArray⟩)∧Below w.heap.size w w':=by
 have hlen:=Cal.itoa3_len h0 h1
 have hcut : (ByteArray.mk (Lib.itoa (100 + n)).toArray).extract 1 3=⟨(Cal.dig2 n.toNat).toArray⟩:=by
  rw [← Cal.itoa3 h0 h1]
  refine qC ?_
  rw [Lib.extract_data]
  rw [List.take_of_length_le (by simp [hlen])]
 have HC:=hid hcut
 clear hcut
 go_enter Tryz.func135,Tryz.ntmps135
 go_wp2_with (go_at_call 136; refine (uU _ _ ht (by omega) (by omega)).mono ?_; rintro e w' ⟨rfl,hb⟩)
 go_ret
 exact ⟨congrArg (fun x => Ending.returned (.string x)) HC,hb⟩
def a3F (y m d : Int) : ByteArray:=⟨(Cal.text y m d).toArray⟩
theorem a4p (y m d k : Int) (w : World) (ht : Tab w) (h : Cal.ok y m d) (hk : Cal.num y m d=k) :
 Calls Tryz.prog 109 #[.int .i64 k] w fun e w' => e=.returned (.tuple #[.string (a3F y m d),.int .i64 0])∧Below w.heap.size w w':=by
 have H:=hid h
 have K:=hid hk
 clear hk
 obtain ⟨h1,h2,h3,h4,h5,h6⟩:=h
 have ml:=Cal.mlen_bd y m
 have HB : Hid (Below w.heap.size w w∧Tab w):=⟨Below.refl _ _,ht⟩
 clear ht
 have hi:=hid (Cal.itoa4 (y:=y) (by omega) (by omega))
 have l4 : (Lib.itoa y).length=4:=by rw [hi.out]; rfl
 have l2 : (Cal.dig2 m.toNat).length=2:=rfl
 have l2' : (Cal.dig2 d.toNat).length=2:=rfl
 have HT : Hid ((ByteArray.mk (Lib.itoa y).toArray ++ ByteArray.mk #[45] ++ ByteArray.mk (Cal.dig2 m.toNat).toArray ++ ByteArray.mk #[45] ++ ByteArray.mk (Cal.dig2 d.toNat).toArray)=a3F y m d):=by
  refine qC ?_
  rw [hi.out]
  simp [a3F,Cal.text,ByteArray.data_append]
 go_enter Tryz.func109,Tryz.ntmps109
 go_wp2_with (first
  | (go_at_call 134; refine (a19 _ _ _ _ _ H K).mono ?_; rintro e w' ⟨rfl,hb⟩; replace HB:=hid (And.intro (HB.out.1.trans (hb.mono HB.out.1.size)) (HB.out.2.below hb)); clear hb)
  | (go_at_call 136; refine (uU _ _ (hid HB.out.2) (by omega) (by omega)).mono ?_; rintro e w' ⟨rfl,hb⟩; replace HB:=hid (And.intro (HB.out.1.trans (hb.mono HB.out.1.size)) (HB.out.2.below hb)); clear hb)
  | (go_at_call 135; refine (a1K _ _ (hid HB.out.2) (by omega) (by omega)).mono ?_; rintro e w' ⟨rfl,hb⟩; replace HB:=hid (And.intro (HB.out.1.trans (hb.mono HB.out.1.size)) (HB.out.2.below hb)); clear hb))
 go_ret2
 exact ⟨congrArg (fun x => Ending.returned (.tuple #[.string x,.int .i64 0])) HT,HB.out.1⟩
end
section
open Lib (hid)
open Go.RowKit
theorem a0i (s : ByteArray) (k : Nat) (h : k<s.size) : s.data.toList.take (k + 1)=s.data.toList.take k ++ [s[k]]:=by
 rw [List.take_succ_eq_append_getElem (by simpa using h)]; rfl
theorem uJ (s : ByteArray) (k : Nat) (h : k<s.size) (hd : Cal.isDig s[k]=false) : Cal.numL s.data.toList=-1:=by
 unfold Cal.numL
 rw [if_neg]
 intro a
 rw [List.all_eq_true] at a
 have:=a s[k] (by rw [Array.mem_toList_iff]; exact Array.getElem_mem (by simpa using h))
 rw [this] at hd
 cases hd
theorem xI (s : ByteArray) (w : World) (hs : s.size≤4) :
 Calls Tryz.prog 140 #[.string s] w fun e w' => e=.returned (.int .i64 (Cal.numL s.data.toList))∧w=w':=by
 go_enter Tryz.func140,Tryz.ntmps140
 go_wp2
 go_loop [3,4] (fun n i => ∃ k : Nat,k≤s.size∧i=.int .i64 k∧n=.int .i64 (Cal.val (s.data.toList.take k))∧Hid ((s.data.toList.take k).all Cal.isDig=true)) (fun _ i => s.size - (intOf i).toNat)
 case atStart => exact ⟨0,Nat.zero_le _,rfl,rfl,rfl⟩
 case round =>
  obtain ⟨k,hk,rfl,rfl,ha⟩:=hrel
  have hb:=Cal.val_bd ha
  have hl : (s.data.toList.take k).length≤k:=List.length_take_le _ _
  have hp : (10 : Int) ^ (s.data.toList.take k).length≤10 ^ 4:=by
   generalize (s.data.toList.take k).length=n at *
   have c : n=0∨n=1∨n=2∨n=3∨n=4:=by omega
   rcases c with e | e | e | e | e <;> subst e <;> decide
  have hb' : Cal.val (s.data.toList.take k)<10000:=by omega
  clear hl hp
  by_cases hlt : k<s.size
  ·have HT:=hid (a0i s k hlt)
   by_cases h1 : (s[k].toNat : Int)<48
   ·have e:=hid (show Cal.numL s.data.toList=-1 from uJ s k hlt (by unfold Cal.isDig; rw [Bool.and_eq_false_iff,decide_eq_false_iff_not,decide_eq_false_iff_not]; omega))
    go_wp2
    go_ret
    exact ⟨sA e.out.symm,rfl⟩
   by_cases h2 : 57<(s[k].toNat : Int)
   ·have e:=hid (show Cal.numL s.data.toList=-1 from uJ s k hlt (by unfold Cal.isDig; rw [Bool.and_eq_false_iff,decide_eq_false_iff_not,decide_eq_false_iff_not]; omega))
    go_wp2
    go_ret
    exact ⟨sA e.out.symm,rfl⟩
   have hd:=hid (show Cal.isDig s[k]=true by unfold Cal.isDig; rw [Bool.and_eq_true,decide_eq_true_iff,decide_eq_true_iff]; omega)
   go_wp2
   go_round
   case rel => exact ⟨k + 1,by omega,by go_num,by rw [HT.out,Cal.val_snoc],hid (by rw [HT.out,List.all_append,ha.out]; simp only [List.all_cons,List.all_nil,hd.out,Bool.and_self])⟩
   case measure => simp [intOf]; omega
  ·have e:=hid (show Cal.numL s.data.toList=Cal.val (s.data.toList.take k) by
    have ha':=ha.out
    rw [List.take_of_length_le (by simp; omega)] at ha' ⊢
    unfold Cal.numL; rw [if_pos ha'])
   go_wp2
   go_ret
   exact ⟨sA e.out.symm,rfl⟩
def ofV (y m d : Int) : Int:=if Cal.ok y m d then Cal.num y m d else 0
def ofE (y m d : Int) : Int:=if Cal.ok y m d then 0 else 30
theorem a3Z (y m d : Int) (w : World) :
 Calls Tryz.prog 139 #[.int .i64 y,.int .i64 m,.int .i64 d] w fun e w' => e=.returned (.tuple #[.int .i64 (ofV y m d),.int .i64 (ofE y m d)])∧Below w.heap.size w w':=by
 unfold ofV ofE
 by_cases h : Cal.ok y m d
 ·rw [if_pos h,if_pos h]; exact a5q y m d w h
 ·rw [if_neg h,if_neg h]; exact a4t y m d w h
theorem vO (s : ByteArray) (w : World) (hs : ¬ s.size=10) :
 Calls Tryz.prog 113 #[.string s] w fun e w' => e=.returned (.tuple #[.int .i64 0,.int .i64 30])∧Below w.heap.size w w':=by
 go_enter Tryz.func113,Tryz.ntmps113
 go_wp2
 go_ret2
 exact ⟨rfl,Below.refl _ _⟩
theorem xM (s : ByteArray) (w : World) (hs : s.size=10) (h4 : (s[4].toNat : Int)=45) (h7 : (s[7].toNat : Int)=45) :
 Calls Tryz.prog 113 #[.string s] w fun e w' => e=.returned (.tuple #[.int .i64 (ofV (Cal.numL (s.data.toList.take 4)) (Cal.numL ((s.data.toList.drop 5).take 2)) (Cal.numL ((s.data.toList.drop 8).take 2))),.int .i64 (ofE (Cal.numL (s.data.toList.take 4)) (Cal.numL ((s.data.toList.drop 5).take 2)) (Cal.numL ((s.data.toList.drop 8).take 2)))])∧Below w.heap.size w w':=by
 go_enter Tryz.func113,Tryz.ntmps113
 go_wp2
 have e1 : (s.extract 0 4).size=4:=by simp [ByteArray.size_extract]; omega
 have e2 : (s.extract 5 7).size=2:=by simp [ByteArray.size_extract]; omega
 have e3 : (s.extract 8 10).size=2:=by simp [ByteArray.size_extract]; omega
 go_region_with (first | (go_at_call 140; refine (xI _ _ (by omega)).mono ?_; rintro e w' ⟨rfl,rfl⟩) | (go_at_call 139; refine (a3Z _ _ _ _).mono ?_; rintro e w' ⟨rfl,hb⟩))
 go_wp2
 go_ret2
 exact ⟨rfl,(Below.refl _ _).drew.trans hb⟩
theorem wQ (s : ByteArray) (w : World) (hs : s.size=10) (h : ¬ ((s[4].toNat : Int)=45∧(s[7].toNat : Int)=45)) :
 Calls Tryz.prog 113 #[.string s] w fun e w' => e=.returned (.tuple #[.int .i64 0,.int .i64 30])∧Below w.heap.size w w':=by
 by_cases h4 : (s[4].toNat : Int)=45
 ·have h7 : ¬ (s[7].toNat : Int)=45:=fun c => h ⟨h4,c⟩
  clear h
  go_enter Tryz.func113,Tryz.ntmps113
  go_wp2
  go_ret2
  exact ⟨rfl,Below.refl _ _⟩
 ·clear h
  go_enter Tryz.func113,Tryz.ntmps113
  go_wp2
  go_ret2
  exact ⟨rfl,Below.refl _ _⟩
end
section
open Lib (hid)
open Go.RowKit
theorem bO {a b : Int} {c d : Bool} (h : a=b) (h' : c=d) : Ending.returned (.tuple #[.int .i64 a,.bool c])=.returned (.tuple #[.int .i64 b,.bool d]):=by rw [h,h']
theorem D9 (n : Int) (w : World) : Calls Tryz.prog 141 #[.int .u8 n] w fun e w' => e=.returned (.bool (dgI n))∧w=w':=by
 go_enter Tryz.func141,Tryz.ntmps141
 go_wp2
 all_goals go_ret
 all_goals exact ⟨H5 (by unfold dgI; rw [Bool.eq_iff_iff]; simp; omega),rfl⟩
theorem iO {s : ByteArray} {k : Nat} (_h : k<s.size) (h' : k<s.data.toList.length) : s.data.toList[k]=s[k]'_h:=rfl
theorem X9 (s : ByteArray) (w : World) (hs : s.size≤maxLen) (h0 : 0<s.size) (hd : dgC s[0]=true) :
 Calls Tryz.prog 114 #[.string s] w fun e w' => e=.returned (.tuple #[.int .i64 (oO s.data.toList),.bool (oN s.data.toList)])∧w=w':=by
 have hm:=hs
 unfold maxLen at hm
 have hdn:=dL hd
 have hz : s.data.toList.headD 0=s[0]:=R9 h0
 have h45 : s.data.toList.headD 0≠45:=by
  rw [hz]; rintro e; rw [e] at hd; exact absurd hd (by decide)
 have H45:=hid h45
 have HZ:=hid hz
 have HD:=hid hd
 have HL:=hid (c9 s)
 have e45 : ((s[0].toNat : Int) == 45)=false:=by rw [beq_eq_false_iff_ne]; omega
 clear h45 hz hd hdn
 go_enter Tryz.func114,Tryz.ntmps114
 go_wp2_with fail
 clear e45
 go_loop [5] (fun n => ∃ k : Nat,k≤s.size∧n=.int .i64 k∧Hid (∀ j (hj : j<s.data.toList.length),j<k→dgC s.data.toList[j]=true)) (fun n => s.size - (intOf n).toNat)
 case atStart => exact ⟨0,by omega,rfl,fun j hj h => by omega⟩
 case round =>
  obtain ⟨k,hk,rfl,HAll⟩:=hrel
  by_cases hgo : ∃ hlt : k<s.size,dgC s[k]=true
  ·obtain ⟨hlt,hc⟩:=hgo
   have hi : dgI s[k].toNat=true:=by rw [← Y6]; exact hc
   have HC:=hid hc
   clear hc
   go_wp2_with (first | (go_at_call 141; refine (D9 _ _).mono ?_; rintro e w' ⟨rfl,rfl⟩; rw [hi]))
   go_round
   case rel =>
    refine ⟨k + 1,by omega,by go_num,fun j hj h => ?_⟩
    by_cases e : j=k
    ·subst e; exact HC
    ·exact HAll.out j hj (by omega)
   case measure => simp [intOf]; omega
  ·have hnd : ∀ (hlt : k<s.data.toList.length),dgC s.data.toList[k]=false:=fun hlt => by
    rw [Bool.eq_false_iff]; exact fun e => hgo ⟨by rw [← HL.out]; exact hlt,e⟩
   have hdr:=rM (d:=s.data.toList) (k:=k) (by rw [HL.out]; exact hk) HAll hnd
   have HDR:=hid hdr
   have hk1 : 1≤k:=by
    rcases Nat.eq_zero_or_pos k with e | e
    ·exfalso; subst e; exact hgo ⟨h0,HD⟩
    ·exact e
   have HU:=hid (a4y hdr)
   clear hdr
   have HV0:=hid (show dgC s[0]=true from HD)
   by_cases hlt : k<s.size
   ·have hi0 : dgI s[k].toNat=false:=by rw [← Y6]; exact hnd (by rw [HL.out]; exact hlt)
    clear hgo hnd
    by_cases h10 : 10<(k : Int)
    ·have HN:=hid (Y3 H45 (show J9 s.data.toList=none by rw [HU.out,if_neg]; omega))
     go_wp2_with (first | (go_at_call 141; refine (D9 _ _).mono ?_; rintro e w' ⟨rfl,rfl⟩; rw [hi0]))
     go_ret2
     exact ⟨bO HN.out.1.symm HN.out.2.symm,rfl⟩
    by_cases h1 : 1<(k : Int)∧(s[0].toNat : Int)=48
    ·obtain ⟨h1,h2⟩:=h1
     have e48 : ((s[0].toNat : Int) == 48)=true:=by rw [h2]; rfl
     have HN:=hid (Y3 H45 (show J9 s.data.toList=none by
      rw [HU.out,if_neg]
      rintro ⟨-,-,h | h,-⟩
      ·omega
      ·rw [HZ.out] at h; exact h (UInt8.toNat_inj.1 (Int.ofNat.inj h2))))
     clear h2
     go_wp2_with (first | (go_at_call 141; refine (D9 _ _).mono ?_; rintro e w' ⟨rfl,rfl⟩; rw [hi0]))
     go_ret2
     exact ⟨bO HN.out.1.symm HN.out.2.symm,rfl⟩
    have hz1 : k=1∨s[0]≠48:=by
     rcases Nat.lt_or_ge 1 k with g | g
     ·refine .inr fun e => h1 ⟨by omega,by rw [e]; rfl⟩
     ·exact .inl (by omega)
    have HZ1:=hid hz1
    have e1 : (¬ 1<(k : Int))∨(1<(k : Int)∧((s[0].toNat : Int) == 48)=false):=by
     rcases Nat.lt_or_ge 1 k with g | g
     ·refine .inr ⟨by omega,?_⟩
      rcases hz1 with e | e
      ·omega
      ·rw [beq_eq_false_iff_ne]; exact fun g => e (UInt8.toNat_inj.1 (Int.ofNat.inj g))
     ·exact .inl (by omega)
    clear hz1 h1
    obtain ⟨P,hP⟩ : ∃ P,s.size=k + 1 + P:=⟨s.size - k - 1,by omega⟩
    have hPe : ((s.size : Int) - k - 1)=P:=by omega
    have HPP:=hid hP
    have HDK:=hid (List.drop_eq_getElem_cons (show k<s.data.toList.length by rw [HL.out]; exact hlt))
    have hpl : (s.data.toList.drop (k + 1)).length=P:=by rw [List.length_drop,HL.out]; omega
    have HPL:=hid hpl
    clear hP hpl
    rcases e1 with e1 | ⟨e1,e1'⟩
    all_goals
     by_cases h46 : (s[k].toNat : Int)=46
     case neg =>
      have e46 : ((s[k].toNat : Int) != 46)=true:=by rw [bne_iff_ne]; exact h46
      have HN:=hid (Y3 H45 (show J9 s.data.toList=none by
       rw [HU.out,if_neg]
       rintro ⟨-,-,-,h⟩
       rw [HDK.out] at h
       simp only [U7,Bool.and_eq_true,beq_iff_eq] at h
       exact h46 (by rw [← iO hlt (by rw [HL.out]; exact hlt),h.1]; rfl)))
      clear h46
      go_wp2_with (first | (go_at_call 141; refine (D9 _ _).mono ?_; rintro e w' ⟨rfl,rfl⟩; rw [hi0]))
      go_ret2
      exact ⟨bO HN.out.1.symm HN.out.2.symm,rfl⟩
     have e46 : ((s[k].toNat : Int) != 46)=false:=by rw [h46]; rfl
     have H46:=hid (show s.data.toList[k]'(by rw [HL.out]; exact hlt)=46 from UInt8.toNat_inj.1 (Int.ofNat.inj h46))
     clear h46
     by_cases hp1 : (P : Int)<1
     ·have HN:=hid (Y3 H45 (show J9 s.data.toList=none by
       rw [HU.out,if_neg]
       rintro ⟨-,-,-,h⟩
       rw [HDK.out] at h
       simp only [U7,Bool.and_eq_true,decide_eq_true_eq] at h
       have:=HPL.out
       omega))
      go_wp2_with (first | (go_at_call 141; refine (D9 _ _).mono ?_; rintro e w' ⟨rfl,rfl⟩; rw [hi0]))
      go_ret2
      exact ⟨bO HN.out.1.symm HN.out.2.symm,rfl⟩
     by_cases hp6 : 6<(P : Int)
     ·have HN:=hid (Y3 H45 (show J9 s.data.toList=none by
       rw [HU.out,if_neg]
       rintro ⟨-,-,-,h⟩
       rw [HDK.out] at h
       simp only [U7,Bool.and_eq_true,decide_eq_true_eq] at h
       have:=HPL.out
       omega))
      go_wp2_with (first | (go_at_call 141; refine (D9 _ _).mono ?_; rintro e w' ⟨rfl,rfl⟩; rw [hi0]))
      go_ret2
      exact ⟨bO HN.out.1.symm HN.out.2.symm,rfl⟩
     go_wp2_with (first | (go_at_call 141; refine (D9 _ _).mono ?_; rintro e w' ⟨rfl,rfl⟩; rw [hi0]))
     have hjP1 : s.size≤k + 1 + P:=Nat.le_of_eq HPP
     have hjP2 : k + 1 + P≤s.size:=Nat.le_of_eq HPP.out.symm
     clear hPe
     have hq6 : (aD s.data.toList k).length=6:=uI (by rw [HL.out]; omega)
     have HQ6:=hid hq6
     have HVE:=hid (show J9 s.data.toList=some (Cal.val (s.data.toList.take k ++ (aD s.data.toList k).take 6))∨J9 s.data.toList=none from by
      rw [HU.out]
      split
      ·refine .inl ?_
       rw [List.take_of_length_le (Nat.le_of_eq hq6),List.append_assoc]; rfl
      ·exact .inr rfl)
     clear hq6
     go_loop [7,8] (fun n i => ∃ j : Nat,j≤k∧i=.int .i64 j∧n=.int .i64 (Cal.val (s.data.toList.take j))) (fun _ i => k - (intOf i).toNat)
     case atStart => exact ⟨0,Nat.zero_le _,rfl,rfl⟩
     case round =>
      obtain ⟨j,hj,rfl,rfl⟩:=hrel
      have hbd:=fJ (l:=s.data.toList.take j) (n:=10) (by
       exact V0 fun i hi h => HAll.out i hi (by omega)) (by rw [List.length_take]; omega)
      simp only [Int.reducePow] at hbd
      obtain ⟨hb1,hb2⟩:=hbd
      by_cases hjk : j<k
      ·have hjs : j<s.size:=by omega
       have hdj:=dL (show dgC s[j]=true from HAll.out j (by rw [HL.out]; omega) hjk)
       have V:=hid (pP (d:=s.data.toList) (i:=j) (by rw [HL.out]; omega))
       obtain ⟨hd1,hd2⟩:=hdj
       go_wp2_with fail
       go_round
       case rel => exact ⟨j + 1,by omega,by go_num,by rw [V.out,iO hjs]⟩
       case measure => simp [intOf]; omega
      ·obtain rfl : j=k:=by omega
       go_wp2_with fail
       clear hb1 hb2
       go_loop [7,9,10,11] (fun n i _ _ => ∃ m : Nat,m≤6∧i=.int .i64 m∧n=.int .i64 (Cal.val (s.data.toList.take j ++ (aD s.data.toList j).take m))∧Hid (∀ i (hi : i<(aD s.data.toList j).length),i<m→dgC (aD s.data.toList j)[i]=true)) (fun _ i _ _ => 6 - (intOf i).toNat)
       case atStart => exact ⟨0,Nat.zero_le _,rfl,by rw [List.take_zero,List.append_nil],fun i hi h => by omega⟩
       case round =>
        obtain ⟨m,hm6,rfl,rfl,HQ⟩:=hrel
        have hbd:=fJ (l:=s.data.toList.take j ++ (aD s.data.toList j).take m) (n:=16) (by
         rw [List.all_append,V0 fun i hi h => HAll.out i hi (by omega),V0 fun i hi h => HQ.out i hi h]; rfl) (by rw [List.length_append,List.length_take,List.length_take]; omega)
        have hbd':=hbd
        simp only [Int.reducePow] at hbd
        obtain ⟨hb1,hb2⟩:=hbd
        by_cases hm : m<6
        ·have V:=hid (tO (l:=s.data.toList.take j) (q:=aD s.data.toList j) (i:=m) (by rw [HQ6.out]; exact hm))
         have hb3:=(fJ (l:=s.data.toList.take j ++ (aD s.data.toList j).take m) (n:=15) (by
          rw [List.all_append,V0 fun i hi h => HAll.out i hi (by omega),V0 fun i hi h => HQ.out i hi h]; rfl) (by rw [List.length_append,List.length_take,List.length_take]; omega)).2
         simp only [Int.reducePow] at hb3
         clear hbd'
         by_cases hmp : (m : Int)<P
         ·have hjm : j + 1 + m<s.size:=by omega
          have QA:=hid (zV (d:=s.data.toList) (k:=j) (i:=m) (by rw [HL.out]; exact hjm) (by rw [HQ6.out]; exact hm))
          cases hdg : dgC s[j + 1 + m]
          ·have hi : dgI s[j + 1 + m].toNat=false:=by rw [← Y6]; exact hdg
           have HN:=hid (Y3 H45 (show J9 s.data.toList=none by
            rw [HU.out,if_neg]
            rintro ⟨-,-,-,h⟩
            rw [List.drop_eq_getElem_cons (show j<s.data.toList.length by rw [HL.out]; omega)] at h
            simp only [U7,Bool.and_eq_true] at h
            have:=List.all_eq_true.1 h.2.2 s[j + 1 + m] (by
             have h2 : j + 1 + m<s.data.toList.length:=by rw [HL.out]; exact hjm
             exact tG (l:=s.data.toList) (j:=j + 1 + m) h2 (by omega))
            rw [this] at hdg; cases hdg))
           clear hdg
           go_wp2_with (first | (go_at_call 141; refine (D9 _ _).mono ?_; rintro e w' ⟨rfl,rfl⟩; rw [hi]))
           go_ret2
           exact ⟨bO HN.out.1.symm HN.out.2.symm,rfl⟩
          ·have hi : dgI s[j + 1 + m].toNat=true:=by rw [← Y6]; exact hdg
           have HDG:=hid hdg
           obtain ⟨hd1,hd2⟩:=dL hdg
           clear hdg
           go_wp2_with (first | (go_at_call 141; refine (D9 _ _).mono ?_; rintro e w' ⟨rfl,rfl⟩; rw [hi]))
           go_round
           case rel =>
            refine ⟨m + 1,by omega,by go_num,by rw [V.out,QA.out,iO hjm]; (try go_num),fun i hi h => ?_⟩
            by_cases e : i=m
            ·subst e; rw [QA.out]; exact HDG
            ·exact HQ.out i hi (by omega)
           case measure => simp [intOf]; omega
         ·have hmz : ¬ (m : Int)<P:=hmp
          have Q0:=hid (a18 (d:=s.data.toList) (k:=j) (i:=m) (by rw [HL.out]; omega) (by rw [HQ6.out]; exact hm))
          go_wp2_with fail
          go_round
          case rel =>
           refine ⟨m + 1,by omega,by go_num,by rw [V.out,Q0.out]; exact congrArg (Value.int .i64) (by have : ((48 : UInt8).toNat : Int)=48:=rfl; omega),fun i hi h => ?_⟩
           by_cases e : i=m
           ·subst e; rw [Q0.out]; decide
           ·exact HQ.out i hi (by omega)
          case measure => simp [intOf]; omega
        ·obtain rfl : m=6:=by omega
         have hok : 1≤j∧j≤10∧(j=1∨s.data.toList.headD 0≠48)∧U7 (s.data.toList.drop j)=true:=⟨hk1,by omega,by rw [HZ.out]; exact HZ1,by
          rw [HDK.out,H46.out]
          have:=HPL.out
          simp only [U7,Bool.and_eq_true,decide_eq_true_eq,beq_self_eq_true,true_and]
          refine ⟨⟨by omega,by omega⟩,?_⟩
          rw [List.all_eq_true]
          intro c hc
          obtain ⟨i,hi,rfl⟩:=List.getElem_of_mem hc
          rw [List.getElem_drop]
          have hi2 : i<(aD s.data.toList j).length:=by rw [HQ6.out]; omega
          have hi3 : j + 1 + i<s.data.toList.length:=by rw [List.length_drop] at hi; omega
          rw [← zV hi3 hi2]
          exact HQ.out i hi2 (by omega)⟩
         have HV:=hid (show J9 s.data.toList=some (Cal.val (s.data.toList.take j ++ (aD s.data.toList j).take 6)) by
          rcases HVE.out with e | e
          ·exact e
          ·rw [HU.out,if_pos hok] at e; cases e)
         clear hbd' HQ
         generalize Cal.val (s.data.toList.take j ++ (aD s.data.toList j).take 6)=V at hb1 hb2 HV HVE ⊢
         by_cases hbig : 1000000000000000<V
         ·have HN:=hid (uV H45 HV hbig)
          go_wp2_with fail
          go_ret2
          exact ⟨bO HN.out.1.symm HN.out.2.symm,rfl⟩
         ·have HN:=hid (qG H45 HV hbig)
          go_wp2_with fail
          go_ret2
          exact ⟨bO HN.out.1.symm HN.out.2.symm,rfl⟩
   ·obtain rfl : k=s.size:=by omega
    clear hgo hnd
    by_cases h10 : 10<(s.size : Int)
    ·have HN:=hid (Y3 H45 (show J9 s.data.toList=none by rw [HU.out,if_neg]; omega))
     go_wp2_with fail
     go_ret2
     exact ⟨bO HN.out.1.symm HN.out.2.symm,rfl⟩
    by_cases h1 : 1<(s.size : Int)∧(s[0].toNat : Int)=48
    ·obtain ⟨h1,h2⟩:=h1
     have e48 : ((s[0].toNat : Int) == 48)=true:=by rw [h2]; rfl
     have HN:=hid (Y3 H45 (show J9 s.data.toList=none by
      rw [HU.out,if_neg]
      rintro ⟨-,-,h | h,-⟩
      ·omega
      ·rw [HZ.out] at h; exact h (UInt8.toNat_inj.1 (Int.ofNat.inj h2))))
     clear h2
     go_wp2_with fail
     go_ret2
     exact ⟨bO HN.out.1.symm HN.out.2.symm,rfl⟩
    have hz1 : s.size=1∨s[0]≠48:=by
     rcases Nat.lt_or_ge 1 s.size with g | g
     ·refine .inr fun e => h1 ⟨by omega,by rw [e]; rfl⟩
     ·exact .inl (by omega)
    have HZ1:=hid hz1
    have e1 : (¬ 1<(s.size : Int))∨(1<(s.size : Int)∧((s[0].toNat : Int) == 48)=false):=by
     rcases Nat.lt_or_ge 1 s.size with g | g
     ·refine .inr ⟨by omega,?_⟩
      rcases hz1 with e | e
      ·omega
      ·rw [beq_eq_false_iff_ne]; exact fun g => e (UInt8.toNat_inj.1 (Int.ofNat.inj g))
     ·exact .inl (by omega)
    clear hz1 h1
    rcases e1 with e1 | ⟨e1,e1'⟩
    all_goals
     go_wp2_with fail
     have hq6 : (aD s.data.toList s.size).length=6:=uI (by rw [HL.out]; omega)
     have HQ6:=hid hq6
     have HVE:=hid (show J9 s.data.toList=some (Cal.val (s.data.toList.take s.size ++ (aD s.data.toList s.size).take 6))∨J9 s.data.toList=none from by
      rw [HU.out]
      split
      ·refine .inl ?_
       rw [List.take_of_length_le (Nat.le_of_eq hq6),List.append_assoc]; rfl
      ·exact .inr rfl)
     clear hq6
     go_loop [7,8] (fun n i => ∃ j : Nat,j≤s.size∧i=.int .i64 j∧n=.int .i64 (Cal.val (s.data.toList.take j))) (fun _ i => s.size - (intOf i).toNat)
     case atStart => exact ⟨0,Nat.zero_le _,rfl,rfl⟩
     case round =>
      obtain ⟨j,hj,rfl,rfl⟩:=hrel
      have hbd:=fJ (l:=s.data.toList.take j) (n:=10) (by
       exact V0 fun i hi h => HAll.out i hi (by omega)) (by rw [List.length_take]; omega)
      simp only [Int.reducePow] at hbd
      obtain ⟨hb1,hb2⟩:=hbd
      by_cases hjk : j<s.size
      ·have hjs : j<s.size:=by omega
       have hdj:=dL (show dgC s[j]=true from HAll.out j (by rw [HL.out]; omega) hjk)
       have V:=hid (pP (d:=s.data.toList) (i:=j) (by rw [HL.out]; omega))
       obtain ⟨hd1,hd2⟩:=hdj
       go_wp2_with fail
       go_round
       case rel => exact ⟨j + 1,by omega,by go_num,by rw [V.out,iO hjs]⟩
       case measure => simp [intOf]; omega
      ·obtain rfl : j=s.size:=by omega
       go_wp2_with fail
       clear hb1 hb2
       go_loop [7,9,10,11] (fun n i _ _ => ∃ m : Nat,m≤6∧i=.int .i64 m∧n=.int .i64 (Cal.val (s.data.toList.take s.size ++ (aD s.data.toList s.size).take m))∧Hid (∀ i (hi : i<(aD s.data.toList s.size).length),i<m→dgC (aD s.data.toList s.size)[i]=true)) (fun _ i _ _ => 6 - (intOf i).toNat)
       case atStart => exact ⟨0,Nat.zero_le _,rfl,by rw [List.take_zero,List.append_nil],fun i hi h => by omega⟩
       case round =>
        obtain ⟨m,hm6,rfl,rfl,HQ⟩:=hrel
        have hbd:=fJ (l:=s.data.toList.take s.size ++ (aD s.data.toList s.size).take m) (n:=16) (by
         rw [List.all_append,V0 fun i hi h => HAll.out i hi (by omega),V0 fun i hi h => HQ.out i hi h]; rfl) (by rw [List.length_append,List.length_take,List.length_take]; omega)
        have hbd':=hbd
        simp only [Int.reducePow] at hbd
        obtain ⟨hb1,hb2⟩:=hbd
        by_cases hm : m<6
        ·have V:=hid (tO (l:=s.data.toList.take s.size) (q:=aD s.data.toList s.size) (i:=m) (by rw [HQ6.out]; exact hm))
         have hb3:=(fJ (l:=s.data.toList.take s.size ++ (aD s.data.toList s.size).take m) (n:=15) (by
          rw [List.all_append,V0 fun i hi h => HAll.out i hi (by omega),V0 fun i hi h => HQ.out i hi h]; rfl) (by rw [List.length_append,List.length_take,List.length_take]; omega)).2
         simp only [Int.reducePow] at hb3
         clear hbd'
         ·skip
          have Q0:=hid (a18 (d:=s.data.toList) (k:=s.size) (i:=m) (by rw [HL.out]; omega) (by rw [HQ6.out]; exact hm))
          go_wp2_with fail
          go_round
          case rel =>
           refine ⟨m + 1,by omega,by go_num,by rw [V.out,Q0.out]; exact congrArg (Value.int .i64) (by have : ((48 : UInt8).toNat : Int)=48:=rfl; omega),fun i hi h => ?_⟩
           by_cases e : i=m
           ·subst e; rw [Q0.out]; decide
           ·exact HQ.out i hi (by omega)
          case measure => simp [intOf]; omega
        ·obtain rfl : m=6:=by omega
         have hok : 1≤s.size∧s.size≤10∧(s.size=1∨s.data.toList.headD 0≠48)∧U7 (s.data.toList.drop s.size)=true:=⟨hk1,by omega,by rw [HZ.out]; exact HZ1,by
          rw [List.drop_of_length_le (by rw [HL.out]; omega)]; rfl⟩
         have HV:=hid (show J9 s.data.toList=some (Cal.val (s.data.toList.take s.size ++ (aD s.data.toList s.size).take 6)) by
          rcases HVE.out with e | e
          ·exact e
          ·rw [HU.out,if_pos hok] at e; cases e)
         clear hbd' HQ
         generalize Cal.val (s.data.toList.take s.size ++ (aD s.data.toList s.size).take 6)=V at hb1 hb2 HV HVE ⊢
         by_cases hbig : 1000000000000000<V
         ·have HN:=hid (uV H45 HV hbig)
          go_wp2_with fail
          go_ret2
          exact ⟨bO HN.out.1.symm HN.out.2.symm,rfl⟩
         ·have HN:=hid (qG H45 HV hbig)
          go_wp2_with fail
          go_ret2
          exact ⟨bO HN.out.1.symm HN.out.2.symm,rfl⟩
end
end Go.Proofs.YtibiccacafjjfaaGreatDoor
