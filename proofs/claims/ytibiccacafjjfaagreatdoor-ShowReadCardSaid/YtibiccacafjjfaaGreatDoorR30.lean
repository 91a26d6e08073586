/-
  Laws that the proof rests on.
-/
import Derived.Test.YtibiccacafjjfaaGreatDoorR15
import Derived.Test.YtibiccacafjjfaaGreatDoorR29
import Derived.Deep.DeepHandedRow
import Derived.Lay
import Derived.Test.YtibiccacafjjfaaGreatDoorR07
import Derived.Test.YtibiccacafjjfaaGreatDoorR21
import Derived.Lib.SlBytesConst
import Derived.Test.YtibiccacafjjfaaGreatDoorR27
import Derived.Deep.QuietTactic
import Derived.BigQuiet
namespace Go.Proofs.YtibiccacafjjfaaGreatDoor
set_option maxRecDepth 100000
set_option maxHeartbeats 16000000
section
open Go.ChangeShapes Go.WideShapes Go.ChangeAt Go.RowKit
theorem nU {H : Type} {enc : TypeId × Value→H} {C : Checked} {os : Os} {f : FuncId} {fn : Func} {s : OpenSpec} {conds : List PathCond} {apart : Bool} {laid : List (String × DataW Unit)} (modest : Bool) (w0 : World) (args : Array Value) (hos : w0.os=os)
 (hv : (w0.forCall (fun _ _ => 0) ⟨#[],args,[]⟩).variablesZipB C.prog=true)
 (hr : ((w0.forCall (fun _ _ => 0) ⟨#[],args,[]⟩).heap.toList.drop C.prog.globals.size).take ((begin C.prog (fun _ _ => 0) default).world.heap.size - C.prog.globals.size) =
   (begin C.prog (fun _ _ => 0) default).world.heap.toList.drop C.prog.globals.size)
 (hok : Input.okWideB C.prog (w0.forCall (fun _ _ => 0) ⟨#[],args,[]⟩) f ⟨#[],args,[]⟩=true)
 (hrow : s.preRow enc C.prog fn conds apart laid (w0.forCall (fun _ _ => 0) ⟨#[],args,[]⟩).memory args) :
 ∃ (w : World) (tape : Tape) (i : Input),w.os=os∧(w.forCall tape i).Shaped C.prog∧i.vars=[]∧Input.okWide C.prog (w.forCall tape i) .any w.heap.size f i ∧
  s.preRow enc C.prog fn conds apart laid (w.forCall tape i).memory i.args∧({ modest:=modest } : Assume).holds C.prog (lone (Frame.enter C.prog f i.args .normal) [] (w.forCall tape i)) :=
 ⟨w0,fun _ _ => 0,⟨#[],args,[]⟩,hos,World.shaped_of_ZipB hv hr,(Input.okWide_of_okWideB (base:=0) hok).1,(Input.okWide_of_okWideB hok).2,hrow,by
  simp only [Assume.holds]
  exact ⟨by simp,by simp,fun _ => Modest.zero,by simp,by simp⟩⟩
theorem wF {H : Type} (s : ByteArray) (h : ((DataW.lit (.string s.data.toList) : DataW H).weights Tryz.prog 9).all (· ≤ reachBytes)=true) : s.size≤140737488355328:=by
 rw [DataW.weights,List.all_cons,Bool.and_eq_true,decide_eq_true_eq] at h
 have h1 : s.data.toList.length=s.size:=Array.length_toList
 have h2:=h.1
 unfold reachBytes at h2
 omega
theorem a7b : Tryz.prog.globalNamed "strings.asciiSpace"=some 0:=by kernel_rfl
theorem a0C : (Tryz.prog.globals[0]?).map (·.type)=some 152:=by kernel_rfl
theorem a6S : Tryz.prog.underlying 152=some (.array 256 5):=by kernel_rfl
theorem u8U : Tryz.prog.underlying 5=some (.int .u8):=by kernel_rfl
theorem u8C : Tryz.prog.cellsOf 5=1:=by kernel_rfl
theorem a6u : Tryz.prog.cellsOf 152=256:=by kernel_rfl
end
section
open Go.ChangeShapes Go.WideShapes Go.ChangeAt Go.RowKit
def jQ : List (String × DataW Unit):=[("math/bits.deBruijn32tab",Rows.laid_math_bits_deBruijn32tab),("math/bits.deBruijn64tab",Rows.laid_math_bits_deBruijn64tab),("internal/strconv.uint64pow10",Rows.laid_internal_strconv_uint64pow10),("unicode/utf8.acceptRanges",Rows.laid_unicode_utf8_acceptRanges),("unicode.White_Space",Rows.laid_unicode_White_Space),("strings.asciiSpace",Rows.laid_strings_asciiSpace),("unicode/utf8.first",Rows.laid_unicode_utf8_first)]
noncomputable def jN (os : Os) : World:=World.laidAll Tryz.prog os jQ
theorem a4h {W : World} (h : laidMetH Tryz.prog jQ W) : iZ W:=by
 have h' : laidMet Tryz.prog jQ W:=h
 exact Lib.tabIs_of_head a7b a0C a6S u8U u8C a6u h'.tail.tail.tail.tail.tail
theorem a6P {W : World} (h : laidMetH Tryz.prog jQ W) : Tab W:=by
 have h' : laidMet Tryz.prog jQ W:=h
 exact Lib.tabIs_of_head a79 a4n a7K a71 a8a a7V h'.tail.tail
end
section
open Lib (hid)
open Go.RowKit
structure SC (X M : Nat) (s : ByteArray) (a : Nat) (ts : List Tk) (W : World) : Prop where
 lt : M<X∧X<W.heap.size
 ex : ∃ ao cp,W.heap[X]?=some (.cells #[.string s,.int .i64 a,.map (some M),.slice ao ts.length cp,.pointer none] 109 (0,0))∧W.ownsRow (X + 1) 79 4 (.slice ao ts.length cp) ts.length (l8 ts)
 keys : cQ M 13 W
section
variable {X M a : Nat} {s : ByteArray} {ts : List Tk} {W W' : World}
theorem SC.below (h : SC X M s a ts W) (hb : Below W.heap.size W W') : SC X M s a ts W':=by
 obtain ⟨ao,cp,h1,h2⟩:=h.ex
 exact ⟨⟨h.lt.1,Nat.lt_of_lt_of_le h.lt.2 hb.size⟩,⟨ao,cp,(hb.block X h.lt.2).trans h1,n7 h2 hb⟩,h.keys.below hb (by have:=h.lt; omega)⟩
theorem SC.sb (h : SC X M s a ts W) : SB X s a W:=by
 obtain ⟨ao,cp,h1,-⟩:=h.ex
 exact ⟨by simp [World.cell?,h1],by simp [World.cell?,h1]⟩
theorem SB.below (h : SB X s a W) (hb : Below W.heap.size W W') : SB X s a W':=by
 have hlt : X<W.heap.size:=by
  rcases Nat.lt_or_ge X W.heap.size with h' | h'
  ·exact h'
  ·have:=h.1
   simp [World.cell?,Array.getElem?_eq_none h'] at this
 exact ⟨(hb.cell (p:=⟨X,0,none⟩) hlt).trans h.1,(hb.cell (p:=⟨X,1,none⟩) hlt).trans h.2⟩
end
theorem a45 (b : Bool) (P : List Bool) (u : List UInt8) : dF (b :: P) u=((if b=true then dgC (u.headD 0) else u.headD 0 == 45) && dF P (u.drop 1)):=by
 cases u with
 | nil => cases b <;> rfl
 | cons c u => rfl
theorem a3J (w : World) (T : TypeId) : ∀ (k : Nat) (hk : k<o9.length),(w.alloc (.cells #[.int .u8 48,.int .u8 48,.int .u8 48,.int .u8 48,.int .u8 45,.int .u8 48,.int .u8 48,.int .u8 45,.int .u8 48,.int .u8 48] T (10,11))).cell? ⟨w.heap.size,k,none⟩=some (.int .u8 (if o9[k]=true then 48 else 45)):=by
 have h : (w.alloc (.cells #[.int .u8 48,.int .u8 48,.int .u8 48,.int .u8 48,.int .u8 45,.int .u8 48,.int .u8 48,.int .u8 45,.int .u8 48,.int .u8 48] T (10,11))).heap[w.heap.size]?=some (.cells #[.int .u8 48,.int .u8 48,.int .u8 48,.int .u8 48,.int .u8 45,.int .u8 48,.int .u8 48,.int .u8 45,.int .u8 48,.int .u8 48] T (10,11)):=by show (w.heap.push _)[w.heap.size]?=_; simp
 intro k hk
 rw [Lib.cell_of_heap h]
 match k,hk with
 | 0,_ => rfl
 | 1,_ => rfl
 | 2,_ => rfl
 | 3,_ => rfl
 | 4,_ => rfl
 | 5,_ => rfl
 | 6,_ => rfl
 | 7,_ => rfl
 | 8,_ => rfl
 | 9,_ => rfl
theorem a2O (X : Nat) (s : ByteArray) (a : Nat) (w : World) (h : SB X s a w) (ha : a≤16384) :
 Calls Tryz.prog 146 #[.pointer (some ⟨X,0,none⟩)] w fun e w' => e=.returned (.bool (r8 (s.data.toList.drop a)))∧Below w.heap.size w w':=by
 rw [a4o]
 obtain ⟨l,hl⟩ : ∃ l,l=s.data.toList.drop a:=⟨_,rfl⟩
 rw [← hl]
 have HC:=hid (show ∀ (k : Nat) (v : World),SB X s a v→Calls Tryz.prog 145 #[.pointer (some ⟨X,0,none⟩),.int .i64 ((a : Int) + k)] v fun e w' => e=.returned (.int .u8 ((l.drop k).headD 0).toNat)∧v=w' from fun k v hv => by
  rw [hl,List.drop_drop,show ((a : Int) + k)=((a + k : Nat) : Int) by omega]
  exact E0 X s a (a + k) v hv)
 have HF:=hid (a3J w 5)
 have HB:=hid (c6 w (.cells #[.int .u8 48,.int .u8 48,.int .u8 48,.int .u8 48,.int .u8 45,.int .u8 48,.int .u8 48,.int .u8 45,.int .u8 48,.int .u8 48] 5 (10,11)))
 have HS:=hid (h.below HB)
 have hz : w.heap.size<(w.alloc (.cells #[.int .u8 48,.int .u8 48,.int .u8 48,.int .u8 48,.int .u8 45,.int .u8 48,.int .u8 48,.int .u8 45,.int .u8 48,.int .u8 48] 5 (10,11))).heap.size:=by simp
 have kc:=fun (w : World) (C : Array Value) (n c : Nat) => Lib.run_convert_bytes_const (P:=Tryz.prog) w 39 5 C n c Tryz.underlying39 Tryz.underlying5
 clear hl h
 go_enter Tryz.func146,Tryz.ntmps146
 go_wp2_with fail
 clear kc
 generalize w.alloc _=W1 at HF HB HS hz ⊢
 obtain ⟨h0,h1⟩:=HS.out
 go_loop [9] (fun i => ∃ k : Nat,k≤10∧i=.int .i64 k∧Hid (dF o9 l=dF (o9.drop k) (l.drop k))) (fun i => 10 - (intOf i).toNat)
 case atStart => exact ⟨0,by omega,rfl,rfl⟩
 case round =>
  obtain ⟨k,hk,rfl,HI⟩:=hrel
  by_cases hlt : k<10
  ·have c0:=HF.out k hlt
   have ST:=hid (show dF (o9.drop k) (l.drop k)=((if o9[k]'hlt=true then dgC ((l.drop k).headD 0) else (l.drop k).headD 0 == 45) && dF (o9.drop (k + 1)) (l.drop (k + 1))) by
    rw [show o9.drop k=o9[k]'hlt :: o9.drop (k + 1) from List.drop_eq_getElem_cons hlt,a45,List.drop_drop])
   have C:=hid (HC.out k W1 HS)
   generalize (l.drop k).headD 0=c at C ST
   generalize o9[k]'hlt=b at c0 ST
   have HD:=hid (bR c)
   cases b
   ·replace c0 : W1.cell? ⟨w.heap.size,k,none⟩=some (.int .u8 45):=c0
    by_cases h45 : (c.toNat : Int)=45
    ·have q1 : ((c.toNat : Int) != 45)=false:=by rw [h45]; rfl
     have N:=hid (show dF o9 l=dF (o9.drop (k + 1)) (l.drop (k + 1)) by
      rw [HI.out,ST.out,if_neg (by decide),show (c == 45)=true by rw [beq_iff_eq]; exact UInt8.toNat_inj.1 (Int.ofNat.inj h45),Bool.true_and])
     clear h45
     go_wp2_with (first | ((with_reducible refine Calls.mono C.out ?_); rintro e w1 ⟨rfl,rfl⟩))
     go_round
     case rel => exact ⟨k + 1,by omega,by go_num,N⟩
     case measure => simp [intOf]; omega
    ·have q1 : ((c.toNat : Int) != 45)=true:=by rw [bne_iff_ne]; exact h45
     have N:=hid (show dF o9 l=false by
      rw [HI.out,ST.out,if_neg (by decide),show (c == 45)=false by rw [beq_eq_false_iff_ne]; intro e; exact h45 (by rw [e]; rfl)]; rfl)
     clear h45
     go_wp2_with (first | ((with_reducible refine Calls.mono C.out ?_); rintro e w1 ⟨rfl,rfl⟩))
     go_ret
     exact ⟨Y6 N.out.symm,HB⟩
   ·replace c0 : W1.cell? ⟨w.heap.size,k,none⟩=some (.int .u8 48):=c0
    cases hd : dgI c.toNat
    ·have N:=hid (show dF o9 l=false by rw [HI.out,ST.out,if_pos rfl,HD.out,hd]; rfl)
     go_wp2_with (first | ((with_reducible refine Calls.mono C.out ?_); rintro e w1 ⟨rfl,rfl⟩) | (go_at_call 118; refine (F6 _ _).mono ?_; rintro e w' ⟨rfl,rfl⟩; rw [hd]))
     go_ret
     exact ⟨Y6 N.out.symm,HB⟩
    ·have N:=hid (show dF o9 l=dF (o9.drop (k + 1)) (l.drop (k + 1)) by rw [HI.out,ST.out,if_pos rfl,HD.out,hd,Bool.true_and])
     go_wp2_with (first | ((with_reducible refine Calls.mono C.out ?_); rintro e w1 ⟨rfl,rfl⟩) | (go_at_call 118; refine (F6 _ _).mono ?_; rintro e w' ⟨rfl,rfl⟩; rw [hd]))
     go_round
     case rel => exact ⟨k + 1,by omega,by go_num,N⟩
     case measure => simp [intOf]; omega
  ·obtain rfl : k=10:=by omega
   have C:=hid (HC.out 10 W1 HS)
   have N:=hid (show dF o9 l=!dgI ((l.drop 10).headD 0).toNat by rw [HI.out,← bR]; rfl)
   generalize (l.drop 10).headD 0=c at C N
   go_wp2_with (first | ((with_reducible refine Calls.mono C.out ?_); rintro e w1 ⟨rfl,rfl⟩) | (go_at_call 118; refine (F6 _ _).mono ?_; rintro e w' ⟨rfl,rfl⟩))
   go_ret
   exact ⟨Y6 N.out.symm,HB⟩
theorem U8 {X M a gb cap' : Nat} {s : ByteArray} {ts : List Tk} {t : Tk} {ao : Option Addr} {cp : Nat} {W W5 w6 : World} (hMX : M<X) (hXW : X<W.heap.size)
 (hO : W.ownsRow (X + 1) 79 4 (.slice ao ts.length cp) ts.length (l8 ts)) (hK : cQ M 13 W) (hB : Below W.heap.size W W5)
 (hX6 : w6.heap[X]?=some (.cells #[.string s,.int .i64 a,.map (some M),.slice ao ts.length cp,.pointer none] 109 (0,0)))
 (hO6 : w6.ownsRow (X + 1) 79 4 (.slice (some ⟨gb,0,none⟩) (ts.length + 1) cap') (ts.length + 1) (l8 ts ++ n9 t)) (hG : W5.grownBy w6 (Value.slice ao ts.length cp).ownBlock) :
 SC X M s a (ts ++ [t]) (w6.setCell ⟨X,3,none⟩ (.slice (some ⟨gb,0,none⟩) (ts.length + 1) cap'))∧Below X W (w6.setCell ⟨X,3,none⟩ (.slice (some ⟨gb,0,none⟩) (ts.length + 1) cap')):=by
 have h5:=hB.size
 have h6:=hG.size
 have hlow : ∀ d,d<X→(w6.setCell ⟨X,3,none⟩ (.slice (some ⟨gb,0,none⟩) (ts.length + 1) cap')).heap[d]?=W.heap[d]?:=fun d hd =>
  (Below.heap_setCell _ _ _ _ (by show d≠X; omega)).trans ((hG.block d (by omega) (fun e => by have:=(hO.lt d e.symm).1; omega)).trans (hB.block d (by omega)))
 have hgb:=hO6.lt gb rfl
 have el : (ts ++ [t]).length=ts.length + 1:=by rw [List.length_append]; rfl
 refine ⟨⟨⟨hMX,by simp [World.setCell]; omega⟩,⟨some ⟨gb,0,none⟩,cap',?_,?_⟩,?_⟩,?_⟩
 ·rw [el]; exact l3 hX6 3 _
 ·rw [el,oL]; exact lH hO6 (Below.heap_setCell _ _ _ _ (by show gb≠X; omega))
 ·obtain ⟨es,clock,k1,k2,k3,k4⟩:=hK
  exact ⟨es,clock,(hlow M hMX).trans k1,k2,k3,k4⟩
 ·have hS:=e9 w6 X 3 (.slice (some ⟨gb,0,none⟩) (ts.length + 1) cap')
  exact ⟨hS.os.trans (hG.os.trans hB.os),hS.tape.trans (hG.tape.trans hB.tape),hS.output.trans (hG.output.trans hB.output),by simp [World.setCell]; omega,fun d hd => hlow d hd⟩
def a2J (X M : Nat) (s : ByteArray) (a : Nat) (ts : List Tk) (r : Except Int (Tk × Nat)) (w : World) (e : Ending) (w' : World) : Prop :=
 Below X w w'∧match r with
  | .ok (t,n) => e=.returned (.tuple #[.int .i64 n,.int .i64 0])∧SC X M s a (ts ++ [t]) w'
  | .error c => c≠0∧∃ (n : Int) (ts' : List Tk),e=.returned (.tuple #[.int .i64 n,.int .i64 c])∧SC X M s a ts' w'
theorem bB {X M a m : Nat} {s : ByteArray} {ts : List Tk} {r : Except Int (Tk × Nat)} {t u : Tk} {n : Int} {w w' : World} (h : r=.ok (t,m)) (hb : Below X w w') (hn : n=m) (hu : u=t) (hs : SC X M s a (ts ++ [u]) w') : a2J X M s a ts r w (.returned (.tuple #[.int .i64 n,.int .i64 0])) w':=by
 subst h hn hu; exact ⟨hb,rfl,hs⟩
theorem o5 {X M a : Nat} {s : ByteArray} {ts ts' : List Tk} {r : Except Int (Tk × Nat)} {c n : Int} {w w' : World} (h : r=.error c) (hc : c≠0) (hb : Below X w w') (hs : SC X M s a ts' w') : a2J X M s a ts r w (.returned (.tuple #[.int .i64 n,.int .i64 c])) w':=by
 subst h; exact ⟨hb,hc,n,ts',rfl,hs⟩
end
section
open Lib (hid)
open Go.RowKit
theorem pF (p : UInt8→Bool) : ∀ (l : List UInt8) (n : Nat),(l.take n).takeWhile p=(l.takeWhile p).take n
 | [],n => by simp
 | a :: l,0 => by simp
 | a :: l,n + 1 => by
   rw [List.take_succ_cons,List.takeWhile_cons,List.takeWhile_cons]
   cases p a with
   | true => simp only [if_true,List.take_succ_cons,pF p l n]
   | false => simp
theorem pN (p : UInt8→Bool) : ∀ (l : List UInt8) (n : Nat),n<l.length→p ((l.drop n).headD 0)=false→(l.takeWhile p).length≤n
 | [],n,h,_ => by simp at h
 | a :: l,0,_,h => by rw [List.drop_zero,List.headD_cons] at h; rw [List.takeWhile_cons,if_neg (by rw [h]; decide)]; exact Nat.le_refl _
 | a :: l,n + 1,hl,h => by
   rw [List.takeWhile_cons]
   split
   ·rw [List.length_cons]; have:=pN p l n (by rw [List.length_cons] at hl; omega) h; omega
   ·simp
theorem a0F (r : List UInt8) : (r.drop (dH r)).headD 0=34→(p8 (r.take (dH r))=true↔dH r≠0∧dH r≤24∧m5 r=dH r):=by
 intro h
 generalize hn : dH r=n at h
 have hle : n≤r.length:=by rw [← hn]; exact x6 lG r
 have hlt : n<r.length:=by
  rcases Nat.lt_or_ge n r.length with g | g
  ·exact g
  ·rw [List.drop_of_length_le g] at h; exact absurd h (by decide)
 have hlen : (r.take n).length=n:=by rw [List.length_take]; omega
 have hw : (r.takeWhile inC).length≤n:=pN inC r n hlt (by rw [h]; decide)
 rw [← kX]
 unfold gS
 rw [hlen,Bool.and_eq_true,Bool.and_eq_true,decide_eq_true_eq,decide_eq_true_eq,decide_eq_true_eq]
 have hs : 0<n→m5 (r.take n)=m5 r:=fun h0 => by
  rw [vD,vD,pF,List.length_take,Nat.min_eq_right hw]
  cases r with
  | nil => simp at hlt
  | cons a r =>
    obtain ⟨k,rfl⟩ : ∃ k,n=k + 1:=⟨n - 1,by omega⟩
    rfl
 constructor
 ·rintro ⟨⟨h0,h24⟩,e⟩
  rw [hs h0] at e
  exact ⟨by omega,h24,e⟩
 ·rintro ⟨h0,h24,e⟩
  exact ⟨⟨by omega,h24⟩,by rw [hs (by omega)]; exact e⟩
theorem yU (X M : Nat) (s : ByteArray) (a : Nat) (ts : List Tk) (w : World) (h : SC X M s a ts w) (hs : s.size≤16384) (ha : a<s.size) (htl : ts.length≤8192) :
 Calls Tryz.prog 120 #[.pointer (some ⟨X,0,none⟩)] w (a2J X M s a ts (Y1 (s.data.toList.drop (a + 1)) a) w):=by
 have Q:=hid (show Y1 (s.data.toList.drop (a + 1)) a=if ((s.data.toList.drop (a + 1)).drop (dH (s.data.toList.drop (a + 1)))).headD 0≠34 then .error 71
  else if p8 ((s.data.toList.drop (a + 1)).take (dH (s.data.toList.drop (a + 1))))=true then .ok (⟨7,(s.data.toList.drop (a + 1)).take (dH (s.data.toList.drop (a + 1))),0,a⟩,dH (s.data.toList.drop (a + 1)) + 2) else .error 73 from rfl)
 have hqr : dH (s.data.toList.drop (a + 1))≤s.size - (a + 1):=by
  have:=x6 lG (s.data.toList.drop (a + 1))
  rwa [List.length_drop,d6] at this
 have C1:=hid (a4m X s a (a + 1) w h.sb hs (by omega))
 have CN:=hid (fun (v : World) (hv : SB X s a v) => mE X s a (a + 1) v hv hs (by omega))
 have NT:=hid (a0F (s.data.toList.drop (a + 1)))
 rw [show ((a + 1 : Nat) : Int)=(a : Int) + 1 by omega] at C1 CN
 generalize hq : dH (s.data.toList.drop (a + 1))=n at Q C1 hqr NT
 have C2:=hid (fun (v : World) (hv : SB X s a v) => E0 X s a (a + 1 + n) v hv)
 rw [← List.drop_drop,show ((a + 1 + n : Nat) : Int)=(a : Int) + 1 + n by omega] at C2
 generalize hc : ((s.data.toList.drop (a + 1)).drop n).headD 0=c at C2 Q NT
 generalize hm : m5 (s.data.toList.drop (a + 1))=m at CN NT
 obtain ⟨tx,htx,htx2⟩ : ∃ tx : List UInt8,s.extract (a + 1) (a + 1 + n)=⟨tx.toArray⟩∧tx=(s.data.toList.drop (a + 1)).take n:=⟨_,by rw [a7B,Nat.add_sub_cancel_left],rfl⟩
 rw [← htx2] at Q NT
 have HTX:=hid htx
 have HS:=hid h
 have HTL:=hid htl
 obtain ⟨i0,hi,hz0,hz1,hz2⟩:=info_parts (show (Tryz.prog.info? 79).map (fun i => (i.zero,i.size,i.bytes))=some (some (.agg #[.int .i64 0,.string ⟨#[]⟩,.int .i64 0,.int .i64 0]),4,40) by kernel_rfl)
 have HI0:=hid (show _∧_∧_∧_ from ⟨hi,hz0,hz1,hz2⟩)
 clear hi hz0 hz1 hz2
 clear hq hc hm h htx htx2
 obtain ⟨hX0,hX1⟩:=HS.out.sb
 go_enter Tryz.func120,Tryz.ntmps120
 go_wp2_with fail
 (with_reducible refine Calls.mono C1.out ?_)
 rintro e w1 ⟨rfl,hw1⟩
 rw [← hw1]
 clear hw1 C1 w1
 go_upto_region 2 with fail
 go_quiet (fail)
 go_upto_region 3 with fail
 rw [HTX.out]
 obtain ⟨W1,hW1⟩ : ∃ W,W=w.drewN nq:=⟨_,rfl⟩
 have HS1:=hid (show SC X M s a ts W1 from hW1 ▸ HS.out.below (Go.Proofs.YtibiccacafjjfaaGreatDoor.v6 w nq))
 have BX1:=hid (show Below X w W1 from hW1 ▸ ((Go.Proofs.YtibiccacafjjfaaGreatDoor.v6 w nq).mono (Nat.le_of_lt HS.out.lt.2)))
 rw [← hW1]
 clear hW1 hX0 hX1
 obtain ⟨hMX,hXW⟩:=HS1.out.lt
 obtain ⟨ao,cp,hat0,how0⟩:=HS1.out.ex
 have HAT0:=hid hat0
 have HOW0:=hid how0
 have HKY0:=hid HS1.out.keys
 have HSI:=hid (show (W1.cell? ⟨X,3,none⟩=some (.slice ao ts.length cp)∧W1.cell? ⟨X,1,none⟩=some (.int .i64 a)∧W1.cell? ⟨X,0,none⟩=some (.string s))∧True from ⟨⟨by simp [World.cell?,hat0],by simp [World.cell?,hat0],by simp [World.cell?,hat0]⟩,trivial⟩)
 have HSB:=hid (show ∀ vv : World,(∀ b,b<W1.heap.size→(Value.slice ao ts.length cp).ownBlock≠some b→vv.heap[b]?=W1.heap[b]?)→vv.cell? ⟨X,3,none⟩=some (.slice ao ts.length cp)∧vv.cell? ⟨X,1,none⟩=some (.int .i64 a)∧vv.cell? ⟨X,0,none⟩=some (.string s) from fun vv hv => by
  have hX : ∀ i,vv.cell? ⟨X,i,none⟩=W1.cell? ⟨X,i,none⟩:=fun i => World.cell?_of_block (hv X hXW (fun e => by have:=(how0.lt X e).1; omega))
  exact ⟨(hX 3).trans HSI.out.1.1,(hX 1).trans HSI.out.1.2.1,(hX 0).trans HSI.out.1.2.2⟩)
 clear hat0 how0
 refine e8 (S:=(fun cur : World => cur.cell? ⟨X,3,none⟩=some (.slice ao ts.length cp)∧cur.cell? ⟨X,1,none⟩=some (.int .i64 a)∧cur.cell? ⟨X,0,none⟩=some (.string s))) (z:=15) (by kernel_rfl) ?_ (fun hHeld => ?_)
 ·exact HSB.out W1.drew (fun b _ _ => rfl)
 refine b7.t 0 ?_; refine b7.t 1 ?_; refine b7.t 2 ?_; refine b7.t 3 ?_; refine b7.t 4 ?_; refine b7.t 5 ?_; refine b7.t 6 ?_; refine b7.t 7 ?_; refine b7.t 8 ?_; refine b7.t 9 ?_; refine b7.t 10 ?_
 refine b7.nx 11 fun K hK => ?_
 go_simp
 obtain ⟨W5,hW5⟩ : ∃ V,V=(W1.alloc (.cells #[.int .i64 7,.string ⟨tx.toArray⟩,.int .i64 0,.int .i64 a] 79)).drew:=⟨_,rfl⟩
 have B5:=hid (show Below W1.heap.size W1 W5 from hW5 ▸ z8 (c6 _ _))
 have hz5 : W5.heap.size=W1.heap.size + 1:=by rw [hW5]; show (W1.alloc _).heap.size=_; simp
 have N5:=hid (show ∀ j u,(n9 (⟨7,tx,0,a⟩ : Tk))[j]?=some u→W5.cell? ((⟨W1.heap.size,0,none⟩ : Addr).add j)=some u from hW5 ▸ x7 W1 _ _ _ _ _)
 have O5:=hid (show W5.ownsRow (X + 1) 79 4 (.slice ao ts.length cp) ts.length (l8 ts) from n7 HOW0 B5)
 rw [← hW5]
 clear hW5
 refine hK.out _ _ ?_ (fun hHeld => ?_)
 ·exact HSB.out W5 (fun b hb _ => B5.out.block b hb)
 clear hK K
 try simp only [Act.put,c9,f8,f7]
 refine b7.nx 12 fun K hK => ?_
 refine step_append_lies _ rfl _ _ 70 rfl (X + 1) 79 i0 (.agg #[.int .i64 0,.string ⟨#[]⟩,.int .i64 0,.int .i64 0]) 4 40 Tryz.underlying70 HI0.out.1 HI0.out.2.1 HI0.out.2.2.1 HI0.out.2.2.2 rfl (by decide) _ _ _ rfl O5 ⟨W1.heap.size,0,none⟩ 1 1 (n9 (⟨7,tx,0,a⟩ : Tk)) rfl rfl N5 (bU _) (by decide) (by unfold maxLen; omega) (by omega) (by omega) _ rfl ?_
 intro gb cap' w6 hown' hgrow' hat' hltg
 have HG6:=hid hgrow'
 have HO6:=hid hown'
 have HX6:=hid (show w6.heap[X]?=some (.cells #[.string s,.int .i64 a,.map (some M),.slice ao ts.length cp,.pointer none] 109 (0,0)) from (hgrow'.block X (by omega) (fun e => by have:=(HOW0.out.lt X e.symm).1; omega)).trans ((B5.out.block X hXW).trans HAT0))
 clear hown' hgrow' hat' hltg
 refine hK.out _ _ ?_ (fun hHeld => ?_)
 ·exact HSB.out w6 (fun b hb hne => (HG6.out.block b (by omega) (fun e => hne e.symm)).trans (B5.out.block b hb))
 clear hK K
 try simp only [Act.put,c9,f8,f7]
 refine b7.nx 13 fun K hK => ?_
 go_simp
 refine hK.out _ _ ?_ (fun hHeld => ?_)
 ·exact hHeld
 clear hK K
 try simp only [Act.put,c9,f8,f7]
 refine b7.nx 14 fun K hK => ?_
 go_simp
 refine hK.out _ _ ?_ (fun hHeld => ?_)
 ·exact hHeld
 clear hK K
 try simp only [Act.put,c9,f8,f7]
 have hX3 : w6.cell? ⟨X,3,none⟩=some (.slice ao ts.length cp):=by simp [World.cell?,HX6.out]
 have hf6 : w6.frozen? ⟨X,3,none⟩=false:=by simp [World.frozen?,HX6.out]
 have hX6l : X<w6.heap.size:=(Array.getElem?_eq_some_iff.1 HX6).1
 refine b7.la fun K hK => ?_
 go_simp
 refine hK.out _ _ ?_
 clear hK K hHeld
 obtain ⟨W7,hW7⟩ : ∃ V,V=w6.setCell ⟨X,3,none⟩ (.slice (some ⟨gb,0,none⟩) (ts.length + 1) cap'):=⟨_,rfl⟩
 have Z7:=hid (show SC X M s a (ts ++ [(⟨7,tx,0,a⟩ : Tk)]) W7∧Below X W1 W7 from hW7 ▸ U8 hMX hXW HOW0 HKY0 B5 HX6 HO6 HG6)
 have HS7:=hid Z7.out.1
 have BX7:=hid Z7.out.2
 rw [← hW7]
 clear hW7 hX3 hf6 hX6l HX6 HO6 HG6 O5 N5 B5 HSB HSI HAT0 HOW0 HKY0 Z7
 have BX:=hid (BX1.out.trans BX7)
 obtain ⟨hX0,hX1⟩:=HS7.out.sb
 replace C2:=hid (C2.out W7 HS7.out.sb)
 replace CN:=hid (CN.out W7 HS7.out.sb)
 clear HS HS1 BX1 BX7 hMX hXW hz5
 by_cases h34 : (c.toNat : Int)=34
 case neg =>
  have q1 : ((c.toNat : Int) != 34)=true:=by rw [bne_iff_ne]; exact h34
  have R:=hid (show Y1 (s.data.toList.drop (a + 1)) a=.error 71 by rw [Q.out,if_pos (fun e => h34 (by rw [e]; rfl))])
  clear h34
  go_wp2_with (first | ((with_reducible refine Calls.mono C2.out ?_); rintro e w1 ⟨rfl,hw⟩; rw [← hw]; clear hw w1))
  go_ret2
  exact o5 R (by decide) BX HS7
 have q1 : ((c.toNat : Int) != 34)=false:=by rw [h34]; rfl
 have e34 : c=34:=UInt8.toNat_inj.1 (Int.ofNat.inj h34)
 have Q2:=hid (show Y1 (s.data.toList.drop (a + 1)) a=if p8 tx=true then .ok (⟨7,tx,0,a⟩,n + 2) else .error 73 by rw [Q.out,if_neg (fun h => h e34)])
 have N2:=hid (NT.out e34)
 clear h34 e34 Q NT
 by_cases h0 : n=0
 ·have q0 : ((n : Int) == 0)=true:=by rw [h0]; rfl
  have R:=hid (show Y1 (s.data.toList.drop (a + 1)) a=.error 73 by rw [Q2.out,if_neg (fun h => (N2.out.1 h).1 h0)])
  clear h0
  go_wp2_with (first | ((with_reducible refine Calls.mono C2.out ?_); rintro e w1 ⟨rfl,hw⟩; rw [← hw]; clear hw w1))
  go_ret2
  exact o5 R (by decide) BX HS7
 have q0 : ((n : Int) == 0)=false:=by rw [beq_eq_false_iff_ne]; omega
 by_cases h24 : 24<(n : Int)
 ·have R:=hid (show Y1 (s.data.toList.drop (a + 1)) a=.error 73 by rw [Q2.out,if_neg (fun h => by have:=(N2.out.1 h).2.1; omega)])
  clear h0
  go_wp2_with (first | ((with_reducible refine Calls.mono C2.out ?_); rintro e w1 ⟨rfl,hw⟩; rw [← hw]; clear hw w1))
  go_ret2
  exact o5 R (by decide) BX HS7
 by_cases hmn : m=n
 ·have q2 : ((m : Int) != n)=false:=by rw [hmn]; simp
  have R:=hid (show Y1 (s.data.toList.drop (a + 1)) a=.ok (⟨7,tx,0,a⟩,n + 2) by rw [Q2.out,if_pos (N2.out.2 ⟨h0,by omega,hmn⟩)])
  clear h0 hmn
  go_wp2_with (first | ((with_reducible refine Calls.mono C2.out ?_); rintro e w1 ⟨rfl,hw⟩; rw [← hw]; clear hw w1) | ((with_reducible refine Calls.mono CN.out ?_); rintro e w1 ⟨rfl,hw⟩; rw [← hw]; clear hw w1))
  go_ret2
  exact bB R BX (by omega) rfl HS7
 ·have q2 : ((m : Int) != n)=true:=by rw [bne_iff_ne]; omega
  have R:=hid (show Y1 (s.data.toList.drop (a + 1)) a=.error 73 by rw [Q2.out,if_neg (fun h => hmn (N2.out.1 h).2.2)])
  clear h0 hmn
  go_wp2_with (first | ((with_reducible refine Calls.mono C2.out ?_); rintro e w1 ⟨rfl,hw⟩; rw [← hw]; clear hw w1) | ((with_reducible refine Calls.mono CN.out ?_); rintro e w1 ⟨rfl,hw⟩; rw [← hw]; clear hw w1))
  go_ret2
  exact o5 R (by decide) BX HS7
end
section
open Lib (hid)
open Go.RowKit
theorem a1a (X M : Nat) (s : ByteArray) (a : Nat) (ts : List Tk) (w : World) (h : SC X M s a ts w) (hs : s.size≤16384) (ha : a<s.size) (htl : ts.length≤8192) :
 Calls Tryz.prog 117 #[.pointer (some ⟨X,0,none⟩)] w (a2J X M s a ts (Y5 (s.data.toList.drop a) a) w):=by
 have hsp:=dN s a
 have C1:=hid (mE X s a a w h.sb hs (by omega))
 have N:=hid (show Y5 (s.data.toList.drop a) a=(if ((s.data.toList.drop a).drop (m5 (s.data.toList.drop a))).headD 0=46 then
  if 24<m5 (s.data.toList.drop a)∨m5 ((s.data.toList.drop a).drop (m5 (s.data.toList.drop a) + 1))<1∨24<m5 ((s.data.toList.drop a).drop (m5 (s.data.toList.drop a) + 1))∨F0 ((s.data.toList.drop a).take (m5 (s.data.toList.drop a)))=true∨F0 (((s.data.toList.drop a).drop (m5 (s.data.toList.drop a) + 1)).take (m5 ((s.data.toList.drop a).drop (m5 (s.data.toList.drop a) + 1))))=true then .error 73
  else .ok (⟨3,(s.data.toList.drop a).take (m5 (s.data.toList.drop a)) ++ 46 :: ((s.data.toList.drop a).drop (m5 (s.data.toList.drop a) + 1)).take (m5 ((s.data.toList.drop a).drop (m5 (s.data.toList.drop a) + 1))),0,a⟩,m5 (s.data.toList.drop a) + 1 + m5 ((s.data.toList.drop a).drop (m5 (s.data.toList.drop a) + 1)))
  else if 24<m5 (s.data.toList.drop a) then .error 73 else .ok (⟨if F0 ((s.data.toList.drop a).take (m5 (s.data.toList.drop a)))=true then 2 else 1,(s.data.toList.drop a).take (m5 (s.data.toList.drop a)),0,a⟩,m5 (s.data.toList.drop a))) from rfl)
 generalize hn : m5 (s.data.toList.drop a)=n at hsp C1 N
 simp only [List.drop_drop] at N
 have C2:=hid (fun (v : World) (hv : SB X s a v) => E0 X s a (a + n) v hv)
 rw [show ((a + n : Nat) : Int)=(a : Int) + n by omega] at C2
 have HLT:=hid (show (s.data.toList.drop (a + n)).headD 0≠0→a + n<s.size from fun h => by have:=kM h; rwa [d6] at this)
 generalize hc : (s.data.toList.drop (a + n)).headD 0=c at C2 N HLT
 have hsm:=dN s (a + (n + 1))
 have C3:=hid (fun (v : World) (hv : SB X s a v) => mE X s a (a + (n + 1)) v hv hs (by omega))
 rw [show ((a + (n + 1) : Nat) : Int)=(a : Int) + n + 1 by omega] at C3
 generalize hm : m5 (s.data.toList.drop (a + (n + 1)))=m at C3 N hsm
 obtain ⟨A,hA⟩ : ∃ A,A=s.extract a (a + n):=⟨_,rfl⟩
 obtain ⟨B,hB⟩ : ∃ B,B=s.extract (a + n + 1) (a + n + 1 + m):=⟨_,rfl⟩
 have hAl : A.data.toList=(s.data.toList.drop a).take n:=by rw [hA,s9,Nat.add_sub_cancel_left]
 have hBl : B.data.toList=(s.data.toList.drop (a + (n + 1))).take m:=by rw [hB,s9,Nat.add_sub_cancel_left,Nat.add_assoc]
 rw [← hAl,← hBl] at N
 have hAs : A.size≤16384:=by rw [← d6,hAl,List.length_take,List.length_drop,d6]; omega
 have hBs : B.size≤16384:=by rw [← d6,hBl,List.length_take,List.length_drop,d6]; omega
 have HA:=hid hA
 have HB:=hid hB
 have HS:=hid h
 obtain ⟨i0,hi,hz0,hz1,hz2⟩:=info_parts (show (Tryz.prog.info? 79).map (fun i => (i.zero,i.size,i.bytes))=some (some (.agg #[.int .i64 0,.string ⟨#[]⟩,.int .i64 0,.int .i64 0]),4,40) by kernel_rfl)
 have HI0:=hid (show _∧_∧_∧_ from ⟨hi,hz0,hz1,hz2⟩)
 clear hi hz0 hz1 hz2
 clear hn hc hm h hA hB hAl hBl
 obtain ⟨hX0,hX1⟩:=HS.out.sb
 go_enter Tryz.func117,Tryz.ntmps117
 go_wp2_with fail
 (with_reducible refine Calls.mono C1.out ?_)
 rintro e w1 ⟨rfl,hw1⟩
 rw [← hw1]
 clear hw1 C1 w1
 go_upto_region 2 with fail
 go_quiet (fail)
 rw [← HA.out]
 obtain ⟨W1,hW1⟩ : ∃ W,W=w.drewN nq:=⟨_,rfl⟩
 have HS1:=hid (show SC X M s a ts W1 from hW1 ▸ HS.out.below (Go.Proofs.YtibiccacafjjfaaGreatDoor.v6 w nq))
 have BX1:=hid (show Below X w W1 from hW1 ▸ ((Go.Proofs.YtibiccacafjjfaaGreatDoor.v6 w nq).mono (Nat.le_of_lt HS.out.lt.2)))
 rw [← hW1]
 clear hW1 hX0 hX1 HS HA
 obtain ⟨hX0,hX1⟩:=HS1.out.sb
 replace C2:=hid (C2.out W1 HS1.out.sb)
 by_cases h46 : (c.toNat : Int)=46
 case neg =>
  have q1 : ((c.toNat : Int) != 46)=true:=by rw [bne_iff_ne]; exact h46
  replace N:=hid (N.out.trans (if_neg (fun e => h46 (by rw [e]; rfl))))
  obtain ⟨hMX,hXW1⟩:=HS1.out.lt
  obtain ⟨ao,cp,hat1,how1⟩:=HS1.out.ex
  have HOB:=hid (show ∀ d,(Value.slice ao ts.length cp).ownBlock=some d→d<W1.heap.size from fun d hd => (how1.lt d hd).2)
  have HAT1:=hid hat1
  have HOW1:=hid how1
  clear h46 hat1 how1 C3 HB
  go_upto_region 5 with (first | ((with_reducible refine Calls.mono C2.out ?_); rintro e w1 ⟨rfl,hw⟩; rw [← hw]; clear hw w1))
  clear C2
  obtain ⟨W2,hW2⟩ : ∃ V,V=W1.alloc (.cells #[.int .i64 1,.string A,.int .i64 0,.int .i64 a] 79):=⟨_,rfl⟩
  have B2:=hid (show Below W1.heap.size W1 W2 from hW2 ▸ c6 _ _)
  have HS2:=hid (HS1.out.below B2.out)
  have hz2 : W2.heap.size=W1.heap.size + 1:=by rw [hW2]; simp
  have HX2:=hid (show W2.heap[W1.heap.size]?=some (.cells #[.int .i64 1,.string A,.int .i64 0,.int .i64 a] 79 (0,0)) by rw [hW2]; show (W1.heap.push _)[W1.heap.size]?=_; simp)
  rw [← hW2]
  clear hW2 hX0 hX1
  obtain ⟨hX0,hX1⟩:=HS2.out.sb
  obtain ⟨v,hlook,hvw⟩:=HS2.out.keys.look A hAs
  have hX2 : W2.cell? ⟨X,2,none⟩=some (.map (some M)):=by obtain ⟨_,_,g,-⟩:=HS2.out.ex; simp [World.cell?,g]
  have c0 : W2.cell? ⟨W1.heap.size,0,none⟩=some (.int .i64 1):=by simp [World.cell?,HX2.out]
  have f0 : W2.frozen? ⟨W1.heap.size,0,none⟩=false:=by simp [World.frozen?,HX2.out]
  generalize hb : W1.heap.size=tb at hz2 HX2 HOB c0 f0
  cases hw : F0 A.data.toList
  case false =>
   rw [hw] at hvw
   have hv : ¬ 0<v:=by simpa using hvw
   rw [hw] at N
   clear hvw
   go_upto_region 7 with fail
   obtain ⟨W3,hW3⟩ : ∃ V,V=W2:=⟨_,rfl⟩
   have HX3:=hid (show W3.heap[tb]?=some (.cells #[.int .i64 1,.string A,.int .i64 0,.int .i64 a] 79 (0,0)) from hW3 ▸ HX2.out)
   have hz3 : W3.heap.size=tb + 1:=by rw [hW3]; exact hz2
   have B13:=hid (show Below W1.heap.size W1 W3 from hW3 ▸ B2.out)
   rw [← hW3]
   clear hW3 hlook hv c0 f0 hX2 hX0 hX1 HX2
   have hat0 : W3.heap[X]?=some (.cells #[.string s,.int .i64 a,.map (some M),.slice ao ts.length cp,.pointer none] 109 (0,0)):=(B13.out.block X hXW1).trans HAT1.out
   have how0 : W3.ownsRow (X + 1) 79 4 (.slice ao ts.length cp) ts.length (l8 ts):=n7 HOW1.out B13.out
   have hXW : X<W3.heap.size:=by omega
   have HS3:=hid (HS1.out.below B13.out)
   have hMORE : ∀ v : World,(∀ b,b<W3.heap.size→(Value.slice ao ts.length cp).ownBlock≠some b→v.heap[b]?=W3.heap[b]?)→(v.cell? ⟨tb,0,none⟩=some (.int .i64 1)∧v.cell? ⟨tb,1,none⟩=some (.string A)∧v.cell? ⟨tb,2,none⟩=some (.int .i64 0)∧v.cell? ⟨tb,3,none⟩=some (.int .i64 a)):=fun v hv => by
    have h':=(hv tb (by omega) (fun e => by have:=HOB.out tb e; omega)).trans HX3.out
    refine ⟨?_,?_,?_,?_⟩ <;> simp [World.cell?,h']
   have HMORE:=hid hMORE
   have HZ3:=hid hz3
   clear hMORE HS2 HX3 B2 hz2 hz3
   have HAT0:=hid hat0
   have HOW0:=hid how0
   have HKY0:=hid HS3.out.keys
   have HSI:=hid (show (W3.cell? ⟨X,3,none⟩=some (.slice ao ts.length cp)∧W3.cell? ⟨X,1,none⟩=some (.int .i64 a)∧W3.cell? ⟨X,0,none⟩=some (.string s))∧((W3.cell? ⟨tb,0,none⟩=some (.int .i64 1)∧W3.cell? ⟨tb,1,none⟩=some (.string A)∧W3.cell? ⟨tb,2,none⟩=some (.int .i64 0)∧W3.cell? ⟨tb,3,none⟩=some (.int .i64 a))) from ⟨⟨by simp [World.cell?,hat0],by simp [World.cell?,hat0],by simp [World.cell?,hat0]⟩,(HMORE.out W3 (fun _ _ _ => rfl))⟩)
   have HSB:=hid (show ∀ vv : World,(∀ b,b<W3.heap.size→(Value.slice ao ts.length cp).ownBlock≠some b→vv.heap[b]?=W3.heap[b]?)→vv.cell? ⟨X,3,none⟩=some (.slice ao ts.length cp)∧vv.cell? ⟨X,1,none⟩=some (.int .i64 a)∧vv.cell? ⟨X,0,none⟩=some (.string s)∧(vv.cell? ⟨tb,0,none⟩=some (.int .i64 1)∧vv.cell? ⟨tb,1,none⟩=some (.string A)∧vv.cell? ⟨tb,2,none⟩=some (.int .i64 0)∧vv.cell? ⟨tb,3,none⟩=some (.int .i64 a)) from fun vv hv => by
    have hX : ∀ i,vv.cell? ⟨X,i,none⟩=W3.cell? ⟨X,i,none⟩:=fun i => World.cell?_of_block (hv X hXW (fun e => by have:=(how0.lt X e).1; omega))
    exact ⟨(hX 3).trans HSI.out.1.1,(hX 1).trans HSI.out.1.2.1,(hX 0).trans HSI.out.1.2.2,HMORE.out vv hv⟩)
   clear hat0 how0
   refine e8 (S:=(fun cur : World => cur.cell? ⟨X,3,none⟩=some (.slice ao ts.length cp)∧cur.cell? ⟨X,1,none⟩=some (.int .i64 a)∧cur.cell? ⟨X,0,none⟩=some (.string s)∧(cur.cell? ⟨tb,0,none⟩=some (.int .i64 1)∧cur.cell? ⟨tb,1,none⟩=some (.string A)∧cur.cell? ⟨tb,2,none⟩=some (.int .i64 0)∧cur.cell? ⟨tb,3,none⟩=some (.int .i64 a)))) (z:=10) (by kernel_rfl) ?_ (fun hHeld => ?_)
   ·exact HSB.out W3.drew (fun b _ _ => rfl)
   refine b7.t 0 ?_; refine b7.t 1 ?_; refine b7.t 2 ?_; refine b7.t 3 ?_; refine b7.t 4 ?_; refine b7.t 5 ?_
   refine b7.nx 6 fun K hK => ?_
   go_simp
   obtain ⟨W5,hW5⟩ : ∃ V,V=(W3.alloc (.cells #[.int .i64 1,.string A,.int .i64 0,.int .i64 a] 79)).drew:=⟨_,rfl⟩
   have B5:=hid (show Below W3.heap.size W3 W5 from hW5 ▸ z8 (c6 _ _))
   have hz5 : W5.heap.size=W3.heap.size + 1:=by rw [hW5]; show (W3.alloc _).heap.size=_; simp
   have N5:=hid (show ∀ j u,(n9 (⟨1,A.data.toList,0,a⟩ : Tk))[j]?=some u→W5.cell? ((⟨W3.heap.size,0,none⟩ : Addr).add j)=some u from hW5 ▸ x7 W3 _ _ _ _ _)
   have O5:=hid (show W5.ownsRow (X + 1) 79 4 (.slice ao ts.length cp) ts.length (l8 ts) from n7 HOW0.out B5.out)
   rw [← hW5]
   clear hW5
   refine hK.out _ _ ?_ (fun hHeld => ?_)
   ·exact HSB.out W5 (fun b hb _ => B5.out.block b hb)
   clear hK K
   try simp only [Act.put,c9,f8,f7]
   refine b7.nx 7 fun K hK => ?_
   refine step_append_lies _ rfl _ _ 70 rfl (X + 1) 79 i0 (.agg #[.int .i64 0,.string ⟨#[]⟩,.int .i64 0,.int .i64 0]) 4 40 Tryz.underlying70 HI0.out.1 HI0.out.2.1 HI0.out.2.2.1 HI0.out.2.2.2 rfl (by decide) _ _ _ rfl O5.out ⟨W3.heap.size,0,none⟩ 1 1 (n9 (⟨1,A.data.toList,0,a⟩ : Tk)) rfl rfl N5.out (bU _) (by decide) (by unfold maxLen; omega) (by omega) (by omega) _ rfl ?_
   intro gb cap' w6 hown' hgrow' hat' hltg
   have HG6:=hid hgrow'
   have HO6:=hid hown'
   have HX6:=hid (show w6.heap[X]?=some (.cells #[.string s,.int .i64 a,.map (some M),.slice ao ts.length cp,.pointer none] 109 (0,0)) from (hgrow'.block X (by omega) (fun e => by have:=(HOW0.out.lt X e.symm).1; omega)).trans ((B5.out.block X hXW).trans HAT0.out))
   clear hown' hgrow' hat' hltg
   refine hK.out _ _ ?_ (fun hHeld => ?_)
   ·exact HSB.out w6 (fun b hb hne => (HG6.out.block b (by omega) (fun e => hne e.symm)).trans (B5.out.block b hb))
   clear hK K
   try simp only [Act.put,c9,f8,f7]
   refine b7.nx 8 fun K hK => ?_
   go_simp
   refine hK.out _ _ ?_ (fun hHeld => ?_)
   ·exact hHeld
   clear hK K
   try simp only [Act.put,c9,f8,f7]
   refine b7.nx 9 fun K hK => ?_
   go_simp
   refine hK.out _ _ ?_ (fun hHeld => ?_)
   ·exact hHeld
   clear hK K
   try simp only [Act.put,c9,f8,f7]
   have hX3 : w6.cell? ⟨X,3,none⟩=some (.slice ao ts.length cp):=by simp [World.cell?,HX6.out]
   have hf6 : w6.frozen? ⟨X,3,none⟩=false:=by simp [World.frozen?,HX6.out]
   have hX6l : X<w6.heap.size:=(Array.getElem?_eq_some_iff.1 HX6.out).1
   refine b7.la fun K hK => ?_
   go_simp
   refine hK.out _ _ ?_
   clear hK K hHeld
   obtain ⟨W7,hW7⟩ : ∃ V,V=w6.setCell ⟨X,3,none⟩ (.slice (some ⟨gb,0,none⟩) (ts.length + 1) cap'):=⟨_,rfl⟩
   have Z7:=hid (show SC X M s a (ts ++ [(⟨1,A.data.toList,0,a⟩ : Tk)]) W7∧Below X W3 W7 from hW7 ▸ U8 hMX hXW HOW0.out HKY0.out B5.out HX6.out HO6.out HG6.out)
   have HS7:=hid Z7.out.1
   have BX7:=hid Z7.out.2
   rw [← hW7]
   clear hW7 hX3 hf6 hX6l HX6 HO6 HG6 O5 N5 B5 HSB HSI HAT0 HOW0 HKY0 Z7
   have BX:=hid (BX1.out.trans ((B13.out.mono (by omega)).trans BX7.out))
   by_cases h24 : 24<(n : Int)
   ·have R:=hid (N.out.trans (if_pos (by omega)))
    go_wp2_with fail
    go_ret2
    exact o5 R.out (by decide) BX.out HS7.out
   ·have R:=hid (N.out.trans (if_neg (by omega)))
    go_wp2_with fail
    go_ret2
    exact bB R.out BX.out rfl rfl HS7.out
  case true =>
   rw [hw] at hvw
   have hv : 0<v:=by simpa using hvw
   rw [hw] at N
   clear hvw
   go_upto_region 7 with fail
   obtain ⟨W3,hW3⟩ : ∃ V,V=W2.setCell ⟨tb,0,none⟩ (.int .i64 2):=⟨_,rfl⟩
   have B3:=hid (show Below tb W2 W3 from hW3 ▸ ((Below.refl tb W2).setCell (p:=⟨tb,0,none⟩) (Nat.le_refl _) _))
   have HX3:=hid (show W3.heap[tb]?=some (.cells #[.int .i64 2,.string A,.int .i64 0,.int .i64 a] 79 (0,0)) from hW3 ▸ l3 HX2.out 0 _)
   have hz3 : W3.heap.size=tb + 1:=by rw [hW3]; simp [World.setCell,hz2]
   have B13:=hid (show Below W1.heap.size W1 W3 from B2.out.trans (B3.out.mono (by omega)))
   rw [← hW3]
   clear hW3 hlook hv c0 f0 hX2 hX0 hX1 HX2
   have hat0 : W3.heap[X]?=some (.cells #[.string s,.int .i64 a,.map (some M),.slice ao ts.length cp,.pointer none] 109 (0,0)):=(B13.out.block X hXW1).trans HAT1.out
   have how0 : W3.ownsRow (X + 1) 79 4 (.slice ao ts.length cp) ts.length (l8 ts):=n7 HOW1.out B13.out
   have hXW : X<W3.heap.size:=by omega
   have HS3:=hid (HS1.out.below B13.out)
   have hMORE : ∀ v : World,(∀ b,b<W3.heap.size→(Value.slice ao ts.length cp).ownBlock≠some b→v.heap[b]?=W3.heap[b]?)→(v.cell? ⟨tb,0,none⟩=some (.int .i64 2)∧v.cell? ⟨tb,1,none⟩=some (.string A)∧v.cell? ⟨tb,2,none⟩=some (.int .i64 0)∧v.cell? ⟨tb,3,none⟩=some (.int .i64 a)):=fun v hv => by
    have h':=(hv tb (by omega) (fun e => by have:=HOB.out tb e; omega)).trans HX3.out
    refine ⟨?_,?_,?_,?_⟩ <;> simp [World.cell?,h']
   have HMORE:=hid hMORE
   have HZ3:=hid hz3
   clear hMORE HS2 HX3 B2 hz2 hz3 B3
   have HAT0:=hid hat0
   have HOW0:=hid how0
   have HKY0:=hid HS3.out.keys
   have HSI:=hid (show (W3.cell? ⟨X,3,none⟩=some (.slice ao ts.length cp)∧W3.cell? ⟨X,1,none⟩=some (.int .i64 a)∧W3.cell? ⟨X,0,none⟩=some (.string s))∧((W3.cell? ⟨tb,0,none⟩=some (.int .i64 2)∧W3.cell? ⟨tb,1,none⟩=some (.string A)∧W3.cell? ⟨tb,2,none⟩=some (.int .i64 0)∧W3.cell? ⟨tb,3,none⟩=some (.int .i64 a))) from ⟨⟨by simp [World.cell?,hat0],by simp [World.cell?,hat0],by simp [World.cell?,hat0]⟩,(HMORE.out W3 (fun _ _ _ => rfl))⟩)
   have HSB:=hid (show ∀ vv : World,(∀ b,b<W3.heap.size→(Value.slice ao ts.length cp).ownBlock≠some b→vv.heap[b]?=W3.heap[b]?)→vv.cell? ⟨X,3,none⟩=some (.slice ao ts.length cp)∧vv.cell? ⟨X,1,none⟩=some (.int .i64 a)∧vv.cell? ⟨X,0,none⟩=some (.string s)∧(vv.cell? ⟨tb,0,none⟩=some (.int .i64 2)∧vv.cell? ⟨tb,1,none⟩=some (.string A)∧vv.cell? ⟨tb,2,none⟩=some (.int .i64 0)∧vv.cell? ⟨tb,3,none⟩=some (.int .i64 a)) from fun vv hv => by
    have hX : ∀ i,vv.cell? ⟨X,i,none⟩=W3.cell? ⟨X,i,none⟩:=fun i => World.cell?_of_block (hv X hXW (fun e => by have:=(how0.lt X e).1; omega))
    exact ⟨(hX 3).trans HSI.out.1.1,(hX 1).trans HSI.out.1.2.1,(hX 0).trans HSI.out.1.2.2,HMORE.out vv hv⟩)
   clear hat0 how0
   refine e8 (S:=(fun cur : World => cur.cell? ⟨X,3,none⟩=some (.slice ao ts.length cp)∧cur.cell? ⟨X,1,none⟩=some (.int .i64 a)∧cur.cell? ⟨X,0,none⟩=some (.string s)∧(cur.cell? ⟨tb,0,none⟩=some (.int .i64 2)∧cur.cell? ⟨tb,1,none⟩=some (.string A)∧cur.cell? ⟨tb,2,none⟩=some (.int .i64 0)∧cur.cell? ⟨tb,3,none⟩=some (.int .i64 a)))) (z:=10) (by kernel_rfl) ?_ (fun hHeld => ?_)
   ·exact HSB.out W3.drew (fun b _ _ => rfl)
   refine b7.t 0 ?_; refine b7.t 1 ?_; refine b7.t 2 ?_; refine b7.t 3 ?_; refine b7.t 4 ?_; refine b7.t 5 ?_
   refine b7.nx 6 fun K hK => ?_
   go_simp
   obtain ⟨W5,hW5⟩ : ∃ V,V=(W3.alloc (.cells #[.int .i64 2,.string A,.int .i64 0,.int .i64 a] 79)).drew:=⟨_,rfl⟩
   have B5:=hid (show Below W3.heap.size W3 W5 from hW5 ▸ z8 (c6 _ _))
   have hz5 : W5.heap.size=W3.heap.size + 1:=by rw [hW5]; show (W3.alloc _).heap.size=_; simp
   have N5:=hid (show ∀ j u,(n9 (⟨2,A.data.toList,0,a⟩ : Tk))[j]?=some u→W5.cell? ((⟨W3.heap.size,0,none⟩ : Addr).add j)=some u from hW5 ▸ x7 W3 _ _ _ _ _)
   have O5:=hid (show W5.ownsRow (X + 1) 79 4 (.slice ao ts.length cp) ts.length (l8 ts) from n7 HOW0.out B5.out)
   rw [← hW5]
   clear hW5
   refine hK.out _ _ ?_ (fun hHeld => ?_)
   ·exact HSB.out W5 (fun b hb _ => B5.out.block b hb)
   clear hK K
   try simp only [Act.put,c9,f8,f7]
   refine b7.nx 7 fun K hK => ?_
   refine step_append_lies _ rfl _ _ 70 rfl (X + 1) 79 i0 (.agg #[.int .i64 0,.string ⟨#[]⟩,.int .i64 0,.int .i64 0]) 4 40 Tryz.underlying70 HI0.out.1 HI0.out.2.1 HI0.out.2.2.1 HI0.out.2.2.2 rfl (by decide) _ _ _ rfl O5.out ⟨W3.heap.size,0,none⟩ 1 1 (n9 (⟨2,A.data.toList,0,a⟩ : Tk)) rfl rfl N5.out (bU _) (by decide) (by unfold maxLen; omega) (by omega) (by omega) _ rfl ?_
   intro gb cap' w6 hown' hgrow' hat' hltg
   have HG6:=hid hgrow'
   have HO6:=hid hown'
   have HX6:=hid (show w6.heap[X]?=some (.cells #[.string s,.int .i64 a,.map (some M),.slice ao ts.length cp,.pointer none] 109 (0,0)) from (hgrow'.block X (by omega) (fun e => by have:=(HOW0.out.lt X e.symm).1; omega)).trans ((B5.out.block X hXW).trans HAT0.out))
   clear hown' hgrow' hat' hltg
   refine hK.out _ _ ?_ (fun hHeld => ?_)
   ·exact HSB.out w6 (fun b hb hne => (HG6.out.block b (by omega) (fun e => hne e.symm)).trans (B5.out.block b hb))
   clear hK K
   try simp only [Act.put,c9,f8,f7]
   refine b7.nx 8 fun K hK => ?_
   go_simp
   refine hK.out _ _ ?_ (fun hHeld => ?_)
   ·exact hHeld
   clear hK K
   try simp only [Act.put,c9,f8,f7]
   refine b7.nx 9 fun K hK => ?_
   go_simp
   refine hK.out _ _ ?_ (fun hHeld => ?_)
   ·exact hHeld
   clear hK K
   try simp only [Act.put,c9,f8,f7]
   have hX3 : w6.cell? ⟨X,3,none⟩=some (.slice ao ts.length cp):=by simp [World.cell?,HX6.out]
   have hf6 : w6.frozen? ⟨X,3,none⟩=false:=by simp [World.frozen?,HX6.out]
   have hX6l : X<w6.heap.size:=(Array.getElem?_eq_some_iff.1 HX6.out).1
   refine b7.la fun K hK => ?_
   go_simp
   refine hK.out _ _ ?_
   clear hK K hHeld
   obtain ⟨W7,hW7⟩ : ∃ V,V=w6.setCell ⟨X,3,none⟩ (.slice (some ⟨gb,0,none⟩) (ts.length + 1) cap'):=⟨_,rfl⟩
   have Z7:=hid (show SC X M s a (ts ++ [(⟨2,A.data.toList,0,a⟩ : Tk)]) W7∧Below X W3 W7 from hW7 ▸ U8 hMX hXW HOW0.out HKY0.out B5.out HX6.out HO6.out HG6.out)
   have HS7:=hid Z7.out.1
   have BX7:=hid Z7.out.2
   rw [← hW7]
   clear hW7 hX3 hf6 hX6l HX6 HO6 HG6 O5 N5 B5 HSB HSI HAT0 HOW0 HKY0 Z7
   have BX:=hid (BX1.out.trans ((B13.out.mono (by omega)).trans BX7.out))
   by_cases h24 : 24<(n : Int)
   ·have R:=hid (N.out.trans (if_pos (by omega)))
    go_wp2_with fail
    go_ret2
    exact o5 R.out (by decide) BX.out HS7.out
   ·have R:=hid (N.out.trans (if_neg (by omega)))
    go_wp2_with fail
    go_ret2
    exact bB R.out BX.out rfl rfl HS7.out
 have q1 : ((c.toNat : Int) != 46)=false:=by rw [h46]; rfl
 have e46 : c=46:=UInt8.toNat_inj.1 (Int.ofNat.inj h46)
 replace N:=hid (N.out.trans (if_pos e46))
 replace C3:=hid (C3.out W1 HS1.out.sb)
 have hltn : a + n<s.size:=HLT.out (by rw [e46]; decide)
 have hlm : a + n + 1 + m≤s.size:=by omega
 clear h46 e46 HLT
 go_upto_region 12 with (first | ((with_reducible refine Calls.mono C2.out ?_); rintro e w1 ⟨rfl,hw⟩; rw [← hw]; clear hw w1) | ((with_reducible refine Calls.mono C3.out ?_); rintro e w1 ⟨rfl,hw⟩; rw [← hw]; clear hw w1))
 clear C2 C3
 go_quiet (fail)
 rw [← HB.out]
 obtain ⟨W2,hW2⟩ : ∃ W,W=W1.drewN nq:=⟨_,rfl⟩
 have HS2:=hid (show SC X M s a ts W2 from hW2 ▸ HS1.out.below (Go.Proofs.YtibiccacafjjfaaGreatDoor.v6 W1 nq))
 have BX2:=hid (show Below X W1 W2 from hW2 ▸ ((Go.Proofs.YtibiccacafjjfaaGreatDoor.v6 W1 nq).mono (Nat.le_of_lt HS1.out.lt.2)))
 rw [← hW2]
 clear hW2 hX0 hX1 HS1 HB
 have hs1 : ¬ 9223372036854775807<A.size + 1:=by omega
 have hs2 : ¬ 9223372036854775807<A.size + 1 + B.size:=by omega
 go_upto_region 13 with fail
 obtain ⟨hMX,hXW⟩:=HS2.out.lt
 obtain ⟨ao,cp,hat0,how0⟩:=HS2.out.ex
 have HAT0:=hid hat0
 have HOW0:=hid how0
 have HKY0:=hid HS2.out.keys
 have HSI:=hid (show (W2.cell? ⟨X,3,none⟩=some (.slice ao ts.length cp)∧W2.cell? ⟨X,1,none⟩=some (.int .i64 a)∧W2.cell? ⟨X,0,none⟩=some (.string s))∧True from ⟨⟨by simp [World.cell?,hat0],by simp [World.cell?,hat0],by simp [World.cell?,hat0]⟩,trivial⟩)
 have HSB:=hid (show ∀ vv : World,(∀ b,b<W2.heap.size→(Value.slice ao ts.length cp).ownBlock≠some b→vv.heap[b]?=W2.heap[b]?)→vv.cell? ⟨X,3,none⟩=some (.slice ao ts.length cp)∧vv.cell? ⟨X,1,none⟩=some (.int .i64 a)∧vv.cell? ⟨X,0,none⟩=some (.string s) from fun vv hv => by
  have hX : ∀ i,vv.cell? ⟨X,i,none⟩=W2.cell? ⟨X,i,none⟩:=fun i => World.cell?_of_block (hv X hXW (fun e => by have:=(how0.lt X e).1; omega))
  exact ⟨(hX 3).trans HSI.out.1.1,(hX 1).trans HSI.out.1.2.1,(hX 0).trans HSI.out.1.2.2⟩)
 clear hat0 how0
 refine e8 (S:=(fun cur : World => cur.cell? ⟨X,3,none⟩=some (.slice ao ts.length cp)∧cur.cell? ⟨X,1,none⟩=some (.int .i64 a)∧cur.cell? ⟨X,0,none⟩=some (.string s))) (z:=18) (by kernel_rfl) ?_ (fun hHeld => ?_)
 ·exact HSB.out W2.drew (fun b _ _ => rfl)
 refine b7.t 0 ?_; refine b7.t 1 ?_; refine b7.t 2 ?_; refine b7.t 3 ?_; refine b7.t 4 ?_; refine b7.t 5 ?_; refine b7.t 6 ?_; refine b7.t 7 ?_; refine b7.t 8 ?_; refine b7.t 9 ?_; refine b7.t 10 ?_; refine b7.t 11 ?_; refine b7.t 12 ?_; refine b7.t 13 ?_
 refine b7.nx 14 fun K hK => ?_
 go_simp
 obtain ⟨W5,hW5⟩ : ∃ V,V=(W2.alloc (.cells #[.int .i64 3,.string (A ++ ⟨#[46]⟩ ++ B),.int .i64 0,.int .i64 a] 79)).drew:=⟨_,rfl⟩
 have B5:=hid (show Below W2.heap.size W2 W5 from hW5 ▸ z8 (c6 _ _))
 have hz5 : W5.heap.size=W2.heap.size + 1:=by rw [hW5]; show (W2.alloc _).heap.size=_; simp
 have N5:=hid (show ∀ j u,(n9 (⟨3,(A ++ ⟨#[46]⟩ ++ B).data.toList,0,a⟩ : Tk))[j]?=some u→W5.cell? ((⟨W2.heap.size,0,none⟩ : Addr).add j)=some u from hW5 ▸ x7 W2 _ _ _ _ _)
 have O5:=hid (show W5.ownsRow (X + 1) 79 4 (.slice ao ts.length cp) ts.length (l8 ts) from n7 HOW0.out B5.out)
 rw [← hW5]
 clear hW5
 refine hK.out _ _ ?_ (fun hHeld => ?_)
 ·exact HSB.out W5 (fun b hb _ => B5.out.block b hb)
 clear hK K
 try simp only [Act.put,c9,f8,f7]
 refine b7.nx 15 fun K hK => ?_
 refine step_append_lies _ rfl _ _ 70 rfl (X + 1) 79 i0 (.agg #[.int .i64 0,.string ⟨#[]⟩,.int .i64 0,.int .i64 0]) 4 40 Tryz.underlying70 HI0.out.1 HI0.out.2.1 HI0.out.2.2.1 HI0.out.2.2.2 rfl (by decide) _ _ _ rfl O5.out ⟨W2.heap.size,0,none⟩ 1 1 (n9 (⟨3,(A ++ ⟨#[46]⟩ ++ B).data.toList,0,a⟩ : Tk)) rfl rfl N5.out (bU _) (by decide) (by unfold maxLen; omega) (by omega) (by omega) _ rfl ?_
 intro gb cap' w6 hown' hgrow' hat' hltg
 have HG6:=hid hgrow'
 have HO6:=hid hown'
 have HX6:=hid (show w6.heap[X]?=some (.cells #[.string s,.int .i64 a,.map (some M),.slice ao ts.length cp,.pointer none] 109 (0,0)) from (hgrow'.block X (by omega) (fun e => by have:=(HOW0.out.lt X e.symm).1; omega)).trans ((B5.out.block X hXW).trans HAT0.out))
 clear hown' hgrow' hat' hltg
 refine hK.out _ _ ?_ (fun hHeld => ?_)
 ·exact HSB.out w6 (fun b hb hne => (HG6.out.block b (by omega) (fun e => hne e.symm)).trans (B5.out.block b hb))
 clear hK K
 try simp only [Act.put,c9,f8,f7]
 refine b7.nx 16 fun K hK => ?_
 go_simp
 refine hK.out _ _ ?_ (fun hHeld => ?_)
 ·exact hHeld
 clear hK K
 try simp only [Act.put,c9,f8,f7]
 refine b7.nx 17 fun K hK => ?_
 go_simp
 refine hK.out _ _ ?_ (fun hHeld => ?_)
 ·exact hHeld
 clear hK K
 try simp only [Act.put,c9,f8,f7]
 have hX3 : w6.cell? ⟨X,3,none⟩=some (.slice ao ts.length cp):=by simp [World.cell?,HX6.out]
 have hf6 : w6.frozen? ⟨X,3,none⟩=false:=by simp [World.frozen?,HX6.out]
 have hX6l : X<w6.heap.size:=(Array.getElem?_eq_some_iff.1 HX6.out).1
 refine b7.la fun K hK => ?_
 go_simp
 refine hK.out _ _ ?_
 clear hK K hHeld
 obtain ⟨W7,hW7⟩ : ∃ V,V=w6.setCell ⟨X,3,none⟩ (.slice (some ⟨gb,0,none⟩) (ts.length + 1) cap'):=⟨_,rfl⟩
 have Z7:=hid (show SC X M s a (ts ++ [(⟨3,(A ++ ⟨#[46]⟩ ++ B).data.toList,0,a⟩ : Tk)]) W7∧Below X W2 W7 from hW7 ▸ U8 hMX hXW HOW0.out HKY0.out B5.out HX6.out HO6.out HG6.out)
 have HS7:=hid Z7.out.1
 have BX7:=hid Z7.out.2
 rw [← hW7]
 clear hW7 hX3 hf6 hX6l HX6 HO6 HG6 O5 N5 B5 HSB HSI HAT0 HOW0 HKY0 Z7
 have BX:=hid (BX1.out.trans (BX2.out.trans BX7.out))
 clear BX1 BX2 BX7 hs1 hs2 HS2 hXW hz5
 obtain ⟨hX0,hX1⟩:=HS7.out.sb
 have hX2 : W7.cell? ⟨X,2,none⟩=some (.map (some M)):=by obtain ⟨_,_,g,-⟩:=HS7.out.ex; simp [World.cell?,g]
 obtain ⟨v,hl1,hv1⟩:=HS7.out.keys.look A hAs
 obtain ⟨u,hl2,hv2⟩:=HS7.out.keys.look B hBs
 by_cases h1 : 24<(n : Int)
 ·have R:=hid (N.out.trans (if_pos (.inl (by omega))))
  clear hv1 hv2
  go_wp2_with fail
  go_ret2
  exact o5 R.out (by decide) BX.out HS7.out
 by_cases h2 : (m : Int)<1
 ·have R:=hid (N.out.trans (if_pos (.inr (.inl (by omega)))))
  clear hv1 hv2
  go_wp2_with fail
  go_ret2
  exact o5 R.out (by decide) BX.out HS7.out
 by_cases h3 : 24<(m : Int)
 ·have R:=hid (N.out.trans (if_pos (.inr (.inr (.inl (by omega))))))
  clear hv1 hv2
  go_wp2_with fail
  go_ret2
  exact o5 R.out (by decide) BX.out HS7.out
 cases hw : F0 A.data.toList
 case true =>
  have R:=hid (N.out.trans (if_pos (.inr (.inr (.inr (.inl hw))))))
  rw [hw] at hv1
  have hv : 0<v:=by simpa using hv1
  clear hv1 hv2 hw
  go_wp2_with fail
  go_ret2
  exact o5 R.out (by decide) BX.out HS7.out
 cases hw2 : F0 B.data.toList
 case true =>
  have R:=hid (N.out.trans (if_pos (.inr (.inr (.inr (.inr hw2))))))
  rw [hw] at hv1
  rw [hw2] at hv2
  have hv : ¬ 0<v:=by simpa using hv1
  have hu : 0<u:=by simpa using hv2
  clear hv1 hv2 hw hw2
  go_wp2_with fail
  go_ret2
  exact o5 R.out (by decide) BX.out HS7.out
 have R:=hid (N.out.trans (if_neg (by rw [hw,hw2]; simp; omega)))
 rw [hw] at hv1
 rw [hw2] at hv2
 have hv : ¬ 0<v:=by simpa using hv1
 have hu : ¬ 0<u:=by simpa using hv2
 clear hv1 hv2 hw hw2
 go_wp2_with fail
 go_ret2
 exact bB R.out BX.out (by omega) (by simp only [ByteArray.data_append,Array.toList_append]; simp) HS7.out
end
end Go.Proofs.YtibiccacafjjfaaGreatDoor
