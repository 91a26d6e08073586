/-
  Laws that the proof rests on.
-/
import Derived.Test.YtibiccacafjjfaaGreatDoorR19
import Derived.Maps.Own
import Derived.Maps.OwnOps
import Derived.Maps.Views
import Derived.StringKeys
import Derived.Test.YtibiccacafjjfaaGreatDoorR28
import Derived.Test.YtibiccacafjjfaaGreatDoorR21
import Derived.Test.YtibiccacafjjfaaGreatDoorR07
import Derived.Test.YtibiccacafjjfaaGreatDoorR03
namespace Go.Proofs.YtibiccacafjjfaaGreatDoor
set_option maxRecDepth 100000
set_option maxHeartbeats 16000000
section
open Lib (hid)
open Go.RowKit Go.Shelf Go.Maps Go.WideMaps
def iZ (w : World) : Prop:=Lib.TabIs Tryz.prog w "strings.asciiSpace" .u8 Lib.asciiSpaceTab
theorem iZ.below {w w' : World} (h : iZ w) (hb : Below w.heap.size w w') : iZ w':=by
 have hg : Tryz.prog.globalNamed "strings.asciiSpace"=some 0:=by kernel_rfl
 unfold iZ Lib.TabIs World.var? at *
 rw [hg] at h ⊢
 simp only [Option.bind_some] at h ⊢
 have hlt : 0<w.heap.size:=by
  rcases Nat.lt_or_ge 0 w.heap.size with h' | h'
  ·exact h'
  ·rw [Array.getElem?_eq_none h'] at h; cases h
 rw [hb.block _ hlt]
 exact h
def a7y : ByteArray:=⟨#[109,111,100,117,108,101,32,105,109,112,111,114,116,32,108,101,116,32,105,102,32,116,104,101,110,32,101,108,115,101,32,97,110,100,32,111,114,32,110,111,116,32,116,114,117,101,32,102,97,108,115,101,32,102,101,101,100,32,112,105,99,107]⟩
theorem xW : Lib.fields a7y.data.toList=n8:=by decide +kernel
theorem a2T : ∀ (j : Nat) b,a7y.data.toList[j]?=some b→b.toNat<128:=ascii_of_all (by decide)
theorem xP (w : World) (ht : iZ w) : Calls Tryz.prog 115 #[.string ⟨#[109,111,100,117,108,101,32,105,109,112,111,114,116,32,108,101,116,32,105,102,32,116,104,101,110,32,101,108,115,101,32,97,110,100,32,111,114,32,110,111,116,32,116,114,117,101,32,102,97,108,115,101,32,102,101,101,100,32,112,105,99,107]⟩] w fun e w' => e=.returned (.slice (some ⟨w.heap.size,0,none⟩) 13 13)∧w'=w.alloc (.cells (n8.map jY).toArray 9):=by
 refine (Tryz.strings_Fields a7y w (by decide) a2T ht).mono ?_
 rintro e w' ⟨rfl,rfl⟩
 rw [xW]
 exact ⟨rfl,rfl⟩
def wD : Nat→DataW Unit
 | 0 => .map []
 | k + 1 => (wD k).put (.string (n8.getD k [])) (.lit (.int .i64 (k + 1)))
theorem a43 : ∀ k,IsMap (wD k)
 | 0 => isMap_empty
 | k + 1 => (a43 k).put _ _
theorem a62 (l : List UInt8) : ∀ k,k≤13→∃ c : Int,(wD k).atKey (.string l) (.lit (.int .i64 0))=.lit (.int .i64 c)∧0≤c∧(0<c↔l∈n8.take k)
 | 0,_ => ⟨0,rfl,Int.le_refl _,by simp⟩
 | k + 1,hk => by
   obtain ⟨c,h1,h2,h3⟩:=a62 l k (by omega)
   have hlt : k<n8.length:=by show k<13; omega
   have et : n8.take (k + 1)=n8.take k ++ [n8.getD k []]:=by
    rw [List.take_succ_eq_append_getElem hlt,List.getD_eq_getElem?_getD,List.getElem?_eq_getElem hlt]; rfl
   by_cases e : l=n8.getD k []
   ·refine ⟨k + 1,?_,by omega,?_⟩
    ·rw [wD,← e]; exact atKey_put_same (a43 k) (by trivial) _ _
    ·rw [et]
     constructor
     ·intro _; rw [e]; exact List.mem_append_right _ (List.mem_singleton_self _)
     ·intro _; omega
   ·refine ⟨c,?_,h2,?_⟩
    ·rw [wD,atKey_put_other (fun h => e (by cases h; rfl))]; exact h1
    ·rw [h3,et,List.mem_append,List.mem_singleton]
     exact ⟨.inl,fun h => h.resolve_right e⟩
theorem a6C (l : List UInt8) {c : Int} (h : (wD 13).atKey (.string l) (.lit (.int .i64 0))=.lit (.int .i64 c)) : 0<c↔F0 l=true:=by
 obtain ⟨d,h1,-,h3⟩:=a62 l 13 (Nat.le_refl _)
 rw [h1] at h
 cases h
 rw [h3]
 unfold F0
 rw [List.contains_iff_mem]
 exact Iff.rfl
theorem a3R : Keyed Tryz.prog 9:=string_keyed Tryz.underlying9
theorem a7S (w : World) : (zeroValue 3).run Tryz.prog w=.ok (.int .i64 0) w:=by kernel_rfl
def cQ (M k : Nat) (W : World) : Prop:=W.ownsMap Tryz.prog 9 (plainElem Tryz.prog 3) M k (wD k)
theorem cQ.below {M k B : Nat} {W W' : World} (h : cQ M k W) (hb : Below B W W') (hM : M<B) : cQ M k W':=by
 obtain ⟨es,clock,h1,h2,h3,h4⟩:=h
 exact ⟨es,clock,(hb.block M hM).trans h1,h2,h3,h4⟩
theorem cQ.look {M : Nat} {W : World} (h : cQ M 13 W) (s : ByteArray) (hs : s.size≤16384) : ∃ c : Int,(Instr.lookup 106 (.map (some M)) (.string s) false).run Tryz.prog W=.ok (.int .i64 c) W∧(decide (0<c)=F0 s.data.toList):=by
 obtain ⟨c,h1,h2,-⟩:=World.ownsMap.lookup_int h a3R Tryz.underlying106 Tryz.underlying3 (a7S W) (keyOf_string_mk Tryz.underlying9 (Nat.le_trans hs (by decide)))
 refine ⟨c,h1,?_⟩
 rw [Bool.eq_iff_iff,decide_eq_true_eq]
 exact a6C _ h2
theorem a1e (w : World) (ht : iZ w) : Calls Tryz.prog 83 #[] w fun e w' => e=.returned (.map (some w.heap.size))∧cQ w.heap.size 13 w'∧Below w.heap.size w w':=by
 have hmm:=@run_makeMap Tryz.prog
 obtain ⟨W1,hW1⟩ : ∃ W,W=w.alloc (.map #[] 0):=⟨_,rfl⟩
 have B1:=hid (show Below w.heap.size w W1 from hW1 ▸ c6 _ _)
 have K1:=hid (show cQ w.heap.size 0 W1 from hW1 ▸ World.ownsMap_made _ _ _ _)
 have hz1 : w.heap.size<W1.heap.size:=K1.out.lt
 have C:=hid (xP W1 (ht.below B1))
 clear ht
 go_enter Tryz.func83,Tryz.ntmps83
 go_upto_region 2 with fail
 rw [← hW1]
 clear hW1
 go_wp2_with fail
 (with_reducible refine Calls.mono C.out ?_)
 rintro e w2 ⟨rfl,hw2⟩
 have B2:=hid (show Below W1.heap.size W1 w2 from hw2 ▸ c6 _ _)
 have hc:=hid (show ∀ (k : Nat) (hk : k<n8.length),w2.cell? ⟨W1.heap.size,k,none⟩=some (jY n8[k]) from fun k hk => by rw [hw2]; exact xT W1 n8 _ k hk)
 have hz2 : W1.heap.size<w2.heap.size:=by rw [hw2]; simp
 have K2:=hid (K1.out.below B2 hz1)
 have HB:=hid (B1.out.trans (B2.out.mono (by omega)))
 generalize W1.heap.size=fb at hc hz2 hz1
 clear hw2 C K1 B1 B2 hmm
 go_wp2_with fail
 go_loopw [7] (fun i wr => ∃ k : Nat,k≤13∧i=.int .i64 k∧Hid (cQ w.heap.size k wr)∧Hid (Below w.heap.size w wr)∧fb<wr.heap.size∧Hid (∀ (k : Nat) (hk : k<n8.length),wr.cell? ⟨fb,k,none⟩=some (jY n8[k]))) (fun i _ => 13 - (intOf i).toNat)
 case atStart => exact ⟨0,by omega,rfl,K2,HB,hz2,hc⟩
 case round =>
  obtain ⟨k,hk,rfl,HK,HBr,hfb,HC⟩:=hrel
  by_cases hlt : k<13
  ·have c0:=HC.out k hlt
   have hw:=hid (show n8.getD k []=n8[k]'hlt by rw [List.getD_eq_getElem?_getD,List.getElem?_eq_getElem (show k<n8.length from hlt)]; rfl)
   have hwl : (n8[k]'hlt).length≤24:=by
    have : ∀ w∈n8,w.length≤24:=by decide
    exact this _ (List.getElem_mem _)
   generalize n8[k]'hlt=x at c0 hw hwl
   unfold jY at c0
   have hkey:=hid (show keyOf Tryz.prog 9 (.string ⟨x.toArray⟩)=some (.string x) from keyOf_string_mk Tryz.underlying9 (s:=⟨x.toArray⟩) (by show x.toArray.size≤maxLen; unfold maxLen; simp; omega))
   go_wp2_with (at_mapUpdate; refine wpList_mapUpdate_own _ rfl _ _ _ 106 rfl 9 3 a3R Tryz.underlying106 _ w.heap.size k _ rfl HK (by unfold maxLen; omega) _ _ _ rfl rfl hkey _ [] (plainElem_int Tryz.underlying3 (WalkArith.wf_i64 (by omega))) ?_; intro w5 hown5 hgrow5)
   go_roundw
   case rel =>
    refine ⟨k + 1,by omega,by go_num,?_,?_,Nat.lt_of_lt_of_le hfb hgrow5.size,fun j hj => ?_⟩
    ·show cQ w.heap.size (k + 1) w5
     unfold cQ
     rw [wD,hw.out]
     exact hown5
    ·exact HBr.out.trans ⟨hgrow5.os,hgrow5.tape,hgrow5.output,hgrow5.size,fun j hj => hgrow5.block j (by have:=HK.out.lt; omega) (fun e => by have:=Option.some.inj e; omega)⟩
    ·exact (World.cell?_of_block (hgrow5.block fb hfb (fun e => by have:=Option.some.inj e; omega))).trans (HC.out j hj)
   case measure => simp [intOf]; omega
  ·obtain rfl : k=13:=by omega
   go_wp2_with fail
   go_ret
   exact ⟨rfl,HK,HBr⟩
end
section
open Lib (hid)
open Go.RowKit
def a11 (r : Except (Int × Int) (List Tk)) (w : World) (e : Ending) (w' : World) : Prop :=
 Below w.heap.size w w'∧match r with
  | .ok ts => ∃ g cap,e=.returned (.tuple #[.slice (some ⟨g,0,none⟩) ts.length cap,.pointer none])∧w'.ownsRow w.heap.size 79 4 (.slice (some ⟨g,0,none⟩) ts.length cap) ts.length (l8 ts)
  | .error (c,p) => ∃ b,e=.returned (.tuple #[.slice none 0 0,.pointer (some ⟨b,0,none⟩)])∧w.heap.size≤b∧w'.heap[b]?=some (.cells #[.int .i64 p,.int .i64 c] 75 (0,0))
def nG (x : Except (Int × Int) Nd) (w : World) (e : Ending) (w' : World) : Prop :=
 ∃ (t : Nd) (a : Option Addr) (cp : Nat) (f k : Int),e=.returned (.tuple #[t.val a cp,.int .i64 f,.int .i64 k])∧Below w.heap.size w w'∧match x with
  | .ok u => u=t∧f=0∧k=0∧t.lies (Fr w.heap.size w'.heap.size) w' a cp
  | .error (c,p) => k=c∧f=p∧t=nd0∧a=none∧cp=0
def gX (rdr : List Tk→Rd) (l : List UInt8) : Except (Int × Int) Nd:=match p5 l with
 | .error e => .error e
 | .ok ts => wT (rdr ts)
section
variable {b P g cap cp n : Nat} {t : Nd} {a : Option Addr} {p k : Int} {ts : List Tk} {w W W' : World}
theorem Res3.lt (h : Res3 b t a cp p k W) : b + 2<W.heap.size:=(Array.getElem?_eq_some_iff.1 h.k).1
theorem Res3.grown (h : Res3 b t a cp p k W) (g : W.grownBy W' (some P)) (h0 : b + 2<P) : Res3 b t a cp p k W' :=
 ⟨h.n.grown g (by omega),(g.block _ (by have:=h.lt; omega) (fun e => by have:=Option.some.inj e; omega)).trans h.p,(g.block _ h.lt (fun e => by have:=Option.some.inj e; omega)).trans h.k⟩
theorem Res3.below (h : Res3 b t a cp p k W) (g : Below W.heap.size W W') : Res3 b t a cp p k W' :=
 ⟨h.n.below g,(g.block _ (by have:=h.lt; omega)).trans h.p,(g.block _ h.lt).trans h.k⟩
theorem Res3.put (h : Res3 b t a cp p k W) (t' : Nd) (a' : Option Addr) (cp' : Nat) : Res3 b t' a' cp' p k (Y2 W b t' a' cp'):=by
 have q : ∀ d,d≠b→(Y2 W b t' a' cp').heap[d]?=W.heap[d]?:=fun d hd =>
  (j7.put (av:=fun c => c=d) (j7.refl _ W) (fun c hc => hc ▸ hd) t' a' cp') d rfl
 exact ⟨h.n.put t' a' cp',(q _ (by omega)).trans h.p,(q _ (by omega)).trans h.k⟩
theorem Res3.setp (h : Res3 b t a cp p k W) (p' : Int) : Res3 b t a cp p' k (W.setCell ⟨b + 1,0,none⟩ (.int .i64 p')) :=
 ⟨h.n.set (by omega) _ _,l3 h.p 0 _,(Below.heap_setCell _ _ _ _ (show b + 2≠b + 1 by omega)).trans h.k⟩
theorem Res3.setk (h : Res3 b t a cp p k W) (k' : Int) : Res3 b t a cp p k' (W.setCell ⟨b + 2,0,none⟩ (.int .i64 k')) :=
 ⟨h.n.set (by omega) _ _,(Below.heap_setCell _ _ _ _ (show b + 1≠b + 2 by omega)).trans h.p,l3 h.k 0 _⟩
theorem Res3.drew (h : Res3 b t a cp p k W) : Res3 b t a cp p k W.drew:=h.below (z8 (Below.refl _ _))
theorem Res3.catch (h : Res3 b t a cp p k W) (p' k' : Int) : Res3 b nd0 none 0 p' k' (qV W b p' k') :=
 ((((h.below (c6 _ _)).put nd0 none 0).setp p').setk k').drew
theorem cH {r : Option Nat} (h : w.grownBy W r) {c : Nat} (hc : w.heap.size≤c) (v : Value) : w.grownBy (W.setCell ⟨c,0,none⟩ v) r :=
 ⟨h.os,h.tape,h.output,by have:=h.size; simpa [World.setCell] using this,fun d hd hn => (Below.heap_setCell _ _ _ _ (show d≠c by omega)).trans (h.block d hd hn)⟩
theorem xC {r : Option Nat} (h : w.grownBy W r) (hb : w.heap.size≤b) (p k : Int) : w.grownBy (qV W b p k) r:=by
 have h1 : w.grownBy (W.alloc (.cells #[.int .i64 p,.int .i64 k] 75)) r:=b6 h (b8 (c6 _ _))
 have h2:=s8 h1 hb nd0 none 0
 exact a61 (cH (cH h2 (by omega) _) (by omega) _)
theorem qZ {x : Except (Int × Int) Nd} (hx : x=.error (k,p)) (h : w.grownBy W (some P)) (hP : w.heap.size≤P) : nG x w (.returned (.tuple #[nd0.val none 0,.int .i64 p,.int .i64 k])) (qV W w.heap.size p k):=by
 subst hx
 exact ⟨nd0,none,0,p,k,rfl,O0 (xC h (Nat.le_refl _) p k) hP,rfl,rfl,rfl,rfl,rfl⟩
theorem a0x {x : Except (Int × Int) Nd} (hx : x=.error (k,p)) (h : Below w.heap.size w W) : nG x w (.returned (.tuple #[nd0.val none 0,.int .i64 p,.int .i64 k])) (((Y2 W w.heap.size nd0 none 0).setCell ⟨w.heap.size + 1,0,none⟩ (.int .i64 p)).setCell ⟨w.heap.size + 2,0,none⟩ (.int .i64 k)).drew:=by
 subst hx
 exact ⟨nd0,none,0,p,k,rfl,O0 (P:=w.heap.size) (a61 (cH (cH (s8 (b8 h) (Nat.le_refl _) nd0 none 0) (by omega) _) (by omega) _)) (Nat.le_refl _),rfl,rfl,rfl,rfl,rfl⟩
theorem a2h {x : Except (Int × Int) Nd} {W0 : World} (hx : x=.ok t) (h : w.grownBy W (some P)) (hP : w.heap.size≤P) (hW0 : w.heap.size + 3≤W0.heap.size) (hl : t.lies (Fr W0.heap.size W.heap.size) W a cp) :
 nG x w (.returned (.tuple #[t.val a cp,.int .i64 0,.int .i64 0])) (((Y2 (Y2 W w.heap.size t a cp) w.heap.size t a cp).setCell ⟨w.heap.size + 1,0,none⟩ (.int .i64 0)).setCell ⟨w.heap.size + 2,0,none⟩ (.int .i64 0)):=by
 subst hx
 have hk : j7 (fun c => w.heap.size + 3≤c) W (((Y2 (Y2 W w.heap.size t a cp) w.heap.size t a cp).setCell ⟨w.heap.size + 1,0,none⟩ (.int .i64 0)).setCell ⟨w.heap.size + 2,0,none⟩ (.int .i64 0)) :=
  ((((j7.refl _ W).put (fun c hc e => by omega) t a cp).put (fun c hc e => by omega) t a cp).set (fun c hc e => by omega) _ _).set (fun c hc e => by omega) _ _
 refine ⟨t,a,cp,0,0,rfl,O0 (cH (cH (s8 (s8 h (Nat.le_refl _) t a cp) (Nat.le_refl _) t a cp) (by omega) _) (by omega) _) hP,rfl,rfl,rfl,?_⟩
 refine d5 hl (fun c hc => hk c (by have:=hc.1; omega)) fun c hc => ⟨by have:=hc.1; omega,?_⟩
 have:=hc.2
 simpa [World.setCell,Q9] using this
theorem oB (h : Res3 b t a cp p k W) {tmps : Array Value} (h4 : tmps[4]?.getD undef=.pointer (some ⟨b,0,none⟩)) (h5 : tmps[5]?.getD undef=.pointer (some ⟨b + 1,0,none⟩)) (h6 : tmps[6]?.getD undef=.pointer (some ⟨b + 2,0,none⟩)) :
 (results Tryz.f23 tmps).run Tryz.prog W=.ok (.tuple #[t.val a cp,.int .i64 p,.int .i64 k]) W:=by
 obtain ⟨⟨z0,z1,z2,z3,z4⟩,-⟩:=h.n.cells
 have hp:=h.p
 have hk:=h.k
 have hp0 : W.cell? ⟨b + 1,0,none⟩=some (.int .i64 p):=by simp [World.cell?,hp]
 have hk0 : W.cell? ⟨b + 2,0,none⟩=some (.int .i64 k):=by simp [World.cell?,hk]
 clear hp hk h
 simp [results,Tryz.results23,go_sem,Nd.val,h4,h5,h6,z0,z1,z2,z3,z4,hp0,hk0]
theorem PQ.make {base : Nat} {T : TypeId} (h : w.ownsRow base T 4 (.slice (some ⟨g,0,none⟩) ts.length cap) ts.length (l8 ts)) (hne : ts≠[]) :
 SQ w.heap.size g cap ts 0 ts (w.alloc (.cells #[.slice (some ⟨g,0,none⟩) ts.length cap,.int .i64 0] 77)):=by
 have hg:=h.lt g rfl
 have hb:=c6 w (.cells #[.slice (some ⟨g,0,none⟩) ts.length cap,.int .i64 0] 77)
 refine ⟨0,rfl,⟨by show (w.heap.push _)[w.heap.size]?=_; simp,(wB.of_row h).below hb hg.2,by omega,Nat.lt_of_lt_of_le hg.2 hb.size,?_,?_,List.length_pos_iff.2 hne⟩⟩
 ·rcases h.2 with ⟨e,-⟩ | ⟨g',cap2,cur,e,-,-,h1,-⟩
  ·cases e
  ·cases e; exact h1
 ·rcases h.2 with ⟨e,-⟩ | ⟨g',cap2,cur,e,-,-,-,h1,-⟩
  ·cases e
  ·cases e; exact h1
end
theorem a5U {Pr : Program} {c : Code} {Q : Exit→Act→World→Prop} {a : Act} {w : World} (h : c.wp Pr (fun e a w => e=.normal∧Q .normal a w) a w) : c.wp Pr Q a w :=
 fun b k cs => let ⟨e,a',w',q,r⟩:=h b k cs; ⟨e,a',w',q.1 ▸ q.2,r⟩
theorem uP (F : Nat) (rdr : List Tk→Rd) (hE : ∀ args w,(callFunc F args).run Tryz.prog w=.ok (.enter F args) w) (hF : ∀ P g cap ts w,y6 ts→(∀ t∈ts,z7 t)→SQ P g cap ts 0 ts w→Calls Tryz.prog F #[.pointer (some ⟨P,0,none⟩)] w (NQ P g cap ts (rdr ts) w))
 (hS : ∀ (s : ByteArray) (w : World),s.size≤maxLen→iZ w→Calls Tryz.prog 45 #[.string s] w (a11 (p5 s.data.toList) w)) (s : ByteArray) (w : World) (hs : s.size≤maxLen) (ht : iZ w) :
 Calls Tryz.prog 23 #[.string s,.func (.func F) #[] #[]] w (nG (gX rdr s.data.toList) w):=by
 obtain ⟨W1,hW1⟩ : ∃ W,W=w.alloc (.cells #[.int .i64 0,.string ⟨#[]⟩,.int .i64 0,.slice none 0 0,.int .i64 0] 24):=⟨_,rfl⟩
 obtain ⟨W2,hW2⟩ : ∃ W,W=W1.alloc (.cells #[.int .i64 0] 3):=⟨_,rfl⟩
 obtain ⟨W3,hW3⟩ : ∃ W,W=W2.alloc (.cells #[.int .i64 0] 27):=⟨_,rfl⟩
 have hz1 : W1.heap.size=w.heap.size + 1:=by rw [hW1]; simp
 have hz2 : W2.heap.size=w.heap.size + 2:=by rw [hW2]; simp [hz1]
 have hz3 : W3.heap.size=w.heap.size + 3:=by rw [hW3]; simp [hz2]
 have HZ:=hid (show W1.heap.size=w.heap.size + 1∧W2.heap.size=w.heap.size + 2∧W3.heap.size=w.heap.size + 3 from ⟨hz1,hz2,hz3⟩)
 have b1 : Below w.heap.size w W1:=hW1 ▸ c6 _ _
 have b2 : Below W1.heap.size W1 W2:=hW2 ▸ c6 _ _
 have b3 : Below W2.heap.size W2 W3:=hW3 ▸ c6 _ _
 have E3:=hid (show Below w.heap.size w W3 from b1.trans ((b2.trans (b3.mono b2.size)).mono b1.size))
 have R3:=hid (show Res3 w.heap.size nd0 none 0 0 0 W3 from ⟨((show f6 w.heap.size nd0 none 0 W1 from hW1 ▸ f6.make w nd0 none 0).below b2).below b3,
  (b3.block (w.heap.size + 1) (by omega)).trans (by rw [hW2]; show (W1.heap.push _)[w.heap.size + 1]?=_; rw [← hz1]; simp),by rw [hW3]; show (W2.heap.push _)[w.heap.size + 2]?=_; rw [← hz2]; simp⟩)
 obtain ⟨X,hX⟩ : ∃ X,X=gX rdr s.data.toList:=⟨_,rfl⟩
 rw [← hX]
 have C1:=hid (hS s W3 hs (ht.below E3))
 unfold gX at hX
 generalize hsc : p5 s.data.toList=x at C1 hX
 have HX:=hid hX
 have HSC:=hid hsc
 have HF:=hid hF
 clear hX hsc hs hS ht hF b1 b2 b3 hz1 hz2 hz3
 have hmf : ∀ (fn : Fn) (first cap : Array Value) (w : World),(Instr.makeFunc fn first cap).run Tryz.prog w=.ok (.func fn first cap) w:=fun _ _ _ _ => rfl
 go_enter_defers Tryz.func23,Tryz.ntmps23
 go_upto_region 1 with fail
 rw [← hW1,← hW2,← hW3]
 clear hW1 hW2 hW3
 rw [show w.heap.size + 1 + 1=w.heap.size + 2 from rfl]
 go_wp2_with fail
 (with_reducible refine Calls.mono C1.out ?_)
 intro e w4 hsp
 obtain ⟨hb,hsp⟩:=hsp
 have R4:=hid (R3.out.below hb)
 have HB4:=hid hb
 have E4:=hid (show Below w.heap.size w w4 from E3.out.trans (hb.mono E3.out.size))
 have hz4:=hid (show w.heap.size + 3≤w4.heap.size by have:=hb.size; have:=HZ.out.2.2; omega)
 clear hb C1
 cases x with
 | error q =>
   obtain ⟨c,p⟩:=q
   obtain ⟨fb,rfl,hfb,hcel⟩:=hsp
   have HXe:=hid (show X=.error (c,p) from HX)
   have hfl:=hid (show fb<w4.heap.size∧w.heap.size + 3≤fb by have:=(Array.getElem?_eq_some_iff.1 hcel).1; have:=HZ.out.2.2; omega)
   have q0 : w4.cell? ⟨fb,0,none⟩=some (.int .i64 p):=by simp [World.cell?,hcel]
   have q1 : w4.cell? ⟨fb,1,none⟩=some (.int .i64 c):=by simp [World.cell?,hcel]
   obtain ⟨⟨z0,z1,z2,z3,z4⟩,⟨f0,f1,f2,f3,f4⟩⟩:=R4.out.n.cells
   have hp:=R4.out.p
   have hk:=R4.out.k
   have hp0 : w4.cell? ⟨w.heap.size + 1,0,none⟩=some (.int .i64 0):=by simp [World.cell?,hp]
   have hk0 : w4.cell? ⟨w.heap.size + 2,0,none⟩=some (.int .i64 0):=by simp [World.cell?,hk]
   have fp0 : w4.frozen? ⟨w.heap.size + 1,0,none⟩=false:=by simp [World.frozen?,hp]
   have fk0 : w4.frozen? ⟨w.heap.size + 2,0,none⟩=false:=by simp [World.frozen?,hk]
   have hn0 : ¬ fb=w.heap.size:=by have:=hfl.out; omega
   have hn1 : ¬ fb=w.heap.size + 1:=by have:=hfl.out; omega
   have hn2 : ¬ fb=w.heap.size + 2:=by have:=hfl.out; omega
   clear hp hk hcel hfb HX HF hE
   go_upto_region 3 with fail
   refine a5U ?_
   refine dB (S:=(fun cur => cur.cell? ⟨fb,0,none⟩=some (.int .i64 p)∧cur.cell? ⟨fb,1,none⟩=some (.int .i64 c))) (Z:=[]) (by kernel_rfl) ?_ (fun hHeld => ?_)
   ·exact ⟨q0,q1⟩
   refine l6.take (i:=0) (v:=?_) (l5 rfl) (by kernel_rfl) (by kernel_rfl) (by kernel_rfl) (by kernel_rfl) (fun _ _ _ h => nomatch h.1) (Or.inl ⟨by rfl,?_⟩) (by assumption) ?_
   rotate_left
   ·(intro w hSw; (try dsimp only at hSw); obtain ⟨s0,s1⟩:=hSw; go_simp; try with_reducible rfl)
   try simp only [Act.put,c9,f8,f7]
   refine l6.take (i:=1) (v:=?_) (l5 rfl) (by kernel_rfl) (by kernel_rfl) (by kernel_rfl) (by kernel_rfl) (fun _ _ _ h => nomatch h.1) (Or.inl ⟨by rfl,?_⟩) (by assumption) ?_
   rotate_left
   ·(intro w hSw; (try dsimp only at hSw); obtain ⟨s0,s1⟩:=hSw; go_simp; try with_reducible rfl)
   try simp only [Act.put,c9,f8,f7]
   refine l6.take (i:=2) (v:=?_) (l5 rfl) (by kernel_rfl) (by kernel_rfl) (by kernel_rfl) (by kernel_rfl) (fun _ _ _ h => nomatch h.1) (Or.inl ⟨by rfl,?_⟩) (by assumption) ?_
   rotate_left
   ·(intro w hSw; (try dsimp only at hSw); obtain ⟨s0,s1⟩:=hSw; go_simp; try with_reducible rfl)
   try simp only [Act.put,c9,f8,f7]
   refine l6.take (i:=3) (v:=?_) (l5 rfl) (by kernel_rfl) (by kernel_rfl) (by kernel_rfl) (by kernel_rfl) (fun _ _ _ h => nomatch h.1) (Or.inl ⟨by rfl,?_⟩) (by assumption) ?_
   rotate_left
   ·(intro w hSw; (try dsimp only at hSw); obtain ⟨s0,s1⟩:=hSw; go_simp; try with_reducible rfl)
   try simp only [Act.put,c9,f8,f7]
   refine l6.take (i:=4) (v:=?_) (l5 rfl) (by kernel_rfl) (by kernel_rfl) (by kernel_rfl) (by kernel_rfl) (fun _ _ _ h => nomatch h.1) (Or.inl ⟨by rfl,?_⟩) (by assumption) ?_
   rotate_left
   ·(intro w hSw; (try dsimp only at hSw); obtain ⟨s0,s1⟩:=hSw; go_simp; try with_reducible rfl)
   try simp only [Act.put,c9,f8,f7]
   refine l6.take (i:=5) (v:=?_) (l5 rfl) (by kernel_rfl) (by kernel_rfl) (by kernel_rfl) (by kernel_rfl) (fun _ _ _ h => nomatch h.1) (Or.inl ⟨by rfl,?_⟩) (by assumption) ?_
   rotate_left
   ·(intro w hSw; (try dsimp only at hSw); obtain ⟨s0,s1⟩:=hSw; go_simp; try with_reducible rfl)
   try simp only [Act.put,c9,f8,f7]
   refine l6.take (i:=6) (v:=?_) (l5 rfl) (by kernel_rfl) (by kernel_rfl) (by kernel_rfl) (by kernel_rfl) (fun _ _ _ h => nomatch h.1) (Or.inl ⟨by rfl,?_⟩) (by assumption) ?_
   rotate_left
   ·(intro w hSw; (try dsimp only at hSw); obtain ⟨s0,s1⟩:=hSw; go_simp; try with_reducible rfl)
   try simp only [Act.put,c9,f8,f7]
   refine l6.take (i:=7) (v:=?_) (l5 rfl) (by kernel_rfl) (by kernel_rfl) (by kernel_rfl) (by kernel_rfl) (fun _ _ _ h => nomatch h.1) (Or.inl ⟨by rfl,?_⟩) (by assumption) ?_
   rotate_left
   ·(intro w hSw; (try dsimp only at hSw); obtain ⟨s0,s1⟩:=hSw; go_simp; try with_reducible rfl)
   try simp only [Act.put,c9,f8,f7]
   refine l6.take (i:=8) (v:=?_) (l5 rfl) (by kernel_rfl) (by kernel_rfl) (by kernel_rfl) (by kernel_rfl) (fun _ _ _ h => nomatch h.1) (Or.inl ⟨by rfl,?_⟩) (by assumption) ?_
   rotate_left
   ·(intro w hSw; (try dsimp only at hSw); obtain ⟨s0,s1⟩:=hSw; go_simp; try with_reducible rfl)
   try simp only [Act.put,c9,f8,f7]
   refine l6.next (i:=9) (by kernel_rfl) (l5 rfl) (fun K hK => ?_)
   go_simp
   refine hK.out _ _ ?_ (fun hHeld => ?_)
   ·exact ⟨by simp [World.cell?_setCell_other, *],by simp [World.cell?_setCell_other, *]⟩
   clear hK K
   try simp only [Act.put,c9,f8,f7]
   refine l6.next (i:=10) (by kernel_rfl) (l5 rfl) (fun K hK => ?_)
   go_simp
   refine hK.out _ _ ?_ (fun hHeld => ?_)
   ·exact ⟨by simp [World.cell?_setCell_other, *],by simp [World.cell?_setCell_other, *]⟩
   clear hK K
   try simp only [Act.put,c9,f8,f7]
   refine l6.next (i:=11) (by kernel_rfl) (l5 rfl) (fun K hK => ?_)
   go_simp
   refine hK.out _ _ ?_ (fun hHeld => ?_)
   ·exact ⟨by simp [World.cell?_setCell_other, *],by simp [World.cell?_setCell_other, *]⟩
   clear hK K
   try simp only [Act.put,c9,f8,f7]
   refine l6.done (by kernel_rfl) ⟨rfl,?_⟩ _
   go_wp2_with fail
   exact ⟨_,oB (((R4.out.put nd0 none 0).setp p).setk c).drew rfl rfl rfl,a0x HXe E4⟩
 | ok ts =>
   obtain ⟨g,cap,rfl,how⟩:=hsp
   obtain ⟨htk,htz,he,hne⟩:=pR HSC
   obtain ⟨W5,hW5⟩ : ∃ W,W=w4.alloc (.cells #[.slice (some ⟨g,0,none⟩) ts.length cap,.int .i64 0] 77):=⟨_,rfl⟩
   have S5:=hid (show SQ w4.heap.size g cap ts 0 ts W5 from hW5 ▸ PQ.make how hne)
   have B5:=hid (show Below w4.heap.size w4 W5 from hW5 ▸ c6 _ _)
   have R5:=hid (R4.out.below B5)
   have G5:=hid (show w.grownBy W5 (some w4.heap.size) from b8 (E4.out.trans (B5.out.mono E4.out.size)))
   have hz5:=hid (show w.heap.size + 3≤W5.heap.size from Nat.le_trans hz4 B5.out.size)
   have C6:=hid (HF.out w4.heap.size g cap ts W5 he htk S5)
   have HXe:=hid (show X=wT (rdr ts) from HX)
   generalize rdr ts=y at C6 HXe
   have hgw:=hid (show w.heap.size + 3≤g by have:=(how.lt g rfl).1; have:=HZ.out.2.2; omega)
   clear how htk htz he hne HX HSC HF
   go_upto_region 6 with fail
   rw [← hW5]
   clear hW5
   go_wp2_with fail
   (with_reducible refine Calls.mono C6.out ?_)
   intro e w6 hq
   cases y with
   | error q =>
     obtain ⟨k,p⟩:=q
     obtain ⟨rfl,hg⟩:=hq
     have R6:=R5.out.grown hg (by have:=hz4.out; omega)
     refine leaves_cons (f:=46) (args:=#[.pointer (some ⟨w.heap.size,0,none⟩),.pointer (some ⟨w.heap.size + 1,0,none⟩),.pointer (some ⟨w.heap.size + 2,0,none⟩)]) (by simp) (by simp [go_sem]) ?_
     refine (kS _ _ _ _ _ _ _ _ [] _ R6).mono ?_
     rintro e u' w'' ⟨rfl,rfl,rfl⟩
     exact ⟨_,oB (R6.catch p k) rfl rfl rfl,qZ HXe (b6 G5 hg) (by have:=hz4.out; omega)⟩
   | ok q =>
     obtain ⟨t,r⟩:=q
     obtain ⟨a,cp,rfl,hs,hg,hl⟩:=hq
     have R6:=hid (R5.out.grown hg (by have:=hz4.out; omega))
     have G6:=hid (b6 G5 hg)
     have S6:=hid hs
     have HL:=hid hl
     have hP:=hid (show w.heap.size + 3≤w4.heap.size from hz4)
     clear hs hg hl C6
     obtain ⟨⟨z0,z1,z2,z3,z4⟩,⟨f0,f1,f2,f3,f4⟩⟩:=R6.out.n.cells
     obtain ⟨W7,hW7⟩ : ∃ W,W=Y2 w6 w.heap.size t a cp:=⟨_,rfl⟩
     have R7:=hid (show Res3 w.heap.size t a cp 0 0 W7 from hW7 ▸ R6.out.put t a cp)
     have G7:=hid (show w.grownBy W7 (some w4.heap.size) from hW7 ▸ s8 G6 (Nat.le_refl _) t a cp)
     have hW7':=hW7
     unfold Y2 at hW7'
     have HW7:=hid hW7
     obtain ⟨aa,hr,hpq⟩:=S6.out
     have h7:=hpq.keeps (W':=W7) (fun c hc => hW7 ▸ (j7.refl (fun c => c=w4.heap.size∨c=g) w6).put (fun c hc e => by have:=hP.out; have:=hgw.out; rcases hc with rfl | rfl <;> omega) t a cp c hc) (by rw [hW7,Q9]; exact Nat.le_refl _)
     have hpos:=h7.pos
     have HR:=hid (show hd r=ts[aa] from hr ▸ O7 hpos)
     obtain ⟨⟨p0,p1⟩,-⟩:=h7.cells
     obtain ⟨t0,t1,t2,t3⟩:=h7.tok
     have hL : 0<ts.length - aa:=by omega
     generalize ts[aa]'hpos=T at t0 t1 t2 t3 HR
     generalize ts.length - aa=Ln at p0 hL
     generalize cap - aa=C2 at p0
     generalize aa * 4=off at p0 t0 t1 t2 t3
     clear hr hpq h7 hpos hW7
     unfold Nd.val
     go_upto_region 7 with fail
     rw [← hW7']
     clear hW7' z0 z1 z2 z3 z4 f0 f1 f2 f3 f4
     by_cases hk : T.kind=0
     ·have e0 : (T.kind != 0)=false:=by rw [hk]; rfl
      have HXo:=hid (show X=.ok t by rw [HXe.out]; show (if (hd r).kind=0 then _ else _)=_; rw [HR.out,if_pos hk])
      obtain ⟨⟨z0,z1,z2,z3,z4⟩,⟨f0,f1,f2,f3,f4⟩⟩:=R7.out.n.cells
      have hp:=R7.out.p
      have hk:=R7.out.k
      have hp0 : W7.cell? ⟨w.heap.size + 1,0,none⟩=some (.int .i64 0):=by simp [World.cell?,hp]
      have hk0 : W7.cell? ⟨w.heap.size + 2,0,none⟩=some (.int .i64 0):=by simp [World.cell?,hk]
      have fp0 : W7.frozen? ⟨w.heap.size + 1,0,none⟩=false:=by simp [World.frozen?,hp]
      have fk0 : W7.frozen? ⟨w.heap.size + 2,0,none⟩=false:=by simp [World.frozen?,hk]
      clear hp hk
      go_wp2_with fail
      refine leaves_cons (f:=46) (args:=#[.pointer (some ⟨w.heap.size,0,none⟩),.pointer (some ⟨w.heap.size + 1,0,none⟩),.pointer (some ⟨w.heap.size + 2,0,none⟩)]) (by simp) (by simp [go_sem]) ?_
      refine (wW _ _ _ _).mono ?_
      rintro e u' w'' ⟨rfl,rfl,rfl⟩
      refine ⟨_,oB (((R7.out.put t a cp).setp 0).setk 0) rfl rfl rfl,?_⟩
      rw [HW7.out]
      exact a2h HXo G6 (by have:=hP.out; omega) hz5 HL
     ·have e0 : (T.kind != 0)=true:=bne_iff_ne.2 hk
      have HXo:=hid (show X=.error (74,T.pos) by rw [HXe.out]; show (if (hd r).kind=0 then _ else _)=_; rw [HR.out,if_neg hk])
      have C8:=hid (aM w4.heap.size 74 T.pos W7)
      clear hk
      go_wp2_with fail
      (with_reducible refine Calls.mono C8.out ?_)
      rintro e w8 ⟨rfl,rfl⟩
      refine leaves_cons (f:=46) (args:=#[.pointer (some ⟨w.heap.size,0,none⟩),.pointer (some ⟨w.heap.size + 1,0,none⟩),.pointer (some ⟨w.heap.size + 2,0,none⟩)]) (by simp) (by simp [go_sem]) ?_
      refine (kS _ _ _ _ _ _ _ _ [] _ R7).mono ?_
      rintro e u' w'' ⟨rfl,rfl,rfl⟩
      exact ⟨_,oB (R7.out.catch T.pos 74) rfl rfl rfl,qZ HXo G7 (by have:=hP.out; omega)⟩
end
section
open Lib (hid)
open Go.RowKit
theorem tE {t : Nd} {a : Option Addr} {cp : Nat} {f k : Int} {x : Except (Int × Int) Nd} {w W1 W2 : World} (hx : match x with
 | .ok u => u=t∧f=0∧k=0∧t.lies (Fr W1.heap.size W2.heap.size) W2 a cp
 | .error (c,p) => k=c∧f=p∧t=nd0∧a=none∧cp=0) (hb : Below w.heap.size w W2) (hlt : w.heap.size < W1.heap.size) :
 nG x w (.returned (.tuple #[t.val a cp,.int .i64 f,.int .i64 k])) (Y2 W2 w.heap.size t a cp):=by
 refine ⟨t,a,cp,f,k,rfl,O0 (P:=w.heap.size) (s8 (b8 hb) (Nat.le_refl _) t a cp) (Nat.le_refl _),?_⟩
 match x,hx with
 | .ok u,hx =>
   refine ⟨hx.1,hx.2.1,hx.2.2.1,d5 hx.2.2.2 ((j7.refl _ _).put (fun k hk e => by have:=hk.1; omega) t a cp) fun k hk => ⟨by have:=hk.1; omega,?_⟩⟩
   rw [Q9]
   exact hk.2
 | .error (c,p),hx => exact hx
def wJ : Prop:=∀ (s : ByteArray) (w : World),s.size≤maxLen→iZ w→Calls Tryz.prog 45 #[.string s] w (a11 (p5 s.data.toList) w)
theorem a0I (args : Array Value) (w : World) : (callFunc 37 args).run Tryz.prog w=.ok (.enter 37 args) w:=by kernel_rfl
theorem a4q (l : List UInt8) : gW l=gX (rd .expr 0) l:=rfl
def cR (l : List UInt8) : Except (Int × Int) Nd:=gX nO l
theorem xE (hS : wJ) (s : ByteArray) (w : World) (hs : s.size≤maxLen) (ht : iZ w) :
 Calls Tryz.prog 14 #[.string s] w (nG (cR s.data.toList) w):=by
 obtain ⟨W2,hW2⟩ : ∃ W,W=w.alloc (.cells #[.int .i64 0,.string ⟨#[]⟩,.int .i64 0,.slice none 0 0,.int .i64 0] 24):=⟨_,rfl⟩
 have B2:=hid (show Below w.heap.size w W2 from hW2 ▸ c6 _ _)
 have Z2:=hid (show f6 w.heap.size nd0 none 0 W2 from hW2 ▸ f6.make w nd0 none 0)
 have C:=hid (uP 37 nO a0I (fun P g cap ts w he htk h => yP P g cap ts he htk ts w h) hS s W2 hs (ht.below B2))
 rw [show gX nO s.data.toList=cR s.data.toList from rfl] at C
 generalize cR s.data.toList=x at C
 clear hS ht
 go_enter Tryz.func14,Tryz.ntmps14
 go_upto_region 1 with fail
 rw [← hW2]
 clear hW2
 go_wp2_with fail
 (with_reducible refine Calls.mono C.out ?_)
 rintro e w3 ⟨t,a,cp,f,k,rfl,hb,hx⟩
 have HX:=hid hx
 have HBl:=hid (B2.out.trans (hb.mono B2.out.size))
 obtain ⟨⟨z0,z1,z2,z3,z4⟩,⟨f0,f1,f2,f3,f4⟩⟩:=(Z2.out.below hb).cells
 have hzl:=(Z2.out.below hb).lt
 clear hx hb C
 unfold Nd.val
 go_wp2_with fail
 refine bodyPost_ret (v:=.tuple #[t.val a cp,.int .i64 f,.int .i64 k]) (by simp [results,Tryz.results14,go_sem,Nd.val,z0,z1,z2,z3,z4]) rfl ?_
 exact tE (W1:=W2) HX HBl Z2.out.lt
end
def tN (s : List UInt8) : Tk:=⟨1,s,0,0⟩
theorem zW {s rest : List UInt8} (h : p7 s=true) (hr : brk rest) : Sc s [tN s] rest:=by
 have hn : p8 s=true:=by unfold p7 at h; rw [Bool.and_eq_true] at h; exact h.1
 have:=vF hn hr
 rwa [if_neg (kE h)] at this
theorem nD {α : Type} (f : α→List UInt8) (g : α→List Tk) : ∀ (ks : List α) (rest : List UInt8),(∀ k∈ks,∀ r,brk r→Sc (f k) (g k) r)→Sc (aK (ks.map f) ++ [41]) (bE (ks.map g) ++ [tS m7]) rest
 | [],rest,_ => O6 (by decide) (fun e => by cases e)
 | k :: ks,rest,h => by
   show Sc (44 :: (32 :: (f k ++ aK (ks.map f))) ++ [41]) (([tS l0] ++ (g k ++ bE (ks.map g))) ++ [tS m7]) rest
   have hk:=h k (List.mem_cons_self ..)
   have hc:=nD f g ks rest fun k hk => h k (List.mem_cons_of_mem _ hk)
   rw [List.append_assoc,List.append_assoc,show 44 :: (32 :: (f k ++ aK (ks.map f))) ++ [41]=44 :: (32 :: (f k ++ (aK (ks.map f) ++ [41]))) by simp]
   refine Sc.cons (O6 (by decide) (fun e => by cases e)) (Sc.skip (by decide) (Sc.app (hk _ ?_) hc))
   cases ks with
   | nil => exact o3 rfl _
   | cons k ks => exact o3 (c:=44) rfl _
theorem a06 {α : Type} (f : α→List UInt8) (g : α→List Tk) {ks : List α} (hne : ks≠[]) (rest : List UInt8) (h : ∀ k∈ks,∀ r,brk r→Sc (f k) (g k) r) : Sc (bI (ks.map f)) (rW (ks.map g)) rest:=by
 cases ks with
 | nil => exact absurd rfl hne
 | cons k ks =>
   show Sc ([40] ++ f k ++ aK (ks.map f) ++ [41]) ([tS o7] ++ (g k ++ (bE (ks.map g) ++ [tS m7]))) rest
   rw [show [40] ++ f k ++ aK (ks.map f) ++ [41]=40 :: (f k ++ (aK (ks.map f) ++ [41])) by simp]
   refine Sc.cons (O6 (by decide) (fun e => by cases e)) (Sc.app (h k (List.mem_cons_self ..) _ ?_) (nD f g ks rest fun k hk => h k (List.mem_cons_of_mem _ hk)))
   cases ks with
   | nil => exact o3 rfl _
   | cons k ks => exact o3 (c:=44) rfl _
def uF (t : Nd) : List Tk:=[tW bA,tN t.text.data.toList,tS t8]
def a10 (t : Nd) : List Tk:=if t.kids.length=1 then [] else rW (t.kids.dropLast.map fun p => [tN p.text.data.toList])
def sR (t : Nd) : List Tk:=tW gT :: tN t.text.data.toList :: (a10 t ++ tS tEq :: (o0 (T3 t) ++ [tS t8]))
def qP (k : Nd) : List Tk:=if k.kind=2 then uF k else sR k
def a1z (t : Nd) : List Tk:=tW dT :: tN t.text.data.toList :: tS t8 :: t.kids.flatMap qP
theorem oH (rest : List UInt8) : Sc [59,10] [tS t8] rest:=Sc.cons (T:=[tS t8]) (U:=[]) (O6 (by decide) (fun e => by cases e)) (Sc.blank (by decide) rest)
theorem mA {w s : List UInt8} (hw : F0 w=true) (hw' : p8 w=true) (hs : p7 s=true) {b rest : List UInt8} {T : List Tk} (hb : brk (b ++ rest)) (h : Sc b T rest) : Sc (w ++ 32 :: (s ++ b)) (tW w :: tN s :: T) rest :=
 Sc.app (T:=[tW w]) (cV hw' hw (o3 rfl _)) (Sc.skip (by decide) (Sc.app (T:=[tN s]) (zW hs hb) h))
theorem a4G {t : Nd} (h : m6 2 t=true) (rest : List UInt8) : Sc (eK t) (uF t) rest:=by
 have:=mA (w:=bA) (s:=t.text.data.toList) (by decide) (by decide) (L9 h).1 (o3 rfl _) (oH rest)
 unfold eK
 rw [show [105,109,112,111,114,116,32] ++ t.text.data.toList ++ [59,10]=bA ++ 32 :: (t.text.data.toList ++ [59,10]) by simp [bA]]
 exact this
theorem a5t {t : Nd} (h : O9 t=true) (rest : List UInt8) : Sc (dR t) (sR t) rest:=by
 obtain ⟨h1,h2,h3,h4,h5⟩:=dV h
 have hF : Sc (d9 (T3 t) ++ [59,10]) (o0 (T3 t) ++ [tS t8]) rest:=Sc.app (a2i h5 _ (o3 rfl _)) (oH rest)
 have hE : Sc (32 :: 61 :: 32 :: (d9 (T3 t) ++ [59,10])) (tS tEq :: (o0 (T3 t) ++ [tS t8])) rest:=Sc.skip (by decide) (Sc.cons (T:=[tS tEq]) (O6 (by decide) (fun e => by cases e)) (Sc.skip (by decide) hF))
 have hP : Sc ((if t.kids.length=1 then [] else bI (t.kids.dropLast.map fun p => p.text.data.toList)) ++ 32 :: 61 :: 32 :: (d9 (T3 t) ++ [59,10])) (a10 t ++ tS tEq :: (o0 (T3 t) ++ [tS t8])) rest:=by
  unfold a10
  split
  ·exact hE
  ·refine Sc.app (a06 _ _ (fun e => ?_) _ fun p hp r hr => zW (L9 (h4 p hp)).1 hr) hE
   have:=congrArg List.length e
   rw [List.length_dropLast,List.length_nil] at this
   omega
 have hB : brk (((if t.kids.length=1 then [] else bI (t.kids.dropLast.map fun p => p.text.data.toList)) ++ 32 :: 61 :: 32 :: (d9 (T3 t) ++ [59,10])) ++ rest):=by
  split
  ·exact o3 rfl _
  ·cases t.kids.dropLast with
   | nil => exact o3 (c:=40) rfl _
   | cons k ks => exact o3 (c:=40) rfl _
 have:=mA (w:=gT) (by decide) (by decide) h1 hB hP
 unfold dR eM
 rw [show ∀ A B : List UInt8,[108,101,116,32] ++ t.text.data.toList ++ A ++ [32,61,32] ++ B ++ [59,10]=gT ++ 32 :: (t.text.data.toList ++ (A ++ 32 :: 61 :: 32 :: (B ++ [59,10]))) from fun A B => by simp [gT]]
 exact this
theorem uI : ∀ (ks : List Nd),(∀ k∈ks,(k.kind=2∧m6 2 k=true)∨(k.kind≠2∧O9 k=true))→∀ rest,Sc (ks.flatMap mL) (ks.flatMap qP) rest
 | [],_,rest => Sc.nil rest
 | k :: ks,h,rest => by
   rw [List.flatMap_cons,List.flatMap_cons]
   refine Sc.app ?_ (uI ks (fun k hk => h k (List.mem_cons_of_mem _ hk)) rest)
   rcases h k (List.mem_cons_self ..) with ⟨a,b⟩ | ⟨a,b⟩
   ·rw [zM a,qP,if_pos a]; exact a4G b _
   ·rw [zZ a,qP,if_neg a]; exact a5t b _
theorem rR {t : Nd} (h : I9 t=true) : ∀ k∈t.kids,(k.kind=2∧m6 2 k=true)∨(k.kind≠2∧O9 k=true):=fun k hk => by
 obtain ⟨j,hj,rfl⟩:=List.getElem_of_mem hk
 exact a1I h j hj
theorem a4w {t : Nd} (h : I9 t=true) (rest : List UInt8) : Sc (dG t) (a1z t) rest:=by
 have:=mA (w:=dT) (by decide) (by decide) (fE h).2.1 (o3 rfl _) (Sc.app (oH _) (uI t.kids (rR h) rest))
 rw [nX h]
 unfold U5
 rw [show [109,111,100,117,108,101,32] ++ t.text.data.toList ++ [59,10] ++ t.kids.flatMap mL=dT ++ 32 :: (t.text.data.toList ++ ([59,10] ++ t.kids.flatMap mL)) by simp [dT]]
 exact this
theorem a3Q {t : Nd} (h : I9 t=true) {l : List Tk} (hl : p5 (dG t)=.ok l) : ∃ e,Sp (a1z t) l [e]∧e.kind=0:=by
 unfold p5 at hl
 split at hl
 ·cases hl
 ·have:=a4w h [] 0 0 l (by rw [List.append_nil]; exact hl)
  obtain ⟨ts,l',rfl,e,p,k,hs⟩:=this
  replace hs : Except.ok [(⟨0,[],0,p⟩ : Tk)]=Except.ok (ε:=Int × Int) l':=hs
  cases hs
  exact ⟨⟨0,[],0,p⟩,⟨ts,rfl,e⟩,rfl⟩
theorem Sp.near {s : List UInt8} {T l x : List Tk} (h : Sp (tN s :: T) l x) : (Proofs.YtibiccacafjjfaaGreatDoor.hd l).kind=1∧(Proofs.YtibiccacafjjfaaGreatDoor.hd l).text=s∧Sp T (b9 l) x:=⟨h.head.1,h.head.2.1,h.head.2.2.2 (show (1 : Int)≠0 by decide)⟩
theorem rN {k p : Int} {u : Nd} {s : List UInt8} (h : m6 k u=true) (hs : s=u.text.data.toList) : o4 false (mkN k s 0 [] p)=o4 false u:=by
 obtain ⟨-,h2,h3,h4⟩:=L9 h
 exact I6 h2 hs.symm h3 (by rw [h4])
theorem kO : ∀ (ks acc : List Nd) (f : Nat),(∀ k∈ks,m6 4 k=true)→ks≠[]→ks.length≤f→∀ (l x : List Tk),Sp (qY (ks.map fun p => [tN p.text.data.toList])) l x →
 ∃ ts,F4 aT f acc l=.ok (mkN 0 [] 0 (acc ++ ts) 0,x)∧ts.map (o4 false)=ks.map (o4 false)
 | [],_,_,_,h,_,_,_,_ => absurd rfl h
 | [k],acc,0,_,_,h,_,_,_ => by simp at h
 | [k],acc,f + 1,ih,_,hlen,l,x,h => by
   obtain ⟨h1,h2,h3⟩:=Sp.near (T:=[tS m7]) h
   refine ⟨[mkN 4 (hd l).text 0 [] (hd l).pos],?_,by rw [List.map_cons,List.map_cons,rN (ih k (List.mem_cons_self ..)) h2]⟩
   rw [F4,aT,gP h1,s7,if_neg (by rw [Sp.sign h3]; decide),U6 h3,Sp.nil (Sp.signStep h3)]
 | k :: k' :: r,acc,0,_,_,h,_,_,_ => by simp at h
 | k :: k' :: r,acc,f + 1,ih,_,hlen,l,x,h => by
   obtain ⟨h1,h2,h3⟩:=Sp.near (T:=bE ((k' :: r).map fun p => [tN p.text.data.toList]) ++ [tS m7]) h
   have h3' : Sp (tS l0 :: qY ((k' :: r).map fun p => [tN p.text.data.toList])) (b9 l) x:=by
    have e : bE ((k' :: r).map fun p => [tN p.text.data.toList]) ++ [tS m7]=tS l0 :: qY ((k' :: r).map fun p => [tN p.text.data.toList]):=by
     rw [List.map_cons,bE,List.cons_append,List.append_assoc]; rfl
    rw [← e]; exact h3
   obtain ⟨ts,hts,hss⟩:=kO (k' :: r) (acc ++ [mkN 4 (hd l).text 0 [] (hd l).pos]) f (fun u hu => ih u (List.mem_cons_of_mem _ hu)) (by simp) (by simp at hlen ⊢; omega) _ x h3'.signStep
   refine ⟨mkN 4 (hd l).text 0 [] (hd l).pos :: ts,?_,by rw [List.map_cons,List.map_cons,rN (ih k (List.mem_cons_self ..)) h2,hss]⟩
   rw [F4,aT,gP h1,s7,if_pos (by rw [h3'.sign]; decide),hts,List.append_assoc]; rfl
theorem qC {t : Nd} (h : 1≤t.kids.length) : t.kids=t.kids.dropLast ++ [T3 t]:=by
 have hne : t.kids≠[]:=fun e => by rw [e] at h; simp at h
 unfold T3
 rw [List.getLastD_eq_getLast?,List.getLast?_eq_some_getLast hne]
 exact (List.dropLast_concat_getLast hne).symm
theorem a29 {t : Nd} (h : O9 t=true) {l x : List Tk} (hl : Sp (sR t) l x) : ∃ u,vW l=.ok (u,x)∧o4 false u=o4 false t:=by
 obtain ⟨h1,h2,h3,h4,h5⟩:=dV h
 have h6:=kV h
 have h7 : t.n=0:=by
  rw [iV] at h
  simp only [Bool.and_eq_true,beq_iff_eq] at h
  exact h.1.1.1.2
 have hl1:=hl.wordStep
 obtain ⟨a1,a2,a3⟩:=hl1.near
 obtain ⟨y,b1,b2⟩:=a3.app
 obtain ⟨z,c1,c2⟩:=b2.signStep.app
 obtain ⟨v,hv,hs⟩:=a0j h5 c1 (cK (by decide) c2)
 have hP : ∃ ps ts,V7 (b9 (b9 l))=.ok (ps,y)∧ps.kids=ts∧ts.map (o4 false)=t.kids.dropLast.map (o4 false):=by
  unfold a10 at b1
  split at b1
  ·rename_i e
   rw [b1.nil] at *
   refine ⟨mkN 0 [] 0 [] 0,[],by unfold V7; rw [if_neg (by rw [b2.sign]; decide)],rfl,?_⟩
   have : t.kids.dropLast=[]:=List.eq_nil_of_length_eq_zero (by rw [List.length_dropLast]; omega)
   rw [this]
  ·obtain ⟨ts,r,s⟩:=kO t.kids.dropLast [] 8 h4 (fun e => by have:=congrArg List.length e; rw [List.length_dropLast,List.length_nil] at this; omega) (by rw [List.length_dropLast]; omega) _ y b1.signStep
   exact ⟨_,ts,by unfold V7; rw [if_pos (by rw [b1.sign]; decide),r],rfl,s⟩
 obtain ⟨ps,ts,p1,rfl,p2⟩:=hP
 refine ⟨mkN 3 (hd (b9 l)).text 0 (ps.kids ++ [v]) (hd (b9 l)).pos,?_,I6 h6 a2.symm h7 ?_⟩
 ·unfold vW
  rw [iN hl,gP a1,p1,s7,U6 b2,hv,s7,U6 c2,c2.signStep.nil]
 ·rw [qC h2,List.map_append,List.map_append,p2,List.map_cons,List.map_cons,hs]
theorem jC : ∀ (ks acc : List Nd) (f : Nat) (l x : List Tk),(∀ k∈ks,m6 2 k=true)→ks.length≤f→Sp (ks.flatMap uF) l x→isT bA x=false →
 ∃ ts,q9 f acc l=.ok (mkN 0 [] 0 (acc ++ ts) 0,x)∧ts.map (o4 false)=ks.map (o4 false)
 | [],acc,f,l,x,_,_,h,hx => by
   rw [Sp.nil h]
   refine ⟨[],?_,rfl⟩
   cases f <;> rw [q9,if_neg (by rw [hx]; decide),List.append_nil]
 | k :: ks,acc,0,l,x,_,h,_,_ => by simp at h
 | k :: ks,acc,f + 1,l,x,hk,hlen,h,hx => by
   rw [List.flatMap_cons] at h
   have h1 : Sp (tW bA :: tN k.text.data.toList :: tS t8 :: ks.flatMap uF) l x:=h
   obtain ⟨a1,a2,a3⟩:=h1.wordStep.near
   obtain ⟨ts,r,s⟩:=jC ks (acc ++ [mkN 2 (hd (b9 l)).text 0 [] (hd (b9 l)).pos]) f _ x (fun u hu => hk u (List.mem_cons_of_mem _ hu)) (by simpa using hlen) a3.signStep hx
   refine ⟨mkN 2 (hd (b9 l)).text 0 [] (hd (b9 l)).pos :: ts,?_,by rw [List.map_cons,List.map_cons,s,rN (hk k (List.mem_cons_self ..)) a2]⟩
   rw [q9,if_pos (by rw [h1.word]; decide),gP a1,U6 a3,r,List.append_assoc]; rfl
theorem qD : ∀ (ks acc : List Nd) (f : Nat) (l x : List Tk),(∀ k∈ks,O9 k=true)→ks.length≤f→Sp (ks.flatMap sR) l x→isT gT x=false →
 ∃ ts,R9 f acc l=.ok (mkN 0 [] 0 (acc ++ ts) 0,x)∧ts.map (o4 false)=ks.map (o4 false)
 | [],acc,f,l,x,_,_,h,hx => by
   rw [Sp.nil h]
   refine ⟨[],?_,rfl⟩
   cases f <;> rw [R9,if_neg (by rw [hx]; decide),List.append_nil]
 | k :: ks,acc,0,l,x,_,h,_,_ => by simp at h
 | k :: ks,acc,f + 1,l,x,hk,hlen,h,hx => by
   rw [List.flatMap_cons] at h
   have hw : isT gT l=true:=by
    have h1 : Sp (tW gT :: _) l x:=h
    rw [h1.word]; decide
   obtain ⟨y,h1,h2⟩:=h.app
   obtain ⟨u,hu,su⟩:=a29 (hk k (List.mem_cons_self ..)) h1
   obtain ⟨ts,r,s⟩:=qD ks (acc ++ [u]) f _ x (fun u hu => hk u (List.mem_cons_of_mem _ hu)) (by simpa using hlen) h2 hx
   refine ⟨u :: ts,?_,by rw [List.map_cons,List.map_cons,s,su]⟩
   rw [R9,if_pos hw,hu,s7,r,List.append_assoc]; rfl
theorem jZ {α β : Type} {f g : α→List β} {l : List α} (h : ∀ a∈l,f a=g a) : l.flatMap f=l.flatMap g:=by
 rw [List.flatMap_def,List.flatMap_def,List.map_congr_left h]
theorem a3p {t : Nd} (h : I9 t=true) {l : List Tk} {e : Tk} (hl : Sp (a1z t) l [e]) (he : e.kind=0) : ∃ u,nO l=.ok (u,[e])∧o4 false u=o4 false t:=by
 have hp:=h
 unfold I9 at hp
 simp only [Bool.and_eq_true,beq_iff_eq,decide_eq_true_eq,List.all_eq_true] at hp
 obtain ⟨⟨⟨⟨k1,-⟩,k3⟩,-⟩,⟨k4,k5⟩,k6⟩:=hp
 have hI : ∀ k∈t.kids.take (v8 t.kids),m6 2 k=true:=fun k hk => by
  obtain ⟨i,hi,rfl⟩:=List.getElem_of_mem hk
  rw [List.length_take] at hi
  rw [List.getElem_take]
  exact dX (by omega) (by omega)
 have e0 : t.kids.flatMap qP=(t.kids.take (v8 t.kids)).flatMap uF ++ (t.kids.drop (v8 t.kids)).flatMap sR:=by
  rw [← jZ (f:=qP) (g:=uF) (fun k hk => if_pos (L9 (hI k hk)).2.1),← jZ (f:=qP) (g:=sR) (fun k hk => if_neg (by rw [kV (k6 k hk)]; decide)),← List.flatMap_append,List.take_append_drop]
 have hx : ∀ w,isT w [e]=false:=fun w => by unfold isT hd; simp [he]
 unfold a1z at hl
 rw [e0] at hl
 obtain ⟨a1,a2,a3⟩:=hl.wordStep.near
 obtain ⟨y,b1,b2⟩:=a3.signStep.app
 have hy : isT bA y=false:=by
  cases hd : t.kids.drop (v8 t.kids) with
  | nil => rw [hd] at b2; rw [Sp.nil b2]; exact hx _
  | cons k ks =>
    rw [hd,List.flatMap_cons] at b2
    have b3 : Sp (tW gT :: _) y [e]:=b2
    rw [b3.word]; decide
 obtain ⟨is,r1,s1⟩:=jC _ [] 100 _ y hI (by rw [List.length_take]; omega) b1 hy
 obtain ⟨ls,r2,s2⟩:=qD _ is 200 _ [e] k6 (by rw [List.length_drop]; exact k5) b2 (hx _)
 refine ⟨mkN 1 (hd (b9 l)).text 0 (is ++ ls) (hd l).pos,?_,I6 k1 a2.symm k3 (by rw [List.map_append,s1,s2,← List.map_append,List.take_append_drop])⟩
 unfold nO
 rw [iN hl,gP a1,U6 a3,r1,s7]
 show (R9 200 is y).then _=_
 rw [r2,s7]; rfl
theorem a4s {t : Nd} (h : I9 t=true) {l : List Tk} (hl : p5 (dG t)=.ok l) : ∃ u,cR (dG t)=.ok u∧bH u t=true:=by
 obtain ⟨e,hs,he⟩:=a3Q h hl
 obtain ⟨u,hr,hsu⟩:=a3p h hs he
 refine ⟨u,?_,(iK u t).2 hsu⟩
 unfold cR gX
 rw [hl]
 show wT (nO l)=_
 rw [hr]
 show (if e.kind=0 then Except.ok u else _)=_
 rw [if_pos he]
theorem bJ (b : Bool) (t : Nd) : (o4 b t).kids=t.kids.map (o4 b):=by cases t; rw [o4,← iU]; rfl
theorem mS (b : Bool) (k : Int) (t : Nd) : m6 k (o4 b t)=m6 k t:=by
 rw [kL,kL,bJ,List.length_map]; cases t; rw [o4]; rfl
theorem mR (b : Bool) {t : Nd} (h : 1≤t.kids.length) : T3 (o4 b t)=o4 b (T3 t):=by
 unfold T3
 rw [bJ,List.getLastD_eq_getLast?,List.getLastD_eq_getLast?,List.getLast?_map]
 cases e : t.kids.getLast? with
 | none => rw [List.getLast?_eq_none_iff] at e; rw [e] at h; simp at h
 | some a => rfl
theorem aL (b : Bool) (t : Nd) : (o4 b t).text=t.text∧(o4 b t).kind=t.kind∧(o4 b t).n=t.n:=by cases t; rw [o4]; exact ⟨rfl,rfl,rfl⟩
mutual
theorem uC : ∀ t : Nd,o4 false (o4 false t)=o4 false t
 | .mk k s n ks p => by rw [o4,o4,pE ks]; simp
theorem pE : ∀ ks : List Nd,y7 false (y7 false ks)=y7 false ks
 | [] => by rw [y7,y7]
 | k :: ks => by rw [y7,y7,uC k,pE ks]
end
theorem zY (b : Bool) (t : Nd) : d9 (o4 b t)=d9 t:=tB _ _ ((iK _ _).2 (by cases b with
 | true => rw [sV]
 | false => exact uC t))
theorem a1n (b : Bool) (t : Nd) : O9 (o4 b t)=O9 t:=by
 obtain ⟨e1,e2,e3⟩:=aL b t
 rw [iV,iV,e1,e2,e3,bJ,List.length_map,← List.map_dropLast,List.all_map]
 rw [show (m6 4 ∘ o4 b)=m6 4 from funext fun p => mS b 4 p]
 by_cases h : 1≤t.kids.length
 ·rw [mR b h,tV]
 ·rw [decide_eq_false h]; simp
theorem xG (b : Bool) {t : Nd} (h : 1≤t.kids.length) : dR (o4 b t)=dR t:=by
 obtain ⟨e1,e2,e3⟩:=aL b t
 unfold dR eM
 rw [e1,bJ,List.length_map,mR b h,zY,← List.map_dropLast,List.map_map]
 rw [show (fun p : Nd => p.text.data.toList) ∘ o4 b=fun p => p.text.data.toList from funext fun p => by show (o4 b p).text.data.toList=_; rw [(aL b p).1]]
theorem zI (b : Bool) (ks : List Nd) : v8 (ks.map (o4 b))=v8 ks:=by
 unfold v8
 rw [List.takeWhile_map,List.length_map,show (m6 2 ∘ o4 b)=m6 2 from funext fun p => mS b 2 p]
theorem vB (b : Bool) (t : Nd) : z6 (o4 b t)=z6 t:=by rw [fJ,fJ,sO]
theorem jR (b : Bool) (t : Nd) : I9 (o4 b t)=I9 t:=by
 obtain ⟨e1,e2,e3⟩:=aL b t
 unfold I9
 rw [e1,e2,e3,vB,bJ,zI,List.length_map,← List.map_drop,List.all_map]
 rw [show (O9 ∘ o4 b)=O9 from funext fun p => a1n b p]
theorem mV (b : Bool) {t : Nd} (h : I9 t=true) : dG (o4 b t)=dG t:=by
 rw [nX h,nX ((jR b t).trans h)]
 unfold U5
 rw [(aL b t).1,bJ,List.flatMap_map]
 refine congrArg _ (jZ fun k hk => ?_)
 unfold mL
 rw [(aL b k).2.1]
 rcases rR h k hk with ⟨a,c⟩ | ⟨a,c⟩
 ·rw [if_pos a,if_pos a]; unfold eK; rw [(aL b k).1]
 ·rw [if_neg a,if_neg a,xG b (dV c).2.1]
theorem yO {a b : Nd} (h : bH a b=true) : I9 a=I9 b:=by
 rw [← jR false a,← jR false b,(iK a b).1 h]
theorem a3E {a b : Nd} (h : bH a b=true) (hb : I9 b=true) : dG a=dG b:=by
 rw [← mV false ((yO h).trans hb),← mV false hb,(iK a b).1 h]
theorem a4R {t : Nd} (h : I9 t=true) {l : List Tk} (hl : p5 (dG t)=.ok l) : ∃ u,cR (dG t)=.ok u∧bH u t=true∧I9 u=true∧dG u=dG t:=by
 obtain ⟨u,hu,hs⟩:=a4s h hl
 exact ⟨u,hu,hs,(yO hs).trans h,a3E hs h⟩
end Go.Proofs.YtibiccacafjjfaaGreatDoor
