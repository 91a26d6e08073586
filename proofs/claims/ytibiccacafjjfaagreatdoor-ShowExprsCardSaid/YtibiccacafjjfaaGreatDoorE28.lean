/-
  Laws that the proof rests on.
-/
import Derived.Test.YtibiccacafjjfaaGreatDoorE27
import Derived.Test.YtibiccacafjjfaaGreatDoorE02
import Derived.Test.YtibiccacafjjfaaGreatDoorE22
import Derived.Recover
import Derived.Test.YtibiccacafjjfaaGreatDoorE20
import Derived.Maps.Own
import Derived.Maps.OwnOps
import Derived.Maps.Views
import Derived.StringKeys
namespace Go.Proofs.YtibiccacafjjfaaGreatDoor
set_option maxRecDepth 100000
set_option maxHeartbeats 16000000
section
open Go.RowKit
theorem a1t (P g cap : Nat) (ts : List Tk) (he : s7 ts) (htk : ∀ t∈ts,z6 t) (l : List Tk) (hE : ∀ r,r.length<l.length→CQ 25 .expr P g cap ts r) : CQ 210 .atom P g cap ts l:=by
 intro nest w hn h
 rw [r5]
 by_cases h6 : (hd l).kind=6
 ·rw [show nR rd .atom nest l=.ok (mkN 5 [] (hd l).n [] (hd l).pos,c6 l) from if_pos h6]
  exact a0S P g cap ts he htk nest l w h h6
 by_cases h5 : (hd l).kind=5
 ·rw [show nR rd .atom nest l=.ok (mkN 6 [] (hd l).n [] (hd l).pos,c6 l) from (if_neg h6).trans (if_pos h5)]
  exact a0K P g cap ts he htk nest l w h h5
 by_cases h4 : (hd l).kind=4
 ·rw [show nR rd .atom nest l=.ok (mkN 7 (hd l).text 0 [] (hd l).pos,c6 l) from (if_neg h6).trans ((if_neg h5).trans (if_pos h4))]
  exact a0B P g cap ts he htk nest l w h h4
 by_cases h1 : (hd l).kind=1∨(hd l).kind=3
 ·rw [show nR rd .atom nest l=qS nest l from (if_neg h6).trans ((if_neg h5).trans ((if_neg h4).trans (if_pos h1)))]
  exact xC P g cap ts he htk nest l w h hn h1 hE
 have hN : (hd l).kind≠6∧(hd l).kind≠5∧(hd l).kind≠4∧(hd l).kind≠1∧(hd l).kind≠3:=⟨h6,h5,h4,fun e => h1 (.inl e),fun e => h1 (.inr e)⟩
 have q : ∀ {y : Rd} {x : Rd},y=x→Calls Tryz.prog 210 #[.pointer (some ⟨P,0,none⟩)] w (QP P g cap ts nest x w)→Calls Tryz.prog 210 #[.pointer (some ⟨P,0,none⟩)] w (QP P g cap ts nest y w):=fun e c => e ▸ c
 have base : ∀ {x : Rd},(if isT Y2 l=true then .ok (mkN 8 [] 1 [] (hd l).pos,c6 l) else if isT J8 l=true then .ok (mkN 8 [] 0 [] (hd l).pos,c6 l)
  else if isT aI l=true then U4 7 (c6 l) fun s r => .ok (mkN 9 s.text 0 [] (hd l).pos,r)
  else if isT aG l=true then U4 7 (c6 l) fun s r => f7 o3 r fun r => (rd .expr nest r).then fun a r => f7 i8 r fun r => (rd .expr nest r).then fun b r => f7 i8 r fun r => (rd .expr nest r).then fun c r => f7 m5 r fun r => made (mkN 15 s.text 0 [a,b,c] (hd l).pos) r
  else if isT o3 l=true then (rd .expr nest (c6 l)).then fun x r => f7 m5 r fun r => .ok (x,r)
  else .error (74,(hd l).pos) : Rd)=x→nR rd .atom nest l=x:=fun e => (if_neg h6).trans ((if_neg h5).trans ((if_neg h4).trans ((if_neg h1).trans e)))
 cases hT : isT Y2 l
 case true => exact q (base (by rw [hT,if_pos rfl])) (vJ P g cap ts he htk nest l w h hN hT)
 cases hF : isT J8 l
 case true => exact q (base (by rw [hT,if_neg (by decide),hF,if_pos rfl])) (uY P g cap ts he htk nest l w h hN hT hF)
 cases hD : isT aI l
 case true => exact q (base (by rw [hT,if_neg (by decide),hF,if_neg (by decide),hD,if_pos rfl])) (yB P g cap ts he htk nest l w h hN hT hF hD)
 cases hK : isT aG l
 case true => exact q (base (by rw [hT,if_neg (by decide),hF,if_neg (by decide),hD,if_neg (by decide),hK,if_pos rfl])) (wM P g cap ts he htk nest l w h hN hT hF hD hn hK hE)
 cases hO : isT o3 l
 case true => exact q (base (by rw [hT,if_neg (by decide),hF,if_neg (by decide),hD,if_neg (by decide),hK,if_neg (by decide),hO,if_pos rfl])) (tU P g cap ts he htk nest l w h hN hT hF hD hK hn hO hE)
 exact q (base (by rw [hT,if_neg (by decide),hF,if_neg (by decide),hD,if_neg (by decide),hK,if_neg (by decide),hO,if_neg (by decide)])) (yA P g cap ts he htk nest l w h hN hT hF hD hK hO)
structure AllQ (P g cap : Nat) (ts l : List Tk) : Prop where
 e : CQ 25 .expr P g cap ts l
 o : CQ 51 (.chain 0) P g cap ts l
 a : CQ 88 (.chain 1) P g cap ts l
 n : CQ 124 .not P g cap ts l
 s : CQ 153 (.chain 2) P g cap ts l
 p : CQ 181 (.chain 3) P g cap ts l
 u : CQ 197 .unary P g cap ts l
theorem uS (P g cap : Nat) (ts : List Tk) (he : s7 ts) (htk : ∀ t∈ts,z6 t) : ∀ (N : Nat) (l : List Tk),l.length<N→AllQ P g cap ts l
 | 0,l,h => absurd h (Nat.not_lt_zero _)
 | N + 1,l,h => by
   have ih : ∀ r,r.length<N→AllQ P g cap ts r:=fun r hr => uS P g cap ts he htk N r hr
   have hA : ∀ l : List Tk,l.length≤N→CQ 210 .atom P g cap ts l:=fun l hl => a1t P g cap ts he htk l fun r hr => (ih r (by omega)).e
   have hU : ∀ l : List Tk,l.length≤N→CQ 197 .unary P g cap ts l:=fun l hl => wP P g cap ts he htk l (hA l hl) fun ht => (ih _ (by have:=n7 ht; omega)).u
   have hP : ∀ l : List Tk,l.length≤N→CQ 181 (.chain 3) P g cap ts l:=fun l hl => a0n P g cap ts he htk l fun r hr => hU r (by omega)
   have hS : ∀ l : List Tk,l.length≤N→CQ 153 (.chain 2) P g cap ts l:=fun l hl => a2I P g cap ts he htk l fun r hr => hP r (by omega)
   have hN : ∀ l : List Tk,l.length≤N→CQ 124 .not P g cap ts l:=fun l hl => a1T P g cap ts he htk l (fun r hr => hS r (by omega)) fun ht => (ih _ (by have:=n7 ht; omega)).n
   have hD : ∀ l : List Tk,l.length≤N→CQ 88 (.chain 1) P g cap ts l:=fun l hl => a11 P g cap ts he htk l fun r hr => hN r (by omega)
   have hO : ∀ l : List Tk,l.length≤N→CQ 51 (.chain 0) P g cap ts l:=fun l hl => a4J P g cap ts he htk l fun r hr => hD r (by omega)
   have hl : l.length≤N:=by omega
   exact ⟨a0h P g cap ts he htk l (hO l hl) fun r hr => (ih r (by omega)).e,hO l hl,hD l hl,hN l hl,hS l hl,hP l hl,hU l hl⟩
theorem a0D (P g cap : Nat) (ts : List Tk) (he : s7 ts) (htk : ∀ t∈ts,z6 t) (l : List Tk) : CQ 25 .expr P g cap ts l:=(uS P g cap ts he htk _ l (Nat.lt_succ_self _)).e
end
section
open Go.RowKit
theorem a12 {W W' : World} {B T k g n cap : Nat} {xs : List Value} (h : W.ownsRow B T k (.slice (some ⟨g,0,none⟩) n cap) n xs) (hg : W'.heap[g]?=W.heap[g]?) : W'.ownsRow B T k (.slice (some ⟨g,0,none⟩) n cap) n xs:=by
 obtain ⟨h1,h2⟩:=h
 refine ⟨h1,.inr ?_⟩
 rcases h2 with ⟨e,-⟩ | ⟨g',cap',cur,e,hb,hg',r⟩
 ·obtain ⟨e,-⟩:=Value.slice.inj e; cases e
 ·obtain ⟨e1,-,e2⟩:=Value.slice.inj e
  cases e1; subst e2
  exact ⟨g,cap,cur,rfl,hb,hg.trans hg',r⟩
end
section
open Go.RowKit
def NQ (P g cap : Nat) (ts : List Tk) (x : Rd) (w : World) (e : Ending) (w' : World) : Prop:=match x with
 | .ok (t,r) => ∃ (a : Option Addr) (cp : Nat),e=.returned (t.val a cp)∧SQ P g cap ts 0 r w'∧w.grownBy w' (some P)∧t.lies (Fr w.heap.size w'.heap.size) w' a cp
 | .error (k,p) => e=flt k p∧w.grownBy w' (some P)
theorem a3s (t : Nd) (a : Option Addr) (c : Nat) (w : World) : (Instr.field 50 (.agg #[.int .i64 t.kind,.string t.text,.int .i64 t.n,.slice a t.kids.length c,.int .i64 t.place,.int .i64 (c8 t)]) 0).run Tryz.prog w=.ok (.agg #[.int .i64 t.kind,.string t.text,.int .i64 t.n,.slice a t.kids.length c,.int .i64 t.place]) w:=by kernel_rfl
end
section
open Lib (hid)
open Go.RowKit
structure Res3 (b : Nat) (t : Nd) (a : Option Addr) (cp : Nat) (p k : Int) (W : World) : Prop where
 n : e9 b t a cp W
 p : W.heap[b + 1]?=some (.cells #[.int .i64 p] 3 (0,0))
 k : W.heap[b + 2]?=some (.cells #[.int .i64 k] 27 (0,0))
theorem sO (x y z : Value) (w : World) :
 CallsD Tryz.prog 46 #[x,y,z] .returning w fun e u' w' => e=.returned (.tuple #[])∧u'=.returning∧w'=w:=by
 refine callsD_of_wpS Tryz.func46 rfl fun c₀ cs hu => ?_
 apply wpS_seq
 apply wpS_region
 simp [wpOpsS,go_sem,recoverD,hu,Tryz.ntmps46,Exit.thenS]
 refine wpS_of_wp ?_
 go_wp2_with fail
 cases c₀
 simp_all [bodyPostS,results,Tryz.results46]
def lT (w : World) (b : Nat) (p k : Int) : World:=(((L3 (w.alloc (.cells #[.int .i64 p,.int .i64 k] 75)) b nd0 none 0).setCell ⟨b + 1,0,none⟩ (.int .i64 p)).setCell ⟨b + 2,0,none⟩ (.int .i64 k)).drew
theorem iR (b : Nat) (t : Nd) (a : Option Addr) (cp : Nat) (p0 k0 p k : Int) (older : List PanicEntry) (w : World) (h : Res3 b t a cp p0 k0 w) :
 CallsD Tryz.prog 46 #[.pointer (some ⟨b,0,none⟩),.pointer (some ⟨b + 1,0,none⟩),.pointer (some ⟨b + 2,0,none⟩)] (.panicking ({ v:=.iface 75 (.agg #[.int .i64 p,.int .i64 k]),recovered:=false } :: older)) w fun e u' w' =>
  e=.returned (.tuple #[])∧u'=.panicking ({ v:=.iface 75 (.agg #[.int .i64 p,.int .i64 k]),recovered:=true } :: older)∧w'=lT w b p k:=by
 obtain ⟨W1,hW1⟩ : ∃ W,W=w.alloc (.cells #[.int .i64 p,.int .i64 k] 75):=⟨_,rfl⟩
 have E1 : Below w.heap.size w W1:=hW1 ▸ b9 _ _
 have N1 : e9 b t a cp W1:=h.n.below E1
 obtain ⟨⟨z0,z1,z2,z3,z4⟩,⟨f0,f1,f2,f3,f4⟩⟩:=N1.cells
 have hpl0 : b + 1<w.heap.size:=(Array.getElem?_eq_some_iff.1 h.p).1
 have hkl0 : b + 2<w.heap.size:=(Array.getElem?_eq_some_iff.1 h.k).1
 have hp : W1.heap[b + 1]?=some (.cells #[.int .i64 p0] 3 (0,0)):=(E1.block _ hpl0).trans h.p
 have hk : W1.heap[b + 2]?=some (.cells #[.int .i64 k0] 27 (0,0)):=(E1.block _ hkl0).trans h.k
 have hp0 : W1.cell? ⟨b + 1,0,none⟩=some (.int .i64 p0):=by simp [World.cell?,hp]
 have hk0 : W1.cell? ⟨b + 2,0,none⟩=some (.int .i64 k0):=by simp [World.cell?,hk]
 have fp0 : W1.frozen? ⟨b + 1,0,none⟩=false:=by simp [World.frozen?,hp]
 have fk0 : W1.frozen? ⟨b + 2,0,none⟩=false:=by simp [World.frozen?,hk]
 have hq : W1.heap[w.heap.size]?=some (.cells #[.int .i64 p,.int .i64 k] 75 (0,0)):=by rw [hW1]; show (w.heap.push _)[w.heap.size]?=_; simp
 have q0 : W1.cell? ⟨w.heap.size,0,none⟩=some (.int .i64 p):=by simp [World.cell?,hq]
 have q1 : W1.cell? ⟨w.heap.size,1,none⟩=some (.int .i64 k):=by simp [World.cell?,hq]
 have hne : ¬ w.heap.size=b∧¬ w.heap.size=b + 1∧¬ w.heap.size=b + 2:=by omega
 obtain ⟨hn0,hn1,hn2⟩:=hne
 refine callsD_of_wpS Tryz.func46 rfl fun c₀ cs hu => ?_
 apply wpS_seq
 apply wpS_region
 simp [wpOpsS,go_sem,recoverD,hu,Tryz.ntmps46,Exit.thenS]
 refine wpS_of_wp ?_
 rw [show (#[.pointer (some ⟨b,0,none⟩),.pointer (some ⟨b + 1,0,none⟩),.pointer (some ⟨b + 2,0,none⟩)] ++ (Array.replicate 14 undef).setIfInBounds 3 (.iface 75 (.agg #[.int .i64 p,.int .i64 k])) : Array Value)=#[.pointer (some ⟨b,0,none⟩),.pointer (some ⟨b + 1,0,none⟩),.pointer (some ⟨b + 2,0,none⟩),undef,undef,undef,.iface 75 (.agg #[.int .i64 p,.int .i64 k]),undef,undef,undef,undef,undef,undef,undef,undef,undef,undef] from rfl]
 clear hu hp hk h N1 E1 hq
 have hta : ∀ (v : Value) (w : World),(Instr.typeAssert (.iface 75 v) 20 75 true).run Tryz.prog w=.ok (.tuple #[v,.bool true]) w:=fun _ _ => by kernel_rfl
 go_upto_region 7 with fail
 rw [← hW1]
 have HW1:=hid hW1
 clear hW1
 refine kW (S:=(fun cur => cur.cell? ⟨w.heap.size,0,none⟩=some (.int .i64 p)∧cur.cell? ⟨w.heap.size,1,none⟩=some (.int .i64 k))) (Z:=[]) (by kernel_rfl) ?_ (fun hHeld => ?_)
 ·exact ⟨q0,q1⟩
 refine H8.take (i:=0) (v:=?_) (F5 rfl) (by kernel_rfl) (by kernel_rfl) (by kernel_rfl) (by kernel_rfl) (fun _ _ _ h => h) (Or.inl ⟨by rfl,?_⟩) (by assumption) ?_
 rotate_left
 ·(intro w hSw; (try dsimp only at hSw); obtain ⟨s0,s1⟩:=hSw; go_simp; try with_reducible rfl)
 try simp only [Act.put,d8,l0,l3]
 refine H8.take (i:=1) (v:=?_) (F5 rfl) (by kernel_rfl) (by kernel_rfl) (by kernel_rfl) (by kernel_rfl) (fun _ _ _ h => h) (Or.inl ⟨by rfl,?_⟩) (by assumption) ?_
 rotate_left
 ·(intro w hSw; (try dsimp only at hSw); obtain ⟨s0,s1⟩:=hSw; go_simp; try with_reducible rfl)
 try simp only [Act.put,d8,l0,l3]
 refine H8.take (i:=2) (v:=?_) (F5 rfl) (by kernel_rfl) (by kernel_rfl) (by kernel_rfl) (by kernel_rfl) (fun _ _ _ h => h) (Or.inl ⟨by rfl,?_⟩) (by assumption) ?_
 rotate_left
 ·(intro w hSw; (try dsimp only at hSw); obtain ⟨s0,s1⟩:=hSw; go_simp; try with_reducible rfl)
 try simp only [Act.put,d8,l0,l3]
 refine H8.take (i:=3) (v:=?_) (F5 rfl) (by kernel_rfl) (by kernel_rfl) (by kernel_rfl) (by kernel_rfl) (fun _ _ _ h => h) (Or.inl ⟨by rfl,?_⟩) (by assumption) ?_
 rotate_left
 ·(intro w hSw; (try dsimp only at hSw); obtain ⟨s0,s1⟩:=hSw; go_simp; try with_reducible rfl)
 try simp only [Act.put,d8,l0,l3]
 refine H8.take (i:=4) (v:=?_) (F5 rfl) (by kernel_rfl) (by kernel_rfl) (by kernel_rfl) (by kernel_rfl) (fun _ _ _ h => h) (Or.inl ⟨by rfl,?_⟩) (by assumption) ?_
 rotate_left
 ·(intro w hSw; (try dsimp only at hSw); obtain ⟨s0,s1⟩:=hSw; go_simp; try with_reducible rfl)
 try simp only [Act.put,d8,l0,l3]
 refine H8.next (i:=5) (by kernel_rfl) (F5 rfl) (fun K hK => ?_)
 go_simp
 refine hK.out _ _ ?_ (fun hHeld => ?_)
 ·exact ⟨by simp [World.cell?_setCell_other, *],by simp [World.cell?_setCell_other, *]⟩
 clear hK K
 try simp only [Act.put,d8,l0,l3]
 refine H8.next (i:=6) (by kernel_rfl) (F5 rfl) (fun K hK => ?_)
 go_simp
 refine hK.out _ _ ?_ (fun hHeld => ?_)
 ·exact ⟨by simp [World.cell?_setCell_other, *],by simp [World.cell?_setCell_other, *]⟩
 clear hK K
 try simp only [Act.put,d8,l0,l3]
 refine H8.next (i:=7) (by kernel_rfl) (F5 rfl) (fun K hK => ?_)
 go_simp
 refine hK.out _ _ ?_ (fun hHeld => ?_)
 ·exact ⟨by simp [World.cell?_setCell_other, *],by simp [World.cell?_setCell_other, *]⟩
 clear hK K
 try simp only [Act.put,d8,l0,l3]
 refine H8.done (by kernel_rfl) ?_ _
 exact ⟨rfl,_,rfl,.tuple #[],by simp [results,Tryz.results46,go_sem],rfl,rfl,by rw [lT,← HW1.out]; rfl⟩
end
section
open Lib (hid)
open Go.RowKit Go.Shelf Go.Maps Go.WideMaps
def gU (w : World) : Prop:=Lib.TabIs Tryz.prog w "strings.asciiSpace" .u8 Lib.asciiSpaceTab
theorem gU.below {w w' : World} (h : gU w) (hb : Below w.heap.size w w') : gU w':=by
 have hg : Tryz.prog.globalNamed "strings.asciiSpace"=some 0:=by kernel_rfl
 unfold gU Lib.TabIs World.var? at *
 rw [hg] at h ⊢
 simp only [Option.bind_some] at h ⊢
 have hlt : 0<w.heap.size:=by
  rcases Nat.lt_or_ge 0 w.heap.size with h' | h'
  ·exact h'
  ·rw [Array.getElem?_eq_none h'] at h; cases h
 rw [hb.block _ hlt]
 exact h
def a5k : ByteArray:=⟨#[109,111,100,117,108,101,32,105,109,112,111,114,116,32,108,101,116,32,105,102,32,116,104,101,110,32,101,108,115,101,32,97,110,100,32,111,114,32,110,111,116,32,116,114,117,101,32,102,97,108,115,101,32,102,101,101,100,32,112,105,99,107]⟩
theorem tT : Lib.fields a5k.data.toList=m7:=by decide +kernel
theorem a1E : ∀ (j : Nat) b,a5k.data.toList[j]?=some b→b.toNat<128:=ascii_of_all (by decide)
theorem sY (w : World) (ht : gU w) : Calls Tryz.prog 115 #[.string ⟨#[109,111,100,117,108,101,32,105,109,112,111,114,116,32,108,101,116,32,105,102,32,116,104,101,110,32,101,108,115,101,32,97,110,100,32,111,114,32,110,111,116,32,116,114,117,101,32,102,97,108,115,101,32,102,101,101,100,32,112,105,99,107]⟩] w fun e w' => e=.returned (.slice (some ⟨w.heap.size,0,none⟩) 13 13)∧w'=w.alloc (.cells (m7.map Y9).toArray 9):=by
 refine (Tryz.strings_Fields a5k w (by decide) a1E ht).mono ?_
 rintro e w' ⟨rfl,rfl⟩
 rw [tT]
 exact ⟨rfl,rfl⟩
def wD : Nat→DataW Unit
 | 0 => .map []
 | k + 1 => (wD k).put (.string (m7.getD k [])) (.lit (.int .i64 (k + 1)))
theorem a3p : ∀ k,IsMap (wD k)
 | 0 => isMap_empty
 | k + 1 => (a3p k).put _ _
theorem a4V (l : List UInt8) : ∀ k,k≤13→∃ c : Int,(wD k).atKey (.string l) (.lit (.int .i64 0))=.lit (.int .i64 c)∧0≤c∧(0<c↔l∈m7.take k)
 | 0,_ => ⟨0,rfl,Int.le_refl _,by simp⟩
 | k + 1,hk => by
   obtain ⟨c,h1,h2,h3⟩:=a4V l k (by omega)
   have hlt : k<m7.length:=by show k<13; omega
   have et : m7.take (k + 1)=m7.take k ++ [m7.getD k []]:=by
    rw [List.take_succ_eq_append_getElem hlt,List.getD_eq_getElem?_getD,List.getElem?_eq_getElem hlt]; rfl
   by_cases e : l=m7.getD k []
   ·refine ⟨k + 1,?_,by omega,?_⟩
    ·rw [wD,← e]; exact atKey_put_same (a3p k) (by trivial) _ _
    ·rw [et]
     constructor
     ·intro _; rw [e]; exact List.mem_append_right _ (List.mem_singleton_self _)
     ·intro _; omega
   ·refine ⟨c,?_,h2,?_⟩
    ·rw [wD,atKey_put_other (fun h => e (by cases h; rfl))]; exact h1
    ·rw [h3,et,List.mem_append,List.mem_singleton]
     exact ⟨.inl,fun h => h.resolve_right e⟩
theorem a4a (l : List UInt8) {c : Int} (h : (wD 13).atKey (.string l) (.lit (.int .i64 0))=.lit (.int .i64 c)) : 0<c↔A7 l=true:=by
 obtain ⟨d,h1,-,h3⟩:=a4V l 13 (Nat.le_refl _)
 rw [h1] at h
 cases h
 rw [h3]
 unfold A7
 rw [List.contains_iff_mem]
 exact Iff.rfl
theorem a1V : Keyed Tryz.prog 9:=string_keyed Tryz.underlying9
theorem a5P (w : World) : (zeroValue 3).run Tryz.prog w=.ok (.int .i64 0) w:=by kernel_rfl
def aR (M k : Nat) (W : World) : Prop:=W.ownsMap Tryz.prog 9 (plainElem Tryz.prog 3) M k (wD k)
theorem aR.below {M k B : Nat} {W W' : World} (h : aR M k W) (hb : Below B W W') (hM : M<B) : aR M k W':=by
 obtain ⟨es,clock,h1,h2,h3,h4⟩:=h
 exact ⟨es,clock,(hb.block M hM).trans h1,h2,h3,h4⟩
theorem aR.look {M : Nat} {W : World} (h : aR M 13 W) (s : ByteArray) (hs : s.size≤16384) : ∃ c : Int,(Instr.lookup 106 (.map (some M)) (.string s) false).run Tryz.prog W=.ok (.int .i64 c) W∧(decide (0<c)=A7 s.data.toList):=by
 obtain ⟨c,h1,h2,-⟩:=World.ownsMap.lookup_int h a1V Tryz.underlying106 Tryz.underlying3 (a5P W) (keyOf_string_mk Tryz.underlying9 (Nat.le_trans hs (by decide)))
 refine ⟨c,h1,?_⟩
 rw [Bool.eq_iff_iff,decide_eq_true_eq]
 exact a4a _ h2
theorem wO (w : World) (ht : gU w) : Calls Tryz.prog 83 #[] w fun e w' => e=.returned (.map (some w.heap.size))∧aR w.heap.size 13 w'∧Below w.heap.size w w':=by
 have hmm:=@run_makeMap Tryz.prog
 obtain ⟨W1,hW1⟩ : ∃ W,W=w.alloc (.map #[] 0):=⟨_,rfl⟩
 have B1:=hid (show Below w.heap.size w W1 from hW1 ▸ b9 _ _)
 have K1:=hid (show aR w.heap.size 0 W1 from hW1 ▸ World.ownsMap_made _ _ _ _)
 have hz1 : w.heap.size<W1.heap.size:=K1.out.lt
 have C:=hid (sY W1 (ht.below B1))
 clear ht
 go_enter Tryz.func83,Tryz.ntmps83
 go_upto_region 2 with fail
 rw [← hW1]
 clear hW1
 go_wp2_with fail
 (with_reducible refine Calls.mono C.out ?_)
 rintro e w2 ⟨rfl,hw2⟩
 have B2:=hid (show Below W1.heap.size W1 w2 from hw2 ▸ b9 _ _)
 have hc:=hid (show ∀ (k : Nat) (hk : k<m7.length),w2.cell? ⟨W1.heap.size,k,none⟩=some (Y9 m7[k]) from fun k hk => by rw [hw2]; exact nV W1 m7 _ k hk)
 have hz2 : W1.heap.size<w2.heap.size:=by rw [hw2]; simp
 have K2:=hid (K1.out.below B2 hz1)
 have HB:=hid (B1.out.trans (B2.out.mono (by omega)))
 generalize W1.heap.size=fb at hc hz2 hz1
 clear hw2 C K1 B1 B2 hmm
 go_wp2_with fail
 go_loopw [7] (fun i wr => ∃ k : Nat,k≤13∧i=.int .i64 k∧Hid (aR w.heap.size k wr)∧Hid (Below w.heap.size w wr)∧fb<wr.heap.size∧Hid (∀ (k : Nat) (hk : k<m7.length),wr.cell? ⟨fb,k,none⟩=some (Y9 m7[k]))) (fun i _ => 13 - (intOf i).toNat)
 case atStart => exact ⟨0,by omega,rfl,K2,HB,hz2,hc⟩
 case round =>
  obtain ⟨k,hk,rfl,HK,HBr,hfb,HC⟩:=hrel
  by_cases hlt : k<13
  ·have c0:=HC.out k hlt
   have hw:=hid (show m7.getD k []=m7[k]'hlt by rw [List.getD_eq_getElem?_getD,List.getElem?_eq_getElem (show k<m7.length from hlt)]; rfl)
   have hwl : (m7[k]'hlt).length≤24:=by
    have : ∀ w∈m7,w.length≤24:=by decide
    exact this _ (List.getElem_mem _)
   generalize m7[k]'hlt=x at c0 hw hwl
   unfold Y9 at c0
   have hkey:=hid (show keyOf Tryz.prog 9 (.string ⟨x.toArray⟩)=some (.string x) from keyOf_string_mk Tryz.underlying9 (s:=⟨x.toArray⟩) (by show x.toArray.size≤maxLen; unfold maxLen; simp; omega))
   go_wp2_with (at_mapUpdate; refine wpList_mapUpdate_own _ rfl _ _ _ 106 rfl 9 3 a1V Tryz.underlying106 _ w.heap.size k _ rfl HK (by unfold maxLen; omega) _ _ _ rfl rfl hkey _ [] (plainElem_int Tryz.underlying3 (WalkArith.wf_i64 (by omega))) ?_; intro w5 hown5 hgrow5)
   go_roundw
   case rel =>
    refine ⟨k + 1,by omega,by go_num,?_,?_,Nat.lt_of_lt_of_le hfb hgrow5.size,fun j hj => ?_⟩
    ·show aR w.heap.size (k + 1) w5
     unfold aR
     rw [wD,hw.out]
     exact hown5
    ·exact HBr.out.trans ⟨hgrow5.os,hgrow5.tape,hgrow5.output,hgrow5.size,fun j hj => hgrow5.block j (by have:=HK.out.lt; omega) (fun e => by have:=Option.some.inj e; omega)⟩
    ·exact (World.cell?_of_block (hgrow5.block fb hfb (fun e => by have:=Option.some.inj e; omega))).trans (HC.out j hj)
   case measure => simp [intOf]; omega
  ·obtain rfl : k=13:=by omega
   go_wp2_with fail
   go_ret
   exact ⟨rfl,HK,HBr⟩
end
section
open Lib (hid)
open Go.RowKit
def yZ (r : Except (Int × Int) (List Tk)) (w : World) (e : Ending) (w' : World) : Prop :=
 Below w.heap.size w w'∧match r with
  | .ok ts => ∃ g cap,e=.returned (.tuple #[.slice (some ⟨g,0,none⟩) ts.length cap,.pointer none])∧w'.ownsRow w.heap.size 79 4 (.slice (some ⟨g,0,none⟩) ts.length cap) ts.length (j0 ts)
  | .error (c,p) => ∃ b,e=.returned (.tuple #[.slice none 0 0,.pointer (some ⟨b,0,none⟩)])∧w.heap.size≤b∧w'.heap[b]?=some (.cells #[.int .i64 p,.int .i64 c] 75 (0,0))
def mI (x : Except (Int × Int) Nd) (w : World) (e : Ending) (w' : World) : Prop :=
 ∃ (t : Nd) (a : Option Addr) (cp : Nat) (f k : Int),e=.returned (.tuple #[t.val a cp,.int .i64 f,.int .i64 k])∧Below w.heap.size w w'∧match x with
  | .ok u => u=t∧f=0∧k=0∧t.lies (Fr w.heap.size w'.heap.size) w' a cp
  | .error (c,p) => k=c∧f=p∧t=nd0∧a=none∧cp=0
def zE (rdr : List Tk→Rd) (l : List UInt8) : Except (Int × Int) Nd:=match o8 l with
 | .error e => .error e
 | .ok ts => a0I (rdr ts)
section
variable {b P g cap cp n : Nat} {t : Nd} {a : Option Addr} {p k : Int} {ts : List Tk} {w W W' : World}
theorem Res3.lt (h : Res3 b t a cp p k W) : b + 2<W.heap.size:=(Array.getElem?_eq_some_iff.1 h.k).1
theorem Res3.grown (h : Res3 b t a cp p k W) (g : W.grownBy W' (some P)) (h0 : b + 2<P) : Res3 b t a cp p k W' :=
 ⟨h.n.grown g (by omega),(g.block _ (by have:=h.lt; omega) (fun e => by have:=Option.some.inj e; omega)).trans h.p,(g.block _ h.lt (fun e => by have:=Option.some.inj e; omega)).trans h.k⟩
theorem Res3.below (h : Res3 b t a cp p k W) (g : Below W.heap.size W W') : Res3 b t a cp p k W' :=
 ⟨h.n.below g,(g.block _ (by have:=h.lt; omega)).trans h.p,(g.block _ h.lt).trans h.k⟩
theorem Res3.put (h : Res3 b t a cp p k W) (t' : Nd) (a' : Option Addr) (cp' : Nat) : Res3 b t' a' cp' p k (L3 W b t' a' cp'):=by
 have q : ∀ d,d≠b→(L3 W b t' a' cp').heap[d]?=W.heap[d]?:=fun d hd =>
  (f9.put (av:=fun c => c=d) (f9.refl _ W) (fun c hc => hc ▸ hd) t' a' cp') d rfl
 exact ⟨h.n.put t' a' cp',(q _ (by omega)).trans h.p,(q _ (by omega)).trans h.k⟩
theorem Res3.setp (h : Res3 b t a cp p k W) (p' : Int) : Res3 b t a cp p' k (W.setCell ⟨b + 1,0,none⟩ (.int .i64 p')) :=
 ⟨h.n.set (by omega) _ _,j9 h.p 0 _,(Below.heap_setCell _ _ _ _ (show b + 2≠b + 1 by omega)).trans h.k⟩
theorem Res3.setk (h : Res3 b t a cp p k W) (k' : Int) : Res3 b t a cp p k' (W.setCell ⟨b + 2,0,none⟩ (.int .i64 k')) :=
 ⟨h.n.set (by omega) _ _,(Below.heap_setCell _ _ _ _ (show b + 1≠b + 2 by omega)).trans h.p,j9 h.k 0 _⟩
theorem Res3.drew (h : Res3 b t a cp p k W) : Res3 b t a cp p k W.drew:=h.below (F4 (Below.refl _ _))
theorem Res3.catch (h : Res3 b t a cp p k W) (p' k' : Int) : Res3 b nd0 none 0 p' k' (lT W b p' k') :=
 ((((h.below (b9 _ _)).put nd0 none 0).setp p').setk k').drew
theorem aO {r : Option Nat} (h : w.grownBy W r) {c : Nat} (hc : w.heap.size≤c) (v : Value) : w.grownBy (W.setCell ⟨c,0,none⟩ v) r :=
 ⟨h.os,h.tape,h.output,by have:=h.size; simpa [World.setCell] using this,fun d hd hn => (Below.heap_setCell _ _ _ _ (show d≠c by omega)).trans (h.block d hd hn)⟩
theorem sE {r : Option Nat} (h : w.grownBy W r) (hb : w.heap.size≤b) (p k : Int) : w.grownBy (lT W b p k) r:=by
 have h1 : w.grownBy (W.alloc (.cells #[.int .i64 p,.int .i64 k] 75)) r:=b6 h (b8 (b9 _ _))
 have h2:=o6 h1 hb nd0 none 0
 exact a4U (aO (aO h2 (by omega) _) (by omega) _)
theorem mL {x : Except (Int × Int) Nd} (hx : x=.error (k,p)) (h : w.grownBy W (some P)) (hP : w.heap.size≤P) : mI x w (.returned (.tuple #[nd0.val none 0,.int .i64 p,.int .i64 k])) (lT W w.heap.size p k):=by
 subst hx
 exact ⟨nd0,none,0,p,k,rfl,F0 (sE h (Nat.le_refl _) p k) hP,rfl,rfl,rfl,rfl,rfl⟩
theorem wF {x : Except (Int × Int) Nd} (hx : x=.error (k,p)) (h : Below w.heap.size w W) : mI x w (.returned (.tuple #[nd0.val none 0,.int .i64 p,.int .i64 k])) (((L3 W w.heap.size nd0 none 0).setCell ⟨w.heap.size + 1,0,none⟩ (.int .i64 p)).setCell ⟨w.heap.size + 2,0,none⟩ (.int .i64 k)).drew:=by
 subst hx
 exact ⟨nd0,none,0,p,k,rfl,F0 (P:=w.heap.size) (a4U (aO (aO (o6 (b8 h) (Nat.le_refl _) nd0 none 0) (by omega) _) (by omega) _)) (Nat.le_refl _),rfl,rfl,rfl,rfl,rfl⟩
theorem a0q {x : Except (Int × Int) Nd} {W0 : World} (hx : x=.ok t) (h : w.grownBy W (some P)) (hP : w.heap.size≤P) (hW0 : w.heap.size + 3≤W0.heap.size) (hl : t.lies (Fr W0.heap.size W.heap.size) W a cp) :
 mI x w (.returned (.tuple #[t.val a cp,.int .i64 0,.int .i64 0])) (((L3 (L3 W w.heap.size t a cp) w.heap.size t a cp).setCell ⟨w.heap.size + 1,0,none⟩ (.int .i64 0)).setCell ⟨w.heap.size + 2,0,none⟩ (.int .i64 0)):=by
 subst hx
 have hk : f9 (fun c => w.heap.size + 3≤c) W (((L3 (L3 W w.heap.size t a cp) w.heap.size t a cp).setCell ⟨w.heap.size + 1,0,none⟩ (.int .i64 0)).setCell ⟨w.heap.size + 2,0,none⟩ (.int .i64 0)) :=
  ((((f9.refl _ W).put (fun c hc e => by omega) t a cp).put (fun c hc e => by omega) t a cp).set (fun c hc e => by omega) _ _).set (fun c hc e => by omega) _ _
 refine ⟨t,a,cp,0,0,rfl,F0 (aO (aO (o6 (o6 h (Nat.le_refl _) t a cp) (Nat.le_refl _) t a cp) (by omega) _) (by omega) _) hP,rfl,rfl,rfl,?_⟩
 refine d5 hl (fun c hc => hk c (by have:=hc.1; omega)) fun c hc => ⟨by have:=hc.1; omega,?_⟩
 have:=hc.2
 simpa [World.setCell,z8] using this
theorem lM (h : Res3 b t a cp p k W) {tmps : Array Value} (h4 : tmps[4]?.getD undef=.pointer (some ⟨b,0,none⟩)) (h5 : tmps[5]?.getD undef=.pointer (some ⟨b + 1,0,none⟩)) (h6 : tmps[6]?.getD undef=.pointer (some ⟨b + 2,0,none⟩)) :
 (results Tryz.f23 tmps).run Tryz.prog W=.ok (.tuple #[t.val a cp,.int .i64 p,.int .i64 k]) W:=by
 obtain ⟨⟨z0,z1,z2,z3,z4⟩,-⟩:=h.n.cells
 have hp:=h.p
 have hk:=h.k
 have hp0 : W.cell? ⟨b + 1,0,none⟩=some (.int .i64 p):=by simp [World.cell?,hp]
 have hk0 : W.cell? ⟨b + 2,0,none⟩=some (.int .i64 k):=by simp [World.cell?,hk]
 clear hp hk h
 simp [results,Tryz.results23,go_sem,Nd.val,h4,h5,h6,z0,z1,z2,z3,z4,hp0,hk0]
theorem PQ.make {base : Nat} {T : TypeId} (h : w.ownsRow base T 4 (.slice (some ⟨g,0,none⟩) ts.length cap) ts.length (j0 ts)) (hne : ts≠[]) :
 SQ w.heap.size g cap ts 0 ts (w.alloc (.cells #[.slice (some ⟨g,0,none⟩) ts.length cap,.int .i64 0] 77)):=by
 have hg:=h.lt g rfl
 have hb:=b9 w (.cells #[.slice (some ⟨g,0,none⟩) ts.length cap,.int .i64 0] 77)
 refine ⟨0,rfl,⟨by show (w.heap.push _)[w.heap.size]?=_; simp,(rQ.of_row h).below hb hg.2,by omega,Nat.lt_of_lt_of_le hg.2 hb.size,?_,?_,List.length_pos_iff.2 hne⟩⟩
 ·rcases h.2 with ⟨e,-⟩ | ⟨g',cap2,cur,e,-,-,h1,-⟩
  ·cases e
  ·cases e; exact h1
 ·rcases h.2 with ⟨e,-⟩ | ⟨g',cap2,cur,e,-,-,-,h1,-⟩
  ·cases e
  ·cases e; exact h1
end
theorem a3V {Pr : Program} {c : Code} {Q : Exit→Act→World→Prop} {a : Act} {w : World} (h : c.wp Pr (fun e a w => e=.normal∧Q .normal a w) a w) : c.wp Pr Q a w :=
 fun b k cs => let ⟨e,a',w',q,r⟩:=h b k cs; ⟨e,a',w',q.1 ▸ q.2,r⟩
theorem a0C (F : Nat) (rdr : List Tk→Rd) (hE : ∀ args w,(callFunc F args).run Tryz.prog w=.ok (.enter F args) w) (hF : ∀ P g cap ts w,s7 ts→(∀ t∈ts,z6 t)→SQ P g cap ts 0 ts w→Calls Tryz.prog F #[.pointer (some ⟨P,0,none⟩)] w (NQ P g cap ts (rdr ts) w))
 (hS : ∀ (s : ByteArray) (w : World),s.size≤maxLen→gU w→Calls Tryz.prog 45 #[.string s] w (yZ (o8 s.data.toList) w)) (s : ByteArray) (w : World) (hs : s.size≤maxLen) (ht : gU w) :
 Calls Tryz.prog 23 #[.string s,.func (.func F) #[] #[]] w (mI (zE rdr s.data.toList) w):=by
 obtain ⟨W1,hW1⟩ : ∃ W,W=w.alloc (.cells #[.int .i64 0,.string ⟨#[]⟩,.int .i64 0,.slice none 0 0,.int .i64 0] 24):=⟨_,rfl⟩
 obtain ⟨W2,hW2⟩ : ∃ W,W=W1.alloc (.cells #[.int .i64 0] 3):=⟨_,rfl⟩
 obtain ⟨W3,hW3⟩ : ∃ W,W=W2.alloc (.cells #[.int .i64 0] 27):=⟨_,rfl⟩
 have hz1 : W1.heap.size=w.heap.size + 1:=by rw [hW1]; simp
 have hz2 : W2.heap.size=w.heap.size + 2:=by rw [hW2]; simp [hz1]
 have hz3 : W3.heap.size=w.heap.size + 3:=by rw [hW3]; simp [hz2]
 have HZ:=hid (show W1.heap.size=w.heap.size + 1∧W2.heap.size=w.heap.size + 2∧W3.heap.size=w.heap.size + 3 from ⟨hz1,hz2,hz3⟩)
 have b1 : Below w.heap.size w W1:=hW1 ▸ b9 _ _
 have b2 : Below W1.heap.size W1 W2:=hW2 ▸ b9 _ _
 have b3 : Below W2.heap.size W2 W3:=hW3 ▸ b9 _ _
 have E3:=hid (show Below w.heap.size w W3 from b1.trans ((b2.trans (b3.mono b2.size)).mono b1.size))
 have R3:=hid (show Res3 w.heap.size nd0 none 0 0 0 W3 from ⟨((show e9 w.heap.size nd0 none 0 W1 from hW1 ▸ e9.make w nd0 none 0).below b2).below b3,
  (b3.block (w.heap.size + 1) (by omega)).trans (by rw [hW2]; show (W1.heap.push _)[w.heap.size + 1]?=_; rw [← hz1]; simp),by rw [hW3]; show (W2.heap.push _)[w.heap.size + 2]?=_; rw [← hz2]; simp⟩)
 obtain ⟨X,hX⟩ : ∃ X,X=zE rdr s.data.toList:=⟨_,rfl⟩
 rw [← hX]
 have C1:=hid (hS s W3 hs (ht.below E3))
 unfold zE at hX
 generalize hsc : o8 s.data.toList=x at C1 hX
 have HX:=hid hX
 have HSC:=hid hsc
 have HF:=hid hF
 clear hX hsc hs hS ht hF b1 b2 b3 hz1 hz2 hz3
 have hmf : ∀ (fn : Fn) (first cap : Array Value) (w : World),(Instr.makeFunc fn first cap).run Tryz.prog w=.ok (.func fn first cap) w:=fun _ _ _ _ => rfl
 go_enter_defers Tryz.func23,Tryz.ntmps23
 go_upto_region 1 with fail
 rw [← hW1,← hW2,← hW3]
 clear hW1 hW2 hW3
 rw [show w.heap.size + 1 + 1=w.heap.size + 2 from rfl]
 go_wp2_with fail
 (with_reducible refine Calls.mono C1.out ?_)
 intro e w4 hsp
 obtain ⟨hb,hsp⟩:=hsp
 have R4:=hid (R3.out.below hb)
 have HB4:=hid hb
 have E4:=hid (show Below w.heap.size w w4 from E3.out.trans (hb.mono E3.out.size))
 have hz4:=hid (show w.heap.size + 3≤w4.heap.size by have:=hb.size; have:=HZ.out.2.2; omega)
 clear hb C1
 cases x with
 | error q =>
   obtain ⟨c,p⟩:=q
   obtain ⟨fb,rfl,hfb,hcel⟩:=hsp
   have HXe:=hid (show X=.error (c,p) from HX)
   have hfl:=hid (show fb<w4.heap.size∧w.heap.size + 3≤fb by have:=(Array.getElem?_eq_some_iff.1 hcel).1; have:=HZ.out.2.2; omega)
   have q0 : w4.cell? ⟨fb,0,none⟩=some (.int .i64 p):=by simp [World.cell?,hcel]
   have q1 : w4.cell? ⟨fb,1,none⟩=some (.int .i64 c):=by simp [World.cell?,hcel]
   obtain ⟨⟨z0,z1,z2,z3,z4⟩,⟨f0,f1,f2,f3,f4⟩⟩:=R4.out.n.cells
   have hp:=R4.out.p
   have hk:=R4.out.k
   have hp0 : w4.cell? ⟨w.heap.size + 1,0,none⟩=some (.int .i64 0):=by simp [World.cell?,hp]
   have hk0 : w4.cell? ⟨w.heap.size + 2,0,none⟩=some (.int .i64 0):=by simp [World.cell?,hk]
   have fp0 : w4.frozen? ⟨w.heap.size + 1,0,none⟩=false:=by simp [World.frozen?,hp]
   have fk0 : w4.frozen? ⟨w.heap.size + 2,0,none⟩=false:=by simp [World.frozen?,hk]
   have hn0 : ¬ fb=w.heap.size:=by have:=hfl.out; omega
   have hn1 : ¬ fb=w.heap.size + 1:=by have:=hfl.out; omega
   have hn2 : ¬ fb=w.heap.size + 2:=by have:=hfl.out; omega
   clear hp hk hcel hfb HX HF hE
   go_upto_region 3 with fail
   refine a3V ?_
   refine kW (S:=(fun cur => cur.cell? ⟨fb,0,none⟩=some (.int .i64 p)∧cur.cell? ⟨fb,1,none⟩=some (.int .i64 c))) (Z:=[]) (by kernel_rfl) ?_ (fun hHeld => ?_)
   ·exact ⟨q0,q1⟩
   refine H8.take (i:=0) (v:=?_) (F5 rfl) (by kernel_rfl) (by kernel_rfl) (by kernel_rfl) (by kernel_rfl) (fun _ _ _ h => nomatch h.1) (Or.inl ⟨by rfl,?_⟩) (by assumption) ?_
   rotate_left
   ·(intro w hSw; (try dsimp only at hSw); obtain ⟨s0,s1⟩:=hSw; go_simp; try with_reducible rfl)
   try simp only [Act.put,d8,l0,l3]
   refine H8.take (i:=1) (v:=?_) (F5 rfl) (by kernel_rfl) (by kernel_rfl) (by kernel_rfl) (by kernel_rfl) (fun _ _ _ h => nomatch h.1) (Or.inl ⟨by rfl,?_⟩) (by assumption) ?_
   rotate_left
   ·(intro w hSw; (try dsimp only at hSw); obtain ⟨s0,s1⟩:=hSw; go_simp; try with_reducible rfl)
   try simp only [Act.put,d8,l0,l3]
   refine H8.take (i:=2) (v:=?_) (F5 rfl) (by kernel_rfl) (by kernel_rfl) (by kernel_rfl) (by kernel_rfl) (fun _ _ _ h => nomatch h.1) (Or.inl ⟨by rfl,?_⟩) (by assumption) ?_
   rotate_left
   ·(intro w hSw; (try dsimp only at hSw); obtain ⟨s0,s1⟩:=hSw; go_simp; try with_reducible rfl)
   try simp only [Act.put,d8,l0,l3]
   refine H8.take (i:=3) (v:=?_) (F5 rfl) (by kernel_rfl) (by kernel_rfl) (by kernel_rfl) (by kernel_rfl) (fun _ _ _ h => nomatch h.1) (Or.inl ⟨by rfl,?_⟩) (by assumption) ?_
   rotate_left
   ·(intro w hSw; (try dsimp only at hSw); obtain ⟨s0,s1⟩:=hSw; go_simp; try with_reducible rfl)
   try simp only [Act.put,d8,l0,l3]
   refine H8.take (i:=4) (v:=?_) (F5 rfl) (by kernel_rfl) (by kernel_rfl) (by kernel_rfl) (by kernel_rfl) (fun _ _ _ h => nomatch h.1) (Or.inl ⟨by rfl,?_⟩) (by assumption) ?_
   rotate_left
   ·(intro w hSw; (try dsimp only at hSw); obtain ⟨s0,s1⟩:=hSw; go_simp; try with_reducible rfl)
   try simp only [Act.put,d8,l0,l3]
   refine H8.take (i:=5) (v:=?_) (F5 rfl) (by kernel_rfl) (by kernel_rfl) (by kernel_rfl) (by kernel_rfl) (fun _ _ _ h => nomatch h.1) (Or.inl ⟨by rfl,?_⟩) (by assumption) ?_
   rotate_left
   ·(intro w hSw; (try dsimp only at hSw); obtain ⟨s0,s1⟩:=hSw; go_simp; try with_reducible rfl)
   try simp only [Act.put,d8,l0,l3]
   refine H8.take (i:=6) (v:=?_) (F5 rfl) (by kernel_rfl) (by kernel_rfl) (by kernel_rfl) (by kernel_rfl) (fun _ _ _ h => nomatch h.1) (Or.inl ⟨by rfl,?_⟩) (by assumption) ?_
   rotate_left
   ·(intro w hSw; (try dsimp only at hSw); obtain ⟨s0,s1⟩:=hSw; go_simp; try with_reducible rfl)
   try simp only [Act.put,d8,l0,l3]
   refine H8.take (i:=7) (v:=?_) (F5 rfl) (by kernel_rfl) (by kernel_rfl) (by kernel_rfl) (by kernel_rfl) (fun _ _ _ h => nomatch h.1) (Or.inl ⟨by rfl,?_⟩) (by assumption) ?_
   rotate_left
   ·(intro w hSw; (try dsimp only at hSw); obtain ⟨s0,s1⟩:=hSw; go_simp; try with_reducible rfl)
   try simp only [Act.put,d8,l0,l3]
   refine H8.take (i:=8) (v:=?_) (F5 rfl) (by kernel_rfl) (by kernel_rfl) (by kernel_rfl) (by kernel_rfl) (fun _ _ _ h => nomatch h.1) (Or.inl ⟨by rfl,?_⟩) (by assumption) ?_
   rotate_left
   ·(intro w hSw; (try dsimp only at hSw); obtain ⟨s0,s1⟩:=hSw; go_simp; try with_reducible rfl)
   try simp only [Act.put,d8,l0,l3]
   refine H8.next (i:=9) (by kernel_rfl) (F5 rfl) (fun K hK => ?_)
   go_simp
   refine hK.out _ _ ?_ (fun hHeld => ?_)
   ·exact ⟨by simp [World.cell?_setCell_other, *],by simp [World.cell?_setCell_other, *]⟩
   clear hK K
   try simp only [Act.put,d8,l0,l3]
   refine H8.next (i:=10) (by kernel_rfl) (F5 rfl) (fun K hK => ?_)
   go_simp
   refine hK.out _ _ ?_ (fun hHeld => ?_)
   ·exact ⟨by simp [World.cell?_setCell_other, *],by simp [World.cell?_setCell_other, *]⟩
   clear hK K
   try simp only [Act.put,d8,l0,l3]
   refine H8.next (i:=11) (by kernel_rfl) (F5 rfl) (fun K hK => ?_)
   go_simp
   refine hK.out _ _ ?_ (fun hHeld => ?_)
   ·exact ⟨by simp [World.cell?_setCell_other, *],by simp [World.cell?_setCell_other, *]⟩
   clear hK K
   try simp only [Act.put,d8,l0,l3]
   refine H8.done (by kernel_rfl) ⟨rfl,?_⟩ _
   go_wp2_with fail
   exact ⟨_,lM (((R4.out.put nd0 none 0).setp p).setk c).drew rfl rfl rfl,wF HXe E4⟩
 | ok ts =>
   obtain ⟨g,cap,rfl,how⟩:=hsp
   obtain ⟨htk,htz,he,hne⟩:=nG HSC
   obtain ⟨W5,hW5⟩ : ∃ W,W=w4.alloc (.cells #[.slice (some ⟨g,0,none⟩) ts.length cap,.int .i64 0] 77):=⟨_,rfl⟩
   have S5:=hid (show SQ w4.heap.size g cap ts 0 ts W5 from hW5 ▸ PQ.make how hne)
   have B5:=hid (show Below w4.heap.size w4 W5 from hW5 ▸ b9 _ _)
   have R5:=hid (R4.out.below B5)
   have G5:=hid (show w.grownBy W5 (some w4.heap.size) from b8 (E4.out.trans (B5.out.mono E4.out.size)))
   have hz5:=hid (show w.heap.size + 3≤W5.heap.size from Nat.le_trans hz4 B5.out.size)
   have C6:=hid (HF.out w4.heap.size g cap ts W5 he htk S5)
   have HXe:=hid (show X=a0I (rdr ts) from HX)
   generalize rdr ts=y at C6 HXe
   have hgw:=hid (show w.heap.size + 3≤g by have:=(how.lt g rfl).1; have:=HZ.out.2.2; omega)
   clear how htk htz he hne HX HSC HF
   go_upto_region 6 with fail
   rw [← hW5]
   clear hW5
   go_wp2_with fail
   (with_reducible refine Calls.mono C6.out ?_)
   intro e w6 hq
   cases y with
   | error q =>
     obtain ⟨k,p⟩:=q
     obtain ⟨rfl,hg⟩:=hq
     have R6:=R5.out.grown hg (by have:=hz4.out; omega)
     refine leaves_cons (f:=46) (args:=#[.pointer (some ⟨w.heap.size,0,none⟩),.pointer (some ⟨w.heap.size + 1,0,none⟩),.pointer (some ⟨w.heap.size + 2,0,none⟩)]) (by simp) (by simp [go_sem]) ?_
     refine (iR _ _ _ _ _ _ _ _ [] _ R6).mono ?_
     rintro e u' w'' ⟨rfl,rfl,rfl⟩
     exact ⟨_,lM (R6.catch p k) rfl rfl rfl,mL HXe (b6 G5 hg) (by have:=hz4.out; omega)⟩
   | ok q =>
     obtain ⟨t,r⟩:=q
     obtain ⟨a,cp,rfl,hs,hg,hl⟩:=hq
     have R6:=hid (R5.out.grown hg (by have:=hz4.out; omega))
     have G6:=hid (b6 G5 hg)
     have S6:=hid hs
     have HL:=hid hl
     have hP:=hid (show w.heap.size + 3≤w4.heap.size from hz4)
     clear hs hg hl C6
     obtain ⟨⟨z0,z1,z2,z3,z4⟩,⟨f0,f1,f2,f3,f4⟩⟩:=R6.out.n.cells
     obtain ⟨W7,hW7⟩ : ∃ W,W=L3 w6 w.heap.size t a cp:=⟨_,rfl⟩
     have R7:=hid (show Res3 w.heap.size t a cp 0 0 W7 from hW7 ▸ R6.out.put t a cp)
     have G7:=hid (show w.grownBy W7 (some w4.heap.size) from hW7 ▸ o6 G6 (Nat.le_refl _) t a cp)
     have hW7':=hW7
     unfold L3 at hW7'
     have HW7:=hid hW7
     obtain ⟨aa,hr,hpq⟩:=S6.out
     have h7:=hpq.keeps (W':=W7) (fun c hc => hW7 ▸ (f9.refl (fun c => c=w4.heap.size∨c=g) w6).put (fun c hc e => by have:=hP.out; have:=hgw.out; rcases hc with rfl | rfl <;> omega) t a cp c hc) (by rw [hW7,z8]; exact Nat.le_refl _)
     have hpos:=h7.pos
     have HR:=hid (show hd r=ts[aa] from hr ▸ L9 hpos)
     obtain ⟨⟨p0,p1⟩,-⟩:=h7.cells
     obtain ⟨t0,t1,t2,t3⟩:=h7.tok
     have hL : 0<ts.length - aa:=by omega
     generalize ts[aa]'hpos=T at t0 t1 t2 t3 HR
     generalize ts.length - aa=Ln at p0 hL
     generalize cap - aa=C2 at p0
     generalize aa * 4=off at p0 t0 t1 t2 t3
     clear hr hpq h7 hpos hW7
     unfold Nd.val
     go_upto_region 7 with fail
     rw [← hW7']
     clear hW7' z0 z1 z2 z3 z4 f0 f1 f2 f3 f4
     by_cases hk : T.kind=0
     ·have e0 : (T.kind != 0)=false:=by rw [hk]; rfl
      have HXo:=hid (show X=.ok t by rw [HXe.out]; show (if (hd r).kind=0 then _ else _)=_; rw [HR.out,if_pos hk])
      obtain ⟨⟨z0,z1,z2,z3,z4⟩,⟨f0,f1,f2,f3,f4⟩⟩:=R7.out.n.cells
      have hp:=R7.out.p
      have hk:=R7.out.k
      have hp0 : W7.cell? ⟨w.heap.size + 1,0,none⟩=some (.int .i64 0):=by simp [World.cell?,hp]
      have hk0 : W7.cell? ⟨w.heap.size + 2,0,none⟩=some (.int .i64 0):=by simp [World.cell?,hk]
      have fp0 : W7.frozen? ⟨w.heap.size + 1,0,none⟩=false:=by simp [World.frozen?,hp]
      have fk0 : W7.frozen? ⟨w.heap.size + 2,0,none⟩=false:=by simp [World.frozen?,hk]
      clear hp hk
      go_wp2_with fail
      refine leaves_cons (f:=46) (args:=#[.pointer (some ⟨w.heap.size,0,none⟩),.pointer (some ⟨w.heap.size + 1,0,none⟩),.pointer (some ⟨w.heap.size + 2,0,none⟩)]) (by simp) (by simp [go_sem]) ?_
      refine (sO _ _ _ _).mono ?_
      rintro e u' w'' ⟨rfl,rfl,rfl⟩
      refine ⟨_,lM (((R7.out.put t a cp).setp 0).setk 0) rfl rfl rfl,?_⟩
      rw [HW7.out]
      exact a0q HXo G6 (by have:=hP.out; omega) hz5 HL
     ·have e0 : (T.kind != 0)=true:=bne_iff_ne.2 hk
      have HXo:=hid (show X=.error (74,T.pos) by rw [HXe.out]; show (if (hd r).kind=0 then _ else _)=_; rw [HR.out,if_neg hk])
      have C8:=hid (aM w4.heap.size 74 T.pos W7)
      clear hk
      go_wp2_with fail
      (with_reducible refine Calls.mono C8.out ?_)
      rintro e w8 ⟨rfl,rfl⟩
      refine leaves_cons (f:=46) (args:=#[.pointer (some ⟨w.heap.size,0,none⟩),.pointer (some ⟨w.heap.size + 1,0,none⟩),.pointer (some ⟨w.heap.size + 2,0,none⟩)]) (by simp) (by simp [go_sem]) ?_
      refine (iR _ _ _ _ _ _ _ _ [] _ R7).mono ?_
      rintro e u' w'' ⟨rfl,rfl,rfl⟩
      exact ⟨_,lM (R7.out.catch T.pos 74) rfl rfl rfl,mL HXo G7 (by have:=hP.out; omega)⟩
end
end Go.Proofs.YtibiccacafjjfaaGreatDoor
