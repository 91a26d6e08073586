/-
  Laws that the proof rests on.
-/
import Derived.Test.YtibiccacafjjfaaGreatDoorB17
import Derived.Test.YtibiccacafjjfaaGreatDoorB19
import Derived.Test.YtibiccacafjjfaaGreatDoorB12
namespace Go.Proofs.YtibiccacafjjfaaGreatDoor
set_option maxRecDepth 100000
set_option maxHeartbeats 16000000
section
open Lib (hid)
open Go.RowKit
def trV (t : Nd) (a : Option Addr) (cp : Nat) : Value:=.agg #[.int .i64 t.kind,.string t.text,.int .i64 t.n,.slice a t.kids.length cp,.int .i64 t.place,.int .i64 (c8 t)]
def trC (e : Ent) : List Value:=ndC e ++ [.int .i64 (c8 e.1)]
def mG (W : World) (b off : Nat) (L : List Ent) : Prop:=∀ j (hj : j<L.length),W.cell? ⟨b,off + j * 6,none⟩=some (.int .i64 L[j].1.kind)∧W.cell? ⟨b,off + j * 6 + 1,none⟩=some (.string L[j].1.text)∧W.cell? ⟨b,off + j * 6 + 2,none⟩=some (.int .i64 L[j].1.n) ∧
 W.cell? ⟨b,off + j * 6 + 3,none⟩=some (.slice L[j].2.1 L[j].1.kids.length L[j].2.2)∧W.cell? ⟨b,off + j * 6 + 4,none⟩=some (.int .i64 L[j].1.place)∧W.cell? ⟨b,off + j * 6 + 5,none⟩=some (.int .i64 (c8 L[j].1))
theorem mG.keeps {W W' : World} {b off : Nat} {L : List Ent} (h : mG W b off L) (hk : W'.heap[b]?=W.heap[b]?) : mG W' b off L:=fun j hj => by
 have q : ∀ o,W'.cell? ⟨b,o,none⟩=W.cell? ⟨b,o,none⟩:=fun o => World.cell?_of_block hk
 obtain ⟨h0,h1,h2,h3,h4,h5⟩:=h j hj
 exact ⟨(q _).trans h0,(q _).trans h1,(q _).trans h2,(q _).trans h3,(q _).trans h4,(q _).trans h5⟩
def T6 (b : Nat) (k : Int) (s : ByteArray) (n : Int) (a : Option Addr) (len cp : Nat) (p : Int) (d : Int) (W : World) : Prop:=W.heap[b]?=some (.cells #[.int .i64 k,.string s,.int .i64 n,.slice a len cp,.int .i64 p,.int .i64 d] 50 (0,0))
section
variable {b : Nat} {k n p d : Int} {s : ByteArray} {a : Option Addr} {len cp : Nat} {W W' : World}
theorem T6.lt (h : T6 b k s n a len cp p d W) : b<W.heap.size:=(Array.getElem?_eq_some_iff.1 h).1
theorem T6.cells (h : T6 b k s n a len cp p d W) : (W.cell? ⟨b,0,none⟩=some (.int .i64 k)∧W.cell? ⟨b,1,none⟩=some (.string s)∧W.cell? ⟨b,2,none⟩=some (.int .i64 n)∧W.cell? ⟨b,3,none⟩=some (.slice a len cp)∧W.cell? ⟨b,4,none⟩=some (.int .i64 p)∧W.cell? ⟨b,5,none⟩=some (.int .i64 d)) ∧
 (W.frozen? ⟨b,0,none⟩=false∧W.frozen? ⟨b,1,none⟩=false∧W.frozen? ⟨b,2,none⟩=false∧W.frozen? ⟨b,3,none⟩=false∧W.frozen? ⟨b,4,none⟩=false∧W.frozen? ⟨b,5,none⟩=false):=by
 have h' : W.heap[b]?=some (.cells #[.int .i64 k,.string s,.int .i64 n,.slice a len cp,.int .i64 p,.int .i64 d] 50 (0,0)):=h
 refine ⟨⟨?_,?_,?_,?_,?_,?_⟩,?_,?_,?_,?_,?_,?_⟩ <;> simp [World.cell?,World.frozen?,h']
theorem T6.make (w : World) (k : Int) (s : ByteArray) (n : Int) (a : Option Addr) (len cp : Nat) (p d : Int) : T6 w.heap.size k s n a len cp p d (w.alloc (.cells #[.int .i64 k,.string s,.int .i64 n,.slice a len cp,.int .i64 p,.int .i64 d] 50)):=by
 show (w.heap.push _)[w.heap.size]?=_; simp
theorem T6.below (h : T6 b k s n a len cp p d W) (hb : Below W.heap.size W W') : T6 b k s n a len cp p d W':=(hb.block b h.lt).trans h
theorem T6.grown {r : Option Nat} (h : T6 b k s n a len cp p d W) (g : W.grownBy W' r) (hp : r≠some b) : T6 b k s n a len cp p d W':=(g.block b h.lt (fun e => hp e.symm)).trans h
theorem T6.set (h : T6 b k s n a len cp p d W) {c : Nat} (hc : b≠c) (i : Nat) (v : Value) : T6 b k s n a len cp p d (W.setCell ⟨c,i,none⟩ v):=(Below.heap_setCell _ _ _ _ hc).trans h
theorem T6.set3 (h : T6 b k s n a len cp p d W) (a' : Option Addr) (len' cp' : Nat) : T6 b k s n a' len' cp' p d (W.setCell ⟨b,3,none⟩ (.slice a' len' cp')):=l5 (show W.heap[b]?=some (.cells #[.int .i64 k,.string s,.int .i64 n,.slice a len cp,.int .i64 p,.int .i64 d] 50 (0,0)) from h) 3 _
theorem T6.set5 (h : T6 b k s n a len cp p d W) (d' : Int) : T6 b k s n a len cp p d' (W.setCell ⟨b,5,none⟩ (.int .i64 d')):=l5 (show W.heap[b]?=some (.cells #[.int .i64 k,.string s,.int .i64 n,.slice a len cp,.int .i64 p,.int .i64 d] 50 (0,0)) from h) 5 _
end
theorem lC : ∀ (ks : List Nd) (t : Nd),i8 (ks ++ [t])=max (i8 ks) (c8 t)
 | [],t => by rw [List.nil_append,i8]; show max (c8 t) 0=max 0 (c8 t); omega
 | k :: ks,t => by rw [List.cons_append,i8,i8,lC ks t]; omega
def T3 (L : List Ent) : Nat:=i8 (L.map (·.1))
theorem a0r (L : List Ent) (e : Ent) : T3 (L ++ [e])=max (T3 L) (c8 e.1):=by unfold T3; rw [List.map_append]; exact lC _ _
theorem wS {L : List Ent} {n : Nat} (h : ∀ e∈L,c8 e.1≤n) : T3 L≤n:=lH _ _ fun k hk => by
 obtain ⟨e,he,rfl⟩:=List.mem_map.1 hk
 exact h e he
def a6O (k : Int) (s : ByteArray) (n p : Int) (L : List Ent) (w : World) (j : Nat) (ao : Option Addr) (c : Nat) (wr : World) : Prop :=
 wr.ownsRow (w.heap.size + 3) 24 5 (.slice ao j c) j (Y1 (L.take j))∧T6 (w.heap.size + 1 + 1) k s n ao j c p (T3 (L.take j)) wr∧f6 w.heap.size (.mk k s n [] p) none 0 wr∧T6 (w.heap.size + 1) 0 ⟨#[]⟩ 0 none 0 0 0 0 wr∧Below w.heap.size w wr
theorem a5r {L : List Ent} {j : Nat} (hj : j<L.length) : L.take (j + 1)=L.take j ++ [L[j]]:=List.take_succ_eq_append_getElem hj
def a4Y (W : World) (b : Nat) (k : Int) (s : ByteArray) (n : Int) (a : Option Addr) (len cp : Nat) (p d : Int) : World:=(((((W.setCell ⟨b,0,none⟩ (.int .i64 k)).setCell ⟨b,1,none⟩ (.string s)).setCell ⟨b,2,none⟩ (.int .i64 n)).setCell ⟨b,3,none⟩ (.slice a len cp)).setCell ⟨b,4,none⟩ (.int .i64 p)).setCell ⟨b,5,none⟩ (.int .i64 d)
theorem a0M {B b : Nat} {w W : World} (h : Below B w W) (hb : B≤b) (k : Int) (s : ByteArray) (n : Int) (a : Option Addr) (len cp : Nat) (p d : Int) : Below B w (a4Y W b k s n a len cp p d) :=
 (((((h.setCell (p:=⟨b,0,none⟩) hb _).setCell (p:=⟨b,1,none⟩) hb _).setCell (p:=⟨b,2,none⟩) hb _).setCell (p:=⟨b,3,none⟩) hb _).setCell (p:=⟨b,4,none⟩) hb _).setCell (p:=⟨b,5,none⟩) hb _
theorem jK {b : Nat} (W : World) (k : Int) (s : ByteArray) (n : Int) (a : Option Addr) (len cp : Nat) (p d : Int) : W.grownBy (a4Y W b k s n a len cp p d) (some b) :=
 b6 (b6 (b6 (b6 (b6 (e9 W b 0 _) (e9 _ b 1 _)) (e9 _ b 2 _)) (e9 _ b 3 _)) (e9 _ b 4 _)) (e9 _ b 5 _)
theorem T6.put {b : Nat} {k n p d : Int} {s : ByteArray} {a : Option Addr} {len cp : Nat} {W : World} (h : T6 b k s n a len cp p d W) (k' : Int) (s' : ByteArray) (n' : Int) (a' : Option Addr) (len' cp' : Nat) (p' d' : Int) : T6 b k' s' n' a' len' cp' p' d' (a4Y W b k' s' n' a' len' cp' p' d'):=by
 have h' : W.heap[b]?=some (.cells #[.int .i64 k,.string s,.int .i64 n,.slice a len cp,.int .i64 p,.int .i64 d] 50 (0,0)):=h
 exact l5 (l5 (l5 (l5 (l5 (l5 h' 0 _) 1 _) 2 _) 3 _) 4 _) 5 _
theorem a6o {av : Nat→Prop} {base T : Nat} {w W : World} {a : Option Addr} {cp : Nat} {L : List Ent} (h : W.ownsRow base T 5 (.slice a L.length cp) L.length (Y1 L)) (hb : Below w.heap.size w W) (hw : w.heap.size≤base) (hav : ∀ b,av b→b<w.heap.size) (hl : ∀ e∈L,e.1.lies av w e.2.1 e.2.2) :
 Nd.lie (fun b => av b∨Fr w.heap.size W.heap.size b) W (L.map (·.1)) a 0∧L.length≤cp∧cp≤maxLen:=by
 have hlt:=h.lt
 rcases h.2 with ⟨e,h0⟩ | ⟨g,cap,cur,e,hg,-,h1,h2,-⟩
 ·obtain ⟨rfl,-,rfl⟩:=Value.slice.inj e
  have : L=[]:=List.length_eq_zero_iff.1 h0
  subst this
  exact ⟨trivial,Nat.le_refl _,Nat.zero_le _⟩
 ·cases e
  exact ⟨vM h (.inr ⟨by omega,(hlt g rfl).2⟩) fun e he => d5 (hl e he) (fun b hb' => hb.block b (hav b hb')) fun b hb' => .inl hb',h1,h2⟩
def gI (k : Int) (s : List UInt8) (n p : Int) (L : List Ent) (w : World) (e : Ending) (w' : World) : Prop :=
 Below w.heap.size w w'∧(if 100<c8 (mkN k s n (L.map (·.1)) p) then e=flt 75 p else
  ∃ (a : Option Addr) (cp : Nat),e=.returned (trV (mkN k s n (L.map (·.1)) p) a cp)∧∀ av : Nat→Prop,(∀ b,av b→b<w.heap.size)→(∀ e∈L,e.1.lies av w e.2.1 e.2.2)→Nd.lie (fun b => av b∨Fr w.heap.size w'.heap.size b) w' (L.map (·.1)) a 0∧L.length≤cp∧cp≤maxLen)
theorem aG (P : Nat) (k : Int) (s : List UInt8) (n p : Int) (ao : Option Addr) (cp : Nat) (L : List Ent) (w : World) (hL : L.length≤8) (hr : L≠[]→∃ g off,ao=some ⟨g,off,none⟩∧g<w.heap.size∧mG w g off L) (hd : ∀ e∈L,c8 e.1≤100) :
 Calls Tryz.prog 54 #[.pointer (some ⟨P,0,none⟩),.agg #[.int .i64 k,.string ⟨s.toArray⟩,.int .i64 n,.slice none 0 0,.int .i64 p],.slice ao L.length cp] w (gI k s n p L w):=by
 obtain ⟨i0,hi,hz0,hz1,hz2⟩:=info_parts (show (Tryz.prog.info? 24).map (fun i => (i.zero,i.size,i.bytes))=some (some (.agg #[.int .i64 0,.string ⟨#[]⟩,.int .i64 0,.slice none 0 0,.int .i64 0]),5,64) by kernel_rfl)
 have HI0:=hid (show _∧_∧_∧_ from ⟨hi,hz0,hz1,hz2⟩)
 clear hi hz0 hz1 hz2
 have HR:=hid hr
 have HD:=hid hd
 generalize hsb : (⟨s.toArray⟩ : ByteArray)=sb
 have HSB:=hid hsb
 clear hr hd hsb
 go_enter Tryz.func54,Tryz.ntmps54
 go_wp2_with fail
 obtain ⟨W1,hW1⟩ : ∃ W,W=((w.alloc (.cells #[.int .i64 k,.string sb,.int .i64 n,.slice none 0 0,.int .i64 p] 24)).alloc (.cells #[.int .i64 0,.string ⟨#[]⟩,.int .i64 0,.slice none 0 0,.int .i64 0,.int .i64 0] 50)).alloc (.cells #[.int .i64 k,.string sb,.int .i64 n,.slice none 0 0,.int .i64 p,.int .i64 0] 50):=⟨_,rfl⟩
 have I0:=hid (show a6O k sb n p L w 0 none 0 W1 by
  have b1:=c6 w (.cells #[.int .i64 k,.string sb,.int .i64 n,.slice none 0 0,.int .i64 p] 24)
  have n1:=f6.make w (.mk k sb n [] p) none 0
  refine ⟨World.ownsRow_nil _ _ _ _,?_,?_,?_,?_⟩
  ·have:=T6.make ((w.alloc (.cells #[.int .i64 k,.string sb,.int .i64 n,.slice none 0 0,.int .i64 p] 24)).alloc (.cells #[.int .i64 0,.string ⟨#[]⟩,.int .i64 0,.slice none 0 0,.int .i64 0,.int .i64 0] 50)) k sb n none 0 0 p 0
   rw [hW1]
   simpa [T3,i8] using this
  ·rw [hW1]; exact n1.below (A6 _ _ _)
  ·have:=T6.make (w.alloc (.cells #[.int .i64 k,.string sb,.int .i64 n,.slice none 0 0,.int .i64 p] 24)) 0 ⟨#[]⟩ 0 none 0 0 0 0
   rw [hW1]
   simpa using this.below (c6 _ (.cells #[.int .i64 k,.string sb,.int .i64 n,.slice none 0 0,.int .i64 p,.int .i64 0] 50))
  ·rw [hW1]; exact b1.trans ((A6 _ _ _).mono b1.size))
 rw [← hW1]
 clear hW1
 go_loopw [14] (fun i wr => ∃ (j : Nat) (a : Option Addr) (c : Nat),j≤L.length∧i=.int .i64 j∧Hid (a6O k sb n p L w j a c wr)) (fun i _ => (L.length - (intOf i).toNat))
 case atStart => exact ⟨0,none,0,Nat.zero_le _,rfl,I0⟩
 case round =>
  obtain ⟨j,a,c,hj,rfl,HI⟩:=hrel
  clear I0
  by_cases hlt : j<L.length
  ·obtain ⟨g,off,rfl,hg,hrow⟩:=HR.out (fun e => by rw [e] at hlt; exact absurd hlt (by simp))
   obtain ⟨c0,c1,c2,c3,c4,c5⟩:=(hrow.keeps (HI.out.2.2.2.2.block g hg)) j hlt
   have hD:=HD.out _ (List.getElem_mem hlt)
   have hDk:=wS (L:=L.take j) fun e he => HD.out e (List.mem_of_mem_take he)
   have HT:=hid (a5r hlt)
   have HTL:=hid (show (L.take j).length=j from List.length_take_of_le hj)
   generalize hLj : L[j]=E at c0 c1 c2 c3 c4 c5 hD HT
   obtain ⟨t,ta,tc⟩:=E
   obtain ⟨W2,hW2⟩ : ∃ W,W=wr.alloc (.cells #[.int .i64 t.kind,.string t.text,.int .i64 t.n,.slice ta t.kids.length tc,.int .i64 t.place,.int .i64 (c8 t)] 50):=⟨_,rfl⟩
   dsimp only at c0 c1 c2 c3 c4 c5 hD
   clear hrow hLj HR HD
   go_upto_region 5 with fail
   rw [← hW2]
   have B2:=hid (show Below wr.heap.size wr W2 from hW2 ▸ c6 _ _)
   have K2:=hid (show T6 wr.heap.size t.kind t.text t.n ta t.kids.length tc t.place (c8 t) W2 from hW2 ▸ T6.make wr _ _ _ _ _ _ _ _)
   have X2:=hid (show T6 (w.heap.size + 1 + 1) k sb n a j c p (T3 (L.take j)) W2 from HI.out.2.1.below B2)
   have O2:=hid (show W2.ownsRow (w.heap.size + 3) 24 5 (.slice a j c) j (Y1 (L.take j)) from n7 HI.out.1 B2)
   have hwr:=hid (show w.heap.size + 1 + 1<wr.heap.size from HI.out.2.1.lt)
   have hlt2:=K2.out.lt
   have hlt3:=X2.out.lt
   obtain ⟨⟨k0,k1,k2,k3,k4,k5⟩,-⟩:=K2.out.cells
   obtain ⟨⟨x0,x1,x2,x3,x4,x5⟩,⟨f0,f1,f2,f3,f4,f5⟩⟩:=X2.out.cells
   clear hW2 c0 c1 c2 c3 c4 c5
   obtain ⟨W3,hW3⟩ : ∃ W,W=W2.alloc (.cells #[.int .i64 t.kind,.string t.text,.int .i64 t.n,.slice ta t.kids.length tc,.int .i64 t.place] 24):=⟨_,rfl⟩
   have B3:=hid (show Below W2.heap.size W2 W3 from hW3 ▸ c6 _ _)
   have N3:=hid (show ∀ i u,(ndC (t,ta,tc))[i]?=some u→W3.cell? ((⟨W2.heap.size,0,none⟩ : Addr).add i)=some u from hW3 ▸ aW _ _ _ _ _ _ _)
   have O3:=hid (show W3.ownsRow (w.heap.size + 3) 24 5 (.slice a j c) j (Y1 (L.take j)) from hW3 ▸ O2.out.alloc _)
   have HS3:=hid (show w.heap.size + 3≤W3.heap.size by have:=B3.out.size; omega)
   have HOB:=hid (show ∀ d,(Value.slice a j c).ownBlock=some d→w.heap.size + 3≤d∧d<wr.heap.size from fun d hd => HI.out.1.lt d hd)
   have HF:=hid (show ∀ w5,W3.grownBy w5 (Value.slice a j c).ownBlock→T6 (w.heap.size + 1 + 1) k sb n a j c p (T3 (L.take j)) w5∧T6 wr.heap.size t.kind t.text t.n ta t.kids.length tc t.place (c8 t) w5 from fun w5 hg =>
    ⟨(X2.out.below B3).grown hg (fun e => by have:=(HOB.out _ e).1; omega),(K2.out.below B3).grown hg (fun e => by have:=(HOB.out _ e).2; omega)⟩)
   go_upto_region 6 with (at_builtin; rw [← hW3]; refine wpList_append_lies _ rfl _ _ 22 rfl (w.heap.size + 3) 24 i0 (.agg #[.int .i64 0,.string ⟨#[]⟩,.int .i64 0,.slice none 0 0,.int .i64 0]) 5 64 Tryz.underlying22 HI0.out.1 HI0.out.2.1 HI0.out.2.2.1 HI0.out.2.2.2 rfl (by decide) _ _ _ rfl O3 ⟨W2.heap.size,0,none⟩ 1 1 (ndC (t,ta,tc)) rfl rfl N3 (oF _) (by decide) (by unfold maxLen; omega) (by omega) HS3 _ rfl ?_; intro gb cap' w5 hown' hgrow' hat hltg; have X5:=hid (HF.out w5 hgrow'); have HO':=hid hown'; have HG':=hid hgrow'; clear k0 k1 k2 k3 k4 k5 x0 x1 x2 x3 x4 x5 f0 f1 f2 f3 f4 f5 hown' hgrow'; obtain ⟨⟨x0,x1,x2,x3,x4,x5⟩,⟨f0,f1,f2,f3,f4,f5⟩⟩:=X5.out.1.cells; have hl5:=X5.out.1.lt)
   obtain ⟨W6,hW6⟩ : ∃ W,W=w5.setCell ⟨w.heap.size + 1 + 1,3,none⟩ (.slice (some ⟨gb,0,none⟩) (j + 1) cap'):=⟨_,rfl⟩
   rw [← hW6]
   have X6:=hid (show T6 (w.heap.size + 1 + 1) k sb n (some ⟨gb,0,none⟩) (j + 1) cap' p (T3 (L.take j)) W6 from hW6 ▸ X5.out.1.set3 _ _ _)
   have K6:=hid (show T6 wr.heap.size t.kind t.text t.n ta t.kids.length tc t.place (c8 t) W6 from hW6 ▸ X5.out.2.set (by have:=hwr.out; omega) _ _)
   have HW6:=hid hW6
   clear hW6 hW3 x0 x1 x2 x3 x4 x5 f0 f1 f2 f3 f4 f5
   obtain ⟨⟨k0,k1,k2,k3,k4,k5⟩,-⟩:=K6.out.cells
   obtain ⟨⟨x0,x1,x2,x3,x4,x5⟩,⟨f0,f1,f2,f3,f4,f5⟩⟩:=X6.out.cells
   have hl6:=X6.out.lt
   have hk6:=K6.out.lt
   go_wp2_with fail
   go_roundw
   case rel =>
    have hb1 : gb≠w.heap.size + 1 + 1∧w.heap.size + 3≤gb:=by
     have:=HO'.out.lt gb rfl
     omega
    have hsz6 : W6.heap.size=w5.heap.size:=by rw [HW6.out]; simp [World.setCell]
    have hO6 : W6.ownsRow (w.heap.size + 3) 24 5 (.slice (some ⟨gb,0,none⟩) (j + 1) cap') (j + 1) (Y1 (L.take (j + 1))):=by
     rw [HT.out,oI,HW6.out]
     exact HO'.out.kept (e9 _ _ _ _) (.inr (fun e => hb1.1 (Option.some.inj e)))
    have hD5 : T3 (L.take (j + 1))=max (T3 (L.take j)) (c8 t):=by rw [HT.out,a0r]
    have G0 : wr.grownBy W3 (Value.slice a j c).ownBlock:=b8 (B2.out.trans (B3.out.mono B2.out.size))
    have G5 : wr.grownBy w5 (Value.slice a j c).ownBlock:=b6 G0 HG'
    have hq : ∀ d,d<w.heap.size + 1 + 1→w5.heap[d]?=wr.heap[d]?:=fun d hd => G5.block d (by have:=hwr.out; omega) (fun e => by have:=(HOB.out d e.symm).1; omega)
    have hb5 : Below w.heap.size w w5:=HI.out.2.2.2.2.trans ⟨G5.os,G5.tape,G5.output,G5.size,fun d hd => hq d (by omega)⟩
    refine ⟨j + 1,some ⟨gb,0,none⟩,cap',by omega,by go_num,hO6.kept (e9 _ _ _ _) (.inr (fun e => hb1.1 (Option.some.inj e))),?_,?_,?_,?_⟩
    ·rw [hD5]
     have:=X6.out.set5 (max (T3 (L.take j)) (c8 t) : Nat)
     rw [show ((max (T3 (L.take j)) (c8 t) : Nat) : Int)=max (T3 (L.take j) : Int) (c8 t) by omega] at this ⊢
     exact this
    ·rw [HW6.out]
     exact ((show f6 w.heap.size (.mk k sb n [] p) none 0 w5 from (hq _ (by omega)).trans HI.out.2.2.1).set (by omega) _ _).set (by omega) _ _
    ·rw [HW6.out]
     exact ((show T6 (w.heap.size + 1) 0 ⟨#[]⟩ 0 none 0 0 0 0 w5 from (hq _ (by omega)).trans HI.out.2.2.2.1).set (by omega) _ _).set (by omega) _ _
    ·rw [HW6.out]
     exact (hb5.setCell (p:=⟨w.heap.size + 1 + 1,3,none⟩) (by show w.heap.size≤w.heap.size + 1 + 1; omega) _).setCell (p:=⟨w.heap.size + 1 + 1,5,none⟩) (by show w.heap.size≤w.heap.size + 1 + 1; omega) _
   case measure => simp [intOf]; omega
  ·have hjl : j=L.length:=by omega
   have HT:=hid (show L.take j=L from List.take_of_length_le (by omega))
   have HJ:=hid hjl
   have HX:=HI.out.2.1
   rw [HT.out] at HX
   obtain ⟨⟨x0,x1,x2,x3,x4,x5⟩,⟨f0,f1,f2,f3,f4,f5⟩⟩:=HX.cells
   have hl6:=HX.lt
   have hDk:=wS (L:=L) fun e he => HD.out e he
   have HX6:=hid (HX.set5 ((T3 L : Int) + 1))
   have HB6:=hid (HI.out.2.2.2.2.setCell (p:=⟨w.heap.size + 1 + 1,5,none⟩) (by show w.heap.size≤w.heap.size + 1 + 1; omega) (.int .i64 ((T3 L : Int) + 1)))
   have HN6:=hid (HI.out.2.2.1.set (c:=w.heap.size + 1 + 1) (by omega) 5 (.int .i64 ((T3 L : Int) + 1)))
   have HZ6:=hid (HI.out.2.2.2.1.set (c:=w.heap.size + 1 + 1) (by omega) 5 (.int .i64 ((T3 L : Int) + 1)))
   obtain ⟨W6,hW6⟩ : ∃ W,W=wr.setCell ⟨w.heap.size + 1 + 1,5,none⟩ (.int .i64 ((T3 L : Int) + 1)):=⟨_,rfl⟩
   rw [← hW6] at HX6 HB6 HN6 HZ6
   have HE:=hid (show c8 (mkN k s n (L.map (·.1)) p)=T3 L + 1 by unfold mkN; rw [c8]; rfl)
   have HE2:=hid (show c8 (.mk k sb n (L.map (·.1)) p)=T3 L + 1 by rw [c8]; rfl)
   clear hjl HX
   have HO6:=hid (show W6.ownsRow (w.heap.size + 3) 24 5 (.slice a L.length c) L.length (Y1 L) by
    have:=HI.out.1
    rw [HT.out,HJ.out] at this
    rw [hW6]
    exact this.kept (e9 _ _ _ _) (.inr (fun e => by have:=(this.lt _ e).1; omega)))
   have HBx:=hid (show Below w.heap.size w W6 from hW6 ▸ HB6.out)
   go_upto_region 9 with fail
   rw [← hW6]
   clear hW6 x0 x1 x2 x3 x4 x5 f0 f1 f2 f3 f4 f5 hl6
   obtain ⟨⟨x0,x1,x2,x3,x4,x5⟩,-⟩:=HX6.out.cells
   have hl6:=HX6.out.lt
   by_cases hk : 100<T3 L + 1
   ·have hk' : (100 : Int)<(T3 L : Int) + 1:=by omega
    have HK:=hid hk
    obtain ⟨⟨-,-,-,-,n4⟩,-⟩:=HN6.out.cells
    have hn6:=HN6.out.lt
    simp only [Nd.place] at n4
    have C3:=hid (aE P 75 p W6)
    clear hk
    go_wp2_with fail
    (with_reducible refine Calls.mono C3.out ?_)
    rintro e w2 ⟨rfl,rfl⟩
    refine ⟨rfl,HBx,?_⟩
    rw [if_pos (by rw [HE.out]; exact HK)]
    rfl
   ·have hk' : ¬ (100 : Int)<(T3 L : Int) + 1:=by omega
    have HK:=hid hk
    obtain ⟨⟨z0,z1,z2,z3,z4,z5⟩,⟨f0,f1,f2,f3,f4,f5⟩⟩:=HZ6.out.cells
    have hz6:=HZ6.out.lt
    clear hk
    go_wp2_with fail
    refine bodyPost_ret (v:=trV (mkN k s n (L.map (·.1)) p) a c) (by simp [results,Tryz.results54,go_sem,trV,mkN,Nd.kind,Nd.text,Nd.n,Nd.kids,Nd.place,z0,z1,z2,z3,z4,z5,HSB.out,HE2.out,HJ.out]) rfl ?_
    have HF:=a0M HBx (Nat.le_succ w.heap.size) k sb n a j c p ((T3 L : Int) + 1)
    have HO7:=HO6.out.kept (jK (b:=w.heap.size + 1) W6 k sb n a j c p ((T3 L : Int) + 1)) (.inr (fun e => by have:=(HO6.out.lt _ e).1; omega))
    refine ⟨HF,?_⟩
    rw [if_neg (by rw [HE.out]; exact HK)]
    exact ⟨a,c,rfl,fun av hav hl => a6o HO7 HF (by omega) hav hl⟩
end
section
open Lib (hid)
open Go.RowKit
def QP (P g cap : Nat) (ts : List Tk) (nest : Nat) (x : Rd) (w : World) (e : Ending) (w' : World) : Prop:=match x with
 | .ok (t,r) => ∃ (a : Option Addr) (cp : Nat),e=.returned (trV t a cp)∧SQ P g cap ts nest r w'∧w.grownBy w' (some P)∧t.lies (Fr w.heap.size w'.heap.size) w' a cp∧c8 t≤100
 | .error (k,p) => e=flt k p∧w.grownBy w' (some P)
theorem QP.below {P g cap : Nat} {ts : List Tk} {nest : Nat} {x : Rd} {w W W' : World} {e : Ending} (h : QP P g cap ts nest x w e W) (hb : Below W.heap.size W W') : QP P g cap ts nest x w e W':=by
 cases x with
 | error q => obtain ⟨k,p⟩:=q; exact ⟨h.1,b6 h.2 (b8 hb)⟩
 | ok q =>
   obtain ⟨t,r⟩:=q
   obtain ⟨a,cp,he,hs,hg',hl,hd⟩:=h
   exact ⟨a,cp,he,hs.below hb,b6 hg' (b8 hb),d5 hl (fun b hb' => hb.block b hb'.2) (fun b hb' => ⟨hb'.1,Nat.lt_of_lt_of_le hb'.2 hb.size⟩),hd⟩
theorem QP.fin {P g cap : Nat} {ts : List Tk} {nest : Nat} {t : Nd} {a : Option Addr} {cp : Nat} {r : List Tk} {w W : World} {b : Nat} {av : Nat→Prop} (hs : SQ P g cap ts nest r W) (hg : w.grownBy W (some P)) (hb : w.heap.size≤b) (hbP : b≠P∧b≠g) (hl : t.lies av W a cp)
 (hav : ∀ c,av c→w.heap.size≤c∧c<W.heap.size∧c≠b) (hd : c8 t≤100) : QP P g cap ts nest (.ok (t,r)) w (.returned (trV t a cp)) (a4Y W b t.kind t.text t.n a t.kids.length cp t.place (c8 t)):=by
 have hk:=(jK (b:=b) W t.kind t.text t.n a t.kids.length cp t.place (c8 t))
 refine ⟨a,cp,rfl,hs.keeps (fun c hc => ?_) hk.size,?_,d5 hl (fun c hc => ?_) fun c hc => ⟨(hav c hc).1,?_⟩,hd⟩
 ·have hbl:=hs.blocks
  rcases hc with rfl | rfl
  ·exact hk.block _ hbl.1 (fun e => hbP.1 (Option.some.inj e).symm)
  ·exact hk.block _ hbl.2.1 (fun e => hbP.2 (Option.some.inj e).symm)
 ·exact ⟨hk.os.trans hg.os,hk.tape.trans hg.tape,hk.output.trans hg.output,Nat.le_trans hg.size hk.size,fun i hi hr => (hk.block i (Nat.lt_of_lt_of_le hi hg.size) (fun e => by have:=Option.some.inj e; omega)).trans (hg.block i hi hr)⟩
 ·exact hk.block c (hav c hc).2.1 (fun e => (hav c hc).2.2 (Option.some.inj e))
 ·exact Nat.lt_of_lt_of_le (hav c hc).2.1 hk.size
def m7 (K : Nat) : Prop:=∀ (args : Array Value) (w : World),(callFunc K args).run Tryz.prog w=.ok (.enter K args) w
theorem SQ.nest' {P g cap : Nat} {ts : List Tk} {n : Nat} {l : List Tk} {W : World} (h : SQ P g cap ts n l W) (n' : Nat) : (W.cell? ⟨P,1,none⟩=some (.int .i64 n)∧W.frozen? ⟨P,1,none⟩=false)∧SQ P g cap ts n' l (W.setCell ⟨P,1,none⟩ (.int .i64 n')):=by
 obtain ⟨a,e,h⟩:=h
 exact ⟨⟨h.cells.1.2,h.cells.2.2⟩,a,e,h.set_nest n'⟩
theorem nA (P g cap : Nat) (ts : List Tk) (nest : Nat) (l : List Tk) (K : Nat) (cs : Array Value) (x : Rd) (w : World) (hn : nest≤300) (h : SQ P g cap ts nest l w) (hK : m7 K)
 (hread : nest + 1≤300→∀ W,SQ P g cap ts (nest + 1) l W→w.grownBy W (some P)→Calls Tryz.prog K cs W (QP P g cap ts (nest + 1) x W)) :
 Calls Tryz.prog 48 #[.pointer (some ⟨P,0,none⟩),.func (.func K) #[] cs] w (QP P g cap ts nest (U0 nest l x) w):=by
 unfold m7 at hK
 have hpl:=h.blocks
 obtain ⟨⟨p1,f1⟩,h1⟩:=h.nest' (nest + 1)
 have HR:=hid hread
 have H1:=hid h1
 clear h h1 hread
 go_enter Tryz.func48,Tryz.ntmps48
 go_upto_region 2 with fail
 have e1 : ((nest + 1 : Nat) : Int)=(nest : Int) + 1:=by omega
 rw [e1] at H1
 obtain ⟨W1,hW1⟩ : ∃ W,W=w.setCell ⟨P,1,none⟩ (.int .i64 ((nest : Int) + 1)):=⟨_,rfl⟩
 have G1:=hid (show w.grownBy W1 (some P) from hW1 ▸ e9 w P 1 _)
 have hs1:=hid (show W1.heap.size=w.heap.size by rw [hW1]; simp [World.setCell])
 obtain ⟨W2,hW2⟩ : ∃ W,W=W1.alloc (.cells #[.int .i64 0,.string ⟨#[]⟩,.int .i64 0,.slice none 0 0,.int .i64 0,.int .i64 0] 50):=⟨_,rfl⟩
 have B2:=hid (show Below W1.heap.size W1 W2 from hW2 ▸ c6 _ _)
 have Z2:=hid (show T6 w.heap.size 0 ⟨#[]⟩ 0 none 0 0 0 0 W2 from hW2 ▸ hs1.out ▸ T6.make W1 _ _ _ _ _ _ _ _)
 have S2:=hid (show SQ P g cap ts (nest + 1) l W2 from (show SQ P g cap ts (nest + 1) l W1 from hW1 ▸ H1.out).below B2)
 have G2:=hid (b6 G1 (b8 B2))
 rw [← hW1,← hW2]
 clear hW1 hW2 p1 f1 e1
 by_cases hk : 300<nest + 1
 ·have hk' : (300 : Int)<(nest : Int) + 1:=by omega
  have R:=hid (show U0 nest l x=.error (75,(hd l).pos) from if_pos hk)
  obtain ⟨a,rfl,hp⟩:=S2.out
  have hpos:=hp.pos
  have D:=hid (O0 hpos)
  obtain ⟨⟨p0,p1⟩,-⟩:=hp.cells
  obtain ⟨t0,t1,t2,t3⟩:=hp.tok
  have hL : 0<ts.length - a:=by omega
  have C3:=hid (aE P 75 (ts[a]'hpos).pos W2)
  generalize ts[a]'hpos=T at t0 t1 t2 t3 D C3
  generalize ts.length - a=L at p0 hL
  generalize cap - a=C at p0
  generalize a * 4=off at p0 t0 t1 t2 t3
  rw [Int.natCast_add] at p1
  clear hp hpos hk
  go_wp2_with fail
  (with_reducible refine Calls.mono C3.out ?_)
  rintro e w2 ⟨rfl,rfl⟩
  refine ⟨rfl,?_⟩
  rw [R.out,D.out]
  exact ⟨rfl,G2⟩
 ·have hk' : ¬ (300 : Int)<(nest : Int) + 1:=by omega
  have R:=hid (show U0 nest l x=x from if_neg hk)
  have C:=hid (HR.out (by omega) W2 S2 G2)
  have p1:=(S2.out.nest' 0).1.1
  rw [Int.natCast_add] at p1
  have HP:=hid hpl
  clear hk HR
  go_wp2_with fail
  (with_reducible refine Calls.mono C.out ?_)
  intro e w3 hq
  cases x with
  | error q =>
    obtain ⟨k,p⟩:=q
    obtain ⟨rfl,hg⟩:=hq
    refine ⟨rfl,?_⟩
    rw [R.out]
    exact ⟨rfl,b6 G2 hg⟩
  | ok q =>
    obtain ⟨t,r⟩:=q
    obtain ⟨a,cp,rfl,hs,hg,hl,hd⟩:=hq
    have Z3:=hid (Z2.out.grown hg (fun e => by have:=Option.some.inj e; omega))
    have G3:=hid (b6 G2 hg)
    have HL:=hid hl
    have HD:=hid hd
    obtain ⟨⟨p2,f2⟩,hs'⟩:=hs.nest' nest
    rw [Int.natCast_add] at p2
    have HS:=hid hs
    have hPl:=hs.blocks.1
    have hz3:=Z3.out.lt
    obtain ⟨⟨z0,z1,z2,z3,z4,z5⟩,⟨y0,y1,y2,y3,y4,y5⟩⟩:=Z3.out.cells
    have hPz : ¬ P=w.heap.size:=by omega
    clear hs hg hl hd p1 C hs'
    unfold trV
    go_wp2_with fail
    refine bodyPost_ret (v:=trV t a cp) (by simp [results,Tryz.results48,go_sem,trV,hz3,z0,z1,z2,z3,z4,z5]) rfl ?_
    rw [R.out]
    have hsz:=G2.out.size
    have hB:=B2.out.size
    have hlt2:=Z2.out.lt
    refine (QP.fin (P:=P) (g:=g) (b:=w.heap.size) (W:=w3.setCell ⟨P,1,none⟩ (.int .i64 nest)) (av:=Fr W2.heap.size w3.heap.size) (HS.out.nest' nest).2 (b6 G3 (e9 _ _ _ _)) (Nat.le_refl _) ⟨by have:=HP.out; omega,by have:=HP.out; omega⟩ (d5 HL ((j0.refl _ _).set (fun c hc e => by have:=hc.1; have:=HP.out; omega) _ _) fun c hc => hc) (fun c hc => ⟨by have:=hc.1; omega,by simp [World.setCell]; exact hc.2,by have:=hc.1; omega⟩) HD).below (c6 _ _)
end
section
open Lib (hid)
open Go.RowKit
theorem o5 (n : Int) (w : World) : Calls Tryz.prog 116 #[.int .u8 n] w fun e w' => e=.returned (.bool (smI n))∧w=w':=by
 go_enter Tryz.func116,Tryz.ntmps116
 go_wp2
 all_goals go_ret
 all_goals exact ⟨R8 (by unfold smI; rw [Bool.eq_iff_iff]; simp; omega),rfl⟩
theorem F8 (n : Int) (w : World) : Calls Tryz.prog 118 #[.int .u8 n] w fun e w' => e=.returned (.bool (dgI n))∧w=w':=by
 go_enter Tryz.func118,Tryz.ntmps118
 go_wp2
 all_goals go_ret
 all_goals exact ⟨R8 (by unfold dgI; rw [Bool.eq_iff_iff]; simp; omega),rfl⟩
theorem H8 (n : Int) (w : World) : Calls Tryz.prog 121 #[.int .u8 n] w fun e w' => e=.returned (.bool (grI n))∧w=w':=by
 go_enter Tryz.func121,Tryz.ntmps121
 go_wp2
 all_goals go_ret
 all_goals exact ⟨R8 (by unfold grI; rw [Bool.eq_iff_iff]; simp; omega),rfl⟩
theorem a0J (n : Int) (w : World) : Calls Tryz.prog 174 #[.int .u8 n] w fun e w' => e=.returned (.bool (inI n))∧w=w':=by
 have e:=hid (show inI n=(smI n || dgI n || n == 95) from rfl)
 cases h1 : smI n
 ·cases h2 : dgI n
  all_goals
   go_enter Tryz.func174,Tryz.ntmps174
   go_wp2_with (first | (go_at_call 116; refine (o5 _ _).mono ?_; rintro e w' ⟨rfl,rfl⟩; rw [h1]) | (go_at_call 118; refine (F8 _ _).mono ?_; rintro e w' ⟨rfl,rfl⟩; rw [h2]))
   go_ret
   exact ⟨R8 (by rw [e.out,h1,h2]; rfl),rfl⟩
 ·go_enter Tryz.func174,Tryz.ntmps174
  go_wp2_with (first | (go_at_call 116; refine (o5 _ _).mono ?_; rintro e w' ⟨rfl,rfl⟩; rw [h1]))
  go_ret
  exact ⟨R8 (by rw [e.out,h1]; rfl),rfl⟩
theorem a2o (n : Int) (w : World) : Calls Tryz.prog 85 #[.int .u8 n] w fun e w' => e=.returned (.bool (n != 10))∧w=w':=by
 go_enter Tryz.func85,Tryz.ntmps85
 go_wp2
 all_goals go_ret
 all_goals exact ⟨R8 (by first | rfl | simp),rfl⟩
theorem a4Z (n : Int) (w : World) : Calls Tryz.prog 149 #[.int .u8 n] w fun e w' => e=.returned (.bool (n != 34 && n != 10))∧w=w':=by
 go_enter Tryz.func149,Tryz.ntmps149
 go_wp2
 all_goals go_ret
 all_goals exact ⟨R8 (by first | rfl | (rw [Bool.eq_iff_iff]; simp; try omega)),rfl⟩
def SB (X : Nat) (s : ByteArray) (a : Nat) (W : World) : Prop:=W.cell? ⟨X,0,none⟩=some (.string s)∧W.cell? ⟨X,1,none⟩=some (.int .i64 a)
theorem F6 (X : Nat) (s : ByteArray) (a p : Nat) (w : World) (h : SB X s a w) :
 Calls Tryz.prog 145 #[.pointer (some ⟨X,0,none⟩),.int .i64 p] w fun e w' => e=.returned (.int .u8 ((s.data.toList.drop p).headD 0).toNat)∧w=w':=by
 obtain ⟨h0,h1⟩:=h
 by_cases hlt : p<s.size
 ·have F:=hid (v7 hlt)
  go_enter Tryz.func145,Tryz.ntmps145
  go_wp2_with fail
  go_ret
  exact ⟨jC (by rw [F.out]),rfl⟩
 ·have F:=hid (aL (s:=s) (k:=p) (by omega))
  go_enter Tryz.func145,Tryz.ntmps145
  go_wp2_with fail
  go_ret
  exact ⟨jC (by rw [F.out]; rfl),rfl⟩
theorem a6D {P : UInt8→Bool} {s : ByteArray} {k : Nat} (h : k<s.size) (hs : P s[k]=true) : ((s.data.toList.drop k).takeWhile P).length=1 + ((s.data.toList.drop (k + 1)).takeWhile P).length:=by
 rw [x9 h,List.takeWhile_cons,if_pos hs]; simp; omega
theorem a30 {P : UInt8→Bool} {s : ByteArray} {k : Nat} (h : k<s.size) (hs : P s[k]=false) : ((s.data.toList.drop k).takeWhile P).length=0:=by
 rw [x9 h,List.takeWhile_cons,if_neg (by rw [hs]; decide)]; rfl
theorem a3P {P : UInt8→Bool} {s : ByteArray} {k : Nat} (h : s.size≤k) : ((s.data.toList.drop k).takeWhile P).length=0:=by rw [aK h]; rfl
theorem gY (X : Nat) (s : ByteArray) (a p : Nat) (K : Nat) (P : UInt8→Bool) (w : World) (hK : m7 K) (hP : ∀ (c : UInt8) (w : World),Calls Tryz.prog K #[.int .u8 c.toNat] w fun e w' => e=.returned (.bool (P c))∧w=w') (h : SB X s a w) (hs : s.size≤16384) (hp : p≤20000) :
 Calls Tryz.prog 84 #[.pointer (some ⟨X,0,none⟩),.int .i64 p,.func (.func K) #[] #[]] w fun e w' => e=.returned (.int .i64 ((s.data.toList.drop p).takeWhile P).length)∧w=w':=by
 unfold m7 at hK
 obtain ⟨h0,h1⟩:=h
 have HP:=hid hP
 clear hP
 go_enter Tryz.func84,Tryz.ntmps84
 go_wp2_with fail
 go_loop [7] (fun n => ∃ k : Nat,k≤s.size∧n=.int .i64 k∧Hid (k + ((s.data.toList.drop (p + k)).takeWhile P).length=((s.data.toList.drop p).takeWhile P).length)) (fun n => s.size - (intOf n).toNat)
 case atStart => exact ⟨0,by omega,rfl,by show _=_; rw [Nat.add_zero,Nat.zero_add]⟩
 case round =>
  obtain ⟨k,hk,rfl,HK⟩:=hrel
  by_cases hlt : p + k<s.size
  ·have C:=hid (HP.out s[p + k] w)
   cases hc : P s[p + k]
   ·have F:=hid (a30 hlt hc)
    rw [hc] at C
    clear hc
    go_wp2_with fail
    (with_reducible refine Calls.mono C.out ?_)
    rintro e w1 ⟨rfl,rfl⟩
    go_wp2_with fail
    go_ret
    exact ⟨jC (by have:=HK.out; rw [F.out] at this; omega),rfl⟩
   ·have F:=hid (a6D hlt hc)
    rw [hc] at C
    clear hc
    go_wp2_with fail
    (with_reducible refine Calls.mono C.out ?_)
    rintro e w1 ⟨rfl,rfl⟩
    go_wp2_with fail
    go_round
    case rel => exact ⟨k + 1,by omega,by go_num,by show _=_; have:=HK.out; rw [F.out] at this; rw [← Nat.add_assoc]; omega⟩
    case measure => simp [intOf]; omega
  ·have F:=hid (a3P (P:=P) (s:=s) (k:=p + k) (by omega))
   go_wp2_with fail
   go_ret
   exact ⟨jC (by have:=HK.out; rw [F.out] at this; omega),rfl⟩
theorem uW : m7 174:=fun args w => by kernel_rfl
theorem vG : m7 118:=fun args w => by kernel_rfl
theorem vC : m7 121:=fun args w => by kernel_rfl
theorem xK : m7 85:=fun args w => by kernel_rfl
theorem zS : m7 149:=fun args w => by kernel_rfl
section
variable (X : Nat) (s : ByteArray) (a p : Nat) (w : World) (h : SB X s a w) (hs : s.size≤16384) (hp : p≤20000)
theorem qM (h : SB X s a w) (hs : s.size≤16384) (hp : p≤20000) : Calls Tryz.prog 84 #[.pointer (some ⟨X,0,none⟩),.int .i64 p,.func (.func 118) #[] #[]] w fun e w' => e=.returned (.int .i64 (Y3 (s.data.toList.drop p) : Nat))∧w=w' :=
 gY X s a p _ dgC w vG (fun c w => by rw [bL]; exact F8 _ w) h hs hp
theorem a0g (h : SB X s a w) (hs : s.size≤16384) (hp : p≤20000) : Calls Tryz.prog 84 #[.pointer (some ⟨X,0,none⟩),.int .i64 p,.func (.func 121) #[] #[]] w fun e w' => e=.returned (.int .i64 (vL (s.data.toList.drop p) : Nat))∧w=w' :=
 gY X s a p _ grC w vC (fun _ w => H8 _ w) h hs hp
theorem zU (h : SB X s a w) (hs : s.size≤16384) (hp : p≤20000) : Calls Tryz.prog 84 #[.pointer (some ⟨X,0,none⟩),.int .i64 p,.func (.func 174) #[] #[]] w fun e w' => e=.returned (.int .i64 (((s.data.toList.drop p).takeWhile inC).length : Nat))∧w=w' :=
 gY X s a p _ inC w uW (fun _ w => a0J _ w) h hs hp
theorem a4r (h : SB X s a w) (hs : s.size≤16384) (hp : p≤20000) : Calls Tryz.prog 84 #[.pointer (some ⟨X,0,none⟩),.int .i64 p,.func (.func 149) #[] #[]] w fun e w' => e=.returned (.int .i64 (dC (s.data.toList.drop p) : Nat))∧w=w' :=
 gY X s a p _ kY w zS (fun c w => by rw [a1V]; exact a4Z _ w) h hs hp
theorem a6B (c : UInt8) : ((c.toNat : Int) != 10)=(c != 10):=by
 have:=jF (p:=fun c => ((c.toNat : Int) != 10) == (c != 10)) (by decide +kernel) c
 simpa using this
theorem a2C (h : SB X s a w) (hs : s.size≤16384) (hp : p≤20000) : Calls Tryz.prog 84 #[.pointer (some ⟨X,0,none⟩),.int .i64 p,.func (.func 85) #[] #[]] w fun e w' => e=.returned (.int .i64 (((s.data.toList.drop p).takeWhile (· != 10)).length : Nat))∧w=w' :=
 gY X s a p _ (· != 10) w xK (fun c w => by rw [← a6B]; exact a2o _ w) h hs hp
end
theorem uQ {l : List UInt8} : m6 l=if smC (l.headD 0)=true then (l.takeWhile inC).length else 0:=by
 cases l with
 | nil => rfl
 | cons c l =>
   show (if smC c=true then 1 + (l.takeWhile inC).length else 0)=_
   rw [List.headD_cons]
   split
   ·rename_i h
    have : inC c=true:=by unfold inC inI; rw [show smI (c.toNat : Int)=true from h]; rfl
    rw [List.takeWhile_cons,if_pos this,List.length_cons]; omega
   ·rfl
theorem mI (X : Nat) (s : ByteArray) (a p : Nat) (w : World) (h : SB X s a w) (hs : s.size≤16384) (hp : p≤20000) :
 Calls Tryz.prog 144 #[.pointer (some ⟨X,0,none⟩),.int .i64 p] w fun e w' => e=.returned (.int .i64 (m6 (s.data.toList.drop p) : Nat))∧w=w':=by
 have E:=hid (uQ (l:=s.data.toList.drop p))
 have C1:=hid (F6 X s a p w h)
 have C2:=hid (zU X s a p w h hs hp)
 have HSM:=hid (show smC ((s.data.toList.drop p).headD 0)=smI ((s.data.toList.drop p).headD 0).toNat from rfl)
 generalize (s.data.toList.drop p).headD 0=c at C1 E HSM
 generalize ((s.data.toList.drop p).takeWhile inC).length=n at C2 E
 generalize m6 (s.data.toList.drop p)=m at E ⊢
 obtain ⟨h0,h1⟩:=h
 cases hc : smI c.toNat
 ·have F:=hid (show m=0 by rw [E.out,HSM.out,hc]; rfl)
  go_enter Tryz.func144,Tryz.ntmps144
  go_wp2_with fail
  (with_reducible refine Calls.mono C1.out ?_)
  rintro e w1 ⟨rfl,rfl⟩
  go_wp2_with (go_at_call 116; refine (o5 _ _).mono ?_; rintro e w' ⟨rfl,rfl⟩; rw [hc])
  go_ret
  exact ⟨jC (by rw [F.out]; rfl),rfl⟩
 ·have F:=hid (show m=n by rw [E.out,HSM.out,hc]; rfl)
  go_enter Tryz.func144,Tryz.ntmps144
  go_wp2_with fail
  (with_reducible refine Calls.mono C1.out ?_)
  rintro e w1 ⟨rfl,rfl⟩
  go_wp2_with (go_at_call 116; refine (o5 _ _).mono ?_; rintro e w' ⟨rfl,rfl⟩; rw [hc])
  (with_reducible refine Calls.mono C2.out ?_)
  rintro e w2 ⟨rfl,rfl⟩
  go_wp2_with fail
  go_ret
  exact ⟨jC (by rw [F.out]),rfl⟩
end
section
open Lib (hid)
open Go.RowKit
theorem a3i (P g cap : Nat) (ts : List Tk) (he : y7 ts) (l : List Tk) (hE : ∀ r,r.length<l.length→CE P g cap ts r) (nest : Nat) (w : World) (hn : nest≤300) (h : SP P g cap ts nest (.ok l) w) (ho : isT o6 l=true) :
 Calls Tryz.prog 199 #[.pointer (some ⟨P,0,none⟩),.int .i64 8] w (a7H P g cap ts nest (rd (.args []) nest (b9 l)) w):=by
 obtain ⟨i0,hi,hz0,hz1,hz2⟩:=info_parts (show (Tryz.prog.info? 24).map (fun i => (i.zero,i.size,i.bytes))=some (some (.agg #[.int .i64 0,.string ⟨#[]⟩,.int .i64 0,.slice none 0 0,.int .i64 0]),5,64) by kernel_rfl)
 have HI0:=hid (show _∧_∧_∧_ from ⟨hi,hz0,hz1,hz2⟩)
 clear hi hz0 hz1 hz2
 have hlen:=n5 ho
 have HEx:=hid hE
 have HE:=hid he
 have hb0:=hid h.blocks
 obtain ⟨X,hX⟩ : ∃ X,X=rd (.args []) nest (b9 l):=⟨_,rfl⟩
 rw [← hX]
 have HX:=hid hX
 have HWt:=hid (show bP o6 (.ok l)=.ok (b9 l) from if_pos ho)
 have C1:=hid (R9 P g cap ts nest (.ok l) ⟨#[40]⟩ w hn h he)
 have HLen:=hid hlen
 clear h hE he hX ho hlen
 go_enter Tryz.func199,Tryz.ntmps199
 go_wp2_with fail
 (with_reducible refine Calls.mono C1.out ?_)
 rintro e w1 ⟨rfl,hs,hg⟩
 have I1:=hid (show a7A P g cap ts nest l X w w1 none 0 [] (.ok (b9 l)) from ⟨Nat.zero_le _,World.ownsRow_nil _ _ _ _,by rw [← HWt.out]; exact hs,hg,HX,fun r hr => by
  cases hr; exact ⟨fun e he => (by cases he),(by have:=HLen.out; omega)⟩⟩)
 clear hs hg C1
 go_upto_region 3 with fail
 go_loopw [5,6] (fun v _ wr => ∃ (ao : Option Addr) (cp : Nat) (L : List Ent) (σ : Sx),v=.slice ao L.length cp∧Hid (a7A P g cap ts nest l X w wr ao cp L σ)) (fun _ _ wr => a2G P ts wr)
 case atStart => exact ⟨none,0,[],_,rfl,I1⟩
 case round =>
  obtain ⟨ao,cp,L,σ,rfl,HI⟩:=hrel
  clear I1 HWt HX HLen
  have hL8 : L.length≤8:=HI.out.1
  have hs:=HI.out.2.2.1
  have hpl:=hs.blocks.1
  have HFar:=hid (show a2G P ts wr=a7y σ from hs.far)
  cases σ with
  | error q =>
    obtain ⟨k,p⟩:=q
    obtain ⟨hk0,i,n,hp,-,-⟩:=hs.error
    obtain ⟨⟨p0,p1,p2,p3,p4⟩,-⟩:=hp.cells
    have ek : (k == 0)=false:=beq_eq_false_iff_ne.2 hk0
    have C2:=hid (R9 P g cap ts nest (.error (k,p)) ⟨#[41]⟩ wr hn hs HE)
    clear hs hk0 hp
    go_wp2_with fail
    (with_reducible refine Calls.mono C2.out ?_)
    rintro e w2 ⟨rfl,hs,hg⟩
    have HS:=hid hs
    have HG:=hid hg
    clear hs hg C2
    go_wp2_with fail
    go_ret
    have hX : X=.error (k,p):=HI.out.2.2.2.2.1
    rw [hX]
    exact ⟨L.map (·.1),ao,cp,by rw [List.length_map]; rfl,HS,b6 HI.out.2.2.2.1 HG,fun _ _ h => by cases h⟩
  | ok r =>
    obtain ⟨i,-,hp⟩:=hs.ok
    obtain ⟨⟨p0,p1,p2,p3,p4⟩,-⟩:=hp.cells
    have HS:=hid hs
    have HXr:=hid (show X=rd (.args (L.map (·.1))) nest r from HI.out.2.2.2.2.1)
    by_cases h8 : L.length=8
    ·have hl8 : ((L.length : Int) == 8)=true:=by rw [h8]; rfl
     have HX8:=hid (show X=.error (76,(hd r).pos) by rw [HXr.out,a1P,if_pos (by rw [List.length_map]; exact h8)])
     have C2:=hid (a1M P g cap ts nest (.ok r) wr hs)
     clear hs hp h8
     go_wp2_with fail
     (with_reducible refine Calls.mono C2.out ?_)
     rintro e w2 ⟨T,rfl,hb,hT⟩
     have HT:=hid (hT r rfl)
     have HS2:=hid (HS.out.below hb)
     have HG2:=hid (d8 HI.out.2.2.2.1 (hb.mono HI.out.2.2.2.1.size))
     obtain ⟨i2,-,hp2⟩:=HS2.out.ok
     have C3:=hid (cD P g cap ts i2 nest w2 76 T.pos hp2)
     clear hb hT hp2 p0 p1 p2 p3 p4 hpl
     unfold tkV
     have hfd:=jW T.kind T.n T.pos ⟨T.text.toArray⟩
     go_wp2_with fail
     (with_reducible refine Calls.mono C3.out ?_)
     rintro e w3 ⟨rfl,hp3,hg⟩
     have HS3:=hid (show SP P g cap ts nest (.error (76,T.pos)) w3 from SP.of_error hp3 (by decide) (Int.le_refl _) (by omega))
     have HG3:=hid (b6 HG2 hg)
     have C4:=hid (R9 P g cap ts nest (.error (76,T.pos)) ⟨#[41]⟩ w3 hn HS3 HE)
     clear hp3 hg hfd
     go_wp2_with fail
     (with_reducible refine Calls.mono C4.out ?_)
     rintro e w4 ⟨rfl,hs,hg⟩
     have HS4:=hid hs
     have HG4:=hid (b6 HG3 hg)
     clear hs hg
     go_wp2_with fail
     go_ret
     rw [HX8.out,← HT.out]
     exact ⟨L.map (·.1),ao,cp,by rw [List.length_map]; rfl,HS4,HG4,fun _ _ h => by cases h⟩
    ·have hl8 : ((L.length : Int) == 8)=false:=beq_eq_false_iff_ne.2 (by omega)
     have hL7 : L.length≤7:=by omega
     have HXn:=hid (show X=(rd .expr nest r).then fun t r => if isT l0 r=true then rd (.args (L.map (·.1) ++ [t])) nest (b9 r) else d9 m5 r fun r => .ok (mkN 0 [] 0 (L.map (·.1) ++ [t]) 0,r) by rw [HXr.out,a1P,if_neg (by rw [List.length_map]; exact h8)])
     have C2:=hid (HEx.out r (HI.out.2.2.2.2.2 r rfl).2 nest wr hn hs)
     have HRL:=hid (fun t q (h : rd .expr nest r=.ok (t,q)) => aZ .expr nest r h)
     have HRl:=hid (HI.out.2.2.2.2.2 r rfl).2
     generalize rd .expr nest r=x at HXn C2 HRL
     clear hs hp h8 hL8
     go_wp2_with fail
     (with_reducible refine Calls.mono C2.out ?_)
     rintro e w4 ⟨t,a,c,rfl,hs,hg,hk⟩
     have HK:=hid hk
     have HS4:=hid hs
     have HG4:=hid (b6 HI.out.2.2.2.1 hg)
     have HGr:=hid hg
     have HO4:=hid (show w4.ownsRow w.heap.size 24 5 (.slice ao L.length cp) L.length (Y1 L) from HI.out.2.1.kept hg (by
      cases hv : (Value.slice ao L.length cp).ownBlock with
      | none => exact .inl rfl
      | some c => exact .inr (fun e => by have:=(HI.out.2.1.lt c hv).1; cases e; have:=hb0.out.1; omega)))
     have hwl:=hid (show w.heap.size≤w4.heap.size from HG4.out.size)
     have hbase : w.heap.size≤w4.heap.size:=hwl.out
     clear hs hg hk C2 p0 p1 p2 p3 p4 hpl
     unfold Nd.val
     go_wp2_with (at_builtin; refine wpList_append_lies _ rfl _ _ 22 rfl w.heap.size 24 i0 (.agg #[.int .i64 0,.string ⟨#[]⟩,.int .i64 0,.slice none 0 0,.int .i64 0]) 5 64 Tryz.underlying22 HI0.out.1 HI0.out.2.1 HI0.out.2.2.1 HI0.out.2.2.2 rfl (by decide) _ _ _ rfl (HO4.out.alloc _) ⟨w4.heap.size,0,none⟩ 1 1 (ndC (t,a,c)) rfl rfl (aW _ _ _ _ _ _ _) (oF _) (by decide) (by unfold maxLen; omega) (by omega) (by simp; omega) _ rfl ?_; intro gb cap' w5 hown' hgrow' hat hltg)
     have B4:=hid (c6 w4 (.cells #[.int .i64 t.kind,.string t.text,.int .i64 t.n,.slice a t.kids.length c,.int .i64 t.place] 24))
     have HOl:=hid (show ∀ d,(Value.slice ao L.length cp).ownBlock=some d→w.heap.size≤d∧d<wr.heap.size from fun d hd => HI.out.2.1.lt d hd)
     have HG5:=hid (a28 (b6 HG4 (b8 B4)) hgrow' (fun d hd => (HOl.out d hd).1))
     have HS5:=hid (SP.row (HS4.out.below B4) hgrow' (fun d hd => by have:=(HOl.out d hd).1; have:=hb0.out; omega))
     have HR5:=hid (show w5.ownsRow w.heap.size 24 5 (.slice (some ⟨gb,0,none⟩) (L ++ [(t,a,c)]).length cap') (L ++ [(t,a,c)]).length (Y1 (L ++ [(t,a,c)])) from by
      rw [oI,List.length_append]; exact hown')
     have HL5:=hid (show ∀ r',p5 x=.ok r'→(∀ e∈L ++ [(t,a,c)],e.1.lies (fun d => w.heap.size≤d∧d<w5.heap.size∧d≠gb) w5 e.2.1 e.2.2∧c8 e.1≤100)∧r'.length≤r.length from fun r' hr' => by
      obtain ⟨t2,ht2⟩:=D8 hr'
      obtain ⟨rfl,hl,hd⟩:=HK.out t2 r' ht2
      have hsz : wr.heap.size≤w4.heap.size:=HGr.out.size
      have hsz5 : w4.heap.size + 1≤w5.heap.size:=by have:=hgrow'.size; simpa using this
      have hal : (w4.alloc (.cells #[.int .i64 t2.kind,.string t2.text,.int .i64 t2.n,.slice a t2.kids.length c,.int .i64 t2.place] 24)).heap.size=w4.heap.size + 1:=by simp
      have hgb : (Value.slice ao L.length cp).ownBlock=some gb∨gb=w4.heap.size + 1:=hat.imp (fun h => h) (fun e => e.trans (by simp))
      have hP : P<wr.heap.size:=HS.out.blocks.1
      have hPw:=hb0.out.1
      refine ⟨fun e he => ?_,HRL.out t2 r' ht2⟩
      rcases List.mem_append.1 he with he | he
      ·obtain ⟨h1,h2⟩:=(HI.out.2.2.2.2.2 r rfl).1 e he
       refine ⟨d5 h1 (fun d hd => ?_) fun d hd => ⟨hd.1,by have:=hd.2.1; omega,fun e => ?_⟩,h2⟩
       ·have hd1:=hd.1
        have hd2:=hd.2.1
        refine (hgrow'.block d (by rw [hal]; omega) (fun e => hd.2.2 e.symm)).trans ((B4.out.block d (by omega)).trans (HGr.out.block d hd2 (fun e => by cases e; omega)))
       ·subst e
        rcases hgb with e | e
        ·exact hd.2.2 e
        ·have:=hd.2.1; omega
      ·obtain rfl:=List.mem_singleton.1 he
       refine ⟨d5 hl (fun d hd => ?_) fun d hd => ⟨Nat.le_trans HI.out.2.2.2.1.size hd.1,by have:=hd.2; omega,fun e => ?_⟩,hd⟩
       ·have hd1:=hd.1
        have hd2:=hd.2
        refine (hgrow'.block d (by rw [hal]; omega) (fun e => by have:=(HOl.out d e.symm).2; omega)).trans (B4.out.block d hd2)
       ·subst e
        rcases hgb with e | e
        ·have:=(HOl.out _ e).2; have:=hd.1; omega
        ·have:=hd.2; omega)
     have HIs:=hid (show Is x t from fun t' r h => (HK.out t' r h).1)
     have hgb5:=hid (show w.heap.size≤gb∧gb<w5.heap.size from HR5.out.lt gb rfl)
     have D1:=hid (kO P g cap ts nest (p5 x) ⟨#[44]⟩ w5 HS5)
     clear hown' hgrow' hat hltg hbase
     go_wp2_with fail
     (with_reducible refine Calls.mono D1.out ?_)
     rintro e w6 ⟨b1,rfl,hb,hb1⟩
     have HS6:=hid (HS5.out.below hb)
     have HB6:=hid hb
     have HT6:=hid hb1
     have HG6:=hid (d8 HG5 (hb.mono HG5.out.size))
     clear hb hb1 D1
     cases b1
     ·have C5:=hid (R9 P g cap ts nest (p5 x) ⟨#[41]⟩ w6 hn HS6 HE)
      go_wp2_with fail
      (with_reducible refine Calls.mono C5.out ?_)
      rintro e w7 ⟨rfl,hs,hg⟩
      have HS7:=hid (show SP P g cap ts nest (bP m5 (p5 x)) w7 from hs)
      have K57:=hid (show w5.grownBy w7 (some P) from b6 (b8 HB6) hg)
      have HG7:=hid (b6 HG6 hg)
      clear hs hg C5
      go_wp2_with fail
      go_ret
      have hX : X=goX (bP m5 (p5 x)) fun r => .ok (mkN 0 [] 0 (L.map (·.1) ++ [t]) 0,r):=by
       rw [HXn.out,a5t HIs.out HT6.out]
      have hP5:=HS5.out.blocks.1
      have hPw:=hb0.out.1
      refine ⟨(L ++ [(t,a,c)]).map (·.1),some ⟨gb,0,none⟩,cap',by rw [List.length_map,List.length_append]; rfl,by rw [hX,qV]; exact HS7,HG7,fun t' r' hx => ?_⟩
      rw [hX] at hx
      obtain ⟨r1,e1,e2⟩:=gQ hx
      cases e2
      obtain ⟨r2,e3,-,-⟩:=V7 e1
      obtain ⟨hal,-⟩:=HL5.out r2 e3
      have hrow : w7.ownsRow w.heap.size 24 5 (.slice (some ⟨gb,0,none⟩) (L ++ [(t,a,c)]).length cap') (L ++ [(t,a,c)]).length (Y1 (L ++ [(t,a,c)])) :=
       HR5.out.kept K57 (.inr (fun e => by have:=hgb5.out.1; have e' : gb=P:=Option.some.inj e; omega))
      have hcap:=hrow.2
      have hlen : (L ++ [(t,a,c)]).length=L.length + 1:=by rw [List.length_append]; rfl
      refine ⟨by rw [List.map_append]; rfl,⟨?_,?_,?_⟩,lH _ _ fun k hk => ?_,vM hrow (show Fr w.heap.size w7.heap.size gb from ⟨hgb5.out.1,Nat.lt_of_lt_of_le hgb5.out.2 K57.out.size⟩) fun e he => d5 (hal e he).1 ((j0.refl _ _).grown K57 fun d hd => ⟨hd.2.1,fun e => by subst e; have:=hd.1; omega⟩) fun d hd => ⟨hd.1,Nat.lt_of_lt_of_le hd.2.1 K57.out.size⟩⟩
      ·rw [List.length_map,hlen]; omega
      ·rw [List.length_map]
       rcases hcap with ⟨h,-⟩ | ⟨g',cap2,cur,h,-,-,h1,-⟩
       ·cases h
       ·cases h; exact h1
      ·rcases hcap with ⟨h,-⟩ | ⟨g',cap2,cur,h,-,-,-,h1,-⟩
       ·cases h
       ·cases h; exact h1
      ·obtain ⟨e,he,rfl⟩:=List.mem_map.1 hk
       exact (hal e he).2
     ·have C5:=hid (cP P g cap ts nest (p5 x) w6 HS6 HE)
      go_wp2_with fail
      (with_reducible refine Calls.mono C5.out ?_)
      rintro e w7 ⟨T,rfl,hs,hg,-⟩
      have HS7:=hid hs
      have K57:=hid (show w5.grownBy w7 (some P) from b6 (b8 HB6) hg)
      have HG7:=hid (b6 HG6 hg)
      clear hs hg C5
      unfold tkV
      go_wp2_with fail
      go_roundw
      case rel =>
       have hlen : (L ++ [(t,a,c)]).length=L.length + 1:=by rw [List.length_append]; rfl
       have hPw:=hb0.out.1
       refine ⟨some ⟨gb,0,none⟩,cap',L ++ [(t,a,c)],a42 (p5 x),by rw [hlen],?_,HR5.out.kept K57 (.inr (fun e => by have:=hgb5.out.1; have e' : gb=P:=Option.some.inj e; omega)),HS7,HG7,?_,fun r' hr' => ?_⟩
       ·rw [hlen]; omega
       ·rw [HXn.out,a22 HIs.out HT6.out,List.map_append]; rfl
       ·cases hx : p5 x with
        | error e => rw [hx] at hr'; cases hr'
        | ok r1 =>
          rw [hx] at hr'
          obtain ⟨hal,h1⟩:=HL5.out r1 hx
          replace hr' : Except.ok (b9 r1)=(.ok r' : Sx):=hr'
          cases hr'
          refine ⟨fun e he => ⟨d5 (hal e he).1 ((j0.refl _ _).grown K57 fun d hd => ⟨hd.2.1,fun e => by subst e; have:=hd.1; omega⟩) fun d hd => ⟨hd.1,Nat.lt_of_lt_of_le hd.2.1 K57.out.size,fun e => hd.2.2 (Option.some.inj e).symm⟩,(hal e he).2⟩,?_⟩
          have:=Y7 r1
          have:=HRl.out
          omega
      case measure =>
       rw [HFar.out]
       refine Nat.lt_of_le_of_lt (Nat.le_of_eq HS7.out.far) ?_
       cases hx : p5 x with
       | error e => exact Nat.succ_pos _
       | ok r1 =>
         obtain ⟨hal,h1⟩:=HL5.out r1 hx
         have:=n5 (HT6.out r1 hx).symm
         show (b9 r1).length + 1<r.length + 1
         omega
end
end Go.Proofs.YtibiccacafjjfaaGreatDoor
