/-
  Laws that the proof rests on.
-/
import Derived.Test.YtppcfebnaieciaaGreatDoorF30
import Derived.Test.YtppcfebnaieciaaGreatDoorF26
import Derived.Test.YtppcfebnaieciaaGreatDoorF02
import Derived.Recover
import Derived.Test.YtppcfebnaieciaaGreatDoorF20
namespace Go.Proofs.YtppcfebnaieciaaGreatDoor
set_option maxRecDepth 100000
set_option maxHeartbeats 16000000
section
open Lib (hid)
open Go.RowKit
structure ResM (b : Nat) (nm : ByteArray) (da : Option Addr) (dn dc : Nat) (p k : Int) (W : World) : Prop where
 n : W.heap[b]?=some (.cells #[.string nm,.slice da dn dc] 29 (0,0))
 p : W.heap[b + 1]?=some (.cells #[.int .i64 p] 3 (0,0))
 k : W.heap[b + 2]?=some (.cells #[.int .i64 k] 30 (0,0))
theorem ResM.low {b : Nat} {nm : ByteArray} {da : Option Addr} {dn dc : Nat} {p k : Int} {W W' : World} (h : ResM b nm da dn dc p k W) (hb : ∀ d,b≤d→d≤b + 2→W'.heap[d]?=W.heap[d]?) : ResM b nm da dn dc p k W' :=
 ⟨(hb b (Nat.le_refl _) (by omega)).trans h.n,(hb (b + 1) (by omega) (by omega)).trans h.p,(hb (b + 2) (by omega) (by omega)).trans h.k⟩
theorem ResM.lt {b : Nat} {nm : ByteArray} {da : Option Addr} {dn dc : Nat} {p k : Int} {W : World} (h : ResM b nm da dn dc p k W) : b + 2<W.heap.size:=(Array.getElem?_eq_some_iff.1 h.k).1
def lX (w : World) (b : Nat) (nm : ByteArray) (da : Option Addr) (dn dc : Nat) (p k : Int) : World:=(((w.setCell ⟨b,0,none⟩ (.string nm)).setCell ⟨b,1,none⟩ (.slice da dn dc)).setCell ⟨b + 1,0,none⟩ (.int .i64 p)).setCell ⟨b + 2,0,none⟩ (.int .i64 k)
theorem a0o (w : World) (b : Nat) (nm : ByteArray) (da : Option Addr) (dn dc : Nat) (p k : Int) {d : Nat} (hd : d<b∨b + 2<d) : (lX w b nm da dn dc p k).heap[d]?=w.heap[d]?:=by
 unfold lX
 exact (Below.heap_setCell _ _ _ _ (by show d≠b + 2; omega)).trans ((Below.heap_setCell _ _ _ _ (by show d≠b + 1; omega)).trans ((Below.heap_setCell _ _ _ _ (by show d≠b; omega)).trans (Below.heap_setCell _ _ _ _ (by show d≠b; omega))))
theorem ResM.put {b : Nat} {nm : ByteArray} {da : Option Addr} {dn dc : Nat} {p k : Int} {W : World} (h : ResM b nm da dn dc p k W) (nm' : ByteArray) (da' : Option Addr) (dn' dc' : Nat) (p' k' : Int) : ResM b nm' da' dn' dc' p' k' (lX W b nm' da' dn' dc' p' k'):=by
 unfold lX
 have e1 : ∀ (W : World) (c i : Nat) (v : Value) (d : Nat),d≠c→(W.setCell ⟨c,i,none⟩ v).heap[d]?=W.heap[d]?:=fun W c i v d hd => Below.heap_setCell _ _ _ _ hd
 refine ⟨?_,?_,?_⟩
 ·exact (e1 _ (b + 2) 0 _ b (by omega)).trans ((e1 _ (b + 1) 0 _ b (by omega)).trans (j9 (j9 h.n 0 _) 1 _))
 ·exact (e1 _ (b + 2) 0 _ (b + 1) (by omega)).trans (j9 ((e1 _ b 1 _ (b + 1) (by omega)).trans ((e1 _ b 0 _ (b + 1) (by omega)).trans h.p)) 0 _)
 ·exact j9 ((e1 _ (b + 1) 0 _ (b + 2) (by omega)).trans ((e1 _ b 1 _ (b + 2) (by omega)).trans ((e1 _ b 0 _ (b + 2) (by omega)).trans h.k))) 0 _
theorem fR {B b : Nat} {w W : World} (h : Below B w W) (hb : B≤b) (nm : ByteArray) (da : Option Addr) (dn dc : Nat) (p k : Int) : Below B w (lX W b nm da dn dc p k) :=
 (((h.setCell (p:=⟨b,0,none⟩) hb _).setCell (p:=⟨b,1,none⟩) hb _).setCell (p:=⟨b + 1,0,none⟩) (by show B≤b + 1; omega) _).setCell (p:=⟨b + 2,0,none⟩) (by show B≤b + 2; omega) _
theorem dK {b : Nat} {nm : ByteArray} {da : Option Addr} {dn dc : Nat} {p k : Int} {W : World} (h : ResM b nm da dn dc p k W) {tmps : Array Value} (h4 : tmps[4]?.getD undef=.pointer (some ⟨b,0,none⟩)) (h5 : tmps[5]?.getD undef=.pointer (some ⟨b + 1,0,none⟩)) (h6 : tmps[6]?.getD undef=.pointer (some ⟨b + 2,0,none⟩)) :
 (results Tryz.f11 tmps).run Tryz.prog W=.ok (.tuple #[.agg #[.string nm,.slice da dn dc],.int .i64 p,.int .i64 k]) W:=by
 have hn:=h.n
 have hp:=h.p
 have hk:=h.k
 have z0 : W.cell? ⟨b,0,none⟩=some (.string nm):=by simp [World.cell?,hn]
 have z1 : W.cell? ⟨b,1,none⟩=some (.slice da dn dc):=by simp [World.cell?,hn]
 have hp0 : W.cell? ⟨b + 1,0,none⟩=some (.int .i64 p):=by simp [World.cell?,hp]
 have hk0 : W.cell? ⟨b + 2,0,none⟩=some (.int .i64 k):=by simp [World.cell?,hk]
 clear hp hk hn h
 simp [results,Tryz.results11,go_sem,h4,h5,h6,z0,z1,hp0,hk0]
theorem tC (x y z : Value) (w : World) :
 CallsD Tryz.prog 27 #[x,y,z] .returning w fun e u' w' => e=.returned (.tuple #[])∧u'=.returning∧w'=w:=by
 refine callsD_of_wpS Tryz.func27 rfl fun c₀ cs hu => ?_
 apply wpS_seq
 apply wpS_region
 simp [wpOpsS,go_sem,recoverD,hu,Tryz.ntmps27,Exit.thenS]
 refine wpS_of_wp ?_
 go_wp2_with fail
 cases c₀
 simp_all [bodyPostS,results,Tryz.results27]
def pR (w : World) (b : Nat) (p k : Int) : World:=(lX (w.alloc (.cells #[.int .i64 p,.int .i64 k] 53)) b ⟨#[]⟩ none 0 0 p k).drew
theorem gK (b : Nat) (nm : ByteArray) (da : Option Addr) (dn dc : Nat) (p0 k0 p k : Int) (older : List PanicEntry) (w : World) (h : ResM b nm da dn dc p0 k0 w) :
 CallsD Tryz.prog 27 #[.pointer (some ⟨b,0,none⟩),.pointer (some ⟨b + 1,0,none⟩),.pointer (some ⟨b + 2,0,none⟩)] (.panicking ({ v:=.iface 53 (.agg #[.int .i64 p,.int .i64 k]),recovered:=false } :: older)) w fun e u' w' =>
  e=.returned (.tuple #[])∧u'=.panicking ({ v:=.iface 53 (.agg #[.int .i64 p,.int .i64 k]),recovered:=true } :: older)∧w'=pR w b p k:=by
 obtain ⟨W1,hW1⟩ : ∃ W,W=w.alloc (.cells #[.int .i64 p,.int .i64 k] 53):=⟨_,rfl⟩
 have E1 : Below w.heap.size w W1:=hW1 ▸ a7 _ _
 have hbl:=h.lt
 have N1 : ResM b nm da dn dc p0 k0 W1:=h.low fun d _ h2 => E1.block d (by omega)
 have hn:=N1.n
 have hp:=N1.p
 have hk:=N1.k
 have hpl0 : b + 1<w.heap.size:=by omega
 have hnl0 : b<w.heap.size:=by omega
 have z0 : W1.cell? ⟨b,0,none⟩=some (.string nm):=by simp [World.cell?,hn]
 have z1 : W1.cell? ⟨b,1,none⟩=some (.slice da dn dc):=by simp [World.cell?,hn]
 have f0 : W1.frozen? ⟨b,0,none⟩=false:=by simp [World.frozen?,hn]
 have f1 : W1.frozen? ⟨b,1,none⟩=false:=by simp [World.frozen?,hn]
 have hp0 : W1.cell? ⟨b + 1,0,none⟩=some (.int .i64 p0):=by simp [World.cell?,hp]
 have hk0 : W1.cell? ⟨b + 2,0,none⟩=some (.int .i64 k0):=by simp [World.cell?,hk]
 have fp0 : W1.frozen? ⟨b + 1,0,none⟩=false:=by simp [World.frozen?,hp]
 have fk0 : W1.frozen? ⟨b + 2,0,none⟩=false:=by simp [World.frozen?,hk]
 have hq : W1.heap[w.heap.size]?=some (.cells #[.int .i64 p,.int .i64 k] 53 (0,0)):=by rw [hW1]; show (w.heap.push _)[w.heap.size]?=_; simp
 have q0 : W1.cell? ⟨w.heap.size,0,none⟩=some (.int .i64 p):=by simp [World.cell?,hq]
 have q1 : W1.cell? ⟨w.heap.size,1,none⟩=some (.int .i64 k):=by simp [World.cell?,hq]
 have hne : ¬ w.heap.size=b∧¬ w.heap.size=b + 1∧¬ w.heap.size=b + 2:=by omega
 obtain ⟨hn0,hn1,hn2⟩:=hne
 refine callsD_of_wpS Tryz.func27 rfl fun c₀ cs hu => ?_
 apply wpS_seq
 apply wpS_region
 simp [wpOpsS,go_sem,recoverD,hu,Tryz.ntmps27,Exit.thenS]
 refine wpS_of_wp ?_
 rw [show (#[.pointer (some ⟨b,0,none⟩),.pointer (some ⟨b + 1,0,none⟩),.pointer (some ⟨b + 2,0,none⟩)] ++ (Array.replicate 14 undef).setIfInBounds 3 (.iface 53 (.agg #[.int .i64 p,.int .i64 k])) : Array Value)=#[.pointer (some ⟨b,0,none⟩),.pointer (some ⟨b + 1,0,none⟩),.pointer (some ⟨b + 2,0,none⟩),undef,undef,undef,.iface 53 (.agg #[.int .i64 p,.int .i64 k]),undef,undef,undef,undef,undef,undef,undef,undef,undef,undef] from rfl]
 clear hu hp hk h N1 E1 hq hn
 have hta : ∀ (v : Value) (w : World),(Instr.typeAssert (.iface 53 v) 20 53 true).run Tryz.prog w=.ok (.tuple #[v,.bool true]) w:=fun _ _ => by kernel_rfl
 go_upto_region 7 with fail
 rw [← hW1]
 have HW1:=hid hW1
 clear hW1
 refine sG (S:=(fun cur => cur.cell? ⟨w.heap.size,0,none⟩=some (.int .i64 p)∧cur.cell? ⟨w.heap.size,1,none⟩=some (.int .i64 k))) (Z:=[]) (by kernel_rfl) ?_ (fun hHeld => ?_)
 ·exact ⟨q0,q1⟩
 refine V9.take (i:=0) (v:=?_) (r6 rfl) (by kernel_rfl) (by kernel_rfl) (by kernel_rfl) (by kernel_rfl) (fun _ _ _ h => h) (Or.inl ⟨by rfl,?_⟩) (by assumption) ?_
 rotate_left
 ·(intro w hSw; (try dsimp only at hSw); obtain ⟨s0,s1⟩:=hSw; go_simp; try with_reducible rfl)
 try simp only [Act.put,j6,v6,v7]
 refine V9.take (i:=1) (v:=?_) (r6 rfl) (by kernel_rfl) (by kernel_rfl) (by kernel_rfl) (by kernel_rfl) (fun _ _ _ h => h) (Or.inl ⟨by rfl,?_⟩) (by assumption) ?_
 rotate_left
 ·(intro w hSw; (try dsimp only at hSw); obtain ⟨s0,s1⟩:=hSw; go_simp; try with_reducible rfl)
 try simp only [Act.put,j6,v6,v7]
 refine V9.take (i:=2) (v:=?_) (r6 rfl) (by kernel_rfl) (by kernel_rfl) (by kernel_rfl) (by kernel_rfl) (fun _ _ _ h => h) (Or.inl ⟨by rfl,?_⟩) (by assumption) ?_
 rotate_left
 ·(intro w hSw; (try dsimp only at hSw); obtain ⟨s0,s1⟩:=hSw; go_simp; try with_reducible rfl)
 try simp only [Act.put,j6,v6,v7]
 refine V9.take (i:=3) (v:=?_) (r6 rfl) (by kernel_rfl) (by kernel_rfl) (by kernel_rfl) (by kernel_rfl) (fun _ _ _ h => h) (Or.inl ⟨by rfl,?_⟩) (by assumption) ?_
 rotate_left
 ·(intro w hSw; (try dsimp only at hSw); obtain ⟨s0,s1⟩:=hSw; go_simp; try with_reducible rfl)
 try simp only [Act.put,j6,v6,v7]
 refine V9.take (i:=4) (v:=?_) (r6 rfl) (by kernel_rfl) (by kernel_rfl) (by kernel_rfl) (by kernel_rfl) (fun _ _ _ h => h) (Or.inl ⟨by rfl,?_⟩) (by assumption) ?_
 rotate_left
 ·(intro w hSw; (try dsimp only at hSw); obtain ⟨s0,s1⟩:=hSw; go_simp; try with_reducible rfl)
 try simp only [Act.put,j6,v6,v7]
 refine V9.next (i:=5) (by kernel_rfl) (r6 rfl) (fun K hK => ?_)
 go_simp
 refine hK.out _ _ ?_ (fun hHeld => ?_)
 ·exact ⟨by simp [World.cell?_setCell_other, *],by simp [World.cell?_setCell_other, *]⟩
 clear hK K
 try simp only [Act.put,j6,v6,v7]
 refine V9.next (i:=6) (by kernel_rfl) (r6 rfl) (fun K hK => ?_)
 go_simp
 refine hK.out _ _ ?_ (fun hHeld => ?_)
 ·exact ⟨by simp [World.cell?_setCell_other, *],by simp [World.cell?_setCell_other, *]⟩
 clear hK K
 try simp only [Act.put,j6,v6,v7]
 refine V9.next (i:=7) (by kernel_rfl) (r6 rfl) (fun K hK => ?_)
 go_simp
 refine hK.out _ _ ?_ (fun hHeld => ?_)
 ·exact ⟨by simp [World.cell?_setCell_other, *],by simp [World.cell?_setCell_other, *]⟩
 clear hK K
 try simp only [Act.put,j6,v6,v7]
 refine V9.done (by kernel_rfl) ?_ _
 exact ⟨rfl,_,rfl,.tuple #[],by simp [results,Tryz.results27,go_sem],rfl,rfl,by rw [pR,← HW1.out]; rfl⟩
end
section
open Go.RowKit Go.Maps Go.WideMaps
theorem oY {av : Nat→Prop} {b n : Nat} {g : List UInt8→Option Sch} {w : World} (h : SM av b n g w) {o : Oper} {a : Act} {K' : Act→World→Prop} {Q : Exit→Act→World→Prop} (m x v : Operand) (hop : o.op=Op.mapUpdate 56 m x v)
 (hm : a.eval m=.map (some b)) (hn : n<maxLen) (d : Sch) (val : Value) (hx : a.eval x=.string (bsA d.name)) (hv : a.eval v=val) (hs : d.name.length≤maxLen) (hval : cU av w (some d) val)
 (hK : ∀ w',SM av b (n + 1) (fun s => if s=d.name then some d else g s) w'→w.grownBy w' (some b)→K' (a.put o.dst undef) w') : Oper.wp Tryz.prog o a w K' Q:=by
 obtain ⟨w',hrun,r1,r2⟩:=h.put hn d hs hval
 unfold Oper.wp
 simp [execOp,hop,hm,hx,hv,hrun,Result.andThen]
 exact hK w' r1 r2
theorem SM.in {av : Nat→Prop} {b n : Nat} {g : List UInt8→Option Sch} {w : World} (h : SM av b n g w) : b<w.heap.size:=h.elim fun _ h => h.1.lt
theorem SM.kept {av av' : Nat→Prop} {b n : Nat} {g : List UInt8→Option Sch} {w w' : World} (h : SM av b n g w) (hb : w'.heap[b]?=w.heap[b]?) (hk : ∀ b,b<w.heap.size→av b→w'.heap[b]?=w.heap[b]?) (ha : ∀ b,b<w.heap.size→av b→av' b) : SM av' b n g w' :=
 h.lt.move hb (fun b h => hk b h.2 h.1) fun b h => ha b h.2 h.1
def SSM (av : Nat→Prop) (b n : Nat) (sheets : List Sht) (w : World) : Prop:=∃ f : Lit→Option Value,q7 9 b n f w∧∀ s,match j8 sheets s with
 | none => f (.string s)=none
 | some sh => ∃ bi ni,f (.string s)=some (.map (some bi))∧av bi∧ni≤1000000∧SM av bi ni (j4 sh.defs) w
theorem SSM.kept {av av' : Nat→Prop} {b n : Nat} {sheets : List Sht} {w w' : World} (h : SSM av b n sheets w) (hb : w'.heap[b]?=w.heap[b]?) (hk : ∀ b,b<w.heap.size→av b→w'.heap[b]?=w.heap[b]?) (ha : ∀ b,b<w.heap.size→av b→av' b) : SSM av' b n sheets w':=by
 obtain ⟨f,h2,h4⟩:=h
 refine ⟨f,h2.kept hb,fun s => ?_⟩
 have:=h4 s
 cases hg : j8 sheets s with
 | none => rw [hg] at this; exact this
 | some d =>
   rw [hg] at this
   obtain ⟨bi,ni,e1,e2,e3,e4⟩:=this
   exact ⟨bi,ni,e1,ha _ e4.in e2,e3,e4.kept (hk _ e4.in e2) hk ha⟩
theorem SSM.in {av : Nat→Prop} {b n : Nat} {sheets : List Sht} {w : World} (h : SSM av b n sheets w) : b<w.heap.size:=h.elim fun _ h => h.1.lt
theorem SM.sm {av av' : Nat→Prop} {b n : Nat} {g : List UInt8→Option Sch} {w : World} (h : SM av b n g w) (hn : n≤1000000) (hb : av' b) (ha : ∀ b,b<w.heap.size→av b→av' b) : eC av' (.map (some b)) g w:=SM.smap (h.kept rfl (fun _ _ _ => rfl) ha) hb hn
theorem SSM.ss {av av' : Nat→Prop} {b n : Nat} {sheets : List Sht} {w : World} (h : SSM av b n sheets w) (hn : n≤1000000) (hb : av' b) (ha : ∀ b,b<w.heap.size→av b→av' b) : dI av' (.map (some b)) (j8 sheets) w:=by
 obtain ⟨f,h2,h4⟩:=h
 refine ⟨b,n,f,rfl,hb,h2,hn,fun s => ?_⟩
 have:=h4 s
 cases hgs : j8 sheets s with
 | none => rw [hgs] at this; exact this
 | some d =>
   rw [hgs] at this
   obtain ⟨bi,ni,e1,e2,e3,e4⟩:=this
   exact ⟨_,e1,e4.sm e3 (ha _ e4.in e2) ha⟩
def AvM (F b0 b1 b2 : Nat) (v : Value) (b : Nat) : Prop:=b≠b0∧b≠b1∧b≠b2∧b≠F∧b≠F + 1∧v.ownBlock≠some b
structure ModE (F b0 b1 b2 n0 n1 n2 : Nat) (sheets : List Sht) (defs : List Sch) (v : Value) (w : World) : Prop where
 fb : gQ F (.map (some b0)) (.map (some b1)) (.map (some b2)) w
 lt : b0<F∧b1<F∧b2<F∧b0≠b1∧b0≠b2∧b1≠b2
 ss : SSM (AvM F b0 b1 b2 v) b0 n0 sheets w
 ds : SM (AvM F b0 b1 b2 v) b1 n1 (j4 defs) w
 bs : SM (AvM F b0 b1 b2 v) b2 n2 (j4 l6) w
 le : n0≤10000∧n1≤10000∧n2≤1000000
 env : AvM F b0 b1 b2 v 2∧Env w
 own : ∀ g,v.ownBlock=some g→F + 2≤g∧g<w.heap.size
section
variable {F b0 b1 b2 n0 n1 n2 : Nat} {sheets : List Sht} {defs : List Sch} {v v' : Value} {w w' : World}
theorem ModE.move (h : ModE F b0 b1 b2 n0 n1 n2 sheets defs v w) (hm : w'.heap[b0]?=w.heap[b0]?∧w'.heap[b1]?=w.heap[b1]?∧w'.heap[b2]?=w.heap[b2]?) (hk : ∀ b,b<w.heap.size→AvM F b0 b1 b2 v b→w'.heap[b]?=w.heap[b]?) (ha : ∀ b,b<w.heap.size→AvM F b0 b1 b2 v b→AvM F b0 b1 b2 v' b) (hf : gQ F (.map (some b0)) (.map (some b1)) (.map (some b2)) w')
 (ho : ∀ g,v'.ownBlock=some g→F + 2≤g∧g<w'.heap.size) : ModE F b0 b1 b2 n0 n1 n2 sheets defs v' w':=by
 obtain ⟨m,he⟩:=h.env.2
 exact ⟨hf,h.lt,h.ss.kept hm.1 hk ha,h.ds.kept hm.2.1 hk ha,h.bs.kept hm.2.2 hk ha,h.le,⟨ha _ h.env.2.size h.env.1,m,(World.cell?_of_block (hk _ h.env.2.size h.env.1)).trans he⟩,ho⟩
theorem ModE.off (h : ModE F b0 b1 b2 n0 n1 n2 sheets defs v w) (ho : Off w.heap.size F w w') (hf : gQ F (.map (some b0)) (.map (some b1)) (.map (some b2)) w') : ModE F b0 b1 b2 n0 n1 n2 sheets defs v w':=by
 have hl:=h.lt
 have h0:=h.ss.in
 have h1:=h.ds.in
 have h2:=h.bs.in
 exact h.move ⟨ho.block _ ⟨h0,by omega⟩,ho.block _ ⟨h1,by omega⟩,ho.block _ ⟨h2,by omega⟩⟩ (fun b hb k => ho.block b ⟨hb,k.2.2.2.1⟩) (fun _ _ k => k) hf fun g e => ⟨(h.own g e).1,Nat.lt_of_lt_of_le (h.own g e).2 ho.size⟩
theorem ModE.below (h : ModE F b0 b1 b2 n0 n1 n2 sheets defs v w) (hb : Below w.heap.size w w') : ModE F b0 b1 b2 n0 n1 n2 sheets defs v w':=h.off (Off.of hb (Nat.le_refl _)) (h.fb.below hb)
theorem ModE.lenv (h : ModE F b0 b1 b2 n0 n1 n2 sheets defs v w) : LEnv sheets defs w.heap.size F (.map (some b0)) (.map (some b1)) (.map (some b2)) w:=by
 have hl:=h.lt
 have hle:=h.le
 have ha : ∀ b,b<w.heap.size→AvM F b0 b1 b2 v b→Av w.heap.size F b:=fun b hb k => ⟨hb,k.2.2.2.1⟩
 exact ⟨h.ss.ss (by omega) ⟨h.ss.in,by omega⟩ ha,h.ds.sm (by omega) ⟨h.ds.in,by omega⟩ ha,h.bs.sm (by omega) ⟨h.bs.in,by omega⟩ ha,⟨h.env.2.size,h.env.1.2.2.2.1⟩,h.env.2⟩
theorem ModE.put (h : ModE F b0 b1 b2 n0 n1 n2 sheets defs v w) {d : Sch} (hd : j4 defs d.name=none) (hn : n1<10000) (hs : SM (AvM F b0 b1 b2 v) b1 (n1 + 1) (fun s => if s=d.name then some d else j4 defs s) w') (hg : w.grownBy w' (some b1)) : ModE F b0 b1 b2 n0 (n1 + 1) n2 sheets (defs ++ [d]) v w':=by
 have hl:=h.lt
 have hle:=h.le
 obtain ⟨m,hm⟩:=h.env.2
 obtain ⟨x3,x4,x5,hf⟩:=h.fb
 have hk : ∀ b,b<w.heap.size→b≠b1→w'.heap[b]?=w.heap[b]?:=fun b h1 h2 => hg.block b h1 (fun e => h2 (Option.some.inj e))
 have e9 : j4 (defs ++ [d])=fun s => if s=d.name then some d else j4 defs s:=funext fun s => lS hd s
 exact ⟨⟨x3,x4,x5,(hk F (Array.getElem?_eq_some_iff.1 hf).1 (by omega)).trans hf⟩,hl,h.ss.kept (hk _ h.ss.in (by omega)) (fun b h1 h2 => hk b h1 h2.2.1) fun _ _ k => k,by rw [e9]; exact hs,h.bs.kept (hk _ h.bs.in (by omega)) (fun b h1 h2 => hk b h1 h2.2.1) fun _ _ k => k,⟨hle.1,by omega,hle.2.2⟩,⟨h.env.1,m,(World.cell?_of_block (hk _ h.env.2.size h.env.1.2.1)).trans hm⟩,fun g e => ⟨(h.own g e).1,Nat.lt_of_lt_of_le (h.own g e).2 hg.size⟩⟩
end
abbrev cD:=Sch × Option Addr × Nat
def eA (e : cD) : List Value:=[.string (bsA e.1.name),.slice e.2.1 e.1.params.length e.2.2,.int .i64 e.1.result]
def fF (L : List cD) : List Value:=L.flatMap eA
theorem a0J (L : List cD) (e : cD) : fF (L ++ [e])=fF L ++ eA e:=by unfold fF; simp
theorem tB : ∀ (L : List cD) (j : Nat) (hj : j<L.length) (i : Nat) (_ : i<3),(fF L)[j * 3 + i]?=(eA L[j])[i]?
 | e :: L,0,_,i,hi => by
   unfold fF
   rw [List.flatMap_cons,Nat.zero_mul,Nat.zero_add,List.getElem?_append_left (by exact hi)]
   rfl
 | e :: L,j + 1,hj,i,hi => by
   unfold fF
   rw [List.flatMap_cons,List.getElem?_append_right (by show 3≤_; omega),show (j + 1) * 3 + i - (eA e).length=j * 3 + i by show (j + 1) * 3 + i - 3=_; omega]
   exact tB L j (by simpa using hj) i hi
def fZ (B : Nat) (v : Value) (ds : List Sch) (w : World) : Prop:=∃ L : List cD,L.map (·.1)=ds∧w.ownsRow B 36 3 v ds.length (fF L)∧∀ e∈L,y6 (fun b => B≤b∧v.ownBlock≠some b) w e.2.1 e.1.params∧e.1.params.length≤e.2.2∧e.2.2≤maxLen∧(e.2.1=none→e.2.2=0)
theorem fZ.start (B : Nat) (w : World) : fZ B (.slice none 0 0) [] w:=⟨[],rfl,⟨rfl,.inl ⟨rfl,rfl⟩⟩,fun e he => by cases he⟩
theorem fZ.kept {B : Nat} {v : Value} {ds : List Sch} {w w' : World} (h : fZ B v ds w) (hb : ∀ d,B≤d→d<w.heap.size→w'.heap[d]?=w.heap[d]?) : fZ B v ds w':=by
 obtain ⟨L,h1,h2,h3⟩:=h
 refine ⟨L,h1,Y0 h2 fun g e => hb g (h2.lt g e).1 (h2.lt g e).2,fun e he => ?_⟩
 obtain ⟨k1,k2⟩:=h3 e he
 exact ⟨(aV k1).move (fun b hb' => hb b hb'.1.1 hb'.2) fun _ h => h.1,k2⟩
theorem fZ.app {B : Nat} {v : Value} {ds : List Sch} {w w' : World} (h : fZ B v ds w) {d : Sch} {pa : Option Addr} {pc g cap : Nat} {H : Nat} (hg : w.grownBy w' v.ownBlock) (hat : v.ownBlock=some g∨g=H) (hH : H=w.heap.size) (hrow : w'.ownsRow B 36 3 (.slice (some ⟨g,0,none⟩) (ds.length + 1) cap) (ds.length + 1) (fF h.choose ++ eA (d,pa,pc)))
 (hI : y6 (fun b => B≤b∧b<w.heap.size∧v.ownBlock≠some b) w pa d.params) (hp : d.params.length≤pc∧pc≤maxLen∧(pa=none→pc=0)) : fZ B (.slice (some ⟨g,0,none⟩) (ds.length + 1) cap) (ds ++ [d]) w':=by
 obtain ⟨h1,h2,h3⟩:=h.choose_spec
 have hne : ∀ b,b<w.heap.size→v.ownBlock≠some b→g≠b:=fun b hb hv e => by
  rcases hat with h9 | h9
  ·exact hv (e ▸ h9)
  ·omega
 refine ⟨h.choose ++ [(d,pa,pc)],by rw [List.map_append,h1]; rfl,by rw [a0J,List.length_append]; exact hrow,fun e he => ?_⟩
 rcases List.mem_append.1 he with he | he
 ·obtain ⟨k1,k2⟩:=h3 e he
  exact ⟨(aV k1).move (fun b hb => hg.block b hb.2 (fun e => hb.1.2 e.symm)) fun b hb => ⟨hb.1.1,fun e => hne b hb.2 hb.1.2 (Option.some.inj (show some g=some b from e))⟩,k2⟩
 ·obtain rfl:=List.mem_singleton.1 he
  exact ⟨hI.move (fun b hb => hg.block b hb.2.1 (fun e => hb.2.2 e.symm)) fun b hb => ⟨hb.1,fun e => hne b hb.2.1 hb.2.2 (Option.some.inj (show some g=some b from e))⟩,hp⟩
theorem fZ.schs {B : Nat} {a : Option Addr} {n cap : Nat} {ds : List Sch} {w : World} (h : fZ B (.slice a n cap) ds w) : bS (fun b => B≤b) w a ds∧n=ds.length∧ds.length≤cap∧cap≤maxLen∧(a=none→cap=0):=by
 obtain ⟨L,h1,h2,h3⟩:=h
 have hL : L.length=ds.length:=by rw [← h1,List.length_map]
 rcases h2.2 with ⟨e,h0⟩ | ⟨g,cap',cur,e,hb,hg,k1,k2,k3⟩
 ·obtain ⟨rfl,rfl,rfl⟩:=Value.slice.inj e
  have : ds=[]:=List.length_eq_zero_iff.1 h0
  subst this
  exact ⟨fun j hj => absurd hj (Nat.not_lt_zero _),rfl,Nat.le_refl _,Nat.zero_le _,fun _ => rfl⟩
 ·obtain ⟨rfl,rfl,rfl⟩:=Value.slice.inj e
  refine ⟨fun j hj => ?_,rfl,k1,k2,fun e => by cases e⟩
  have hc:=h2.cells (g:=g) rfl
  have hjL : j<L.length:=by omega
  have e1 : ds[j]=L[j].1:=by
   have:=congrArg (fun l => l[j]?) h1
   simp only [List.getElem?_map,List.getElem?_eq_getElem hjL,List.getElem?_eq_getElem hj,Option.map_some] at this
   exact (Option.some.inj this).symm
  obtain ⟨m1,m2,m3,m4⟩:=h3 L[j] (List.getElem_mem hjL)
  have q : ∀ i,i<3→∀ u,(eA L[j])[i]?=some u→w.cell? ⟨g,0 + j * 3 + i,none⟩=some u:=fun i hi u hu => by
   have:=hc (j * 3 + i) u (by rw [tB L j hjL i hi]; exact hu)
   rw [Go.WideShapes.add_plain] at this
   rwa [Nat.add_assoc]
  refine ⟨g,0,rfl,hb,(Array.getElem?_eq_some_iff.1 hg).1,L[j].2.1,L[j].2.2,?_,?_,?_,?_,?_⟩
  ·rw [e1]; exact q 0 (by decide) _ rfl
  ·rw [e1]; exact q 1 (by decide) _ rfl
  ·rw [e1]; exact q 2 (by decide) _ rfl
  ·rw [e1]; exact m1.move (fun _ _ => rfl) fun _ h => h.1
  ·rw [e1]; exact ⟨m2,m3,m4⟩
end
section
open Lib (hid)
open Go.RowKit Go.Maps Go.WideMaps
def lC (t : Nd) (all : List Sht) (w : World) (e : Ending) (w' : World) : Prop:=Below w.heap.size w w'∧match r9 t all with
 | .error (k,p) => e=.returned (.tuple #[.agg #[.string ⟨#[]⟩,.slice none 0 0],.int .i64 p,.int .i64 k])
 | .ok s => ∃ da dc,e=.returned (.tuple #[.agg #[.string (bsA s.name),.slice da s.defs.length dc],.int .i64 0,.int .i64 0])∧bS (fun b => w.heap.size≤b) w' da s.defs∧s.defs.length≤dc∧dc≤maxLen∧(da=none→dc=0)
def cH (F b0 b1 b2 n0 n1 n2 : Nat) (own : List UInt8) (all sheets : List Sht) (defs : List Sch) (v : Value) (t : Nd) (w : World) (e : Ending) (w' : World) : Prop:=match p8 own all sheets t with
 | .error (k,p) => e=pY k p∧Below w.heap.size w w'
 | .ok s => e=.returned (.tuple #[])∧w.grownBy w' (some b0)∧ModE F b0 b1 b2 (n0 + 1) n1 n2 (sheets ++ [s]) defs v w'
def qJ (all : List Sht) (ia : Option Addr) (ic A : Nat) : Prop:=∀ (F b0 b1 b2 n0 n1 n2 : Nat) (sheets : List Sht) (defs : List Sch) (own : ByteArray) (v : Value) (t : Nd) (a : Option Addr) (cap : Nat) (w : World),A≤b0∧A≤b1∧A≤b2→own.size≤24→n0<1000→F + 1<w.heap.size→m5 2 t=true→bB (fun b => b<A) w ia all→ModE F b0 b1 b2 n0 n1 n2 sheets defs v w →
 Calls Tryz.prog 29 #[.pointer (some ⟨F,0,none⟩),.agg #[.int .i64 t.kind,.string t.text,.int .i64 t.n,.slice a t.kids.length cap,.int .i64 t.place],.string own,.slice ia all.length ic] w (cH F b0 b1 b2 n0 n1 n2 own.data.toList all sheets defs v t w)
theorem ResM.cells {b : Nat} {nm : ByteArray} {da : Option Addr} {dn dc : Nat} {p k : Int} {W : World} (h : ResM b nm da dn dc p k W) : W.cell? ⟨b,0,none⟩=some (.string nm)∧W.cell? ⟨b,1,none⟩=some (.slice da dn dc)∧W.cell? ⟨b + 1,0,none⟩=some (.int .i64 p)∧W.cell? ⟨b + 2,0,none⟩=some (.int .i64 k)∧W.frozen? ⟨b,0,none⟩=false∧W.frozen? ⟨b,1,none⟩=false∧W.frozen? ⟨b + 1,0,none⟩=false∧W.frozen? ⟨b + 2,0,none⟩=false:=by
 have h1:=h.n
 have h2:=h.p
 have h3:=h.k
 exact ⟨by simp [World.cell?,h1],by simp [World.cell?,h1],by simp [World.cell?,h2],by simp [World.cell?,h3],by simp [World.frozen?,h1],by simp [World.frozen?,h1],by simp [World.frozen?,h2],by simp [World.frozen?,h3]⟩
theorem a1Y {w : World} {x y z : Value} {T : TypeId} : ∀ (j : Nat) u,[x,y,z][j]?=some u→(w.alloc (.cells #[x,y,z] T)).cell? ((⟨w.heap.size,0,none⟩ : Addr).add j)=some u:=by
 intro j u hu
 rw [Go.WideShapes.add_plain]
 match j,hu with
 | 0,hu => cases hu; simp
 | 1,hu => cases hu; simp
 | 2,hu => cases hu; simp
structure ModI (t : Nd) (a : Option Addr) (cap : Nat) (all : List Sht) (w0 : World) (F b0 b1 b2 n2 k n0 n1 : Nat) (sheets : List Sht) (defs : List Sch) (da : Option Addr) (dc : Nat) (wr : World) : Prop where
 me : ModE F b0 b1 b2 n0 n1 n2 sheets defs (.slice da defs.length dc) wr
 le : n0≤k∧n1≤k∧defs.length≤k
 good : (∀ s∈sheets,∀ d∈s.defs,O8 d)∧∀ d∈defs,O8 d
 res : fZ (F + 2) (.slice da defs.length dc) defs wr
 sb : wr.heap[F + 1]?=some (.cells #[.string t.text,.slice da defs.length dc] 29 (0,0))
 run : n6 t.text.data.toList all (t.kids.drop k) sheets defs=n6 t.text.data.toList all t.kids [] []
 nb : c6 w0.heap.size t a cap wr
 rm : ResM (w0.heap.size + 1) ⟨#[]⟩ none 0 0 0 0 wr
 bl : Below w0.heap.size w0 wr
 lt : w0.heap.size + 4≤b0∧w0.heap.size + 4≤b1∧w0.heap.size + 4≤F∧F + 1<wr.heap.size∧w0.heap.size + 4≤b2
section
variable {t : Nd} {a : Option Addr} {cap : Nat} {all : List Sht} {w0 wr wr' : World} {F b0 b1 b2 n2 k n0 n1 : Nat} {sheets : List Sht} {defs : List Sch} {da : Option Addr} {dc : Nat}
theorem ModI.off (h : ModI t a cap all w0 F b0 b1 b2 n2 k n0 n1 sheets defs da dc wr) (ho : Off wr.heap.size F wr wr') (hf : gQ F (.map (some b0)) (.map (some b1)) (.map (some b2)) wr') : ModI t a cap all w0 F b0 b1 b2 n2 k n0 n1 sheets defs da dc wr':=by
 have hl:=h.lt
 have hs:=h.bl.size
 have hsz:=ho.size
 have hk : ∀ d,d<wr.heap.size→d≠F→wr'.heap[d]?=wr.heap[d]?:=fun d h1 h2 => ho.block d ⟨h1,h2⟩
 exact ⟨h.me.off ho hf,h.le,h.good,h.res.kept fun d h1 h2 => hk d h2 (by omega),(hk _ hl.2.2.2.1 (by omega)).trans h.sb,h.run,(hk _ h.nb.lt (by omega)).trans h.nb,h.rm.low fun d _ h2 => hk d (by have:=h.rm.lt; omega) (by omega),⟨ho.os.trans h.bl.os,ho.tape.trans h.bl.tape,ho.output.trans h.bl.output,by omega,fun d hd => (hk d (by omega) (by omega)).trans (h.bl.block d hd)⟩,by omega⟩
theorem ModI.below (h : ModI t a cap all w0 F b0 b1 b2 n2 k n0 n1 sheets defs da dc wr) (hb : Below wr.heap.size wr wr') : ModI t a cap all w0 F b0 b1 b2 n2 k n0 n1 sheets defs da dc wr':=h.off (Off.of hb (Nat.le_refl _)) (h.me.fb.below hb)
end
theorem ModI.brung {t : Nd} {a : Option Addr} {cap : Nat} {all : List Sht} {w0 wr wr' : World} {F b0 b1 b2 n2 k n0 n1 : Nat} {sheets : List Sht} {defs : List Sch} {da : Option Addr} {dc : Nat} {s : Sht} (h : ModI t a cap all w0 F b0 b1 b2 n2 k n0 n1 sheets defs da dc wr) (hg : wr.grownBy wr' (some b0)) (hm : ModE F b0 b1 b2 (n0 + 1) n1 n2 (sheets ++ [s]) defs (.slice da defs.length dc) wr') (hr : n6 t.text.data.toList all (t.kids.drop (k + 1)) (sheets ++ [s]) defs=n6 t.text.data.toList all t.kids [] []) (hs : ∀ d∈s.defs,O8 d) :
 ModI t a cap all w0 F b0 b1 b2 n2 (k + 1) (n0 + 1) n1 (sheets ++ [s]) defs da dc wr':=by
 have hl:=h.lt
 have hmt:=h.me.lt
 have hsz:=hg.size
 have hbs:=h.bl.size
 have hk : ∀ d,d<wr.heap.size→d≠b0→wr'.heap[d]?=wr.heap[d]?:=fun d h1 h2 => hg.block d h1 (fun e => h2 (Option.some.inj e))
 have hle:=h.le
 refine ⟨hm,by omega,⟨fun x hx => ?_,h.good.2⟩,h.res.kept fun d h1 h2 => hk d h2 (by omega),(hk _ hl.2.2.2.1 (by omega)).trans h.sb,hr,(hk _ h.nb.lt (by omega)).trans h.nb,h.rm.low fun d _ h2 => hk d (by have:=h.rm.lt; omega) (by omega),⟨hg.os.trans h.bl.os,hg.tape.trans h.bl.tape,hg.output.trans h.bl.output,by omega,fun d hd => (hk d (by omega) (by omega)).trans (h.bl.block d hd)⟩,by omega⟩
 rcases List.mem_append.1 hx with hx | hx
 ·exact h.good.1 x hx
 ·obtain rfl:=List.mem_singleton.1 hx; exact hs
structure ModJ (t : Nd) (a : Option Addr) (cap : Nat) (w0 : World) (F b0 b1 b2 n2 n0 n1 : Nat) (sheets : List Sht) (defs : List Sch) (d : Sch) (da : Option Addr) (dc : Nat) (wr : World) : Prop where
 me : ModE F b0 b1 b2 n0 (n1 + 1) n2 sheets (defs ++ [d]) (.slice da defs.length dc) wr
 res : fZ (F + 2) (.slice da defs.length dc) defs wr
 sb : wr.heap[F + 1]?=some (.cells #[.string t.text,.slice da defs.length dc] 29 (0,0))
 nb : c6 w0.heap.size t a cap wr
 rm : ResM (w0.heap.size + 1) ⟨#[]⟩ none 0 0 0 0 wr
 bl : Below w0.heap.size w0 wr
 lt : w0.heap.size + 4≤b0∧w0.heap.size + 4≤b1∧w0.heap.size + 4≤F∧F + 1<wr.heap.size∧w0.heap.size + 4≤b2
section
variable {t : Nd} {a : Option Addr} {cap : Nat} {all : List Sht} {w0 wr wr' : World} {F b0 b1 b2 n2 k n0 n1 : Nat} {sheets : List Sht} {defs : List Sch} {d : Sch} {da : Option Addr} {dc : Nat}
theorem ModI.putd (h : ModI t a cap all w0 F b0 b1 b2 n2 k n0 n1 sheets defs da dc wr) (hg : wr.grownBy wr' (some b1)) (hm : ModE F b0 b1 b2 n0 (n1 + 1) n2 sheets (defs ++ [d]) (.slice da defs.length dc) wr') : ModJ t a cap w0 F b0 b1 b2 n2 n0 n1 sheets defs d da dc wr':=by
 have hl:=h.lt
 have hmt:=h.me.lt
 have hsz:=hg.size
 have hbs:=h.bl.size
 have hk : ∀ d,d<wr.heap.size→d≠b1→wr'.heap[d]?=wr.heap[d]?:=fun d h1 h2 => hg.block d h1 (fun e => h2 (Option.some.inj e))
 exact ⟨hm,h.res.kept fun d h1 h2 => hk d h2 (by omega),(hk _ hl.2.2.2.1 (by omega)).trans h.sb,(hk _ h.nb.lt (by omega)).trans h.nb,h.rm.low fun d _ h2 => hk d (by have:=h.rm.lt; omega) (by omega),⟨hg.os.trans h.bl.os,hg.tape.trans h.bl.tape,hg.output.trans h.bl.output,by omega,fun d hd => (hk d (by omega) (by omega)).trans (h.bl.block d hd)⟩,by omega⟩
theorem ModJ.below (h : ModJ t a cap w0 F b0 b1 b2 n2 n0 n1 sheets defs d da dc wr) (hb : Below wr.heap.size wr wr') : ModJ t a cap w0 F b0 b1 b2 n2 n0 n1 sheets defs d da dc wr':=by
 have hl:=h.lt
 exact ⟨h.me.below hb,h.res.kept fun d _ h2 => hb.block d h2,(hb.block _ hl.2.2.2.1).trans h.sb,h.nb.below hb,h.rm.low fun d _ h2 => hb.block d (by have:=h.rm.lt; omega),h.bl.trans (hb.mono h.bl.size),by have:=hb.size; omega⟩
theorem ModJ.cells (h : ModJ t a cap w0 F b0 b1 b2 n2 n0 n1 sheets defs d da dc wr) : wr.cell? ⟨F + 1,1,none⟩=some (.slice da defs.length dc)∧wr.frozen? ⟨F + 1,1,none⟩=false:=by
 have hs:=h.sb
 exact ⟨by simp [World.cell?,hs],by simp [World.frozen?,hs]⟩
theorem ModJ.done {v : Value} {w2 : World} {pa : Option Addr} {pc g cq : Nat} (h : ModJ t a cap w0 F b0 b1 b2 n2 n0 n1 sheets defs d da dc wr) (hv : v=.slice da defs.length dc) (hg : wr.grownBy w2 v.ownBlock) (hat : v.ownBlock=some g∨g=wr.heap.size) (hrow : w2.ownsRow (F + 2) 36 3 (.slice (some ⟨g,0,none⟩) (defs.length + 1) cq) (defs.length + 1) (fF h.res.choose ++ eA (d,pa,pc)))
 (hI : y6 (fun b => F + 2≤b∧b<wr.heap.size∧v.ownBlock≠some b) wr pa d.params) (hp : d.params.length≤pc∧pc≤maxLen∧(pa=none→pc=0)) (hd : O8 d) (hgood : (∀ s∈sheets,∀ d∈s.defs,O8 d)∧∀ d∈defs,O8 d) (hle : n0≤k∧n1≤k∧defs.length≤k) (hr : n6 t.text.data.toList all (t.kids.drop (k + 1)) sheets (defs ++ [d])=n6 t.text.data.toList all t.kids [] []) :
 ModI t a cap all w0 F b0 b1 b2 n2 (k + 1) n0 (n1 + 1) sheets (defs ++ [d]) (some ⟨g,0,none⟩) cq (w2.setCell ⟨F + 1,1,none⟩ (.slice (some ⟨g,0,none⟩) (defs.length + 1) cq)):=by
 subst hv
 have hl:=h.lt
 have hsz:=hg.size
 have hbs:=h.bl.size
 have hF:=h.me.fb.cells.2.2.2
 have hle2:=h.me.le
 obtain ⟨r1,r2,r3⟩:=h.res.choose_spec
 have hvb : ∀ b,(Value.slice da defs.length dc).ownBlock=some b→F + 2≤b:=fun b e => (r2.lt b e).1
 have hk : ∀ b,b<wr.heap.size→b<F + 2→w2.heap[b]?=wr.heap[b]?:=fun b h1 h2 => hg.block b h1 (fun e => by have:=hvb b e.symm; omega)
 have R:=fZ.app h.res hg hat rfl hrow hI hp
 have e2 : ∀ b,b≠F + 1→(w2.setCell ⟨F + 1,1,none⟩ (.slice (some ⟨g,0,none⟩) (defs.length + 1) cq)).heap[b]?=w2.heap[b]?:=fun b hb => Below.heap_setCell _ _ _ _ hb
 have hz2 : (w2.setCell ⟨F + 1,1,none⟩ (.slice (some ⟨g,0,none⟩) (defs.length + 1) cq)).heap.size=w2.heap.size:=by simp [World.setCell]
 have hgl:=hrow.lt g rfl
 have hmt:=h.me.lt
 have hk2 : ∀ b,b<wr.heap.size→b<F + 1→(w2.setCell ⟨F + 1,1,none⟩ (.slice (some ⟨g,0,none⟩) (defs.length + 1) cq)).heap[b]?=wr.heap[b]?:=fun b h1 h2 => (e2 b (by omega)).trans (hk b h1 (by omega))
 obtain ⟨x3,x4,x5,hf⟩:=h.me.fb
 have hsb:=j9 ((hk (F + 1) hl.2.2.2.1 (by omega)).trans h.sb) 1 (.slice (some ⟨g,0,none⟩) (defs.length + 1) cq)
 have hlen : (defs ++ [d]).length=defs.length + 1:=by simp
 refine ⟨?_,by omega,⟨hgood.1,fun x hx => ?_⟩,?_,by rw [hlen]; exact hsb,hr,(hk2 _ h.nb.lt (by omega)).trans h.nb,h.rm.low fun b _ h2 => hk2 b (by have:=h.rm.lt; omega) (by omega),⟨hg.os.trans h.bl.os,hg.tape.trans h.bl.tape,hg.output.trans h.bl.output,by omega,fun b hb => (hk2 b (by omega) (by omega)).trans (h.bl.block b hb)⟩,by omega⟩
 ·refine h.me.move ⟨hk2 _ h.me.ss.in (by omega),hk2 _ h.me.ds.in (by omega),hk2 _ h.me.bs.in (by omega)⟩ (fun b h1 h2 => (e2 b h2.2.2.2.2.1).trans (hg.block b h1 fun e => h2.2.2.2.2.2 e.symm)) (fun b h1 h2 => ⟨h2.1,h2.2.1,h2.2.2.1,h2.2.2.2.1,h2.2.2.2.2.1,fun e => ?_⟩) ⟨x3,x4,x5,(hk2 F hF (by omega)).trans hf⟩ fun g' e => ?_
  ·have : g=b:=Option.some.inj e
   rcases hat with h9 | h9
   ·exact h2.2.2.2.2.2 (this ▸ h9)
   ·omega
  ·have : g=g':=Option.some.inj e
   omega
 ·rcases List.mem_append.1 hx with hx | hx
  ·exact hgood.2 x hx
  ·obtain rfl:=List.mem_singleton.1 hx; exact hd
 ·rw [hlen]
  exact R.kept fun b h1 _ => e2 b (by omega)
end
theorem oE {b : Nat} {nm : ByteArray} {da : Option Addr} {dn dc : Nat} {p0 k0 : Int} {W : World} (h : ResM b nm da dn dc p0 k0 W) (p k : Int) : ResM b ⟨#[]⟩ none 0 0 p k (pR W b p k):=by
 have h1:=(h.low (W':=W.alloc (.cells #[.int .i64 p,.int .i64 k] 53)) (fun d _ h2 => (a7 _ _).block d (by have:=h.lt; omega))).put ⟨#[]⟩ none 0 0 p k
 exact h1.low fun d _ _ => rfl
theorem jC {B b : Nat} {w W : World} (h : Below B w W) (hB : B≤W.heap.size) (hb : B≤b) (p k : Int) : Below B w (pR W b p k):=r8 (fR (h.trans ((a7 _ _).mono hB)) hb _ _ _ _ _ _)
theorem zA {t : Nd} {all : List Sht} {w W : World} {k p : Int} (hx : r9 t all=.error (k,p)) (h : Below w.heap.size w W) : lC t all w (.returned (.tuple #[.agg #[.string ⟨#[]⟩,.slice none 0 0],.int .i64 p,.int .i64 k])) W:=by
 unfold lC
 rw [hx]
 exact ⟨h,rfl⟩
theorem a09 {own : List UInt8} {all : List Sht} {l : List Nd} {k : Nat} {sheets : List Sht} {defs : List Sch} (h : k<l.length) : n6 own all (l.drop k) sheets defs=if l[k].kind=2 then match p8 own all sheets l[k] with
 | .error e => .error e
 | .ok s => n6 own all (l.drop (k + 1)) (sheets ++ [s]) defs
 else match Y1 sheets defs l[k] with
  | .error e => .error e
  | .ok d => n6 own all (l.drop (k + 1)) sheets (defs ++ [d]):=by
 rw [List.drop_eq_getElem_cons h,n6]
 rfl
theorem a0G {own : List UInt8} {all sheets : List Sht} {t : Nd} {s : Sht} (h : p8 own all sheets t=.ok s) : s∈all:=by
 unfold p8 at h
 split at h
 ·cases h
 ·cases hf : j8 all t.text.data.toList with
  | none => rw [hf] at h; cases h
  | some x => rw [hf] at h; cases h; exact List.mem_of_find?_eq_some hf
theorem mL {B : Nat} {v : Value} {l : List Int} {w : World} (h : w.ownsRow B 3 1 v l.length (l.map fun (n : Int) => .int .i64 n)) : ∃ pa pc,v=.slice pa l.length pc∧y6 (fun b => B≤b∧b<w.heap.size) w pa l∧l.length≤pc∧pc≤maxLen∧(pa=none→pc=0):=by
 rcases h.2 with ⟨e,h0⟩ | ⟨g,cap',cur,e,hb,hg,k1,k2,k3⟩
 ·have : l=[]:=List.length_eq_zero_iff.1 h0
  subst this
  exact ⟨none,0,e,fun j hj => absurd hj (Nat.not_lt_zero _),Nat.le_refl _,Nat.zero_le _,fun _ => rfl⟩
 ·subst e
  refine ⟨_,cap',rfl,fun j hj => ⟨g,0,rfl,⟨hb,(Array.getElem?_eq_some_iff.1 hg).1⟩,?_⟩,k1,k2,fun e => by cases e⟩
  have:=h.cells (g:=g) rfl j (.int .i64 l[j]) (by simp [hj])
  rwa [Go.WideShapes.add_plain] at this
theorem uH {Pr : Program} {c : Code} {Q : Exit→Act→World→Prop} {a : Act} {w : World} (h : c.wp Pr (fun e a w => e=.normal∧Q .normal a w) a w) : c.wp Pr Q a w :=
 fun b k cs => let ⟨e,a',w',q,r⟩:=h b k cs; ⟨e,a',w',q.1 ▸ q.2,r⟩
theorem jG (all : List Sht) (ia : Option Addr) (ic : Nat) (t : Nd) (a : Option Addr) (cap n₀ : Nat) (w : World) (hh : t.hold n₀ w a cap) (hs : o6 t) (hn : n₀≤w.heap.size) (he : Env w) (hta : Tab w) (hti : bZ w) (hI : bB (fun b => b<w.heap.size) w ia all) (hic : all.length≤ic∧ic≤maxLen) (hg : kZ all) (hB : (∀ s∈all,o7 s=true)→qJ all ia ic w.heap.size) :
 Calls Tryz.prog 11 #[.agg #[.int .i64 t.kind,.string t.text,.int .i64 t.n,.slice a t.kids.length cap,.int .i64 t.place],.slice ia all.length ic] w (lC t all w):=by
 have hmm:=@run_makeMap Tryz.prog
 obtain ⟨W0,hW0⟩ : ∃ W,W=w.alloc (.cells #[.int .i64 t.kind,.string t.text,.int .i64 t.n,.slice a t.kids.length cap,.int .i64 t.place] 24):=⟨_,rfl⟩
 obtain ⟨W1,hW1⟩ : ∃ W,W=W0.alloc (.cells #[.string ⟨#[]⟩,.slice none 0 0] 29):=⟨_,rfl⟩
 obtain ⟨W2,hW2⟩ : ∃ W,W=W1.alloc (.cells #[.int .i64 0] 3):=⟨_,rfl⟩
 obtain ⟨W3,hW3⟩ : ∃ W,W=W2.alloc (.cells #[.int .i64 0] 30):=⟨_,rfl⟩
 have hz0 : W0.heap.size=w.heap.size + 1:=by rw [hW0]; simp
 have hz1 : W1.heap.size=w.heap.size + 2:=by rw [hW1]; simp [hz0]
 have hz2 : W2.heap.size=w.heap.size + 3:=by rw [hW2]; simp [hz1]
 have hz3 : W3.heap.size=w.heap.size + 4:=by rw [hW3]; simp [hz2]
 have HZ:=hid (show W0.heap.size=w.heap.size + 1∧W1.heap.size=w.heap.size + 2∧W2.heap.size=w.heap.size + 3∧W3.heap.size=w.heap.size + 4 from ⟨hz0,hz1,hz2,hz3⟩)
 have b0 : Below w.heap.size w W0:=hW0 ▸ a7 _ _
 have b1 : Below W0.heap.size W0 W1:=hW1 ▸ a7 _ _
 have b2 : Below W1.heap.size W1 W2:=hW2 ▸ a7 _ _
 have b3 : Below W2.heap.size W2 W3:=hW3 ▸ a7 _ _
 have E3:=hid (show Below w.heap.size w W3 from b0.trans ((b1.trans ((b2.trans (b3.mono b2.size)).mono b1.size)).mono b0.size))
 have NB:=hid (show c6 w.heap.size t a cap W3 from (((show c6 w.heap.size t a cap W0 from hW0 ▸ c6.make w t a cap).below b1).below b2).below b3)
 have RM:=hid (show ResM (w.heap.size + 1) ⟨#[]⟩ none 0 0 0 0 W3 from ⟨
  (b3.block _ (by omega)).trans ((b2.block _ (by omega)).trans (by rw [hW1]; show (W0.heap.push _)[w.heap.size + 1]?=_; rw [← hz0]; simp)),
  (b3.block _ (by omega)).trans (by rw [hW2]; show (W1.heap.push _)[w.heap.size + 2]?=_; rw [← hz1]; simp),
  by rw [hW3]; show (W2.heap.push _)[w.heap.size + 3]?=_; rw [← hz2]; simp⟩)
 have C1:=hid (kQ t a cap n₀ W3 (hh.below (E3.out.mono hn)) hs (by rw [hz3]; omega) (he.below E3) (hta.below E3))
 have HX:=hid (show r9 t all=if J4 t=true∧all.all o7=true then match n6 t.text.data.toList all t.kids [] [] with | .error e => .error e | .ok ds => .ok ⟨t.text.data.toList,ds⟩ else .error (110,0) from rfl)
 have HE:=hid he
 have HTA:=hid hta
 have HTI:=hid hti
 have HI:=hid hI
 have HG:=hid hg
 have HB:=hid hB
 have HH:=hid hh
 have HN:=hid hn
 have HMD:=hid (show J4 t=J4 t from rfl)
 have hmf : ∀ (fn : Fn) (first cap : Array Value) (w : World),(Instr.makeFunc fn first cap).run Tryz.prog w=.ok (.func fn first cap) w:=fun _ _ _ _ => rfl
 clear hh hs hn he hta hti hI hg hB b0 b1 b2 b3 hz0 hz1 hz2 hz3 HMD
 obtain ⟨⟨z0,z1,z2,z3,z4⟩,-⟩:=NB.out.cells
 have hbl:=RM.out.lt
 go_enter_defers Tryz.func11,Tryz.ntmps11
 go_upto_region 1 with fail
 rw [← hW0,← hW1,← hW2,← hW3]
 clear hW0 hW1 hW2 hW3
 rw [show w.heap.size + 1 + 1 + 1=w.heap.size + 3 from rfl,show w.heap.size + 1 + 1=w.heap.size + 2 from rfl]
 go_wp2_with fail
 (with_reducible refine Calls.mono C1.out ?_)
 rintro e w4 ⟨rfl,hb⟩
 have NB4:=hid (NB.out.below hb)
 have RM4:=hid (RM.out.low fun d _ h2 => hb.block d (by omega))
 have E4:=hid (show Below w.heap.size w w4 from E3.out.trans (hb.mono E3.out.size))
 have Z4:=hid (show w.heap.size + 4≤w4.heap.size by have:=hb.size; have:=HZ.out.2.2.2; omega)
 clear hb C1 NB RM E3 HZ z0 z1 z2 z3 z4 hbl
 have CI:=hid (fun cur (hb : Below w4.heap.size w4 cur) => zY _ all ia ic cur (HI.out.move (fun b h => (E4.out.trans (hb.mono E4.out.size)).block b h) (fun _ h => h) (E4.out.trans (hb.mono E4.out.size)).size) hic HG (HE.out.below (E4.out.trans (hb.mono E4.out.size))) (HTA.out.below (E4.out.trans (hb.mono E4.out.size))))
 by_cases hok : J4 t=true∧all.all o7=true
 case neg =>
  have FX:=hid (show r9 t all=.error (110,0) by rw [HX.out,if_neg hok])
  have RET:=hid (show ∀ cur,Below w4.heap.size w4 cur→lC t all w (.returned (.tuple #[.agg #[.string ⟨#[]⟩,.slice none 0 0],.int .i64 0,.int .i64 110])) (lX cur (w.heap.size + 1) ⟨#[]⟩ none 0 0 0 110) from fun cur hb => by
   unfold lC
   rw [FX.out]
   exact ⟨fR (E4.out.trans (hb.mono E4.out.size)) (by omega) _ _ _ _ _ _,rfl⟩)
  have RUN:=hid (show ∀ cur,Below w4.heap.size w4 cur→ResM (w.heap.size + 1) ⟨#[]⟩ none 0 0 0 0 cur from fun cur hb => RM4.out.low fun d _ h2 => hb.block d (by have:=Z4.out; omega))
  cases hmd : J4 t with
  | false =>
    have R5:=hid (RUN.out w4 (Below.refl _ _))
    have Q5:=hid (RET.out w4 (Below.refl _ _))
    unfold lX at Q5
    obtain ⟨f0,f1,f2,f3,f4,f5,f6,f7⟩:=R5.out.cells
    clear hok RET RUN CI
    go_wp2_with fail
    exact ⟨_,dK (by exact R5.out.put ⟨#[]⟩ none 0 0 0 110) rfl rfl rfl,Q5⟩
  | true =>
    have ha : (all.any fun s => !o7 s)=true:=by
     rw [← List.not_all_eq_any_not,Bool.not_eq_true',Bool.eq_false_iff]
     exact fun e => hok ⟨hmd,e⟩
    rw [ha] at CI
    clear hok hmd ha
    have C5:=hid (CI.out w4 (Below.refl _ _))
    clear CI
    go_wp2_with fail
    (with_reducible refine Calls.mono C5.out ?_)
    rintro e w5 ⟨rfl,hb⟩
    have R5:=hid (RUN.out w5 hb)
    have Q5:=hid (RET.out w5 hb)
    unfold lX at Q5
    obtain ⟨f0,f1,f2,f3,f4,f5,f6,f7⟩:=R5.out.cells
    clear RET RUN C5 hb
    go_wp2_with fail
    exact ⟨_,dK (by exact R5.out.put ⟨#[]⟩ none 0 0 0 110) rfl rfl rfl,Q5⟩
 case pos =>
  have ha : (all.any fun s => !o7 s)=false:=by rw [← List.not_all_eq_any_not,hok.2]; rfl
  have hmd:=hok.1
  have HX2:=hid (show r9 t all=match n6 t.text.data.toList all t.kids [] [] with | .error e => .error e | .ok ds => .ok ⟨t.text.data.toList,ds⟩ by rw [HX.out,if_pos hok])
  have HMD:=hid hmd
  have HAL:=hid hok.2
  rw [ha] at CI
  rw [hmd]
  have C5:=hid (CI.out w4 (Below.refl _ _))
  clear CI ha hmd hok HX
  go_wp2_with fail
  (with_reducible refine Calls.mono C5.out ?_)
  rintro e w5 ⟨rfl,hb⟩
  have E5:=hid (show Below w.heap.size w w5 from E4.out.trans (hb.mono E4.out.size))
  have NB5:=hid (NB4.out.below hb)
  have RM5:=hid (RM4.out.low fun d _ h2 => hb.block d (by have:=Z4.out; omega))
  have Z5:=hid (show w.heap.size + 4≤w5.heap.size by have:=hb.size; have:=Z4.out; omega)
  clear hb C5 E4 NB4 RM4 Z4 HTA HG
  obtain ⟨W6,hW6⟩ : ∃ W,W=w5.alloc (.map #[] 0):=⟨_,rfl⟩
  obtain ⟨W7,hW7⟩ : ∃ W,W=W6.alloc (.map #[] 0):=⟨_,rfl⟩
  have hz6 : W6.heap.size=w5.heap.size + 1:=by rw [hW6]; simp
  have hz7 : W7.heap.size=w5.heap.size + 2:=by rw [hW7]; simp [hz6]
  have b6 : Below w5.heap.size w5 W6:=hW6 ▸ a7 _ _
  have b7 : Below W6.heap.size W6 W7:=hW7 ▸ a7 _ _
  have b57 : Below w5.heap.size w5 W7:=b6.trans (b7.mono b6.size)
  have M0:=hid (show q7 9 w5.heap.size 0 (fun _ => none) W7 from (show q7 9 w5.heap.size 0 (fun _ => none) W6 from hW6 ▸ q7.made _ _).kept (b7.block _ (by omega)))
  have M1:=hid (show ∀ av,SM av (w5.heap.size + 1) 0 (fun _ => none) W7 from fun av => by rw [← hz6,hW7]; exact SM.made av _)
  have E7:=hid (show Below w.heap.size w W7 from E5.out.trans (b57.mono E5.out.size))
  have NB7:=hid (NB5.out.below b57)
  have RM7:=hid (RM5.out.low fun d _ h2 => b57.block d (by have:=Z5.out; omega))
  have Z7:=hid (show w.heap.size + 4≤w5.heap.size∧W7.heap.size=w5.heap.size + 2 from ⟨Z5,hz7⟩)
  have C8:=hid (wF W7 (HTI.out.below E7) (HE.out.below E7))
  clear E5 NB5 RM5 Z5 HTI b6 b7 b57 hz7
  have HW6:=hid hW6
  have HW7:=hid hW7
  clear hW6 hW7
  go_wp2_with fail
  rw [← HW6.out,← HW7.out]
  (with_reducible refine Calls.mono C8.out ?_)
  rintro e w8 ⟨rfl,hb8,hsm⟩
  clear HW6 HW7 C8 hz6
  obtain ⟨W9,hW9⟩ : ∃ W,W=w8.alloc (.cells #[.map (some w5.heap.size),.map (some (w5.heap.size + 1)),.map (some W7.heap.size),.map none,.slice none 0 0,.slice none 0 0] 63):=⟨_,rfl⟩
  have B9:=hid (show Below w8.heap.size w8 W9 from hW9 ▸ a7 _ _)
  have NB9:=hid ((NB7.out.below hb8).below B9)
  have Z9:=hid (show W7.heap.size≤w8.heap.size∧W9.heap.size=w8.heap.size + 1 from ⟨hb8.size,by rw [hW9]; simp⟩)
  have hF9 : W9.heap[w8.heap.size]?=some (.cells #[.map (some w5.heap.size),.map (some (w5.heap.size + 1)),.map (some W7.heap.size),.map none,.slice none 0 0,.slice none 0 0] 63 (0,0)):=by rw [hW9]; exact O0 _ _ rfl
  have HF9:=hid hF9
  have HSM:=hid hsm
  have HB8:=hid hb8
  clear hF9 hsm hb8
  go_upto_region 5 with fail
  rw [← hW9]
  clear hW9
  obtain ⟨⟨z0,z1,z2,z3,z4⟩,-⟩:=NB9.out.cells
  obtain ⟨W10,hW10⟩ : ∃ W,W=W9.alloc (.cells #[.string t.text,.slice none 0 0] 29):=⟨_,rfl⟩
  have B10:=hid (show Below W9.heap.size W9 W10 from hW10 ▸ a7 _ _)
  have B70:=hid (show Below W7.heap.size W7 W10 from HB8.out.trans ((B9.out.trans (B10.out.mono (by have:=Z9.out; omega))).mono Z9.out.1))
  have HI0:=hid (show ∃ n2,ModI t a cap all w w8.heap.size w5.heap.size (w5.heap.size + 1) W7.heap.size n2 0 0 0 [] [] none 0 W10 by
   obtain ⟨n,hle,hsm⟩:=HSM.out
   have hz1:=Z9.out
   have hz7:=Z7.out
   have hz8:=hsm.in
   have hz10 : W10.heap.size=w8.heap.size + 2:=by rw [hW10]; simp [hz1.2]
   have hen:=HE.out
   have B810 : Below w8.heap.size w8 W10:=B9.out.trans (B10.out.mono (by omega))
   refine ⟨n,⟨⟨_,_,_,(B10.out.block _ (by omega)).trans HF9⟩,by omega,⟨fun _ => none,M0.out.kept (B70.out.block _ (by omega)),fun s => rfl⟩,(M1.out _).below B70,hsm.kept (B810.block _ hz8) (fun b h1 _ => B810.block b h1) fun b _ hb => ⟨by have:=hb.1; omega,by have:=hb.1; omega,by have:=hb.1; omega,by omega,by omega,fun e => by cases e⟩,by omega,⟨⟨by have:=hen.size; omega,by have:=hen.size; omega,by have:=hen.size; omega,by have:=hen.size; omega,by have:=hen.size; omega,fun e => by cases e⟩,hen.below (E7.out.trans (B70.out.mono E7.out.size))⟩,fun g e => by cases e⟩,⟨by omega,by omega,Nat.le_refl _⟩,⟨fun s hs => (List.not_mem_nil hs).elim,fun d hd => (List.not_mem_nil hd).elim⟩,fZ.start _ _,by rw [hW10]; exact O0 _ _ hz1.2.symm,rfl,NB7.out.below B70,RM7.out.low fun d _ h2 => B70.out.block d (by omega),E7.out.trans (B70.out.mono E7.out.size),by omega⟩)
  have Z10:=hid (show w8.heap.size + 1=W9.heap.size from Z9.out.2.symm)
  have HW10:=hid hW10
  clear hW10
  go_upto_region 6 with fail
  rw [← HW10.out,← Z10.out]
  clear HW10 B10 B70 M0 M1 E7 NB7 RM7 Z7 B9 Z9 HF9 HSM HB8 NB9 z0 z1 z2 z3 z4 hmm
  clear Z10
  generalize w8.heap.size=F at HI0 ⊢
  generalize w5.heap.size=b0 at HI0 ⊢
  generalize W7.heap.size=b2 at HI0 ⊢
  obtain ⟨n2,hI0⟩:=HI0.out
  have HI0':=hid hI0
  clear hI0 HI0
  generalize b0 + 1=b1 at HI0' ⊢
  obtain ⟨⟨z0,z1,z2,z3,z4⟩,-⟩:=HI0'.out.nb.cells
  have hlt0:=HI0'.out.lt
  have hbl0:=HI0'.out.bl.size
  go_wp2_with fail
  clear z0 z1 z2 z3 z4
  have hkl:=(cR HMD).2.2
  go_loopw [32] (fun i wr => ∃ k : Nat,i=.int .i64 k∧k≤t.kids.length∧Hid (∃ n0 n1 sheets defs da dc,ModI t a cap all w F b0 b1 b2 n2 k n0 n1 sheets defs da dc wr)) (fun i _ => t.kids.length - (intOf i).toNat)
  case atStart => exact ⟨0,rfl,Nat.zero_le _,_,_,_,_,_,_,HI0'⟩
  case round =>
   obtain ⟨k,rfl,hk,HQ⟩:=hrel
   clear HI0'
   obtain ⟨n0,n1,sheets,defs,da,dc,hI⟩:=HQ.out
   have HM:=hid hI
   clear hI HQ
   by_cases hlt : k<t.kids.length
   ·obtain ⟨kb,ko,ka,kc,A⟩:=(HH.out.below (HM.out.bl.mono HN)).kid k hlt
    obtain ⟨rfl,hkb,c0,c1,c2,c3,c4,hkh⟩:=A
    have HKH:=hid hkh
    obtain ⟨W4,hW4⟩ : ∃ W,W=wr.alloc (.cells #[.int .i64 t.kids[k].kind,.string t.kids[k].text,.int .i64 t.kids[k].n,.slice ka t.kids[k].kids.length kc,.int .i64 t.kids[k].place] 24):=⟨_,rfl⟩
    have B4:=hid (show Below wr.heap.size wr W4 from hW4 ▸ a7 _ _)
    have N4:=hid (show c6 wr.heap.size t.kids[k] ka kc W4 from hW4 ▸ c6.make wr t.kids[k] ka kc)
    have HM4:=hid (HM.out.below B4)
    have HKH4:=hid (hkh.below (B4.out.mono (by have:=HM.out.bl.size; have:=HN.out; omega)))
    have HSTEP:=hid (HM.out.run.symm.trans (a09 hlt))
    have HKD:=hid (yT HMD k hlt)
    have HND:=hid (show i7 t.kids[k]≤8192 by
     have h1:=(cR HMD).1
     rw [cP,decide_eq_true_eq] at h1
     have:=eP t.kids _ (List.getElem_mem hlt)
     have:=t8 t
     omega)
    generalize t.kids[k]=u at c0 c1 c2 c3 c4 hkh HKH hW4 N4 HKH4 HSTEP HKD HND
    clear hkh HKH
    go_upto_region 9 with fail
    rw [← hW4]
    clear hW4 c0 c1 c2 c3 c4
    obtain ⟨⟨q0,q1,q2,q3,q4⟩,-⟩:=N4.out.cells
    obtain ⟨⟨z0,z1,z2,z3,z4⟩,-⟩:=HM4.out.nb.cells
    have hzl:=N4.out.lt
    have hsl:=HM4.out.nb.lt
    rcases HKD.out with ⟨hk2,hbare⟩ | ⟨hk2,hlet⟩
    ·have HK2:=hid hk2
     have HBR:=hid hbare
     have C:=hid (HB.out (List.all_eq_true.1 HAL) F b0 b1 b2 n0 n1 n2 sheets defs t.text _ u ka kc W4 (by have:=HM4.out.lt; omega) (by have:=o0 (cR HMD).2.1; have:=d7 t.text; omega) (by have:=HM.out.le; have:=(cR HMD).2.2; omega) (by have:=HM4.out.lt; omega) hbare (HI.out.move (fun b h => HM4.out.bl.block b h) (fun _ h => h) HM4.out.bl.size) HM4.out.me)
     have HSI:=hid (HSTEP.out.trans (if_pos hk2))
     have HBM:=hid (fun s (h : p8 t.text.data.toList all sheets u=.ok s) => a0G h)
     unfold cH at C
     rw [hk2] at q0
     generalize p8 t.text.data.toList all sheets u=x at C HSI HBM
     clear hbare hk2 HKD HSTEP
     have HK3 : u.kind=2:=HK2.out
     rw [HK3] at C
     clear HK3
     go_wp2_with fail
     (with_reducible refine Calls.mono C.out ?_)
     intro e w5 hq
     cases x with
     | error q =>
       obtain ⟨p,q⟩:=q
       obtain ⟨rfl,hb⟩:=hq
       have HM5:=hid (HM4.out.below hb)
       have HX3:=hid (show r9 t all=.error (p,q) by rw [HX2.out,HSI.out])
       refine leaves_cons (f:=27) (args:=#[.pointer (some ⟨w.heap.size + 1,0,none⟩),.pointer (some ⟨w.heap.size + 1 + 1,0,none⟩),.pointer (some ⟨w.heap.size + 1 + 2,0,none⟩)]) (by simp) (by simp [go_sem]) ?_
       refine (gK _ _ _ _ _ _ _ _ _ [] _ HM5.out.rm).mono ?_
       rintro e u' w'' ⟨rfl,rfl,rfl⟩
       exact ⟨_,dK (oE HM5.out.rm q p) rfl rfl rfl,zA HX3 (jC HM5.out.bl HM5.out.bl.size (by omega) q p)⟩
     | ok s =>
       obtain ⟨rfl,hg,hme⟩:=hq
       have HM5:=hid (show ModI (t) _ cap all w F b0 b1 b2 n2 (k + 1) (n0 + 1) n1 (sheets ++ [s]) defs da dc w5 from HM4.out.brung hg hme HSI.out.symm (uZ (List.all_eq_true.1 HAL s (HBM.out s rfl))))
       clear hg hme
       go_wp2_with fail
       go_roundw
       case rel => exact ⟨k + 1,by go_num,by omega,_,_,_,_,_,_,HM5⟩
       case measure => simp [intOf]; omega
    ·have hkf : (u.kind == 2)=false:=beq_eq_false_iff_ne.2 hk2
     have HL:=hid hlet
     have HSI:=hid (HSTEP.out.trans (if_neg hk2))
     have C:=hid (a1v n₀ F sheets defs (.map (some b0)) (.map (some b1)) (.map (some b2)) u ka kc W4 HKH4 (by have:=HM4.out.lt; have:=HN.out; omega) HM4.out.me.fb HM4.out.me.lenv (lM HM4.out.good.1 HM4.out.good.2) hlet HND)
     have HGD:=hid (fun d (h : Y1 sheets defs u=.ok d) => tL (lM HM4.out.good.1 HM4.out.good.2) hlet h)
     unfold a15 at C
     have hut : u.text.data.toList.length≤24:=o0 (hJ hlet).1
     generalize Y1 sheets defs u=x at C HSI HGD
     clear hlet hk2 HKD HSTEP HL
     go_wp2_with fail
     (with_reducible refine Calls.mono C.out ?_)
     intro e w5 hq
     cases x with
     | error q =>
       obtain ⟨p,q⟩:=q
       obtain ⟨rfl,hb⟩:=hq
       have HX3:=hid (show r9 t all=.error (p,q) by rw [HX2.out,HSI.out])
       have hk5 : ∀ d,d<W4.heap.size→d≠F→w5.heap[d]?=W4.heap[d]?:=fun d h1 h2 => hb.block d ⟨h1,h2⟩
       have RM5:=hid (HM4.out.rm.low (W':=w5) fun d _ h2 => hk5 d (by have:=HM4.out.rm.lt; omega) (by have:=HM4.out.lt; omega))
       have BL5:=hid (show Below w.heap.size w w5 from ⟨hb.os.trans HM4.out.bl.os,hb.tape.trans HM4.out.bl.tape,hb.output.trans HM4.out.bl.output,by have:=hb.size; have:=HM4.out.bl.size; omega,fun d hd => (hk5 d (by have:=HM4.out.bl.size; omega) (by have:=HM4.out.lt; omega)).trans (HM4.out.bl.block d hd)⟩)
       clear hk5 hb
       refine leaves_cons (f:=27) (args:=#[.pointer (some ⟨w.heap.size + 1,0,none⟩),.pointer (some ⟨w.heap.size + 1 + 1,0,none⟩),.pointer (some ⟨w.heap.size + 1 + 2,0,none⟩)]) (by simp) (by simp [go_sem]) ?_
       refine (gK _ _ _ _ _ _ _ _ _ [] _ RM5).mono ?_
       rintro e u' w'' ⟨rfl,rfl,rfl⟩
       exact ⟨_,dK (oE RM5 q p) rfl rfl rfl,zA HX3 (jC BL5 BL5.out.size (by omega) q p)⟩
     | ok d =>
       obtain ⟨g,cq,rfl,hg1,hg2,hg3,hg4,hgc,hof,hfb⟩:=hq
       obtain ⟨hd1,hd2,hd3,hd4⟩:=HGD.out d rfl
       have hnm : bsA d.name=u.text:=by rw [hd1,bR]
       have HNM:=hid hnm
       have HM5:=hid (HM4.out.off hof hfb)
       have HD3:=hid hd3
       have HD4:=hid hd4
       have HGC:=hid hgc
       have hdl : d.name.length≤24:=by rw [hd1]; exact hut
       have hFg : F<W4.heap.size:=by have:=HM4.out.lt; omega
       obtain ⟨W6,hW6⟩ : ∃ W,W=w5.alloc (.cells #[.string u.text,.slice (some ⟨g,0,none⟩) d.params.length cq,.int .i64 d.result] 36):=⟨_,rfl⟩
       have B6:=hid (show Below w5.heap.size w5 W6 from hW6 ▸ a7 _ _)
       have K6:=hid (show y5 w5.heap.size u.text (some ⟨g,0,none⟩) d.params.length cq d.result W6 from hW6 ▸ y5.make _ _ _ _ _ _)
       have HM6:=hid (HM5.out.below B6)
       have I6:=hid (show y6 (fun b => W4.heap.size≤b∧b<w5.heap.size) W6 (some ⟨g,0,none⟩) d.params from fun j hj => ⟨g,0,rfl,⟨hg1,hg2⟩,by rw [Nat.zero_add]; exact (B6.out.cell (p:=⟨g,j,none⟩) hg2).trans (HGC.out j hj)⟩)
       have HAV:=hid (show ∀ b,W4.heap.size≤b→AvM F b0 b1 b2 (.slice da defs.length dc) b from fun b hb => ⟨by have:=HM4.out.me.lt; omega,by have:=HM4.out.me.lt; omega,by have:=HM4.out.me.lt; omega,by omega,by have:=HM4.out.lt; omega,fun e => by have:=(HM4.out.me.own b e).2; omega⟩)
       have hbq : b1<W4.heap.size∧F + 1<W4.heap.size∧W4.heap.size≤w5.heap.size:=by have:=HM4.out.me.lt; have:=HM4.out.lt; have:=hof.size; omega
       clear hgc hof hfb hd1 hd2 hd3 hd4 hnm HGC HM5
       go_upto_region 12 with fail
       rw [← hW6]
       clear hW6
       have hW6' : W6.drew=W6.drew:=rfl
       obtain ⟨W7,hW7⟩ : ∃ W,W=W6.drew:=⟨_,rfl⟩
       have B7:=hid (show Below W6.heap.size W6 W7 from hW7 ▸ r8 (Below.refl _ _))
       have K7:=hid (K6.out.below B7)
       have HM7:=hid (HM6.out.below B7)
       have I7:=hid (show y6 (fun b => W4.heap.size≤b∧b<w5.heap.size) W7 (some ⟨g,0,none⟩) d.params from I6.out.move (fun b hb => B7.out.block b (by have:=B6.out.size; have:=hb.2; omega)) fun _ h => h)
       obtain ⟨⟨k0,k1,k2⟩,-,hkl6⟩:=K7.out.cells
       obtain ⟨-,f1,-,hFl⟩:=HM7.out.me.fb.cells
       generalize w5.heap.size=sq at K7 I7 k0 k1 k2 hkl6 hg2 K6 I6 hbq ⊢
       refine uH ?_
       refine wp_region_held_drew (S:=fun cur => cur.cell? ⟨F,1,none⟩=some (.map (some b1))∧cur.cell? ⟨sq,0,none⟩=some (.string u.text)∧cur.cell? ⟨sq,1,none⟩=some (.slice (some ⟨g,0,none⟩) d.params.length cq)∧cur.cell? ⟨sq,2,none⟩=some (.int .i64 d.result)) (by kernel_rfl) ?_ (fun hHeld => ?_)
       ·rw [← hW7]; exact ⟨f1,k0,k1,k2⟩
       rw [← hW7]
       rw [← hW7] at hHeld
       clear hW7 hW6'
       refine a8 0 ?_ (hQ:=fun _ _ _ h => nomatch h.1); refine a8 1 ?_ (hQ:=fun _ _ _ h => nomatch h.1); refine a8 2 ?_ (hQ:=fun _ _ _ h => nomatch h.1); refine a8 3 ?_ (hQ:=fun _ _ _ h => nomatch h.1); refine a8 4 ?_ (hQ:=fun _ _ _ h => nomatch h.1); refine a8 5 ?_ (hQ:=fun _ _ _ h => nomatch h.1); refine a8 6 ?_ (hQ:=fun _ _ _ h => nomatch h.1)
       refine wpAnyH_ready (rs:=[7]) (by kernel_rfl) (by simp) ?_
       refine AllReadyH.cons (r6 rfl) (fun K hK => ?_) AllReadyH.nil
       rw [if_pos (by simp [Region.wanted])]
       refine oY HM7.out.me.ds (.tmp 51) (.tmp 53) (.tmp 54) rfl rfl (by have:=HM7.out.me.le.2.1; unfold maxLen; omega) d (.agg #[.string u.text,.slice (some ⟨g,0,none⟩) d.params.length cq,.int .i64 d.result]) (by rw [HNM.out]; rfl) rfl (by unfold maxLen; omega) ⟨_,cq,by rw [HNM.out],I7.out.move (fun _ _ => rfl) (fun b hb => HAV.out b hb.1),hg3,hg4,fun e => by cases e⟩ fun w8 hs8 hg8 => ?_
       have ME8:=hid (HM7.out.me.put HD4 (by have:=HM7.out.le; omega) hs8 hg8)
       have HG8:=hid hg8
       have J8:=hid (HM7.out.putd hg8 ME8)
       have K8:=hid (show y5 sq u.text (some ⟨g,0,none⟩) d.params.length cq d.result w8 from (hg8.block sq hkl6 (fun e => by have:=Option.some.inj e; omega)).trans K7)
       have I8:=hid (show y6 (fun b => W4.heap.size≤b∧b<sq) w8 (some ⟨g,0,none⟩) d.params from I7.out.move (fun b hb => hg8.block b (by have:=hb.2; omega) (fun e => by have:=hb.1; have:=Option.some.inj e; omega)) fun _ h => h)
       have HGOOD:=hid HM7.out.good
       have HLE:=hid HM7.out.le
       obtain ⟨⟨m0,m1,m2⟩,-,hsq8⟩:=K8.out.cells
       refine hK.out _ _ ⟨J8.out.me.fb.cells.2.1,m0,m1,m2⟩ (fun hHeld => ?_)
       clear hK K
       refine wpAnyH_done (by kernel_rfl) ⟨rfl,?_⟩ _
       simp only [Act.put]
       clear hHeld k0 k1 k2 f1 hFl hkl6 HM7 HM6 K7 K6 I7 I6 HG8 ME8 hs8 hg8 B7 B6 HM4
       have HSB:=hid (show ∀ cur : World,(∀ b,b<w8.heap.size→(Value.slice da defs.length dc).ownBlock≠some b→cur.heap[b]?=w8.heap[b]?)→cur.cell? ⟨F + 1,1,none⟩=some (.slice da defs.length dc)∧cur.cell? ⟨sq,0,none⟩=some (.string u.text)∧cur.cell? ⟨sq,1,none⟩=some (.slice (some ⟨g,0,none⟩) d.params.length cq)∧cur.cell? ⟨sq,2,none⟩=some (.int .i64 d.result) from fun cur hc => by
        have hq : (Value.slice da defs.length dc).ownBlock≠some sq:=(HAV.out sq hbq.2.2).2.2.2.2.2
        have h1:=hc (F + 1) J8.out.lt.2.2.2.1 (fun e => by have:=(J8.out.me.own _ e).1; omega)
        have h2:=hc sq hsq8 hq
        exact ⟨(World.cell?_of_block h1).trans J8.out.cells.1,(World.cell?_of_block h2).trans m0,(World.cell?_of_block h2).trans m1,(World.cell?_of_block h2).trans m2⟩)
       have HCl:=hid (show ∀ cur,Below w8.heap.size w8 cur→_ from fun cur hb => kH (fun b => W4.heap.size≤b∧b<sq) d.params (some ⟨g,0,none⟩) cq cur (I8.out.move (fun b h => hb.block b (by have:=h.2; omega)) fun _ h => h) (by have:=HD3.out.1; omega) (fun e => by cases e))
       obtain ⟨i0,hi,hz0,hz1,hz2⟩:=info_parts (show (Tryz.prog.info? 36).map (fun i => (i.zero,i.size,i.bytes))=some (some (.agg #[.string ⟨#[]⟩,.slice none 0 0,.int .i64 0]),3,48) by kernel_rfl)
       have HIN:=hid (show _∧_∧_∧_ from ⟨hi,hz0,hz1,hz2⟩)
       clear hi hz0 hz1 hz2 m0 m1 m2
       go_upto_region 13 with fail
       refine uH ?_
       refine s3 (S:=fun cur => cur.cell? ⟨F + 1,1,none⟩=some (.slice da defs.length dc)∧cur.cell? ⟨sq,0,none⟩=some (.string u.text)∧cur.cell? ⟨sq,1,none⟩=some (.slice (some ⟨g,0,none⟩) d.params.length cq)∧cur.cell? ⟨sq,2,none⟩=some (.int .i64 d.result)) (z:=13) (by kernel_rfl) ?_ (fun hHeld => ?_)
       ·exact HSB.out _ fun b _ _ => rfl
       refine b8.t 0 ?_ (hQ:=fun _ _ _ h => nomatch h.1); refine b8.t 1 ?_ (hQ:=fun _ _ _ h => nomatch h.1); refine b8.t 2 ?_ (hQ:=fun _ _ _ h => nomatch h.1); refine b8.t 3 ?_ (hQ:=fun _ _ _ h => nomatch h.1); refine b8.t 4 ?_ (hQ:=fun _ _ _ h => nomatch h.1); refine b8.t 5 ?_ (hQ:=fun _ _ _ h => nomatch h.1); refine b8.t 7 ?_ (hQ:=fun _ _ _ h => nomatch h.1); refine b8.t 8 ?_ (hQ:=fun _ _ _ h => nomatch h.1)
       refine b8.nx 6 fun K hK => ?_
       go_simp
       (with_reducible refine Calls.mono (HCl.out _ (r8 (Below.refl w8.heap.size w8))) ?_)
       rintro e wm ⟨v',rfl,own,hb⟩
       go_wp2_with fail
       have Bm:=hid (show Below w8.heap.size w8 wm from (r8 (Below.refl w8.heap.size w8)).trans hb)
       obtain ⟨pa,pc,rfl,hia,hp1,hp2,hp3⟩:=mL own
       have IM:=hid (show y6 (fun b => w8.heap.size≤b∧b<wm.heap.size) wm pa d.params from hia)
       have HPC:=hid (show d.params.length≤pc∧pc≤maxLen∧(pa=none→pc=0) from ⟨hp1,hp2,hp3⟩)
       refine hK.out _ _ (HSB.out _ fun b h _ => Bm.out.block b h) (fun hHeld => ?_)
       clear hK K own hb hia hp1 hp2 hp3
       try simp only [Act.put,j6,v6,v7]
       refine b8.t 9 ?_ (hQ:=fun _ _ _ h => nomatch h.1)
       refine b8.nx 10 fun K hK => ?_
       go_simp
       obtain ⟨W10,hW10⟩ : ∃ V,V=wm.alloc (.cells #[.string u.text,.slice pa d.params.length pc,.int .i64 d.result] 36):=⟨_,rfl⟩
       have B10m:=hid (show Below wm.heap.size wm W10 from hW10 ▸ a7 _ _)
       have B10:=hid (show Below w8.heap.size w8 W10 from Bm.out.trans (B10m.out.mono Bm.out.size))
       have J10:=hid (J8.out.below B10)
       have NEW:=hid (show ∀ j u,(eA (d,pa,pc))[j]?=some u→W10.cell? ((⟨wm.heap.size,0,none⟩ : Addr).add j)=some u from fun j v hu => by
        unfold eA at hu
        rw [HNM.out] at hu
        rw [hW10]
        exact a1Y j v hu)
       have hz10 : W10.heap.size=wm.heap.size + 1:=by rw [hW10]; simp
       have I10:=hid (show y6 (fun b => F + 2≤b∧b<W10.heap.size∧(Value.slice da defs.length dc).ownBlock≠some b) W10 pa d.params from IM.out.move (fun b hb => B10m.out.block b hb.2) fun b hb => ⟨by have:=hb.1; omega,by have:=hb.2; omega,(HAV.out b (by have:=hb.1; omega)).2.2.2.2.2⟩)
       rw [← hW10]
       clear hW10
       refine hK.out _ _ (HSB.out _ fun b h _ => B10.out.block b h) (fun hHeld => ?_)
       clear hK K
       try simp only [Act.put,j6,v6,v7]
       refine b8.nx 11 fun K hK => ?_
       refine step_append_lies _ rfl _ _ 27 rfl (F + 2) 36 i0 (.agg #[.string ⟨#[]⟩,.slice none 0 0,.int .i64 0]) 3 48 Tryz.underlying27 HIN.out.1 HIN.out.2.1 HIN.out.2.2.1 HIN.out.2.2.2 rfl (by decide) (.slice da defs.length dc) defs.length (fF J10.out.res.choose) rfl J10.out.res.choose_spec.2.1 ⟨wm.heap.size,0,none⟩ 1 1 (eA (d,pa,pc)) rfl rfl NEW (by intro x hx; unfold eA at hx; simp at hx; rcases hx with rfl | rfl | rfl <;> rfl) (by decide) (by have:=HLE.out; unfold maxLen; omega) (by have:=HLE.out; omega) (by have:=J10.out.lt; omega) _ rfl ?_
       intro gb cq2 w11 hown hgrow hat hltg
       have HM12:=hid (J10.out.done rfl hgrow hat hown I10 HPC HD3 HGOOD HLE HSI.out.symm)
       refine hK.out _ _ (HSB.out _ fun b h hv => (hgrow.block b (by have:=B10.out.size; omega) (fun e => hv e.symm)).trans (B10.out.block b h)) (fun hHeld => ?_)
       clear hK K
       try simp only [Act.put,j6,v6,v7]
       refine b8.nx 12 fun K hK => ?_
       go_simp
       refine hK.out _ _ hHeld (fun hHeld => ?_)
       clear hK K
       try simp only [Act.put,j6,v6,v7]
       have s0 : w11.cell? ⟨F + 1,1,none⟩=some (.slice da defs.length dc):=hHeld.1
       have s1 : w11.frozen? ⟨F + 1,1,none⟩=false:=by
        have:=(hgrow.block (F + 1) J10.out.lt.2.2.2.1 (fun e => by have:=(J10.out.me.own _ e.symm).1; omega)).trans J10.out.sb
        simp [World.frozen?,this]
       refine b8.la fun K hK => ?_
       go_simp
       refine hK.out _ _ ⟨rfl,?_⟩
       clear hK K hHeld s0 s1 hown hgrow hat hltg J10 NEW I10 IM HPC B10m B10 Bm J8 HSB HCl HIN
       generalize w11.setCell ⟨F + 1,1,none⟩ (.slice (some ⟨gb,0,none⟩) (defs.length + 1) cq2)=w12 at HM12 ⊢
       go_wp2_with fail
       go_roundw
       case rel => exact ⟨k + 1,by go_num,by omega,_,_,_,_,_,_,HM12⟩
       case measure => simp [intOf]; omega
   ·have HR:=HM.out.run
    rw [List.drop_of_length_le (by omega),n6] at HR
    obtain ⟨r1,r2,r3,r4,r5⟩:=HM.out.res.schs
    have HX3:=hid (show lC t all w (.returned (.tuple #[.agg #[.string t.text,.slice da defs.length dc],.int .i64 0,.int .i64 0])) (lX wr (w.heap.size + 1) t.text da defs.length dc 0 0) by
     unfold lC
     rw [HX2.out,← HR]
     refine ⟨fR HM.out.bl (by omega) _ _ _ _ _ _,da,dc,by rw [bR],r1.move (fun b hb => a0o _ _ _ _ _ _ _ _ (by omega)) (fun b hb => by omega) ?_,r3,r4,r5⟩
     unfold lX
     simp [World.setCell])
    have RN:=hid (HM.out.rm.put t.text da defs.length dc 0 0)
    have hsb:=HM.out.sb
    have s0 : wr.cell? ⟨F + 1,0,none⟩=some (.string t.text):=by simp [World.cell?,hsb]
    have s1 : wr.cell? ⟨F + 1,1,none⟩=some (.slice da defs.length dc):=by simp [World.cell?,hsb]
    obtain ⟨f0,f1,f2,f3,f4,f5,f6,f7⟩:=HM.out.rm.cells
    clear HR r1 r2 r3 r4 r5 hsb
    go_wp2_with fail
    refine leaves_cons (f:=27) (args:=#[.pointer (some ⟨w.heap.size + 1,0,none⟩),.pointer (some ⟨w.heap.size + 1 + 1,0,none⟩),.pointer (some ⟨w.heap.size + 1 + 2,0,none⟩)]) (by simp) (by simp [go_sem]) ?_
    refine (tC _ _ _ _).mono ?_
    rintro e u' w'' ⟨rfl,rfl,rfl⟩
    exact ⟨_,dK RN rfl rfl rfl,HX3⟩
theorem mD (all : List Sht) (ia : Option Addr) (ic : Nat) (t : Nd) (a : Option Addr) (cap n₀ : Nat) (w : World) (hh : t.hold n₀ w a cap) (hs : o6 t) (hn : n₀≤w.heap.size) (he : Env w) (hta : Tab w) (hti : bZ w) (hI : bB (fun b => b<w.heap.size) w ia all) (hic : all.length≤ic∧ic≤maxLen) (hg : kZ all) (hB : qJ all ia ic w.heap.size) :
 Calls Tryz.prog 11 #[.agg #[.int .i64 t.kind,.string t.text,.int .i64 t.n,.slice a t.kids.length cap,.int .i64 t.place],.slice ia all.length ic] w (lC t all w) :=
 jG all ia ic t a cap n₀ w hh hs hn he hta hti hI hic hg fun _ => hB
end
end Go.Proofs.YtppcfebnaieciaaGreatDoor
