/-
  Laws that the proof rests on.
-/
import Derived.Test.YtibiccacafjjfaaGreatDoorR19
import Derived.ScopeJumps
import Derived.WalkMore
import Derived.Test.YtibiccacafjjfaaGreatDoorR01
namespace Go.Proofs.YtibiccacafjjfaaGreatDoor
set_option maxRecDepth 100000
set_option maxHeartbeats 16000000
section
open Go.RowKit
theorem rZ {Pr : Program} {pre rest : Code} {a : Act} {w : World} {Q : Exit→Act→World→Prop} (J : Act→World→Prop) (μ : Act→World→Nat) (hpre : findLabel pre 0=none) (first : pre.wp Pr (Exit.then J (Exit.noGoto Q)) a w)
 (pass : ∀ a w,J a w→rest.wp Pr (Exit.jump 0 (fun a' w' => J a' w'∧μ a' w'<μ a w) Q) a w) : (Code.scope (.seq pre (.seq (.label 0) rest))).wp Pr Q a w:=by
 refine wp_scope_jumps (rest:=.seq .skip rest) 0 J μ (by simp [findLabel,hpre]) ?_ ?_
 ·refine wp_seq (wp_mono first fun e a w h => ?_)
  cases e with
  | normal =>
    refine wp_seq (wp_label ?_)
    exact wp_mono (pass a w h) fun e a w h => by
     cases e <;> first | exact h | exact ⟨h.1,h.2.1⟩
  | goto l => exact h.elim
  | exit id => exact h
  | ret => exact h
  | panic ch => exact h
  | outgrown => exact h
 ·intro a w hJ
  exact wp_seq (wp_skip (pass a w hJ))
def a4e (P : Nat) (W : World) : Nat:=match W.cell? ⟨P,0,none⟩ with
 | some (.slice _ n _) => n
 | _ => 0
theorem SQ.len {P g cap : Nat} {ts : List Tk} {n : Nat} {l : List Tk} {W : World} (h : SQ P g cap ts n l W) : a4e P W=l.length:=by
 obtain ⟨a,rfl,h⟩:=h
 unfold a4e
 rw [h.cells.1.1,List.length_drop]
theorem a7W (w : World) (T : TypeId) (e1 : Ent) : lK (w.alloc (.cells #[.int .i64 e1.1.kind,.string e1.1.text,.int .i64 e1.1.n,.slice e1.2.1 e1.1.kids.length e1.2.2,.int .i64 e1.1.place,.int .i64 (c8 e1.1)] T)) w.heap.size 0 [e1]:=by
 intro j hj
 obtain rfl : j=0:=by simp at hj; omega
 refine ⟨?_,?_,?_,?_,?_,?_⟩ <;> simp
theorem a6Y (w : World) (T : TypeId) (e1 e2 : Ent) : lK (w.alloc (.cells #[.int .i64 e1.1.kind,.string e1.1.text,.int .i64 e1.1.n,.slice e1.2.1 e1.1.kids.length e1.2.2,.int .i64 e1.1.place,.int .i64 (c8 e1.1),.int .i64 e2.1.kind,.string e2.1.text,.int .i64 e2.1.n,.slice e2.2.1 e2.1.kids.length e2.2.2,.int .i64 e2.1.place,.int .i64 (c8 e2.1)] T)) w.heap.size 0 [e1,e2]:=by
 intro j hj
 have : j=0∨j=1:=by simp at hj; omega
 rcases this with rfl | rfl <;> (refine ⟨?_,?_,?_,?_,?_,?_⟩ <;> simp)
theorem a6Z (w : World) (T : TypeId) (e1 e2 e3 : Ent) : lK (w.alloc (.cells #[.int .i64 e1.1.kind,.string e1.1.text,.int .i64 e1.1.n,.slice e1.2.1 e1.1.kids.length e1.2.2,.int .i64 e1.1.place,.int .i64 (c8 e1.1),.int .i64 e2.1.kind,.string e2.1.text,.int .i64 e2.1.n,.slice e2.2.1 e2.1.kids.length e2.2.2,.int .i64 e2.1.place,.int .i64 (c8 e2.1),
 .int .i64 e3.1.kind,.string e3.1.text,.int .i64 e3.1.n,.slice e3.2.1 e3.1.kids.length e3.2.2,.int .i64 e3.1.place,.int .i64 (c8 e3.1)] T)) w.heap.size 0 [e1,e2,e3]:=by
 intro j hj
 have : j=0∨j=1∨j=2:=by simp at hj; omega
 rcases this with rfl | rfl | rfl <;> (refine ⟨?_,?_,?_,?_,?_,?_⟩ <;> simp)
def jL (x : Rd) (av : Nat→Prop) (w : World) (e : Ending) (w' : World) : Prop:=Below w.heap.size w w'∧match x with
 | .ok (t,_) => ∃ a cp,e=.returned (trV t a cp)∧t.lies (fun b => av b∨Fr w.heap.size w'.heap.size b) w' a cp∧c8 t≤100
 | .error (k,p) => e=flt k p
theorem gR.use {k n p : Int} {s : List UInt8} {L : List Ent} {w w' : World} {e : Ending} (h : gR k s n p L w e w') (hk : (Lit.int .i64 k).wf=true) (hs : s.length≤16384) (hn : (Lit.int .i64 n).wf=true) (hp : (Lit.int .i64 p).wf=true) {av : Nat→Prop} (hav : ∀ b,av b→b<w.heap.size) (hl : ∀ e∈L,e.1.lies av w e.2.1 e.2.2) (r : List Tk) :
 jL (made (mkN k s n (L.map (·.1)) p) r) av w e w':=by
 obtain ⟨hb,h⟩:=h
 refine ⟨hb,?_⟩
 unfold made
 split at h
 ·rename_i hd
  rw [if_pos hd]; exact h
 ·rename_i hd
  rw [if_neg hd]
  obtain ⟨a,cp,he,hq⟩:=h
  obtain ⟨h1,h2,h3⟩:=hq av hav hl
  exact ⟨a,cp,he,Nd.lies.mk' hk (by show s.toArray.size≤maxLen; unfold maxLen; simp; omega) hn hp (by rw [List.length_map]; exact h2) h3 h1,by omega⟩
end
section
open Lib (hid)
open Go.RowKit
def a5O (P g cap : Nat) (ts : List Tk) (nest lv : Nat) (l : List Tk) (X : Rd) (w : World) (tb : Nat) (t : Nd) (a : Option Addr) (cp : Nat) (r : List Tk) (wr : World) : Prop :=
 SQ P g cap ts nest r wr∧w.grownBy wr (some P)∧T6 tb t.kind t.text t.n a t.kids.length cp t.place (c8 t) wr∧T6 w.heap.size 0 ⟨#[]⟩ 0 none 0 0 0 0 wr∧w.heap.size<tb∧c8 t≤100∧X=rd (.loop lv t) nest r∧r.length≤l.length ∧
  ∃ av : Nat→Prop,(∀ c,av c→w.heap.size<c∧c<wr.heap.size∧c≠tb)∧t.lies av wr a cp
theorem iY (k n p : Int) (s : ByteArray) (w : World) : (Instr.field 79 (.agg #[.int .i64 k,.string s,.int .i64 n,.int .i64 p]) 3).run Tryz.prog w=.ok (.int .i64 p) w:=by kernel_rfl
theorem a6n (lv : Nat) : ∀ x∈r4 lv,x.length≤3:=by
 unfold r4
 split
 ·decide
 split
 ·decide
 split <;> decide
theorem a13 (s : ByteArray) : (⟨s.data.toList.toArray⟩ : ByteArray)=s:=by cases s; simp
theorem a5z (lv nest : Nat) (l : List Tk) : rd (.chain lv) nest l=(rd (D5 lv) nest l).then fun t r => rd (.loop lv t) nest r:=by rw [t7]; rfl
theorem a6v {lv nest : Nat} {t : Nd} {r : List Tk} (h : U0 (r4 lv) r=false) : rd (.loop lv t) nest r=.ok (t,r):=by
 rw [t7]
 show (if U0 (r4 lv) r=true then _ else _)=_
 rw [h,if_neg (by decide)]
theorem a3P {lv nest : Nat} {t : Nd} {r : List Tk} {x : List UInt8} (hx : x∈r4 lv) (h : isT x r=true) : rd (.loop lv t) nest r=(rd (D5 lv) nest (b9 r)).then fun m q => (made (mkN 13 x 0 [t,m] (hd r).pos) q).then fun t q => rd (.loop lv t) nest q:=by
 rw [t7]
 show (if U0 (r4 lv) r=true then _ else _)=_
 rw [if_pos (by unfold U0; exact List.any_eq_true.2 ⟨x,hx,h⟩),(cX h).2]
theorem a5r {P g cap : Nat} {ts : List Tk} {n : Nat} {l : List Tk} {W W' : World} {b : Nat} (h : SQ P g cap ts n l W) (k : W.grownBy W' (some b)) (hb : b≠P∧b≠g) : SQ P g cap ts n l W' :=
 h.keeps (fun c hc => by
  have hl:=h.blocks
  rcases hc with rfl | rfl
  ·exact k.block _ hl.1 (fun e => hb.1 (Option.some.inj e).symm)
  ·exact k.block _ hl.2.1 (fun e => hb.2 (Option.some.inj e).symm)) k.size
theorem eA {w A B : World} {P b : Nat} (h : w.grownBy A (some P)) (k : A.grownBy B (some b)) (hb : w.heap.size≤b) : w.grownBy B (some P) :=
 ⟨k.os.trans h.os,k.tape.trans h.tape,k.output.trans h.output,Nat.le_trans h.size k.size,fun i hi hne => (k.block i (Nat.lt_of_lt_of_le hi h.size) (fun e => by have:=Option.some.inj e; omega)).trans (h.block i hi hne)⟩
theorem gN (P g cap : Nat) (ts : List Tk) (he : y6 ts) (htk : ∀ t∈ts,z7 t) (nest lv : Nat) (l : List Tk) (K : Nat) (fs : Array Value) (ss : List ByteArray) (sa : Nat) (w : World) (hK : m9 K) (hss : ss.map (·.data.toList)=r4 lv) (hsl : ss.length≤2)
 (h : SQ P g cap ts nest l w) (hsa : sa<w.heap.size∧sa≠P) (hsc : ∀ j (hj : j<ss.length),w.cell? ⟨sa,j,none⟩=some (.string ss[j]))
 (hpart : ∀ r,r.length≤l.length→∀ W,SQ P g cap ts nest r W→Calls Tryz.prog K fs W (QP P g cap ts nest (rd (D5 lv) nest r) W)) :
 Calls Tryz.prog 87 #[.pointer (some ⟨P,0,none⟩),.func (.func K) fs #[],.slice (some ⟨sa,0,none⟩) ss.length ss.length] w (QP P g cap ts nest (rd (.chain lv) nest l) w):=by
 unfold m9 at hK
 have HP:=hid hpart
 have HE:=hid he
 have HTK:=hid htk
 have HSS:=hid hss
 have HSC:=hid hsc
 have HSA:=hid hsa
 have H:=hid h
 obtain ⟨X,hX⟩ : ∃ X,X=rd (.chain lv) nest l:=⟨_,rfl⟩
 rw [← hX]
 rw [a5z] at hX
 have HX:=hid hX
 clear h he htk hpart hss hsc hsa hX
 go_enter Tryz.func87,Tryz.ntmps87
 go_wp2_with fail
 obtain ⟨W1,hW1⟩ : ∃ W,W=w.alloc (.cells #[.int .i64 0,.string ⟨#[]⟩,.int .i64 0,.slice none 0 0,.int .i64 0,.int .i64 0] 50):=⟨_,rfl⟩
 have B1:=hid (show Below w.heap.size w W1 from hW1 ▸ c6 _ _)
 have Z1:=hid (show T6 w.heap.size 0 ⟨#[]⟩ 0 none 0 0 0 0 W1 from hW1 ▸ T6.make w _ _ _ _ _ _ _ _)
 rw [← hW1]
 clear hW1
 refine rZ (fun a' wr => ∃ (tb : Nat) (t : Nd) (a : Option Addr) (cp : Nat) (r : List Tk) (u8 u9 u10 u11 u12 u13 u14 u15 u16 u17 u18 u19 u20 u21 u22 u23 u24 u25 u26 u27 u28 u29 u30 u31 u32 u33 u34 u35 : Value),a'={ tmps:=#[.pointer (some ⟨P,0,none⟩),.func (.func K) fs #[],.slice (some ⟨sa,0,none⟩) ss.length ss.length,undef,undef,undef,.pointer (some ⟨w.heap.size,0,none⟩),.pointer (some ⟨tb,0,none⟩),u8,u9,u10,u11,u12,u13,u14,u15,u16,u17,u18,u19,u20,u21,u22,u23,u24,u25,u26,u27,u28,u29,u30,u31,u32,u33,u34,u35],defers:=[] }∧Hid (a5O P g cap ts nest lv l X w tb t a cp r wr)) (fun _ wr => a4e P wr) rfl ?_ ?_
 ·have C1:=hid (HP.out l (Nat.le_refl _) W1 (H.out.below B1))
  have HRL:=hid (fun t q (h : rd (D5 lv) nest l=.ok (t,q)) => bC (D5 lv) nest l h)
  generalize rd (D5 lv) nest l=x at HX C1 HRL
  go_wp2_with fail
  (with_reducible refine Calls.mono C1.out ?_)
  intro e w2 hq
  cases x with
  | error q =>
    obtain ⟨k,p⟩:=q
    obtain ⟨rfl,hg⟩:=hq
    refine And.intro rfl ?_
    rw [HX.out]
    exact ⟨rfl,b6 (b8 B1) hg⟩
  | ok q =>
    obtain ⟨t,r⟩:=q
    obtain ⟨a,cp,rfl,hs,hg,hl,hd⟩:=hq
    have HI:=hid (show a5O P g cap ts nest lv l X w w2.heap.size t a cp r (w2.alloc (.cells #[.int .i64 t.kind,.string t.text,.int .i64 t.n,.slice a t.kids.length cp,.int .i64 t.place,.int .i64 (c8 t)] 50)) by
     have b:=c6 w2 (.cells #[.int .i64 t.kind,.string t.text,.int .i64 t.n,.slice a t.kids.length cp,.int .i64 t.place,.int .i64 (c8 t)] 50)
     have z:=Z1.out.lt
     have hbl:=H.out.blocks
     have hsz:=hg.size
     refine ⟨hs.below b,b6 (b6 (b8 B1) hg) (b8 b),T6.make w2 _ _ _ _ _ _ _ _,(Z1.out.grown hg (fun e => by have:=Option.some.inj e; omega)).below b,by omega,hd,HX,HRL.out t r rfl,Fr W1.heap.size w2.heap.size,fun c hc => ⟨by have:=hc.1; omega,by have:=hc.2; simp; omega,by have:=hc.2; omega⟩,d5 hl (fun c hc => b.block c hc.2) fun c hc => hc⟩)
    clear hs hg hl hd C1
    unfold trV
    go_wp2_with fail
    exact ⟨w2.heap.size,t,a,cp,r,_,_,_,_,_,_,_,_,_,_,_,_,_,_,_,_,_,_,_,_,_,_,_,_,_,_,_,_,rfl,HI⟩
 ·rintro a' wo ⟨tb,t,a,cp,r,u8,u9,u10,u11,u12,u13,u14,u15,u16,u17,u18,u19,u20,u21,u22,u23,u24,u25,u26,u27,u28,u29,u30,u31,u32,u33,u34,u35,rfl,HI⟩
  have HBl:=hid H.out.blocks
  clear H HX
  go_wp2_with fail
  go_loopw [15] (fun i wr => ∃ k : Nat,k≤ss.length∧i=.int .i64 k∧Hid (∀ j (hj : j<ss.length),j<k→isT ss[j].data.toList r=false)∧Hid (Below wo.heap.size wo wr)) (fun i _ => (ss.length - (intOf i).toNat))
  case atStart => exact ⟨0,Nat.zero_le _,rfl,fun j hj h => by omega,Below.refl _ _⟩
  case round =>
   obtain ⟨k,hk,rfl,HN,HB⟩:=hrel
   by_cases hlt : k<ss.length
   ·have hga:=HI.out.2.1.size
    have c0 : wr.cell? ⟨sa,k,none⟩=some (.string ss[k]) :=
     (HB.out.cell (p:=⟨sa,k,none⟩) (by show sa<wo.heap.size; have:=HSA.out; omega)).trans ((World.cell?_of_block (HI.out.2.1.block sa HSA.out.1 (fun e => HSA.out.2 (Option.some.inj e)))).trans (HSC.out k hlt))
    have HM:=hid (show ss[k].data.toList∈r4 lv by rw [← HSS.out]; exact List.mem_map.2 ⟨_,List.getElem_mem hlt,rfl⟩)
    have HAll:=hid (show isT ss[k].data.toList r=false→∀ j (hj : j<ss.length),j<k + 1→isT ss[j].data.toList r=false from fun h j hj hjk => by
     by_cases e : j=k
     ·subst e; exact h
     ·exact HN.out j hj (by omega))
    have S1:=hid (HI.out.1.below HB)
    have hs2 : ss.length≤9223372036854775807:=by omega
    generalize ss[k]=s at c0 HM HAll
    have C2:=hid (aV P g cap ts nest r s wr S1)
    generalize hbe : isT s.data.toList r=b at C2 HAll
    have HBE:=hid hbe
    clear hbe HN
    cases b
    ·have HA:=hid (HAll.out rfl)
     clear HAll
     go_wp2_with fail
     (with_reducible refine Calls.mono C2.out ?_)
     rintro e w4 ⟨rfl,hb⟩
     have HB4:=hid (HB.out.trans (hb.mono HB.out.size))
     clear hb C2
     go_wp2_with fail
     go_roundw
     case rel => exact ⟨k + 1,by omega,by go_num,HA,HB4⟩
     case measure => simp [intOf]; omega
    ·clear HAll
     have HXn:=hid (HI.out.2.2.2.2.2.2.1.trans (a3P HM HBE))
     have HLn:=hid (n5 HBE)
     go_wp2_with fail
     (with_reducible refine Calls.mono C2.out ?_)
     rintro e w4 ⟨rfl,hb⟩
     have HB4:=hid (HB.out.trans (hb.mono HB.out.size))
     have S4:=hid (S1.out.below hb)
     have C3:=hid (dP P g cap ts nest r w4 S4 HE)
     have HT0:=hid (HTK.out _ S4.out.mem)
     generalize hd r=T at C3 HXn HT0
     have hfd:=iY T.kind T.n T.pos ⟨T.text.toArray⟩
     clear hb C2
     go_wp2_with fail
     (with_reducible refine Calls.mono C3.out ?_)
     rintro e wi ⟨rfl,hs5,hg5⟩
     have S5:=hid hs5
     have G0:=hid hg5
     have G5:=hid (b6 (b8 HB4) hg5)
     clear hs5 hg5 C3
     unfold tkV
     obtain ⟨W5,hW5⟩ : ∃ W,W=wi.alloc (.cells #[.int .i64 13,.string s,.int .i64 0,.slice none 0 0,.int .i64 T.pos] 24):=⟨_,rfl⟩
     have B5:=hid (show Below wi.heap.size wi W5 from hW5 ▸ c6 _ _)
     have htb:=hid HI.out.2.2.2.2.1
     have TI:=hid ((HI.out.2.2.1.below HB4).grown G0 (fun e => by have:=Option.some.inj e; have:=htb.out; have:=HBl.out; omega))
     have hti:=hid TI.out.lt
     have N5:=hid (show f6 wi.heap.size (.mk 13 s 0 [] T.pos) none 0 W5 from hW5 ▸ f6.make wi (.mk 13 s 0 [] T.pos) none 0)
     have T5:=hid (TI.out.below B5)
     have Z5:=hid (((HI.out.2.2.2.1.below HB4).grown G0 (fun e => by have:=Option.some.inj e; have:=HBl.out; omega)).below B5)
     have BD:=hid (show Below W5.heap.size W5 W5.drew from z8 (Below.refl _ _))
     have C6:=hid (HP.out (b9 r) (by have:=HLn.out; have:=HI.out.2.2.2.2.2.2.2.1; omega) W5.drew ((S5.out.below B5).below BD))
     have HR6:=hid (fun t q (h : rd (D5 lv) nest (b9 r)=.ok (t,q)) => bC (D5 lv) nest (b9 r) h)
     have GW:=hid (show w.grownBy W5.drew (some P) from b6 (b6 HI.out.2.1 G5) (b8 (B5.out.trans (BD.out.mono B5.out.size))))
     generalize rd (D5 lv) nest (b9 r)=x at C6 HXn HR6
     go_upto_region 7 with fail
     rw [← hW5]
     clear hW5
     refine e8 (S:=(fun cur => (cur.cell? ⟨wi.heap.size,0,none⟩=some (.int .i64 13)∧cur.cell? ⟨wi.heap.size,1,none⟩=some (.string s)∧cur.cell? ⟨wi.heap.size,2,none⟩=some (.int .i64 0)∧cur.cell? ⟨wi.heap.size,3,none⟩=some (.slice none 0 0)∧cur.cell? ⟨wi.heap.size,4,none⟩=some (.int .i64 T.pos))∧(cur.cell? ⟨tb,0,none⟩=some (.int .i64 t.kind)∧cur.cell? ⟨tb,1,none⟩=some (.string t.text)∧cur.cell? ⟨tb,2,none⟩=some (.int .i64 t.n)∧cur.cell? ⟨tb,3,none⟩=some (.slice a t.kids.length cp)∧cur.cell? ⟨tb,4,none⟩=some (.int .i64 t.place)∧cur.cell? ⟨tb,5,none⟩=some (.int .i64 (c8 t))))) (z:=7) (by kernel_rfl) ?_ (fun hHeld => ?_)
     ·exact ⟨N5.out.cells.1,T5.out.cells.1⟩
     refine b7.t 0 ?_; refine b7.t 1 ?_; refine b7.t 2 ?_; refine b7.t 3 ?_
     refine b7.nx 4 fun K hK => ?_
     go_simp
     (with_reducible refine Calls.mono C6.out ?_)
     intro e w6 hq
     cases x with
     | error q =>
       obtain ⟨k0,p0⟩:=q
       obtain ⟨rfl,hg⟩:=hq
       refine And.intro rfl ?_
       rw [HXn.out]
       exact ⟨rfl,b6 GW hg⟩
     | ok q =>
     obtain ⟨m,q⟩:=q
     obtain ⟨a2,cp2,rfl,hs6,hg6,hl6,hd6⟩:=hq
     have S6:=hid hs6
     have G6:=hid (b6 GW hg6)
     have N6:=hid (f6.grown (show f6 wi.heap.size (.mk 13 s 0 [] T.pos) none 0 W5.drew from N5) hg6 (by have:=S5.out.blocks; omega))
     have T6':=hid (T6.grown (show T6 tb t.kind t.text t.n a t.kids.length cp t.place (c8 t) W5.drew from T5) hg6 (fun e => by have:=Option.some.inj e; have:=htb.out; have:=HBl.out; omega))
     have HG6:=hid hg6
     have HL6:=hid hl6
     have HD6:=hid hd6
     clear hs6 hg6 hl6 hd6 C6
     unfold trV
     go_wp2_with fail
     refine hK.out _ _ ?_ (fun hHeld => ?_)
     ·exact ⟨N6.out.cells.1,T6'.out.cells.1⟩
     clear hK K
     try simp only [Act.put,c9,f8,f7]
     refine b7.nx 5 fun K hK => ?_
     go_simp
     obtain ⟨W7,hW7⟩ : ∃ W,W=w6.alloc (.cells #[.int .i64 t.kind,.string t.text,.int .i64 t.n,.slice a t.kids.length cp,.int .i64 t.place,.int .i64 (c8 t),.int .i64 m.kind,.string m.text,.int .i64 m.n,.slice a2 m.kids.length cp2,.int .i64 m.place,.int .i64 (c8 m)] 50):=⟨_,rfl⟩
     have R7:=hid (show lK W7 w6.heap.size 0 [(t,a,cp),(m,a2,cp2)] from hW7 ▸ a6Y w6 _ (t,a,cp) (m,a2,cp2))
     have B7:=hid (show Below w6.heap.size w6 W7 from hW7 ▸ c6 _ _)
     have hz7:=hid (show W7.heap.size=w6.heap.size + 1 by rw [hW7]; simp)
     have N7:=hid (N6.out.below B7)
     have T7:=hid (T6'.out.below B7)
     have C7:=hid (show Calls Tryz.prog 54 #[.pointer (some ⟨P,0,none⟩),.agg #[.int .i64 13,.string s,.int .i64 0,.slice none 0 0,.int .i64 T.pos],.slice (some ⟨w6.heap.size,0,none⟩) 2 2] W7 (gR 13 s.data.toList 0 T.pos [(t,a,cp),(m,a2,cp2)] W7) by
      have:=aO P 13 s.data.toList 0 T.pos (some ⟨w6.heap.size,0,none⟩) 2 [(t,a,cp),(m,a2,cp2)] W7 (by show 2≤8; decide) (fun _ => ⟨w6.heap.size,0,rfl,by have:=hz7.out; omega,R7⟩) (fun e he => by
       rcases List.mem_cons.1 he with rfl | he
       ·exact HI.out.2.2.2.2.2.1
       ·obtain rfl:=List.mem_singleton.1 he; exact HD6)
      rw [a13] at this
      exact this)
     rw [← hW7]
     clear hW7
     refine hK.out _ _ ?_ (fun hHeld => ?_)
     ·exact ⟨N7.out.cells.1,T7.out.cells.1⟩
     clear hK K
     try simp only [Act.put,c9,f8,f7]
     refine b7.nx 6 fun K hK => ?_
     go_simp
     (with_reducible refine Calls.mono C7.out ?_)
     intro e w8 hm
     have HMR:=hid (show jL (made (mkN 13 s.data.toList 0 [t,m] T.pos) q) (fun c => w.heap.size<c∧c<W7.heap.size∧c≠tb) W7 e w8 from by
      have hsz6:=HG6.out.size
      have hszo:=HB4.out.size
      have hszi:=G0.out.size
      have hsz5:=B5.out.size
      have hh:=hz7.out
      have hPw:=HBl.out
      have hsd : W5.drew.heap.size=W5.heap.size:=rfl
      have hti':=hti.out
      have htb':=htb.out
      refine hm.use rfl ?_ rfl HT0.out.2.1 (fun c hc => hc.2.1) (fun e he => ?_) q
      ·have:=a6n lv _ HM.out; omega
      ·rcases List.mem_cons.1 he with rfl | he
       ·obtain ⟨av,hav,hl⟩:=HI.out.2.2.2.2.2.2.2.2
        refine d5 hl (fun c hc => ?_) fun c hc => ⟨(hav c hc).1,by have:=(hav c hc).2.1; omega,(hav c hc).2.2⟩
        have h1:=hav c hc
        refine (B7.out.block c (by omega)).trans ((HG6.out.block c (by omega) (fun e => by have:=Option.some.inj e; omega)).trans ?_)
        exact (B5.out.block c (by omega)).trans ((G0.out.block c (by omega) (fun e => by have:=Option.some.inj e; omega)).trans (HB4.out.block c h1.2.1))
       ·obtain rfl:=List.mem_singleton.1 he
        exact d5 HL6 (fun c hc => B7.out.block c hc.2) fun c hc => ⟨by have:=hc.1; omega,by have:=hc.2; omega,by have:=hc.1; omega⟩)
     clear hm C7
     obtain ⟨hb8,hm⟩:=HMR.out
     have B8:=hid hb8
     have HXm:=hid (show X=(made (mkN 13 s.data.toList 0 [t,m] T.pos) q).then fun t q => rd (.loop lv t) nest q from HXn)
     cases hmd : made (mkN 13 s.data.toList 0 [t,m] T.pos) q with
     | error z =>
       obtain ⟨k0,p0⟩:=z
       rw [hmd] at hm
       obtain rfl:=hm
       refine And.intro rfl ?_
       rw [HXm.out,hmd]
       exact ⟨rfl,b6 G6 (b8 (B7.out.trans (B8.out.mono B7.out.size)))⟩
     | ok z =>
     obtain ⟨t2,q2⟩:=z
     have hq2 : q2=q:=by
      unfold made at hmd
      split at hmd
      ·cases hmd
      ·cases hmd; rfl
     subst hq2
     rw [hmd] at hm
     obtain ⟨a3,cp3,rfl,hl3,hd3⟩:=hm
     have HMD:=hid hmd
     have HL3:=hid hl3
     have HD3:=hid hd3
     have N8:=hid (N7.out.below B8)
     have T8:=hid (T7.out.below B8)
     clear hmd hl3 hd3 hb8
     unfold trV
     go_wp2_with fail
     refine hK.out _ _ ?_ (fun hHeld => ?_)
     ·exact ⟨N8.out.cells.1,T8.out.cells.1⟩
     clear hK K
     try simp only [Act.put,c9,f8,f7]
     obtain ⟨⟨x0,x1,x2,x3,x4,x5⟩,⟨f0,f1,f2,f3,f4,f5⟩⟩:=T8.out.cells
     have hx8:=T8.out.lt
     refine b7.la fun K hK => ?_
     go_simp
     refine hK.out _ _ ?_
     clear hK K
     go_wp2_with fail
     go_step3
     have hPw:=HBl.out
     have htb':=htb.out
     have hG8 : w6.grownBy w8 (some P):=b8 (B7.out.trans (B8.out.mono B7.out.size))
     have hput:=jP (b:=tb) w8 t2.kind t2.text t2.n a3 t2.kids.length cp3 t2.place (c8 t2)
     have hZ8 : T6 w.heap.size 0 ⟨#[]⟩ 0 none 0 0 0 0 w8:=((T6.grown (show T6 w.heap.size 0 ⟨#[]⟩ 0 none 0 0 0 0 W5.drew from Z5) HG6 (fun e => by have:=Option.some.inj e; omega)).below B7).below B8
     have hS9:=a5r ((S6.out.below B7).below B8) hput (by omega)
     have hlq : q2.length<r.length:=by have:=HR6.out m q2 rfl; have:=HLn.out; omega
     refine And.intro rfl (And.intro ⟨tb,t2,a3,cp3,q2,_,_,_,_,_,_,_,_,_,_,_,_,_,_,_,_,_,_,_,_,_,_,_,_,_,_,_,_,rfl,hS9,eA (b6 G6 hG8) hput (by omega),T8.out.put _ _ _ _ _ _ _ _,(hput.block _ hZ8.lt (fun e => by have:=Option.some.inj e; omega)).trans hZ8,htb',HD3,?_,by have:=HI.out.2.2.2.2.2.2.2.1; omega,_,fun c hc => ?_,d5 HL3 (fun c hc => hput.block c ?_ fun e => ?_) fun c hc => hc⟩ ?_)
     ·rw [HXm.out,HMD.out]; rfl
     ·have:=T7.out.lt
      have:=B8.out.size
      have:=hput.size
      rcases hc with hc | hc
      ·exact ⟨hc.1,Nat.lt_of_lt_of_le (by have:=hc.2.1; omega) hput.size,hc.2.2⟩
      ·exact ⟨by have:=hc.1; omega,Nat.lt_of_lt_of_le hc.2 hput.size,by have:=hc.1; omega⟩
     ·have:=B8.out.size
      rcases hc with hc | hc
      ·omega
      ·exact hc.2
     ·have:=T7.out.lt
      have:=Option.some.inj e
      rcases hc with hc | hc
      ·exact hc.2.2 this
      ·have:=hc.1; omega
     ·show a4e P _<a4e P wo
      rw [HI.out.1.len]
      exact Nat.lt_of_le_of_lt (Nat.le_of_eq hS9.len) hlq
   ·have HA:=hid (show U0 (r4 lv) r=false by
     rw [← HSS.out]
     unfold U0
     rw [List.any_eq_false]
     intro x hx
     obtain ⟨y,hy,rfl⟩:=List.mem_map.1 hx
     obtain ⟨j,hj,rfl⟩:=List.getElem_of_mem hy
     rw [HN.out j hj (by omega)]
     decide)
    have HXn:=hid (HI.out.2.2.2.2.2.2.1.trans (a6v HA))
    have TR:=hid (HI.out.2.2.1.below HB)
    have ZR:=hid (HI.out.2.2.2.1.below HB)
    obtain ⟨⟨x0,x1,x2,x3,x4,x5⟩,-⟩:=TR.out.cells
    obtain ⟨⟨z0,z1,z2,z3,z4,z5⟩,⟨f0,f1,f2,f3,f4,f5⟩⟩:=ZR.out.cells
    have hxl:=TR.out.lt
    have hzl:=ZR.out.lt
    go_wp2_with fail
    refine bodyPost_ret (v:=trV t a cp) (by simp [results,Tryz.results87,go_sem,trV,z0,z1,z2,z3,z4,z5]) rfl ?_
    rw [HXn.out]
    obtain ⟨av,hav,hl⟩:=HI.out.2.2.2.2.2.2.2.2
    have hPw:=HBl.out
    have hsz:=HB.out.size
    exact QP.fin (av:=av) (HI.out.1.below HB) (b6 HI.out.2.1 (b8 HB)) (Nat.le_refl _) (by omega) (d5 hl (fun c hc => HB.out.block c (hav c hc).2.1) fun c hc => hc) (fun c hc => ⟨by have:=(hav c hc).1; omega,by have:=(hav c hc).2.1; omega,by have:=(hav c hc).1; omega⟩) HI.out.2.2.2.2.2.1
end
section
open Lib (hid)
open Go.RowKit
def CQ (K : Nat) (m : Md) (P g cap : Nat) (ts l : List Tk) : Prop:=∀ (nest : Nat) (w : World),nest≤300→SQ P g cap ts nest l w→Calls Tryz.prog K #[.pointer (some ⟨P,0,none⟩)] w (QP P g cap ts nest (rd m nest l) w)
theorem eX {P g cap : Nat} {ts : List Tk} {nest : Nat} {t : Nd} {a : Option Addr} {cp : Nat} {r : List Tk} {w W2 w3 : World} (hs : SQ P g cap ts nest r w3) (hg2 : w.grownBy W2 (some P)) (hlt : w.heap.size<W2.heap.size) (hg : W2.grownBy w3 (some P)) (hl : t.lies (Fr W2.heap.size w3.heap.size) w3 a cp) (hd : c8 t≤100) (hb : P<w.heap.size∧g<w.heap.size) :
 QP P g cap ts nest (.ok (t,r)) w (.returned (trV t a cp)) (a5e w3 w.heap.size t.kind t.text t.n a t.kids.length cp t.place (c8 t)) :=
 QP.fin hs (b6 hg2 hg) (Nat.le_refl _) (by omega) hl (fun c hc => ⟨by have:=hc.1; omega,hc.2,by have:=hc.1; omega⟩) hd
theorem a6g (P g cap : Nat) (ts : List Tk) (he : y6 ts) (htk : ∀ t∈ts,z7 t) (l : List Tk) (hn : ∀ r,r.length≤l.length→CQ 88 (.chain 1) P g cap ts r) : CQ 51 (.chain 0) P g cap ts l:=by
 intro nest w hle h
 obtain ⟨W2,hW2⟩ : ∃ W,W=(w.alloc (.cells #[.int .i64 0,.string ⟨#[]⟩,.int .i64 0,.slice none 0 0,.int .i64 0,.int .i64 0] 50)).alloc (.cells #[.string ⟨#[111,114]⟩] 9):=⟨_,rfl⟩
 have B2:=hid (show Below w.heap.size w W2 from hW2 ▸ D6 _ _ _)
 have hsz:=hid (show W2.heap.size=w.heap.size + 2 by rw [hW2]; simp)
 have Z2:=hid (show T6 w.heap.size 0 ⟨#[]⟩ 0 none 0 0 0 0 W2 from hW2 ▸ (T6.make w _ _ _ _ _ _ _ _).below (c6 _ _))
 have HB:=hid h.blocks
 have eg : m9 88:=enters_of Tryz.func88 (by kernel_rfl) rfl
 have C:=hid (show Calls Tryz.prog 87 #[.pointer (some ⟨P,0,none⟩),.func (.func 88) #[.pointer (some ⟨P,0,none⟩)] #[],.slice (some ⟨w.heap.size + 1,0,none⟩) 1 1] W2 (QP P g cap ts nest (rd (.chain 0) nest l) W2) from
  gN P g cap ts he htk nest 0 l 88 #[.pointer (some ⟨P,0,none⟩)] [⟨#[111,114]⟩] (w.heap.size + 1) W2 eg rfl (by show 1≤2; decide) (h.below B2) (by have:=HB.out; have:=hsz.out; omega) (fun j hj => by
   have hj' : j=0:=by simp at hj; omega
   rw [hW2]
   subst hj'; simp) (fun r hr W hs => hn r hr nest W hle hs))
 generalize rd (.chain 0) nest l=x at C ⊢
 clear h hn htk he eg
 go_enter Tryz.func51,Tryz.ntmps51
 go_wp2_with fail
 rw [← hW2]
 clear hW2
 (with_reducible refine Calls.mono C.out ?_)
 intro e w3 hq
 cases x with
 | error q =>
   obtain ⟨k,p⟩:=q
   obtain ⟨rfl,hg⟩:=hq
   exact ⟨rfl,rfl,b6 (b8 B2) hg⟩
 | ok q =>
   obtain ⟨t,r⟩:=q
   obtain ⟨a,cp,rfl,hs,hg,hl,hd⟩:=hq
   have Z3:=hid (Z2.out.grown hg (fun e => by have:=Option.some.inj e; have:=HB.out; omega))
   have HS:=hid hs
   have HG:=hid hg
   have HL:=hid hl
   have HD:=hid hd
   obtain ⟨⟨z0,z1,z2,z3,z4,z5⟩,⟨f0,f1,f2,f3,f4,f5⟩⟩:=Z3.out.cells
   have hzl:=Z3.out.lt
   clear hs hg hl hd C
   unfold trV
   go_wp2_with fail
   refine bodyPost_ret (v:=trV t a cp) (by simp [results,Tryz.results51,go_sem,trV,z0,z1,z2,z3,z4,z5]) rfl ?_
   exact eX HS (b8 B2) Z2.out.lt HG HL HD ⟨HB.out.1,HB.out.2.1⟩
theorem a4d (P g cap : Nat) (ts : List Tk) (he : y6 ts) (htk : ∀ t∈ts,z7 t) (l : List Tk) (hn : ∀ r,r.length≤l.length→CQ 124 .not P g cap ts r) : CQ 88 (.chain 1) P g cap ts l:=by
 intro nest w hle h
 obtain ⟨W2,hW2⟩ : ∃ W,W=(w.alloc (.cells #[.int .i64 0,.string ⟨#[]⟩,.int .i64 0,.slice none 0 0,.int .i64 0,.int .i64 0] 50)).alloc (.cells #[.string ⟨#[97,110,100]⟩] 9):=⟨_,rfl⟩
 have B2:=hid (show Below w.heap.size w W2 from hW2 ▸ D6 _ _ _)
 have hsz:=hid (show W2.heap.size=w.heap.size + 2 by rw [hW2]; simp)
 have Z2:=hid (show T6 w.heap.size 0 ⟨#[]⟩ 0 none 0 0 0 0 W2 from hW2 ▸ (T6.make w _ _ _ _ _ _ _ _).below (c6 _ _))
 have HB:=hid h.blocks
 have eg : m9 124:=enters_of Tryz.func124 (by kernel_rfl) rfl
 have C:=hid (show Calls Tryz.prog 87 #[.pointer (some ⟨P,0,none⟩),.func (.func 124) #[.pointer (some ⟨P,0,none⟩)] #[],.slice (some ⟨w.heap.size + 1,0,none⟩) 1 1] W2 (QP P g cap ts nest (rd (.chain 1) nest l) W2) from
  gN P g cap ts he htk nest 1 l 124 #[.pointer (some ⟨P,0,none⟩)] [⟨#[97,110,100]⟩] (w.heap.size + 1) W2 eg rfl (by show 1≤2; decide) (h.below B2) (by have:=HB.out; have:=hsz.out; omega) (fun j hj => by
   have hj' : j=0:=by simp at hj; omega
   rw [hW2]
   subst hj'; simp) (fun r hr W hs => hn r hr nest W hle hs))
 generalize rd (.chain 1) nest l=x at C ⊢
 clear h hn htk he eg
 go_enter Tryz.func88,Tryz.ntmps88
 go_wp2_with fail
 rw [← hW2]
 clear hW2
 (with_reducible refine Calls.mono C.out ?_)
 intro e w3 hq
 cases x with
 | error q =>
   obtain ⟨k,p⟩:=q
   obtain ⟨rfl,hg⟩:=hq
   exact ⟨rfl,rfl,b6 (b8 B2) hg⟩
 | ok q =>
   obtain ⟨t,r⟩:=q
   obtain ⟨a,cp,rfl,hs,hg,hl,hd⟩:=hq
   have Z3:=hid (Z2.out.grown hg (fun e => by have:=Option.some.inj e; have:=HB.out; omega))
   have HS:=hid hs
   have HG:=hid hg
   have HL:=hid hl
   have HD:=hid hd
   obtain ⟨⟨z0,z1,z2,z3,z4,z5⟩,⟨f0,f1,f2,f3,f4,f5⟩⟩:=Z3.out.cells
   have hzl:=Z3.out.lt
   clear hs hg hl hd C
   unfold trV
   go_wp2_with fail
   refine bodyPost_ret (v:=trV t a cp) (by simp [results,Tryz.results88,go_sem,trV,z0,z1,z2,z3,z4,z5]) rfl ?_
   exact eX HS (b8 B2) Z2.out.lt HG HL HD ⟨HB.out.1,HB.out.2.1⟩
theorem a5y (P g cap : Nat) (ts : List Tk) (he : y6 ts) (htk : ∀ t∈ts,z7 t) (l : List Tk) (hn : ∀ r,r.length≤l.length→CQ 181 (.chain 3) P g cap ts r) : CQ 153 (.chain 2) P g cap ts l:=by
 intro nest w hle h
 obtain ⟨W2,hW2⟩ : ∃ W,W=(w.alloc (.cells #[.int .i64 0,.string ⟨#[]⟩,.int .i64 0,.slice none 0 0,.int .i64 0,.int .i64 0] 50)).alloc (.cells #[.string ⟨#[43]⟩,.string ⟨#[45]⟩] 9):=⟨_,rfl⟩
 have B2:=hid (show Below w.heap.size w W2 from hW2 ▸ D6 _ _ _)
 have hsz:=hid (show W2.heap.size=w.heap.size + 2 by rw [hW2]; simp)
 have Z2:=hid (show T6 w.heap.size 0 ⟨#[]⟩ 0 none 0 0 0 0 W2 from hW2 ▸ (T6.make w _ _ _ _ _ _ _ _).below (c6 _ _))
 have HB:=hid h.blocks
 have eg : m9 181:=enters_of Tryz.func181 (by kernel_rfl) rfl
 have C:=hid (show Calls Tryz.prog 87 #[.pointer (some ⟨P,0,none⟩),.func (.func 181) #[.pointer (some ⟨P,0,none⟩)] #[],.slice (some ⟨w.heap.size + 1,0,none⟩) 2 2] W2 (QP P g cap ts nest (rd (.chain 2) nest l) W2) from
  gN P g cap ts he htk nest 2 l 181 #[.pointer (some ⟨P,0,none⟩)] [⟨#[43]⟩,⟨#[45]⟩] (w.heap.size + 1) W2 eg rfl (by show 2≤2; decide) (h.below B2) (by have:=HB.out; have:=hsz.out; omega) (fun j hj => by
   have hj' : j=0∨j=1:=by simp at hj; omega
   rw [hW2]
   rcases hj' with rfl | rfl <;> simp) (fun r hr W hs => hn r hr nest W hle hs))
 generalize rd (.chain 2) nest l=x at C ⊢
 clear h hn htk he eg
 go_enter Tryz.func153,Tryz.ntmps153
 go_wp2_with fail
 rw [← hW2]
 clear hW2
 (with_reducible refine Calls.mono C.out ?_)
 intro e w3 hq
 cases x with
 | error q =>
   obtain ⟨k,p⟩:=q
   obtain ⟨rfl,hg⟩:=hq
   exact ⟨rfl,rfl,b6 (b8 B2) hg⟩
 | ok q =>
   obtain ⟨t,r⟩:=q
   obtain ⟨a,cp,rfl,hs,hg,hl,hd⟩:=hq
   have Z3:=hid (Z2.out.grown hg (fun e => by have:=Option.some.inj e; have:=HB.out; omega))
   have HS:=hid hs
   have HG:=hid hg
   have HL:=hid hl
   have HD:=hid hd
   obtain ⟨⟨z0,z1,z2,z3,z4,z5⟩,⟨f0,f1,f2,f3,f4,f5⟩⟩:=Z3.out.cells
   have hzl:=Z3.out.lt
   clear hs hg hl hd C
   unfold trV
   go_wp2_with fail
   refine bodyPost_ret (v:=trV t a cp) (by simp [results,Tryz.results153,go_sem,trV,z0,z1,z2,z3,z4,z5]) rfl ?_
   exact eX HS (b8 B2) Z2.out.lt HG HL HD ⟨HB.out.1,HB.out.2.1⟩
theorem a2p (P g cap : Nat) (ts : List Tk) (he : y6 ts) (htk : ∀ t∈ts,z7 t) (l : List Tk) (hn : ∀ r,r.length≤l.length→CQ 197 .unary P g cap ts r) : CQ 181 (.chain 3) P g cap ts l:=by
 intro nest w hle h
 obtain ⟨W2,hW2⟩ : ∃ W,W=(w.alloc (.cells #[.int .i64 0,.string ⟨#[]⟩,.int .i64 0,.slice none 0 0,.int .i64 0,.int .i64 0] 50)).alloc (.cells #[.string ⟨#[42]⟩,.string ⟨#[47]⟩] 9):=⟨_,rfl⟩
 have B2:=hid (show Below w.heap.size w W2 from hW2 ▸ D6 _ _ _)
 have hsz:=hid (show W2.heap.size=w.heap.size + 2 by rw [hW2]; simp)
 have Z2:=hid (show T6 w.heap.size 0 ⟨#[]⟩ 0 none 0 0 0 0 W2 from hW2 ▸ (T6.make w _ _ _ _ _ _ _ _).below (c6 _ _))
 have HB:=hid h.blocks
 have eg : m9 197:=enters_of Tryz.func197 (by kernel_rfl) rfl
 have C:=hid (show Calls Tryz.prog 87 #[.pointer (some ⟨P,0,none⟩),.func (.func 197) #[.pointer (some ⟨P,0,none⟩)] #[],.slice (some ⟨w.heap.size + 1,0,none⟩) 2 2] W2 (QP P g cap ts nest (rd (.chain 3) nest l) W2) from
  gN P g cap ts he htk nest 3 l 197 #[.pointer (some ⟨P,0,none⟩)] [⟨#[42]⟩,⟨#[47]⟩] (w.heap.size + 1) W2 eg rfl (by show 2≤2; decide) (h.below B2) (by have:=HB.out; have:=hsz.out; omega) (fun j hj => by
   have hj' : j=0∨j=1:=by simp at hj; omega
   rw [hW2]
   rcases hj' with rfl | rfl <;> simp) (fun r hr W hs => hn r hr nest W hle hs))
 generalize rd (.chain 3) nest l=x at C ⊢
 clear h hn htk he eg
 go_enter Tryz.func181,Tryz.ntmps181
 go_wp2_with fail
 rw [← hW2]
 clear hW2
 (with_reducible refine Calls.mono C.out ?_)
 intro e w3 hq
 cases x with
 | error q =>
   obtain ⟨k,p⟩:=q
   obtain ⟨rfl,hg⟩:=hq
   exact ⟨rfl,rfl,b6 (b8 B2) hg⟩
 | ok q =>
   obtain ⟨t,r⟩:=q
   obtain ⟨a,cp,rfl,hs,hg,hl,hd⟩:=hq
   have Z3:=hid (Z2.out.grown hg (fun e => by have:=Option.some.inj e; have:=HB.out; omega))
   have HS:=hid hs
   have HG:=hid hg
   have HL:=hid hl
   have HD:=hid hd
   obtain ⟨⟨z0,z1,z2,z3,z4,z5⟩,⟨f0,f1,f2,f3,f4,f5⟩⟩:=Z3.out.cells
   have hzl:=Z3.out.lt
   clear hs hg hl hd C
   unfold trV
   go_wp2_with fail
   refine bodyPost_ret (v:=trV t a cp) (by simp [results,Tryz.results181,go_sem,trV,z0,z1,z2,z3,z4,z5]) rfl ?_
   exact eX HS (b8 B2) Z2.out.lt HG HL HD ⟨HB.out.1,HB.out.2.1⟩
end
section
open Lib (hid)
open Go.RowKit
def QT (b : Nat) (t : Tk) (W : World) : Prop:=W.heap[b]?=some (.cells #[.int .i64 t.kind,.string ⟨t.text.toArray⟩,.int .i64 t.n,.int .i64 t.pos] 79 (0,0))
section
variable {b : Nat} {k : Tk} {W W' : World}
theorem QT.lt (h : QT b k W) : b<W.heap.size:=(Array.getElem?_eq_some_iff.1 h).1
theorem QT.cells (h : QT b k W) : (W.cell? ⟨b,0,none⟩=some (.int .i64 k.kind)∧W.cell? ⟨b,1,none⟩=some (.string ⟨k.text.toArray⟩)∧W.cell? ⟨b,2,none⟩=some (.int .i64 k.n)∧W.cell? ⟨b,3,none⟩=some (.int .i64 k.pos)) ∧
 (W.frozen? ⟨b,0,none⟩=false∧W.frozen? ⟨b,1,none⟩=false∧W.frozen? ⟨b,2,none⟩=false∧W.frozen? ⟨b,3,none⟩=false):=by
 have h' : W.heap[b]?=some (.cells #[.int .i64 k.kind,.string ⟨k.text.toArray⟩,.int .i64 k.n,.int .i64 k.pos] 79 (0,0)):=h
 refine ⟨⟨?_,?_,?_,?_⟩,?_,?_,?_,?_⟩ <;> simp [World.cell?,World.frozen?,h']
theorem QT.make (w : World) (k : Tk) : QT w.heap.size k (w.alloc (.cells #[.int .i64 k.kind,.string ⟨k.text.toArray⟩,.int .i64 k.n,.int .i64 k.pos] 79)):=by
 show (w.heap.push _)[w.heap.size]?=_; simp
theorem QT.below (h : QT b k W) (hb : Below W.heap.size W W') : QT b k W':=(hb.block b h.lt).trans h
theorem QT.grown {r : Option Nat} (h : QT b k W) (g : W.grownBy W' r) (hp : r≠some b) : QT b k W':=(g.block b h.lt (fun e => hp e.symm)).trans h
end
theorem dU {t t' : Nd} {q q' : List Tk} (h : made t q=.ok (t',q')) : q'=q:=by
 unfold made at h
 split at h
 ·cases h
 ·cases h; rfl
theorem wG (P g cap : Nat) (ts : List Tk) (he : y6 ts) (htk : ∀ t∈ts,z7 t) (nest : Nat) (l : List Tk) (md : Md) (K : Nat) (fs : Array Value) (pb rb : Nat) (w : World) (hK : m9 K) (h : SQ P g cap ts nest l w)
 (hp : w.cell? ⟨pb,0,none⟩=some (.pointer (some ⟨P,0,none⟩))) (hr : w.cell? ⟨rb,0,none⟩=some (.func (.func K) fs #[])) (hpb : pb≠P∧pb<w.heap.size) (hrb : rb≠P∧rb<w.heap.size)
 (hread : ∀ W,SQ P g cap ts nest (b9 l) W→Calls Tryz.prog K fs W (QP P g cap ts nest (rd md nest (b9 l)) W)) :
 Calls Tryz.prog 180 #[.pointer (some ⟨pb,0,none⟩),.pointer (some ⟨rb,0,none⟩)] w (QP P g cap ts nest ((rd md nest (b9 l)).then fun t r => made (mkN 12 (hd l).text 0 [t] (hd l).pos) r) w):=by
 unfold m9 at hK
 have HT0:=hid (htk _ h.mem)
 have hbl:=h.blocks
 have HR:=hid hread
 obtain ⟨X,hX⟩ : ∃ X,X=((rd md nest (b9 l)).then fun t r => made (mkN 12 (hd l).text 0 [t] (hd l).pos) r):=⟨_,rfl⟩
 rw [← hX]
 have HX:=hid hX
 obtain ⟨W1,hW1⟩ : ∃ W,W=w.alloc (.cells #[.int .i64 0,.string ⟨#[]⟩,.int .i64 0,.slice none 0 0,.int .i64 0,.int .i64 0] 50):=⟨_,rfl⟩
 have B1:=hid (show Below w.heap.size w W1 from hW1 ▸ c6 _ _)
 have Z1:=hid (show T6 w.heap.size 0 ⟨#[]⟩ 0 none 0 0 0 0 W1 from hW1 ▸ T6.make w _ _ _ _ _ _ _ _)
 have C1:=hid (dP P g cap ts nest l W1 (h.below B1) he)
 have HPR:=hid (show w.cell? ⟨pb,0,none⟩=some (.pointer (some ⟨P,0,none⟩))∧w.cell? ⟨rb,0,none⟩=some (.func (.func K) fs #[]) from ⟨hp,hr⟩)
 have hp1 : W1.cell? ⟨pb,0,none⟩=some (.pointer (some ⟨P,0,none⟩)):=(B1.out.cell (p:=⟨pb,0,none⟩) hpb.2).trans hp
 have HH:=hid h
 generalize hd l=T at C1 HX HT0
 clear h htk he hread hX hp hr
 go_enter Tryz.func180,Tryz.ntmps180
 go_upto_region 1 with fail
 rw [← hW1]
 clear hW1
 go_wp2_with fail
 (with_reducible refine Calls.mono C1.out ?_)
 rintro e w3 ⟨rfl,hs3,hg3⟩
 have G3:=hid (b6 (b8 B1) hg3)
 have S3:=hid hs3
 have Z3:=hid (Z1.out.grown hg3 (fun e => by have:=Option.some.inj e; omega))
 have hsz3:=hid (show w.heap.size + 1≤w3.heap.size by have:=Z3.out.lt; omega)
 clear hs3 hg3 C1 hp1
 unfold tkV
 obtain ⟨W4,hW4⟩ : ∃ W,W=w3.alloc (.cells #[.int .i64 T.kind,.string ⟨T.text.toArray⟩,.int .i64 T.n,.int .i64 T.pos] 79):=⟨_,rfl⟩
 have B4:=hid (show Below w3.heap.size w3 W4 from hW4 ▸ c6 _ _)
 have hsz4:=hid (show W4.heap.size=w3.heap.size + 1 by rw [hW4]; simp)
 have Q4:=hid (show QT w3.heap.size T W4 from hW4 ▸ QT.make w3 T)
 have Z4:=hid (Z3.out.below B4)
 have S4:=hid (S3.out.below B4)
 have BD:=hid (show Below W4.heap.size W4 W4.drew from z8 (Below.refl _ _))
 have GW:=hid (show w.grownBy W4.drew (some P) from b6 G3 (b8 (B4.out.trans (BD.out.mono B4.out.size))))
 have HSy:=hid (show ∀ cur : World,cur.heap[pb]?=w.heap[pb]?→cur.heap[rb]?=w.heap[rb]?→QT w3.heap.size T cur→(cur.cell? ⟨pb,0,none⟩=some (.pointer (some ⟨P,0,none⟩))∧cur.cell? ⟨rb,0,none⟩=some (.func (.func K) fs #[]))∧(cur.cell? ⟨w3.heap.size,0,none⟩=some (.int .i64 T.kind)∧cur.cell? ⟨w3.heap.size,1,none⟩=some (.string ⟨T.text.toArray⟩)∧cur.cell? ⟨w3.heap.size,2,none⟩=some (.int .i64 T.n)∧cur.cell? ⟨w3.heap.size,3,none⟩=some (.int .i64 T.pos)) from
  fun cur h1 h2 h3 => ⟨⟨(World.cell?_of_block h1).trans HPR.out.1,(World.cell?_of_block h2).trans HPR.out.2⟩,h3.cells.1⟩)
 have HSx:=hid (show (W4.drew.cell? ⟨pb,0,none⟩=some (.pointer (some ⟨P,0,none⟩))∧W4.drew.cell? ⟨rb,0,none⟩=some (.func (.func K) fs #[]))∧(W4.drew.cell? ⟨w3.heap.size,0,none⟩=some (.int .i64 T.kind)∧W4.drew.cell? ⟨w3.heap.size,1,none⟩=some (.string ⟨T.text.toArray⟩)∧W4.drew.cell? ⟨w3.heap.size,2,none⟩=some (.int .i64 T.n)∧W4.drew.cell? ⟨w3.heap.size,3,none⟩=some (.int .i64 T.pos)) from
  HSy.out _ (GW.out.block pb hpb.2 (fun e => hpb.1 (Option.some.inj e))) (GW.out.block rb hrb.2 (fun e => hrb.1 (Option.some.inj e))) Q4)
 have C6:=hid (HR.out W4.drew (S4.out.below BD))
 generalize rd md nest (b9 l)=x at C6 HX
 go_upto_region 2 with fail
 rw [← hW4]
 clear hW4
 refine e8 (S:=(fun cur => (cur.cell? ⟨pb,0,none⟩=some (.pointer (some ⟨P,0,none⟩))∧cur.cell? ⟨rb,0,none⟩=some (.func (.func K) fs #[]))∧(cur.cell? ⟨w3.heap.size,0,none⟩=some (.int .i64 T.kind)∧cur.cell? ⟨w3.heap.size,1,none⟩=some (.string ⟨T.text.toArray⟩)∧cur.cell? ⟨w3.heap.size,2,none⟩=some (.int .i64 T.n)∧cur.cell? ⟨w3.heap.size,3,none⟩=some (.int .i64 T.pos)))) (z:=10) (by kernel_rfl) ?_ (fun hHeld => ?_)
 ·exact HSx
 refine b7.t 0 ?_; refine b7.t 1 ?_; refine b7.t 2 ?_; refine b7.t 3 ?_; refine b7.t 4 ?_; refine b7.t 5 ?_; refine b7.t 6 ?_
 refine b7.nx 7 fun K hK => ?_
 go_simp
 (with_reducible refine Calls.mono C6.out ?_)
 intro e w6 hq
 cases x with
 | error q =>
   obtain ⟨k0,p0⟩:=q
   obtain ⟨rfl,hg⟩:=hq
   refine And.intro rfl ?_
   rw [HX.out]
   exact ⟨rfl,b6 GW hg⟩
 | ok q =>
 obtain ⟨m,q⟩:=q
 obtain ⟨a2,cp2,rfl,hs6,hg6,hl6,hd6⟩:=hq
 have S6:=hid hs6
 have G6:=hid (b6 GW hg6)
 have Q6:=hid (QT.grown (show QT w3.heap.size T W4.drew from Q4) hg6 (fun e => by have:=Option.some.inj e; have:=hsz3.out; omega))
 have HP6:=hid (show w6.heap[pb]?=w.heap[pb]?∧w6.heap[rb]?=w.heap[rb]? from ⟨G6.out.block pb hpb.2 (fun e => hpb.1 (Option.some.inj e)),G6.out.block rb hrb.2 (fun e => hrb.1 (Option.some.inj e))⟩)
 have HG6:=hid hg6
 have HL6:=hid hl6
 have HD6:=hid hd6
 have Z6:=hid (T6.grown (show T6 w.heap.size 0 ⟨#[]⟩ 0 none 0 0 0 0 W4.drew from Z4) hg6 (fun e => by have:=Option.some.inj e; omega))
 clear hs6 hg6 hl6 hd6 C6
 unfold trV
 go_wp2_with fail
 refine hK.out _ _ ?_ (fun hHeld => ?_)
 ·exact HSy.out _ HP6.out.1 HP6.out.2 Q6
 clear hK K
 try simp only [Act.put,c9,f8,f7]
 refine b7.nx 8 fun K hK => ?_
 go_simp
 obtain ⟨W7,hW7⟩ : ∃ W,W=w6.alloc (.cells #[.int .i64 m.kind,.string m.text,.int .i64 m.n,.slice a2 m.kids.length cp2,.int .i64 m.place,.int .i64 (c8 m)] 50):=⟨_,rfl⟩
 have R7:=hid (show lK W7 w6.heap.size 0 [(m,a2,cp2)] from hW7 ▸ a7W w6 _ (m,a2,cp2))
 have B7:=hid (show Below w6.heap.size w6 W7 from hW7 ▸ c6 _ _)
 have hz7:=hid (show W7.heap.size=w6.heap.size + 1 by rw [hW7]; simp)
 have Q7:=hid (Q6.out.below B7)
 have hsz6:=hid (show w.heap.size≤w6.heap.size from G6.out.size)
 have C7:=hid (show Calls Tryz.prog 54 #[.pointer (some ⟨P,0,none⟩),.agg #[.int .i64 12,.string ⟨T.text.toArray⟩,.int .i64 0,.slice none 0 0,.int .i64 T.pos],.slice (some ⟨w6.heap.size,0,none⟩) 1 1] W7 (gR 12 T.text 0 T.pos [(m,a2,cp2)] W7) from
  aO P 12 T.text 0 T.pos (some ⟨w6.heap.size,0,none⟩) 1 [(m,a2,cp2)] W7 (by show 1≤8; decide) (fun _ => ⟨w6.heap.size,0,rfl,by have:=hz7.out; omega,R7⟩) (fun e he => by
   obtain rfl:=List.mem_singleton.1 he; exact HD6))
 rw [← hW7]
 clear hW7
 refine hK.out _ _ ?_ (fun hHeld => ?_)
 ·exact HSy.out _ ((B7.out.block pb (by have:=hsz6.out; omega)).trans HP6.out.1) ((B7.out.block rb (by have:=hsz6.out; omega)).trans HP6.out.2) Q7
 clear hK K
 try simp only [Act.put,c9,f8,f7]
 refine b7.nx 9 fun K hK => ?_
 go_simp
 (with_reducible refine Calls.mono C7.out ?_)
 intro e w8 hm
 have HMR:=hid (show jL (made (mkN 12 T.text 0 [m] T.pos) q) (Fr W4.heap.size w6.heap.size) W7 e w8 from
  hm.use rfl (by have:=HT0.out.2.2; omega) rfl HT0.out.2.1 (fun c hc => by have:=hc.2; have:=hz7.out; omega) (fun e he => by
   obtain rfl:=List.mem_singleton.1 he
   exact d5 HL6 (fun c hc => B7.out.block c hc.2) fun c hc => hc) q)
 clear hm C7
 obtain ⟨hb8,hm⟩:=HMR.out
 have B8:=hid hb8
 have HXm:=hid (show X=made (mkN 12 T.text 0 [m] T.pos) q from HX)
 cases hmd : made (mkN 12 T.text 0 [m] T.pos) q with
 | error z =>
   obtain ⟨k0,p0⟩:=z
   rw [hmd] at hm
   obtain rfl:=hm
   refine And.intro rfl ?_
   rw [HXm.out,hmd]
   exact ⟨rfl,b6 G6 (b8 (B7.out.trans (B8.out.mono B7.out.size)))⟩
 | ok z =>
 obtain ⟨t2,q2⟩:=z
 have hq2 : q2=q:=dU hmd
 subst hq2
 rw [hmd] at hm
 obtain ⟨a3,cp3,rfl,hl3,hd3⟩:=hm
 have HMD:=hid hmd
 have HL3:=hid hl3
 have HD3:=hid hd3
 have Q8:=hid (Q7.out.below B8)
 have hb78:=B7.out.trans (B8.out.mono B7.out.size)
 have B68:=hid hb78
 have HP8:=hid (show w8.heap[pb]?=w.heap[pb]?∧w8.heap[rb]?=w.heap[rb]? from ⟨(hb78.block pb (by have:=hsz6.out; omega)).trans HP6.out.1,(hb78.block rb (by have:=hsz6.out; omega)).trans HP6.out.2⟩)
 clear hmd hl3 hd3 hb8 hb78
 unfold trV
 go_wp2_with fail
 refine hK.out _ _ ?_ (fun hHeld => ?_)
 ·exact HSy.out _ HP8.out.1 HP8.out.2 Q8
 clear hK K
 try simp only [Act.put,c9,f8,f7]
 have Z8:=hid (Z6.out.below B68)
 obtain ⟨⟨z0,z1,z2,z3,z4,z5⟩,⟨f0,f1,f2,f3,f4,f5⟩⟩:=Z8.out.cells
 have hzl:=Z8.out.lt
 refine b7.la fun K hK => ?_
 go_simp
 refine hK.out _ _ ?_
 clear hK K
 go_wp2_with fail
 refine bodyPost_ret (v:=trV t2 a3 cp3) (by simp [results,Tryz.results180,go_sem,trV,z0,z1,z2,z3,z4,z5]) rfl ?_
 rw [HXm.out,HMD.out]
 have h1:=hz7.out
 have h2:=B8.out.size
 have h3:=hsz4.out
 have h6:=hsz3.out
 have h4:=HG6.out.size
 have h5 : W4.drew.heap.size=W4.heap.size:=rfl
 exact QP.fin ((S6.out.below B7).below B8) (b6 G6 (b8 B68)) (Nat.le_refl _) (by omega) HL3 (fun c hc => by
  rcases hc with hc | hc
  ·have:=hc.1; have:=hc.2; omega
  ·have:=hc.1; have:=hc.2; omega) HD3
end
end Go.Proofs.YtibiccacafjjfaaGreatDoor
